/- Right statements are bound alike in both ways, and what is bound is not greater than what it was. No walk here. -/
import Derived.Test.YteibcfpepdbflaaGreatBnP
import Derived.Test.YteibcfpepdbflaaGreatCkM
import Derived.Test.YteibcfpepdbflaaGreatBkM
import Derived.Test.YteibcfpepdbflaaGreatRtD
import Derived.Test.YteibcfpepdbflaaGreatBindO
namespace Go.Proofs.YteibcfpepdbflaaGreat.BnQ
open Go Go.RowKit BindP BindD BindO BindW BindN BindG BindX BindB BindT BindU TxA RtS RtX RtD MkA MkB MkP CkP CkM BnP
open Byt (str)
theorem num_in {so : So} {T : List Nm} (h : Mk (ens so) T) {s : S} (hs : IsN T 2 s) : 0≤ofN T 2 s∧ofN T 2 s < (so.pr.l.length : Int):=by
 obtain ⟨h1,h2⟩:=hs
 unfold hasN at h1
 cases hf : findN T s with
 | none=>rw [hf] at h1;cases h1
 | some x=>
  unfold getN at h2
  rw [hf] at h2
  simp only [Option.getD_some] at h2
  have hx : x ∈ T:=List.mem_of_find?_eq_some hf
  have e : ofN T 2 s=x.2.2:=by unfold ofN;rw [hf];simp [h2]
  rw [e]
  rcases (h.mem x).1 hx with hb | ⟨y,hy,rfl⟩
  ·simp only [base,List.mem_cons,List.not_mem_nil,or_false] at hb
   rcases hb with rfl | rfl | rfl | rfl <;> simp at h2
  ·simp only at h2 ⊢
   unfold ens ens1 at hy
   simp only [List.mem_append,List.mem_mapIdx,List.length_map] at hy
   rcases hy with (((((⟨i,hi,rfl⟩ | ⟨i,hi,rfl⟩) | ⟨i,hi,rfl⟩) | ⟨i,hi,rfl⟩) | ⟨i,hi,rfl⟩) | ⟨i,hi,rfl⟩) | ⟨i,hi,rfl⟩
   all_goals simp only at h2 ⊢
   all_goals first | omega | (exfalso;omega)
end Go.Proofs.YteibcfpepdbflaaGreat.BnQ
namespace Go.Proofs.YteibcfpepdbflaaGreat.BnR
open Go Go.RowKit BindP BindD BindO BindW BindN BindG BindX BindB BindT BindU BkB BkD BkE BkF BkG BkI BkK BkM TxA RtS RtX RtD MkA MkB MkP CkP CkH CkM BnP BnQ
open Byt (str)
section
variable {so : So} {T : List Nm} {tx : List S} {b : Bo} (hb : Bo.p b=bookI T tx so)
include hb
theorem book_lens : b.th.l.length=so.ob.l.length + 2∧b.fu.l.length=so.fn.l.length∧b.da.l.length=so.dm.l.length:=by
 have h1:=congrArg (fun p : Bp=>p.th.length) hb
 have h2:=congrArg (fun p : Bp=>p.fu.length) hb
 have h3:=congrArg (fun p : Bp=>p.da.length) hb
 simp only [Bo.p,bookI,List.length_map,obsI_len,fnsI_len,dmsI_len,th2,List.length_cons,List.length_nil] at h1 h2 h3
 omega
theorem book_tx : b.tx.l=tx:=congrArg Bp.tx hb
theorem book_fn {j : Nat} (hj : j < so.fn.l.length) : ∃ k : Nat,b.fu.l[j]?=some (k : Int)∧b.pa.l[k]?=some (so.fn.l[j].ps.l.length : Int):=by
 have hf : b.fu.l=_:=congrArg Bp.fu hb
 have hp : b.pa.l=_:=congrArg (fun p : Bp=>p.m.ps) hb
 have he : Even (desI T tx ((obsI T tx (prl so) (m0,th2 T tx (prl so) so.st) so.ob.l).1,[]) so.ru.l).1:=des_even _ _ (obs_even _ _ ⟨rfl,rfl⟩)
 obtain ⟨k,h1,h2⟩:=fns_at (t:=T) (tx:=tx) so.fn.l ((desI T tx ((obsI T tx (prl so) (m0,th2 T tx (prl so) so.st) so.ob.l).1,[]) so.ru.l).1,[]) j hj he
 refine ⟨k,?_,?_⟩
 ·rw [hf]
  unfold bookI
  simpa using h1
 ·rw [hp]
  exact (dms_more (t:=T) (tx:=tx) so.dm.l (_,[])).at_ h2
end
theorem props_in {so : So} {T : List Nm} (hm : Mk (ens so) T) (hc : SoC T so) : ∀ o ∈ so.ob.l,∀ p ∈ o.pr.l,0≤ofN T 2 p.nm∧ofN T 2 p.nm < (so.pr.l.length : Int):=fun o ho p hp=>num_in hm ((hc.1 o ho).2.2.1 p hp)
end Go.Proofs.YteibcfpepdbflaaGreat.BnR
namespace Go.Proofs.YteibcfpepdbflaaGreat.OkP
open Go Go.RowKit BindP BindD BindO RtY RtZ RtC
open Byt (str)
theorem kind_okX {sd : Bool} {k o n : Int} {s : S} {m : Nat} (h : KindOk sd k o n s m) : okX k o s:=by
 cases h with
 | num h1 h2=>exact .inr ⟨by decide,by decide,by decide,by decide,by decide,rfl⟩
 | text=>exact .inl ⟨.inl rfl,rfl⟩
 | name h=>exact .inl ⟨.inr (.inl rfl),rfl⟩
 | neg=>exact .inr ⟨by decide,by decide,by decide,by decide,by decide,rfl⟩
 | not=>exact .inr ⟨by decide,by decide,by decide,by decide,by decide,rfl⟩
 | random=>exact .inr ⟨by decide,by decide,by decide,by decide,by decide,rfl⟩
 | title=>exact .inr ⟨by decide,by decide,by decide,by decide,by decide,rfl⟩
 | bin h1 h2=>exact .inr ⟨by decide,by decide,by decide,by decide,by decide,rfl⟩
 | has h=>exact .inl ⟨.inr (.inr (.inl rfl)),rfl⟩
 | prop h=>exact .inl ⟨.inr (.inr (.inr (.inl rfl))),rfl⟩
 | call h1 h2=>exact .inl ⟨.inr (.inr (.inr (.inr rfl))),rfl⟩
 | tree h1 h2=>exact .inr ⟨by decide,by decide,by decide,by decide,by decide,rfl⟩
 | self h1 h2=>exact .inr ⟨by decide,by decide,by decide,by decide,by decide,rfl⟩
mutual
theorem x_okE : ∀ (e : Pe) (sd : Bool),xOk sd e→okE e
 | .mk k o n s ar,sd,h=>by
  unfold xOk at h
  unfold okE
  exact ⟨kind_okX h.1,xs_okE ar h.2⟩
theorem xs_okE : ∀ l : List Pe,xsOk l→okEs l
 | [],_=>by unfold okEs;trivial
 | a :: l,h=>by
  unfold xsOk at h
  unfold okEs
  exact ⟨x_okE a false h.1,xs_okE l h.2⟩
end
theorem shape_okK {k n : Int} {s : S} {m : Nat} {b e : List Ps} {nm : Bool} (h : ShOk k n s m b.length e.length nm) : okK k b e:=by
 generalize hb : b.length=nb at h
 generalize he : e.length=ne at h
 unfold okK
 cases h with
 | say h1 h2=>exact ⟨fun c=>by omega,fun c=>by omega⟩
 | named h=>exact ⟨fun _=>List.eq_nil_of_length_eq_zero hb,fun _=>List.eq_nil_of_length_eq_zero he⟩
 | put=>exact ⟨fun _=>List.eq_nil_of_length_eq_zero hb,fun _=>List.eq_nil_of_length_eq_zero he⟩
 | move=>exact ⟨fun c=>by omega,fun c=>by omega⟩
 | one h=>exact ⟨fun c=>by omega,fun c=>by omega⟩
 | if_=>exact ⟨fun c=>by omega,fun c=>by omega⟩
 | while_=>exact ⟨fun c=>by omega,fun c=>by omega⟩
 | each=>exact ⟨fun c=>by omega,fun _=>List.eq_nil_of_length_eq_zero he⟩
 | halt=>exact ⟨fun _=>List.eq_nil_of_length_eq_zero hb,fun _=>List.eq_nil_of_length_eq_zero he⟩
 | none h=>exact ⟨fun c=>by omega,fun c=>by omega⟩
theorem list_okE {l : List Pe} {b : Bool} (h : ∀ a ∈ l,xOk b a) : okEs l:=okEs_mem l fun a ha=>x_okE a b (h a ha)
mutual
theorem s_okS : ∀ p : Ps,sOk p→okS p
 | .mk k n s ar b e,h=>by
  unfold sOk at h
  unfold okS
  obtain ⟨⟨_,_,⟨nm,h1,_⟩,_⟩,h2,h3,h4⟩:=h
  exact ⟨shape_okK h1,list_okE h2,b_okB b h3.1,b_okB e h4.1⟩
theorem b_okB : ∀ l : List Ps,bOk l→okB l
 | [],_=>by unfold okB;trivial
 | a :: l,h=>by
  unfold bOk at h
  unfold okB
  exact ⟨s_okS a h.1,b_okB l h.2⟩
end
theorem right_okB {l : List Ps} (h : RightB l) : okB l:=b_okB l h.2.1
theorem exI_le (t : List Nm) (tx lo : List S) (k o n : Int) (s : S) (ar : List Pe) : nE (exI t tx lo k o n s ar)≤s.length + nEs ar + 1:=by
 unfold exI
 repeat' split
 all_goals (unfold nE;simp)
mutual
theorem nE_bind {f : Ex1} (hf : ∀ k o n s ar,nE (f k o n s ar)≤s.length + nEs ar + 1) : ∀ e : Pe,nE (bindE f e)≤nE e
 | .mk k o n s ar=>by
  unfold bindE
  have h1:=hf k o n s (bindEs f ar)
  have h2:=nEs_bind hf ar
  rw [show nE (.mk k o n s ar)=s.length + nEs ar + 1 by unfold nE;rfl]
  omega
theorem nEs_bind {f : Ex1} (hf : ∀ k o n s ar,nE (f k o n s ar)≤s.length + nEs ar + 1) : ∀ l : List Pe,nEs (bindEs f l)≤nEs l
 | []=>by unfold bindEs;exact Nat.le_refl _
 | a :: l=>by
  unfold bindEs nEs
  have h1:=nE_bind hf a
  have h2:=nEs_bind hf l
  omega
end
mutual
theorem nS_stI (t : List Nm) (tx : List S) : ∀ (p : Ps) (lo : List S),nS (stI t tx lo p).1≤nS p
 | .mk k n s ar b e,lo=>by
  unfold stI
  simp only
  have h1:=nEs_bind (f:=exI t tx lo) (exI_le t tx lo) ar
  have h2:=nB_rowI t tx b (lo ++ ext k s)
  have h3:=nB_rowI t tx e (BindP.blank (lo ++ ext k s).length (rowI t tx (lo ++ ext k s) b).2)
  rw [show ∀ k2 n2 s2 a2 b2 e2,nS (.mk k2 n2 s2 a2 b2 e2)=s2.length + nEs a2 + nB b2 + nB e2 + 1 from fun _ _ _ _ _ _=>by unfold nS;rfl,show ∀ k2 n2 s2 a2 b2 e2,nS (.mk k2 n2 s2 a2 b2 e2)=s2.length + nEs a2 + nB b2 + nB e2 + 1 from fun _ _ _ _ _ _=>by unfold nS;rfl]
  simp only [List.length_nil]
  omega
theorem nB_rowI (t : List Nm) (tx : List S) : ∀ (l : List Ps) (lo : List S),nB (rowI t tx lo l).1≤nB l
 | [],lo=>by unfold rowI;exact Nat.le_refl _
 | a :: l,lo=>by
  unfold rowI
  simp only [nB]
  have h1:=nS_stI t tx a lo
  have h2:=nB_rowI t tx l (stI t tx lo a).2
  omega
end
end Go.Proofs.YteibcfpepdbflaaGreat.OkP
