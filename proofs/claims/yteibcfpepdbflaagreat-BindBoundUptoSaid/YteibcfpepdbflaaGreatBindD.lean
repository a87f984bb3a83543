/- Expressions and statements ar values: trees that carry their slices' addresses, how they read in a world, and what keeps them. No walk here. -/
import Derived.Test.YteibcfpepdbflaaGreatBytesP
import Derived.Laws.AppendOwn
namespace Go.Proofs.YteibcfpepdbflaaGreat.BindP
open Go
abbrev S:=List UInt8
inductive Pe where
 | mk (k o n : Int) (s : S) (ar : List Pe)
inductive Ps where
 | mk (k n : Int) (s : S) (ar : List Pe) (b e : List Ps)
abbrev Nm:=S × Int × Int
def place : List S→S→Int
 | [],_=>-1
 | x :: l,s=>if 0≤place l s then place l s + 1 else if x=s then 0 else -1
theorem place_lt : ∀ (l : List S) (s : S),place l s < l.length
 | [],_=>by unfold place;simp
 | x :: l,s=>by have:=place_lt l s;unfold place;rw [List.length_cons];split <;> (try split) <;> omega
theorem place_none : ∀ (l : List S) (s : S),s ∉ l→place l s=-1
 | [],_,_=>rfl
 | x :: l,s,h=>by
  have h2:=place_none l s (fun c=>h (List.mem_cons_of_mem _ c))
  unfold place
  rw [h2,if_neg (by omega),if_neg (fun c=>h (by rw [c];exact List.mem_cons_self ..))]
theorem place_last : ∀ (l : List S) (s : S) (i : Nat),l[i]?=some s→(∀ j x,i < j→l[j]?=some x→x ≠ s)→place l s=i
 | [],_,i,h,_=>by simp at h
 | x :: l,s,0,h,hl=>by
  have h2:=place_none l s (fun c=>by
   obtain ⟨j,hj,e⟩:=List.getElem_of_mem c
   exact hl (j + 1) s (by omega) (by rw [List.getElem?_cons_succ,List.getElem?_eq_getElem hj,e]) rfl)
  simp only [List.getElem?_cons_zero,Option.some.injEq] at h
  unfold place
  rw [h2,if_neg (by omega),if_pos h]
  rfl
 | x :: l,s,i + 1,h,hl=>by
  have h2:=place_last l s i (by rw [List.getElem?_cons_succ] at h;exact h) (fun j y hj hy=>hl (j + 1) y (by omega) (by rw [List.getElem?_cons_succ];exact hy))
  unfold place
  rw [h2,if_pos (by omega)]
  omega
def findN (t : List Nm) (s : S) : Option Nm:=t.find? (fun x=>decide (x.1=s))
def ofN (t : List Nm) (k : Int) (s : S) : Int:=match findN t s with
 | some x=>if x.2.1=k then x.2.2 else 0
 | none=>0
def nkind (t : List Nm) (s : S) : Int:=match findN t s with
 | some x=>x.2.1
 | none=>0
def nnum (t : List Nm) (s : S) : Int:=match findN t s with
 | some x=>x.2.2
 | none=>0
def exI (t : List Nm) (tx lo : List S) (k o n : Int) (s : S) (ar : List Pe) : Pe:=
 if k=2 then .mk 19 0 (place tx s) [] ar
 else if k=7 then .mk 16 0 (ofN t 1 s) [] ar
 else if k=8 then .mk 17 0 (ofN t 2 s) [] ar
 else if k=9 then .mk 18 0 (ofN t 6 s) [] ar
 else if k=3 then
  if 0≤place lo s then .mk 15 0 (place lo s) [] ar
  else if nkind t s=3 then .mk 14 0 (nnum t s) [] ar
  else .mk 1 0 (nnum t s) [] ar
 else .mk k o n s ar
def exR (t : List Nm) (tx lo : List S) (k o n : Int) (s : S) (ar : List Pe) : Pe:=
 if k=2 then .mk 19 o (place tx s) [] ar
 else if k=7 then .mk 16 o (ofN t 1 s) [] ar
 else if k=8 then .mk 17 o (ofN t 2 s) [] ar
 else if k=9 then .mk 18 o (ofN t 6 s) [] ar
 else if k=3 then
  if 0≤place lo s then .mk 15 o (place lo s) [] ar
  else if nkind t s=3 then .mk 14 o (nnum t s) [] ar
  else .mk 1 o (nnum t s) [] ar
 else .mk k o n [] ar
abbrev Ex1:=Int→Int→Int→S→List Pe→Pe
mutual
def bindE (f : Ex1) : Pe→Pe
 | .mk k o n s ar=>f k o n s (bindEs f ar)
def bindEs (f : Ex1) : List Pe→List Pe
 | []=>[]
 | a :: ar=>bindE f a :: bindEs f ar
end
theorem bindEs_map (f : Ex1) : ∀ l,bindEs f l=l.map (bindE f)
 | []=>by simp [bindEs]
 | a :: l=>by simp [bindEs,bindEs_map f l]
def okX (k o : Int) (s : S) : Prop:=((k=2∨k=3∨k=7∨k=8∨k=9)∧o=0)∨(k ≠ 2∧k ≠ 3∧k ≠ 7∧k ≠ 8∧k ≠ 9∧s=[])
mutual
def okE : Pe→Prop
 | .mk k o _ s ar=>okX k o s∧okEs ar
def okEs : List Pe→Prop
 | []=>True
 | a :: ar=>okE a∧okEs ar
end
theorem okEs_mem : ∀ (l : List Pe),(∀ a ∈ l,okE a)→okEs l
 | [],_=>trivial
 | a :: l,h=>⟨h a (List.mem_cons_self ..),okEs_mem l fun b hb=>h b (List.mem_cons_of_mem _ hb)⟩
theorem ex_eq {t : List Nm} {tx lo : List S} {k o n : Int} {s : S} {ar : List Pe} (h : okX k o s) : exI t tx lo k o n s ar=exR t tx lo k o n s ar:=by
 unfold exI exR
 rcases h with ⟨_,rfl⟩ | ⟨h1,h2,h3,h4,h5,rfl⟩
 ·repeat' split
  all_goals first | rfl | (rename_i h;omega) | skip
  all_goals (exfalso;omega)
 ·rw [if_neg h1,if_neg h3,if_neg h4,if_neg h5,if_neg h2,if_neg h1,if_neg h3,if_neg h4,if_neg h5,if_neg h2]
mutual
theorem bind_eq {t : List Nm} {tx lo : List S} : ∀ e : Pe,okE e→bindE (exI t tx lo) e=bindE (exR t tx lo) e
 | .mk k o n s ar,h=>by
  unfold okE at h
  unfold bindE
  rw [binds_eq ar h.2,ex_eq h.1]
theorem binds_eq {t : List Nm} {tx lo : List S} : ∀ l : List Pe,okEs l→bindEs (exI t tx lo) l=bindEs (exR t tx lo) l
 | [],_=>by simp [bindEs]
 | a :: l,h=>by
  unfold okEs at h
  unfold bindEs
  rw [bind_eq a h.1,binds_eq l h.2]
end
def mine (k : Int) : Nat:=if k=2 then 1 else if k=11 then 2 else 0
mutual
def locs1 : Ps→Nat
 | .mk k _ _ _ b e=>mine k + (locs b + locs e)
def locs : List Ps→Nat
 | []=>0
 | a :: l=>locs1 a + locs l
end
def kd (lo : List S) (k : Int) (s : S) : Int:=if k=3 then (if 0≤place lo s then 3 else 23) else k
def nm (t : List Nm) (lo : List S) (k n : Int) (s : S) : Int:=
 if k=2 then lo.length else if k=11 then lo.length
 else if k=3 then (if 0≤place lo s then place lo s else ofN t 3 s)
 else if k=4 then ofN t 2 s
 else if k=5 then ofN t 1 s else if k=6 then ofN t 1 s
 else if k=17 then ofN t 7 s else if k=18 then ofN t 7 s else n
def ext (k : Int) (s : S) : List S:=if k=2 then [s] else if k=11 then [s,[]] else []
def blank (m : Nat) (l : List S) : List S:=l.take m ++ List.replicate (l.length - m) []
theorem blank_len (m : Nat) (l : List S) : (blank m l).length=l.length:=by
 unfold blank
 rw [List.length_append,List.length_take,List.length_replicate]
 omega
theorem blank_app (a b : List S) : blank a.length (a ++ b)=a ++ List.replicate b.length []:=by
 unfold blank
 rw [List.take_left,List.length_append,Nat.add_sub_cancel_left]
mutual
def stI (t : List Nm) (tx lo : List S) : Ps→Ps × List S
 | .mk k n s ar b e=>
  let lo1:=lo ++ ext k s
  let rb:=rowI t tx lo1 b
  let lo2:=blank lo1.length rb.2
  let re:=rowI t tx lo2 e
  let lo3:=blank lo2.length re.2
  (.mk (kd lo k s) (nm t lo k n s) [] (bindEs (exI t tx lo) ar) rb.1 re.1,if k=11 then lo3.set lo.length [] else lo3)
def rowI (t : List Nm) (tx lo : List S) : List Ps→List Ps × List S
 | []=>([],lo)
 | a :: l=>((stI t tx lo a).1 :: (rowI t tx (stI t tx lo a).2 l).1,(rowI t tx (stI t tx lo a).2 l).2)
end
mutual
def stR (t : List Nm) (tx lo : List S) : Ps→Ps × List S
 | .mk k n s ar b e=>
  if k=2 then (.mk 2 lo.length [] (bindEs (exR t tx lo) ar) [] [],lo ++ [s])
  else if k=3 then (if 0≤place lo s then .mk 3 (place lo s) [] (bindEs (exR t tx lo) ar) [] [] else .mk 23 (ofN t 3 s) [] (bindEs (exR t tx lo) ar) [] [],lo)
  else if k=4 then (.mk k (ofN t 2 s) [] (bindEs (exR t tx lo) ar) [] [],lo)
  else if k=5 then (.mk k (ofN t 1 s) [] (bindEs (exR t tx lo) ar) [] [],lo)
  else if k=6 then (.mk k (ofN t 1 s) [] (bindEs (exR t tx lo) ar) [] [],lo)
  else if k=17 then (.mk k (ofN t 7 s) [] (bindEs (exR t tx lo) ar) [] [],lo)
  else if k=18 then (.mk k (ofN t 7 s) [] (bindEs (exR t tx lo) ar) [] [],lo)
  else if k=11 then (.mk k lo.length [] (bindEs (exR t tx lo) ar) (rowR t tx (lo ++ [s] ++ List.replicate 1 []) b).1 [],lo ++ List.replicate (2 + locs b) [])
  else (.mk k n [] (bindEs (exR t tx lo) ar) (rowR t tx lo b).1 (rowR t tx (lo ++ List.replicate (locs b) []) e).1,lo ++ List.replicate (locs b + locs e) [])
def rowR (t : List Nm) (tx lo : List S) : List Ps→List Ps × List S
 | []=>([],lo)
 | a :: l=>((stR t tx lo a).1 :: (rowR t tx (stR t tx lo a).2 l).1,(rowR t tx (stR t tx lo a).2 l).2)
end
def okK (k : Int) (b e : List Ps) : Prop:=((k=2∨k=3∨k=4∨k=5∨k=6∨k=17∨k=18)→b=[])∧((k=2∨k=3∨k=4∨k=5∨k=6∨k=17∨k=18∨k=11)→e=[])
mutual
def okS : Ps→Prop
 | .mk k _ _ ar b e=>okK k b e∧okEs ar∧okB b∧okB e
def okB : List Ps→Prop
 | []=>True
 | a :: l=>okS a∧okB l
end
mutual
theorem stI_ext {t : List Nm} {tx : List S} : ∀ (a : Ps) (lo : List S),∃ q,(stI t tx lo a).2=lo ++ q∧q.length=locs1 a
 | .mk k n s ar b e,lo=>by
  unfold stI locs1
  obtain ⟨q1,h1,l1⟩:=rowI_ext (t:=t) (tx:=tx) b (lo ++ ext k s)
  simp only [h1,blank_app]
  obtain ⟨q2,h2,l2⟩:=rowI_ext (t:=t) (tx:=tx) e (lo ++ ext k s ++ List.replicate q1.length [])
  simp only [h2,blank_app]
  have hx : (ext k s).length=mine k:=by unfold ext mine;split <;> (try split) <;> rfl
  have hl : lo ++ ext k s ++ List.replicate q1.length [] ++ List.replicate q2.length []=lo ++ (ext k s ++ (List.replicate q1.length [] ++ List.replicate q2.length [])):=by simp only [List.append_assoc]
  rw [hl]
  by_cases hk : k=11
  ·rw [if_pos hk,List.set_append_right _ _ (Nat.le_refl _)]
   exact ⟨_,rfl,by rw [List.length_set,List.length_append,List.length_append,List.length_replicate,List.length_replicate,hx,l1,l2]⟩
  ·rw [if_neg hk]
   exact ⟨_,rfl,by rw [List.length_append,List.length_append,List.length_replicate,List.length_replicate,hx,l1,l2]⟩
theorem rowI_ext {t : List Nm} {tx : List S} : ∀ (l : List Ps) (lo : List S),∃ q,(rowI t tx lo l).2=lo ++ q∧q.length=locs l
 | [],lo=>⟨[],by simp [rowI],by simp [locs]⟩
 | a :: l,lo=>by
  unfold rowI locs
  obtain ⟨q1,h1,l1⟩:=stI_ext (t:=t) (tx:=tx) a lo
  rw [h1]
  obtain ⟨q2,h2,l2⟩:=rowI_ext (t:=t) (tx:=tx) l (lo ++ q1)
  exact ⟨q1 ++ q2,by simp only [h2,List.append_assoc],by rw [List.length_append,l1,l2]⟩
end
theorem kd_not {lo : List S} {k : Int} {s : S} (h : k ≠ 3) : kd lo k s=k:=by unfold kd;rw [if_neg h]
theorem rep_rep (a b : Nat) : List.replicate a ([] : S) ++ List.replicate b []=List.replicate (a + b) []:=List.replicate_append_replicate
mutual
theorem st_eq {t : List Nm} {tx : List S} : ∀ (a : Ps) (lo : List S),okS a→stI t tx lo a=stR t tx lo a
 | .mk k n s ar b e,lo,h=>by
  unfold okS at h
  obtain ⟨hk,ha,hb,he⟩:=h
  unfold stI stR
  rw [binds_eq ar ha]
  obtain ⟨q1,h1,l1⟩:=rowI_ext (t:=t) (tx:=tx) b (lo ++ ext k s)
  simp only [h1,blank_app]
  obtain ⟨q2,h2,l2⟩:=rowI_ext (t:=t) (tx:=tx) e (lo ++ ext k s ++ List.replicate q1.length [])
  simp only [h2,blank_app]
  have r1:=row_eq (t:=t) (tx:=tx) b (lo ++ ext k s) hb
  have r2:=row_eq (t:=t) (tx:=tx) e (lo ++ ext k s ++ List.replicate q1.length []) he
  rw [r1,r2,l1,l2]
  have nb : (k=2∨k=3∨k=4∨k=5∨k=6∨k=17∨k=18)→b=[]∧e=[]:=fun c=>⟨hk.1 c,hk.2 (by omega)⟩
  by_cases c2 : k=2
  ·obtain ⟨rfl,rfl⟩:=nb (by omega)
   subst c2
   simp [rowR,locs,ext,nm,kd]
  by_cases c3 : k=3
  ·obtain ⟨rfl,rfl⟩:=nb (by omega)
   subst c3
   by_cases hp : 0≤place lo s <;> simp [rowR,locs,ext,nm,kd,hp]
  by_cases c4 : k=4
  ·obtain ⟨rfl,rfl⟩:=nb (by omega)
   subst c4
   simp [rowR,locs,ext,nm,kd]
  by_cases c5 : k=5
  ·obtain ⟨rfl,rfl⟩:=nb (by omega)
   subst c5
   simp [rowR,locs,ext,nm,kd]
  by_cases c6 : k=6
  ·obtain ⟨rfl,rfl⟩:=nb (by omega)
   subst c6
   simp [rowR,locs,ext,nm,kd]
  by_cases c17 : k=17
  ·obtain ⟨rfl,rfl⟩:=nb (by omega)
   subst c17
   simp [rowR,locs,ext,nm,kd]
  by_cases c18 : k=18
  ·obtain ⟨rfl,rfl⟩:=nb (by omega)
   subst c18
   simp [rowR,locs,ext,nm,kd]
  by_cases c11 : k=11
  ·obtain rfl:=hk.2 (by omega)
   subst c11
   have hl : (lo ++ [s,([] : S)] ++ List.replicate (locs b) [] ++ List.replicate 0 []).set lo.length []=lo ++ List.replicate (2 + locs b) []:=by
    rw [List.append_assoc,List.append_assoc,List.set_append_right _ _ (Nat.le_refl _),Nat.sub_self,Nat.add_comm 2]
    simp [List.replicate_succ]
   simp [rowR,locs,ext,nm,kd] at hl ⊢
   exact hl
  ·have hx : ext k s=[]:=by unfold ext;rw [if_neg c2,if_neg c11]
   have hn : nm t lo k n s=n:=by unfold nm;rw [if_neg c2,if_neg c11,if_neg c3,if_neg c4,if_neg c5,if_neg c6,if_neg c17,if_neg c18]
   rw [if_neg c2,if_neg c3,if_neg c4,if_neg c5,if_neg c6,if_neg c17,if_neg c18,if_neg c11,if_neg c11,hx,hn,kd_not c3,List.append_nil,List.append_assoc,rep_rep]
theorem row_eq {t : List Nm} {tx : List S} : ∀ (l : List Ps) (lo : List S),okB l→rowI t tx lo l=rowR t tx lo l
 | [],lo,_=>by simp [rowI,rowR]
 | a :: l,lo,h=>by
  unfold okB at h
  unfold rowI rowR
  rw [st_eq a lo h.1,row_eq l _ h.2]
end
def wth (out : List S) (s : S) : List S:=if s ∈ out then out else out ++ [s]
def saidA (ar : List Pe) : List S:=ar.filterMap fun | .mk k _ _ s _=>if k=2 then some s else none
mutual
def said1 : Ps→List S
 | .mk _ _ _ ar b e=>saidA ar ++ (said b ++ said e)
def said : List Ps→List S
 | []=>[]
 | a :: l=>said1 a ++ said l
end
theorem wth_len (out : List S) (s : S) : (wth out s).length≤out.length + 1:=by
 unfold wth
 split
 ·omega
 ·simp
theorem wths_len : ∀ (l out : List S),(l.foldl wth out).length≤out.length + l.length
 | [],out=>by simp
 | s :: l,out=>by
  have h:=wths_len l (wth out s)
  have h2:=wth_len out s
  rw [List.foldl_cons,List.length_cons]
  omega
end Go.Proofs.YteibcfpepdbflaaGreat.BindP
namespace Go.Proofs.YteibcfpepdbflaaGreat.BindD
open Go Go.RowKit
open Byt (str)
open BindP
def sv (l : S) : Value:=.string (str l)
inductive Ex where
 | mk (k o n : Int) (s : S) (A : Option Addr) (c : Nat) (ar : List Ex)
inductive St where
 | mk (k n : Int) (s : S) (A : Option Addr) (c : Nat) (ar : List Ex) (B : Option Addr) (cb : Nat) (b : List St) (E : Option Addr) (ce : Nat) (e : List St)
def exE : Ex→List Value
 | .mk k o n s A c ar=>[.int .i64 k,.int .i64 o,.int .i64 n,sv s,.slice A ar.length c]
def stE : St→List Value
 | .mk k n s A c ar B cb b E ce e=>[.int .i64 k,.int .i64 n,sv s,.slice A ar.length c,.slice B b.length cb,.slice E e.length ce]
theorem exE_len (x : Ex) : (exE x).length=5:=by cases x;rfl
theorem stE_len (x : St) : (stE x).length=6:=by cases x;rfl
mutual
def Ex.p : Ex→Pe
 | .mk k o n s _ _ ar=>.mk k o n s (exPs ar)
def exPs : List Ex→List Pe
 | []=>[]
 | a :: l=>a.p :: exPs l
end
theorem exPs_map : ∀ l,exPs l=l.map Ex.p
 | []=>by simp [exPs]
 | a :: l=>by simp [exPs,exPs_map l]
mutual
def St.p : St→Ps
 | .mk k n s _ _ ar _ _ b _ _ e=>.mk k n s (exPs ar) (stPs b) (stPs e)
def stPs : List St→List Ps
 | []=>[]
 | a :: l=>a.p :: stPs l
end
theorem stPs_map : ∀ l,stPs l=l.map St.p
 | []=>by simp [stPs]
 | a :: l=>by simp [stPs,stPs_map l]
structure Sl {α : Type} (enc : α→List Value) (K : Nat→Prop) (w : World) (A : Option Addr) (c : Nat) (l : List α) : Prop where
 le : l.length≤c
 max : c≤maxLen
 rd : Sk.Rd enc w A l.length l
 blk : ∀ a,A=some a→0 < l.length→K a.block
theorem Sl.nil {α : Type} {enc : α→List Value} {K : Nat→Prop} (w : World) : Sl enc K w none 0 []:=⟨Nat.le_refl _,by unfold maxLen;omega,Sk.Rd.nil _ _,fun _ h=>by cases h⟩
inductive RdX (K : Nat→Prop) (w : World) : Ex→Prop
 | mk {k o n : Int} {s : S} {A : Option Addr} {c : Nat} {ar : List Ex} : Sl exE K w A c ar→(∀ x ∈ ar,RdX K w x)→RdX K w (.mk k o n s A c ar)
inductive RdS (K : Nat→Prop) (w : World) : St→Prop
 | mk {k n : Int} {s : S} {A : Option Addr} {c : Nat} {ar : List Ex} {B : Option Addr} {cb : Nat} {b : List St} {E : Option Addr} {ce : Nat} {e : List St} :
  Sl exE K w A c ar→(∀ x ∈ ar,RdX K w x)→Sl stE K w B cb b→(∀ x ∈ b,RdS K w x)→Sl stE K w E ce e→(∀ x ∈ e,RdS K w x)→RdS K w (.mk k n s A c ar B cb b E ce e)
theorem RdX.open_ {K : Nat→Prop} {w : World} {k o n : Int} {s : S} {A : Option Addr} {c : Nat} {ar : List Ex} (h : RdX K w (.mk k o n s A c ar)) : Sl exE K w A c ar∧∀ x ∈ ar,RdX K w x:=by cases h with | mk a b=>exact ⟨a,b⟩
theorem RdS.open_ {K : Nat→Prop} {w : World} {k n : Int} {s : S} {A : Option Addr} {c : Nat} {ar : List Ex} {B : Option Addr} {cb : Nat} {b : List St} {E : Option Addr} {ce : Nat} {e : List St} (h : RdS K w (.mk k n s A c ar B cb b E ce e)) :
  (Sl exE K w A c ar∧∀ x ∈ ar,RdX K w x)∧(Sl stE K w B cb b∧∀ x ∈ b,RdS K w x)∧(Sl stE K w E ce e∧∀ x ∈ e,RdS K w x):=by cases h with | mk a b c d e f=>exact ⟨⟨a,b⟩,⟨c,d⟩,e,f⟩
structure Keep (K K' : Nat→Prop) (w w' : World) : Prop where
 size : w.heap.size≤w'.heap.size
 blk : ∀ b,K b→b < w.heap.size→K' b∧w'.heap[b]?=w.heap[b]?
theorem Keep.cell {K K' : Nat→Prop} {w w' : World} (h : Keep K K' w w') {b o : Nat} (hk : K b) (hb : b < w.heap.size) : w'.cell? ⟨b,o,none⟩=w.cell? ⟨b,o,none⟩:=by
 unfold World.cell?
 rw [(h.blk b hk hb).2]
theorem Sl.keep {α : Type} {enc : α→List Value} {K K' : Nat→Prop} {w w' : World} (h : Keep K K' w w') {A : Option Addr} {c : Nat} {l : List α} (s : Sl enc K w A c l) : Sl enc K' w' A c l:=by
 refine ⟨s.le,s.max,⟨rfl,fun hn=>?_⟩,fun a e hn=>?_⟩
 ·obtain ⟨b,o,e,hb,hc⟩:=s.rd.2 hn
  have hk : K b:=s.blk _ e hn
  exact ⟨b,o,e,Nat.lt_of_lt_of_le hb h.size,fun j u hu=>(h.cell hk hb).trans (hc j u hu)⟩
 ·obtain ⟨b,o,e2,hb,_⟩:=s.rd.2 hn
  rw [e] at e2
  injection e2 with e2
  subst e2
  exact (h.blk _ (s.blk _ e hn) hb).1
theorem RdX.keep {K K' : Nat→Prop} {w w' : World} (h : Keep K K' w w') {x : Ex} (r : RdX K w x) : RdX K' w' x:=by
 induction r with
 | mk s _ ih=>exact .mk (s.keep h) ih
theorem RdS.keep {K K' : Nat→Prop} {w w' : World} (h : Keep K K' w w') {x : St} (r : RdS K w x) : RdS K' w' x:=by
 induction r with
 | mk s xs sb _ se _ ihb ihe=>exact .mk (s.keep h) (fun x hx=>(xs x hx).keep h) (sb.keep h) ihb (se.keep h) ihe
theorem Keep.below {K : Nat→Prop} {w w' : World} (h : Below w.heap.size w w') : Keep K K w w':=⟨h.size,fun b hk hb=>⟨hk,h.block b hb⟩⟩
theorem Keep.weak {K K' : Nat→Prop} {w : World} (h : ∀ b,K b→b < w.heap.size→K' b) : Keep K K' w w:=⟨Nat.le_refl _,fun b hk hb=>⟨h b hk hb,rfl⟩⟩
theorem Keep.trans {K K' K2 : Nat→Prop} {w w' w2 : World} (h : Keep K K' w w') (k : Keep K' K2 w' w2) : Keep K K2 w w2:=⟨Nat.le_trans h.size k.size,fun b hk hb=>by
 have h1:=h.blk b hk hb
 have h2:=k.blk b h1.1 (Nat.lt_of_lt_of_le hb h.size)
 exact ⟨h2.1,h2.2.trans h1.2⟩⟩
def Lg {α : Type} (enc : α→List Value) (R : (Nat→Prop)→World→α→Prop) (K : Nat→Prop) (w : World) (A : Option Addr) (c : Nat) (l : List α) : Prop:=Sl enc K w A c l∧∀ x ∈ l,R K w x
abbrev Lx:=Lg exE RdX
abbrev Ls:=Lg stE RdS
def Stays {α : Type} (R : (Nat→Prop)→World→α→Prop) : Prop:=∀ (K K' : Nat→Prop) (w w' : World) (x : α),Keep K K' w w'→R K w x→R K' w' x
theorem stays_x : Stays RdX:=fun _ _ _ _ _ h r=>r.keep h
theorem stays_s : Stays RdS:=fun _ _ _ _ _ h r=>r.keep h
section
variable {α : Type} {enc : α→List Value} {R : (Nat→Prop)→World→α→Prop} {k : Nat} {E : TypeId}
theorem Lg.keep (hR : Stays R) {K K' : Nat→Prop} {w w' : World} (h : Keep K K' w w') {A : Option Addr} {c : Nat} {l : List α} (r : Lg enc R K w A c l) : Lg enc R K' w' A c l:=⟨r.1.keep h,fun x hx=>hR _ _ _ _ _ h (r.2 x hx)⟩
theorem Lg.below (hR : Stays R) {K : Nat→Prop} {w w' : World} (h : Below w.heap.size w w') {A : Option Addr} {c : Nat} {l : List α} (r : Lg enc R K w A c l) : Lg enc R K w' A c l:=r.keep hR (Keep.below h)
theorem Lg.nil {K : Nat→Prop} (w : World) : Lg enc R K w none 0 []:=⟨Sl.nil w,fun _ h=>by cases h⟩
structure Ow (enc : α→List Value) (R : (Nat→Prop)→World→α→Prop) (k : Nat) (E : TypeId) (K : Nat→Prop) (w : World) (B : Nat) (v : Value) (l : List α) : Prop where
 own : Sk.Own enc k E w B v l
 row : ∀ g,v.ownBlock=some g→K g
 sub : ∀ x ∈ l,R (fun b=>K b∧v.ownBlock ≠ some b) w x
theorem Ow.nil {K : Nat→Prop} (w : World) (B : Nat) : Ow enc R k E K w B (.slice none 0 0) []:=⟨Sk.own_nil _ _,fun _ h=>by simp [Value.ownBlock] at h,fun _ h=>by cases h⟩
theorem Ow.lt {K : Nat→Prop} {w : World} {B : Nat} {v : Value} {l : List α} (h : Ow enc R k E K w B v l) {g : Nat} (hg : v.ownBlock=some g) : B≤g∧g < w.heap.size:=World.ownsRow.lt h.own g hg
theorem Ow.keep (hR : Stays R) {K K' : Nat→Prop} {w w' : World} {B : Nat} {v : Value} {l : List α} (hk : Keep K K' w w') (h : Ow enc R k E K w B v l) : Ow enc R k E K' w' B v l:=by
 refine ⟨?_,fun g hg=>(hk.blk g (h.row g hg) (h.lt hg).2).1,fun x hx=>hR _ _ _ _ _ ⟨hk.size,fun b hb hl=>?_⟩ (h.sub x hx)⟩
 ·obtain ⟨h1,h2⟩:=h.own
  refine ⟨h1,h2.imp id ?_⟩
  rintro ⟨g,cap,cur,rfl,hB,hh,hr⟩
  refine ⟨g,cap,cur,rfl,hB,?_,hr⟩
  rw [(hk.blk g (h.row g rfl) (h.lt (g:=g) rfl).2).2]
  exact hh
 ·exact ⟨⟨(hk.blk b hb.1 hl).1,hb.2⟩,(hk.blk b hb.1 hl).2⟩
theorem Ow.below (hR : Stays R) {K : Nat→Prop} {w w' : World} {B : Nat} {v : Value} {l : List α} (h : Ow enc R k E K w B v l) (hb : Below w.heap.size w w') : Ow enc R k E K w' B v l:=h.keep hR (Keep.below hb)
theorem Ow.append (hR : Stays R) {K : Nat→Prop} {w w' : World} {B : Nat} {v v' : Value} {l l2 : List α} (h : Ow enc R k E K w B v l) (ho : Sk.Own enc k E w' B v' (l ++ l2)) (hg : w.grownBy w' v.ownBlock)
  (hv : v'.ownBlock=v.ownBlock∨v'.ownBlock=some w.heap.size) (hK : K w.heap.size) (hn : ∀ x ∈ l2,R (fun b=>K b∧v.ownBlock ≠ some b) w x) : Ow enc R k E K w' B v' (l ++ l2):=by
 have hk : Keep (fun b=>K b∧v.ownBlock ≠ some b) (fun b=>K b∧v'.ownBlock ≠ some b) w w':=by
  refine ⟨hg.size,fun b hb hl=>⟨⟨hb.1,?_⟩,hg.block b hl (Ne.symm hb.2)⟩⟩
  rcases hv with e | e
  ·rw [e];exact hb.2
  ·rw [e];intro c;injection c with c;omega
 refine ⟨ho,fun g hg2=>?_,fun x hx=>?_⟩
 ·rcases hv with e | e
  ·exact h.row g (e ▸ hg2)
  ·rw [e] at hg2;injection hg2 with hg2;exact hg2 ▸ hK
 ·rcases List.mem_append.1 hx with hx | hx
  ·exact hR _ _ _ _ _ hk (h.sub x hx)
  ·exact hR _ _ _ _ _ hk (hn x hx)
theorem Ow.list (hR : Stays R) {K : Nat→Prop} {w : World} {B : Nat} {v : Value} {l : List α} (h : Ow enc R k E K w B v l) : ∃ A c,v=.slice A l.length c∧Lg enc R K w A c l:=by
 obtain ⟨A,c,rfl,h1,h2⟩:=h.own.shape
 exact ⟨A,c,rfl,⟨h1,h2,h.own.rd,fun a e _=>by subst e;exact h.row _ rfl⟩,fun x hx=>hR _ _ _ _ _ (Keep.weak fun b hb _=>hb.1) (h.sub x hx)⟩
theorem Lg.at_ (hk : ∀ x,(enc x).length=k) {K : Nat→Prop} {w : World} {A : Option Addr} {c : Nat} {l : List α} (h : Lg enc R K w A c l) {i : Nat} (hi : i < l.length) :
  ∃ b o,A=some ⟨b,o,none⟩∧b < w.heap.size∧∀ j u,(enc l[i])[j]?=some u→w.cell? ⟨b,o + i * k + j,none⟩=some u:=by
 obtain ⟨b,o,e,hb,_,hc⟩:=h.1.rd.at_ hk hi
 exact ⟨b,o,e,hb,hc⟩
end
theorem Ex.ind {Q : Ex→Prop} (h : ∀ k o n s A c ar,(∀ x ∈ ar,Q x)→Q (.mk k o n s A c ar)) : ∀ x,Q x
 | .mk k o n s A c ar=>h k o n s A c ar fun x _=>Ex.ind h x
termination_by x=>SizeOf.sizeOf x
decreasing_by
 have:=List.sizeOf_lt_of_mem (by assumption)
 simp only [Ex.mk.sizeOf_spec]
 omega
theorem St.ind {Q : St→Prop} (h : ∀ k n s A c ar B cb b E ce e,(∀ x ∈ b,Q x)→(∀ x ∈ e,Q x)→Q (.mk k n s A c ar B cb b E ce e)) : ∀ x,Q x
 | .mk k n s A c ar B cb b E ce e=>h k n s A c ar B cb b E ce e (fun x _=>St.ind h x) (fun x _=>St.ind h x)
termination_by x=>SizeOf.sizeOf x
decreasing_by
 all_goals
  have:=List.sizeOf_lt_of_mem (by assumption)
  simp only [St.mk.sizeOf_spec]
  omega
end Go.Proofs.YteibcfpepdbflaaGreat.BindD
