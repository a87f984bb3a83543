/- What is right and without a fault is bound: plain laws for a source's book. No walk here. -/
import Derived.Test.YteibcfpepdbflaaGreatRtD
import Derived.Test.YteibcfpepdbflaaGreatOkP
import Derived.Test.YteibcfpepdbflaaGreatRtF
namespace Go.Proofs.YteibcfpepdbflaaGreat.BoP
open Go Go.RowKit BindP BindD BindO BindW BindN BindG BindX BindB BindT BindU BkB BkD BkE BkF BkG BkI TxA RtS RtX RtY RtZ RtB RtC RtD RtE RtF MkA MkB MkP CkP CkB CkG CkH CkM OkP BnP BnQ BnR BoD
open Byt (str)
structure Nf (T : List Nm) (F : List Nat) (Q : Tn) : Prop where
 fl : ∀ s,IsN T 1 s→0≤ofN T 1 s∧ofN T 1 s < Q.fl
 pr : ∀ s,IsN T 2 s→0≤ofN T 2 s∧ofN T 2 s < (Q.pr : Int)
 gl : ∀ s,IsN T 3 s→0≤ofN T 3 s∧ofN T 3 s < (Q.gl : Int)
 th : ∀ s,IsN T 4 s→-32768≤ofN T 4 s∧ofN T 4 s≤32767
 fn : ∀ s,IsN T 6 s→∃ i a : Nat,ofN T 6 s=(i : Int)∧F[i]?=some a∧parP Q (i : Int) a
 da : ∀ s,IsN T 7 s→0≤ofN T 7 s∧ofN T 7 s < (Q.da : Int)
theorem is_kn {t : List Nm} {s : S} (h : hasN t s=true) (k : Int) (hk : (getN t s).2.1=k) : nkind t s=k∧nnum t s=ofN t k s:=by
 unfold hasN at h
 unfold nkind nnum ofN
 unfold getN at hk
 cases hf : findN t s with
 | none=>rw [hf] at h;cases h
 | some x=>
  rw [hf] at hk
  simp only [Option.getD_some] at hk
  simp [hk]
section
variable {T : List Nm} {F : List Nat} {Q : Tn} {tx lo lo' : List S} {L : Nat} (hN : Nf T F Q) (hl : ∀ s ∈ lo',s ∈ lo) (hL : lo.length≤L) (htx : tx.length=Q.tx)
theorem place_in {l : List S} {s : S} (h : s ∈ l) : 0≤place l s:=by
 obtain ⟨i,e,_⟩:=place_at l s h
 omega
include hN hl hL htx
theorem kb_of {sd : Bool} {k o n : Int} {s : S} {ar : List Pe} (h1 : KindOk sd k o n s ar.length) (h2 : CkX T F lo' k s ar.length) (h3 : k=2→s ∈ tx) (h4 : xsBd Q L ar) : xBd Q L sd (exR T tx lo k o n s ar):=by
 obtain ⟨c3,c7,c8,c9⟩:=h2
 generalize hm : ar.length=m at h1 c9
 cases h1 with
 | num a b=>
  unfold exR
  rw [if_neg (by decide),if_neg (by decide),if_neg (by decide),if_neg (by decide),if_neg (by decide)]
  unfold xBd
  exact ⟨rfl,by rw [hm];exact .num (by omega) b,h4⟩
 | text=>
  unfold exR
  rw [if_pos rfl]
  unfold xBd
  refine ⟨rfl,?_,h4⟩
  rw [hm]
  have hp:=place_in (h3 rfl)
  have hq:=place_lt tx s
  exact .text hp (by rw [← htx];exact hq)
 | name hs=>
  have c:=c3 rfl
  unfold exR
  rw [if_neg (by decide),if_neg (by decide),if_neg (by decide),if_neg (by decide),if_pos rfl]
  by_cases hp : 0≤place lo s
  ·rw [if_pos hp]
   unfold xBd
   refine ⟨rfl,?_,h4⟩
   rw [hm]
   have hq:=place_lt lo s
   exact .loc hp (by omega)
  ·rw [if_neg hp]
   rcases c with c | ⟨ch,ck⟩
   ·exact absurd (place_in (hl s c)) hp
   rcases ck with ck | ck
   ·obtain ⟨e1,e2⟩:=is_kn ch 3 ck
    rw [if_pos e1,e2]
    unfold xBd
    refine ⟨rfl,?_,h4⟩
    rw [hm]
    exact .glob (hN.gl s ⟨ch,ck⟩).1 (hN.gl s ⟨ch,ck⟩).2
   ·obtain ⟨e1,e2⟩:=is_kn ch 4 ck
    rw [if_neg (by rw [e1];decide),e2]
    unfold xBd
    refine ⟨rfl,?_,h4⟩
    rw [hm]
    exact .num (hN.th s ⟨ch,ck⟩).1 (hN.th s ⟨ch,ck⟩).2
 | neg=>
  unfold exR
  rw [if_neg (by decide),if_neg (by decide),if_neg (by decide),if_neg (by decide),if_neg (by decide)]
  unfold xBd
  exact ⟨rfl,by rw [hm];exact .neg,h4⟩
 | not=>
  unfold exR
  rw [if_neg (by decide),if_neg (by decide),if_neg (by decide),if_neg (by decide),if_neg (by decide)]
  unfold xBd
  exact ⟨rfl,by rw [hm];exact .not,h4⟩
 | random=>
  unfold exR
  rw [if_neg (by decide),if_neg (by decide),if_neg (by decide),if_neg (by decide),if_neg (by decide)]
  unfold xBd
  exact ⟨rfl,by rw [hm];exact .random,h4⟩
 | title=>
  unfold exR
  rw [if_neg (by decide),if_neg (by decide),if_neg (by decide),if_neg (by decide),if_neg (by decide)]
  unfold xBd
  exact ⟨rfl,by rw [hm];exact .title,h4⟩
 | bin a b=>
  unfold exR
  rw [if_neg (by decide),if_neg (by decide),if_neg (by decide),if_neg (by decide),if_neg (by decide)]
  unfold xBd
  exact ⟨rfl,by rw [hm];exact .bin a b,h4⟩
 | has hs=>
  unfold exR
  rw [if_neg (by decide),if_pos rfl]
  unfold xBd
  exact ⟨rfl,by rw [hm];exact .has (hN.fl s (c7 rfl)).1 (hN.fl s (c7 rfl)).2,h4⟩
 | prop hs=>
  unfold exR
  rw [if_neg (by decide),if_neg (by decide),if_pos rfl]
  unfold xBd
  exact ⟨rfl,by rw [hm];exact .prop (hN.pr s (c8 rfl)).1 (hN.pr s (c8 rfl)).2,h4⟩
 | call h8 hs=>
  obtain ⟨d1,d2⟩:=c9 rfl
  obtain ⟨i,a,e1,e2,e3⟩:=hN.fn s d1
  have e4:=d2 i a (by rw [← is_num d1];exact e1) e2
  unfold exR
  rw [if_neg (by decide),if_neg (by decide),if_neg (by decide),if_pos rfl]
  unfold xBd
  exact ⟨rfl,by rw [hm,e1,← e4];exact .call e3,h4⟩
 | tree a b=>
  unfold exR
  rw [if_neg (by decide),if_neg (by decide),if_neg (by decide),if_neg (by decide),if_neg (by decide)]
  unfold xBd
  exact ⟨rfl,by rw [hm];exact .tree a b,h4⟩
 | self a b=>
  unfold exR
  rw [if_neg (by decide),if_neg (by decide),if_neg (by decide),if_neg (by decide),if_neg (by decide)]
  unfold xBd
  exact ⟨rfl,by rw [hm];exact .self a b,h4⟩
end
mutual
theorem e_bd {T : List Nm} {F : List Nat} {Q : Tn} {tx lo lo' : List S} {L : Nat} (hN : Nf T F Q) (hl : ∀ s ∈ lo',s ∈ lo) (hL : lo.length≤L) (htx : tx.length=Q.tx) : ∀ (a : Pe) (sd : Bool),xOk sd a→ckE T F lo' a→(∀ k o n s ar,a=.mk k o n s ar→k=2→s ∈ tx)→xBd Q L sd (bindE (exR T tx lo) a)
 | .mk k o n s ar,sd,h,c,ht=>by
  unfold xOk at h
  unfold ckE at c
  unfold bindE
  refine kb_of hN hl hL htx ?_ ?_ (ht k o n s ar rfl) (es_bd hN hl hL htx ar h.2 c.2)
  ·rw [bindEs_map,List.length_map];exact h.1
  ·rw [bindEs_map,List.length_map];exact c.1
theorem es_bd {T : List Nm} {F : List Nat} {Q : Tn} {tx lo lo' : List S} {L : Nat} (hN : Nf T F Q) (hl : ∀ s ∈ lo',s ∈ lo) (hL : lo.length≤L) (htx : tx.length=Q.tx) : ∀ (l : List Pe),xsOk l→ckEs T F lo' l→xsBd Q L (bindEs (exR T tx lo) l)
 | [],_,_=>by unfold bindEs xsBd;trivial
 | a :: l,h,c=>by
  unfold xsOk at h
  unfold ckEs at c
  unfold bindEs xsBd
  refine ⟨e_bd hN hl hL htx a false h.1 c.1 ?_,es_bd hN hl hL htx l h.2 c.2⟩
  intro k o n s ar e hk
  have h1:=h.1
  rw [e] at h1
  unfold xOk at h1
  rw [hk] at h1
  cases h1.1
end
theorem cks_mem {T : List Nm} {F : List Nat} {lo : List S} : ∀ {l : List Pe},ckEs T F lo l→∀ a ∈ l,ckE T F lo a
 | [],_,_,h=>by cases h
 | a :: l,h,b,hb=>by
  unfold ckEs at h
  rcases List.mem_cons.1 hb with rfl | hb
  ·exact h.1
  ·exact cks_mem h.2 b hb
theorem saidA_mem {ar : List Pe} {k o n : Int} {s : S} {l : List Pe} (h : Pe.mk k o n s l ∈ ar) (hk : k=2) : s ∈ saidA ar:=by
 unfold saidA
 rw [List.mem_filterMap]
 exact ⟨_,h,by simp [hk]⟩
theorem bl_len (f : Ex1) (l : List Pe) : (bindEs f l).length=l.length:=by rw [bindEs_map,List.length_map]
theorem rowR_len {T : List Nm} {tx : List S} : ∀ (l : List Ps) (lo : List S),(rowR T tx lo l).1.length=l.length
 | [],_=>by simp [rowR]
 | a :: l,lo=>by unfold rowR;simp only [List.length_cons,rowR_len l]
theorem sh_nm {k n : Int} {s : S} {m nb ne : Nat} {nm : Bool} (h : ShOk k n s m nb ne nm) (hk : k=2∨k=3∨k=4∨k=5∨k=6∨k=17∨k=18∨k=11) : ∀ n2 s2,ShOk k n2 s2 m nb ne true:=by
 intro n2 s2
 cases h with
 | say _ _=>exfalso;omega
 | named h=>exact .named h
 | put=>exact .put
 | move=>exfalso;omega
 | one h=>exfalso;omega
 | if_=>exfalso;omega
 | while_=>exfalso;omega
 | each=>exact .each
 | halt=>exact .halt
 | none h=>exfalso;omega
theorem sh_23 {n : Int} {s : S} {m nb ne : Nat} {nm : Bool} (h : ShOk 3 n s m nb ne nm) : ∀ n2 s2,ShOk 23 n2 s2 m nb ne true:=by
 intro n2 s2
 cases h with
 | named h=>exact .named (by omega)
 | one h=>exfalso;omega
 | none h=>exfalso;omega
theorem sh_s {k n : Int} {s : S} {m nb ne : Nat} {nm : Bool} (h : ShOk k n s m nb ne nm) (h1 : ¬ (k=2∨k=3∨k=4∨k=5∨k=6∨k=17∨k=18∨k=11)) (h2 : k ≠ 23) : s=[]:=by
 cases h with
 | named h=>exfalso;omega
 | put=>exfalso;omega
 | each=>exfalso;omega
 | halt=>exfalso;omega
 | _=>rfl
theorem headK_bind {T : List Nm} {tx lo : List S} {ar : List Pe} (h : headK ar=9) : headK (bindEs (exR T tx lo) ar)=18:=by
 cases ar with
 | nil=>exact absurd h (by decide)
 | cons a l=>
  obtain ⟨k,o,n,s,r⟩:=a
  simp only [headK] at h
  subst h
  unfold bindEs bindE
  unfold exR
  rw [if_neg (by decide),if_neg (by decide),if_neg (by decide),if_pos rfl]
  rfl
theorem stR_ext {T : List Nm} {tx : List S} {a : Ps} {lo : List S} (h : okS a) : ∃ q,(stR T tx lo a).2=lo ++ q∧q.length=locs1 a:=by
 rw [← st_eq a lo h]
 exact stI_ext a lo
theorem next_in {T : List Nm} {tx : List S} {a : Ps} {lo lo' : List S} (h : okS a) (hl : ∀ s ∈ lo',s ∈ lo) : ∀ s ∈ nextL lo' a,s ∈ (stR T tx lo a).2:=by
 intro s hs
 by_cases hk : ∃ n s2 ar b e,a=.mk 2 n s2 ar b e
 ·obtain ⟨n,s2,ar,b,e,rfl⟩:=hk
  unfold stR
  rw [if_pos rfl]
  simp only [nextL,if_pos] at hs
  rcases List.mem_append.1 hs with hs | hs
  ·exact List.mem_append_left _ (hl s hs)
  ·exact List.mem_append_right _ hs
 ·obtain ⟨q,e,_⟩:=stR_ext (T:=T) (tx:=tx) (lo:=lo) h
  rw [e]
  refine List.mem_append_left _ (hl s ?_)
  obtain ⟨k,n,s2,ar,b,e2⟩:=a
  simp only [nextL] at hs
  by_cases h2 : k=2
  ·exact absurd ⟨n,s2,ar,b,e2,by rw [h2]⟩ hk
  ·rw [if_neg h2] at hs;exact hs
section
variable {T : List Nm} {F : List Nat} {Q : Tn} {tx : List S} {L : Nat} (hN : Nf T F Q) (htx : tx.length=Q.tx)
include hN htx
theorem args_bd {lo lo' : List S} (hl : ∀ s ∈ lo',s ∈ lo) (hL : lo.length≤L) {ar : List Pe} {b : Bool} (h : ∀ a ∈ ar,xOk b a) (c : ckEs T F lo' ar) (ht : ∀ s ∈ saidA ar,s ∈ tx) : ∀ x ∈ bindEs (exR T tx lo) ar,xBd Q L b x:=by
 intro x hx
 rw [bindEs_map] at hx
 obtain ⟨a,ha,rfl⟩:=List.mem_map.1 hx
 exact e_bd hN hl hL htx a b (h a ha) (cks_mem c a ha) (fun k o n s l e hk=>ht s (saidA_mem (e ▸ ha) hk))
end
mutual
theorem st_bd {T : List Nm} {F : List Nat} {Q : Tn} {tx : List S} {L : Nat} (hN : Nf T F Q) (htx : tx.length=Q.tx) : ∀ (a : Ps) (lo lo' : List S) (made : Nat),sOk a→ckS T F lo' made a→(∀ s ∈ lo',s ∈ lo)→(∀ s ∈ said1 a,s ∈ tx)→lo.length + locs1 a≤L→sBd Q L (stR T tx lo a).1
 | .mk k n s ar b e,lo,lo',made,h,c,hl,ht,hL=>by
  have hok:=s_okS _ h
  unfold okS at hok
  have hK:=hok.1
  unfold sOk at h
  obtain ⟨⟨hn0,h23,⟨nm,hsh,_⟩,h19⟩,hxa,⟨hb,hb2⟩,⟨he,he2⟩⟩:=h
  unfold ckS at c
  obtain ⟨ca,co,cb,ce⟩:=c
  obtain ⟨_,_,o3,o4,o56,o1718⟩:=co
  unfold said1 at ht
  unfold locs1 at hL
  have hta : ∀ s ∈ saidA ar,s ∈ tx:=fun s hs=>ht s (List.mem_append_left _ hs)
  have htb : ∀ s ∈ said b,s ∈ tx:=fun s hs=>ht s (List.mem_append_right _ (List.mem_append_left _ hs))
  have hte : ∀ s ∈ said e,s ∈ tx:=fun s hs=>ht s (List.mem_append_right _ (List.mem_append_right _ hs))
  have hA:=args_bd hN htx (lo:=lo) hl (show lo.length≤L by omega) hxa ca hta
  have hh : k ≠ 19→(k=19→headK (bindEs (exR T tx lo) ar)=18):=fun x y=>absurd y x
  have nb : (k=2∨k=3∨k=4∨k=5∨k=6∨k=17∨k=18)→b=[]∧e=[]:=fun c=>⟨hK.1 c,hK.2 (by omega)⟩
  have nil2 : bBd Q L []∧([] : List Ps).length≤256:=⟨by unfold bBd;trivial,by simp⟩
  have la:=bl_len (exR T tx lo) ar
  by_cases c2 : k=2
  ·obtain ⟨rfl,rfl⟩:=nb (by omega)
   subst c2
   unfold stR
   rw [if_pos rfl]
   simp only [sBd,la]
   refine ⟨trivial,⟨_,sh_nm hsh (by omega) _ _⟩,?_,hh (by decide),hA,nil2,nil2⟩
   have : mine 2=1:=rfl
   refine ⟨fun _=>by omega,fun x=>?_,fun x=>?_,fun x=>?_,fun x=>?_,fun x=>?_⟩ <;> (exfalso;omega)
  by_cases c3 : k=3
  ·obtain ⟨rfl,rfl⟩:=nb (by omega)
   subst c3
   unfold stR
   rw [if_neg (by decide),if_pos rfl]
   by_cases hp : 0≤place lo s
   ·rw [if_pos hp]
    simp only [sBd,la]
    refine ⟨trivial,⟨_,sh_nm hsh (by omega) _ _⟩,?_,hh (by decide),hA,nil2,nil2⟩
    have hq:=place_lt lo s
    refine ⟨fun _=>by omega,fun x=>?_,fun x=>?_,fun x=>?_,fun x=>?_,fun x=>?_⟩ <;> (exfalso;omega)
   ·rw [if_neg hp]
    simp only [sBd,la]
    refine ⟨trivial,⟨_,sh_23 hsh _ _⟩,?_,(fun x=>absurd x (by decide)),hA,nil2,nil2⟩
    have hi : IsN T 3 s:=by
     rcases o3 rfl with hs | hs
     ·exact absurd (place_in (hl s hs)) hp
     ·exact hs
    have hg:=hN.gl s hi
    refine ⟨fun x=>?_,fun x=>?_,fun _=>hg,fun x=>?_,fun x=>?_,fun x=>?_⟩ <;> (exfalso;omega)
  by_cases c4 : k=4
  ·obtain ⟨rfl,rfl⟩:=nb (by omega)
   subst c4
   unfold stR
   rw [if_neg (by decide),if_neg (by decide),if_pos rfl]
   simp only [sBd,la]
   refine ⟨trivial,⟨_,sh_nm hsh (by omega) _ _⟩,?_,hh (by decide),hA,nil2,nil2⟩
   have hg:=hN.pr s (o4 rfl)
   refine ⟨fun x=>?_,fun x=>?_,fun x=>?_,fun _=>hg,fun x=>?_,fun x=>?_⟩ <;> (exfalso;omega)
  by_cases c5 : k=5
  ·obtain ⟨rfl,rfl⟩:=nb (by omega)
   subst c5
   unfold stR
   rw [if_neg (by decide),if_neg (by decide),if_neg (by decide),if_pos rfl]
   simp only [sBd,la]
   refine ⟨trivial,⟨_,sh_nm hsh (by omega) _ _⟩,?_,hh (by decide),hA,nil2,nil2⟩
   have hg:=hN.fl s (o56 (by omega))
   refine ⟨fun x=>?_,fun x=>?_,fun x=>?_,fun x=>?_,fun _=>hg,fun x=>?_⟩ <;> (exfalso;omega)
  by_cases c6 : k=6
  ·obtain ⟨rfl,rfl⟩:=nb (by omega)
   subst c6
   unfold stR
   rw [if_neg (by decide),if_neg (by decide),if_neg (by decide),if_neg (by decide),if_pos rfl]
   simp only [sBd,la]
   refine ⟨trivial,⟨_,sh_nm hsh (by omega) _ _⟩,?_,hh (by decide),hA,nil2,nil2⟩
   have hg:=hN.fl s (o56 (by omega))
   refine ⟨fun x=>?_,fun x=>?_,fun x=>?_,fun x=>?_,fun _=>hg,fun x=>?_⟩ <;> (exfalso;omega)
  by_cases c17 : k=17
  ·obtain ⟨rfl,rfl⟩:=nb (by omega)
   subst c17
   unfold stR
   rw [if_neg (by decide),if_neg (by decide),if_neg (by decide),if_neg (by decide),if_neg (by decide),if_pos rfl]
   simp only [sBd,la]
   refine ⟨trivial,⟨_,sh_nm hsh (by omega) _ _⟩,?_,hh (by decide),hA,nil2,nil2⟩
   have hg:=hN.da s (o1718 (by omega))
   refine ⟨fun x=>?_,fun x=>?_,fun x=>?_,fun x=>?_,fun x=>?_,fun _=>hg⟩ <;> (exfalso;omega)
  by_cases c18 : k=18
  ·obtain ⟨rfl,rfl⟩:=nb (by omega)
   subst c18
   unfold stR
   rw [if_neg (by decide),if_neg (by decide),if_neg (by decide),if_neg (by decide),if_neg (by decide),if_neg (by decide),if_pos rfl]
   simp only [sBd,la]
   refine ⟨trivial,⟨_,sh_nm hsh (by omega) _ _⟩,?_,hh (by decide),hA,nil2,nil2⟩
   have hg:=hN.da s (o1718 (by omega))
   refine ⟨fun x=>?_,fun x=>?_,fun x=>?_,fun x=>?_,fun x=>?_,fun _=>hg⟩ <;> (exfalso;omega)
  by_cases c11 : k=11
  ·obtain rfl:=hK.2 (by omega)
   subst c11
   rw [if_pos rfl,if_pos rfl] at cb
   have hm2 : mine 11=2:=rfl
   have ih:=row_bd (L:=L) hN htx b (lo ++ [s] ++ List.replicate 1 []) (lo' ++ [s]) (made + 2) hb cb (fun x hx=>by
    rcases List.mem_append.1 hx with hx | hx
    ·exact List.mem_append_left _ (List.mem_append_left _ (hl x hx))
    ·exact List.mem_append_left _ (List.mem_append_right _ hx)) htb (by simp only [List.length_append,List.length_cons,List.length_nil,List.length_replicate];omega)
   unfold stR
   rw [if_neg (by decide),if_neg (by decide),if_neg (by decide),if_neg (by decide),if_neg (by decide),if_neg (by decide),if_neg (by decide),if_pos rfl]
   simp only [sBd,la,rowR_len]
   refine ⟨trivial,⟨_,sh_nm hsh (by omega) _ _⟩,?_,hh (by decide),hA,⟨ih,hb2⟩,nil2⟩
   refine ⟨fun x=>?_,fun _=>⟨by omega,by omega⟩,fun x=>?_,fun x=>?_,fun x=>?_,fun x=>?_⟩ <;> (exfalso;omega)
  ·have hs0:=sh_s hsh (by omega) h23
   rw [if_neg c11,if_neg c11] at cb
   rw [if_neg c11] at ce
   have ihb:=row_bd (L:=L) hN htx b lo lo' made hb cb hl htb (by omega)
   have ihe:=row_bd (L:=L) hN htx e (lo ++ List.replicate (locs b) []) lo' (made + locs b) he ce (fun x hx=>List.mem_append_left _ (hl x hx)) hte (by simp only [List.length_append,List.length_replicate];omega)
   unfold stR
   rw [if_neg c2,if_neg c3,if_neg c4,if_neg c5,if_neg c6,if_neg c17,if_neg c18,if_neg c11]
   simp only [sBd,la,rowR_len]
   refine ⟨trivial,⟨nm,hs0 ▸ hsh⟩,?_,fun x=>headK_bind (h19 x),hA,⟨ihb,hb2⟩,⟨ihe,he2⟩⟩
   refine ⟨fun x=>?_,fun x=>?_,fun x=>?_,fun x=>?_,fun x=>?_,fun x=>?_⟩ <;> (exfalso;omega)
theorem row_bd {T : List Nm} {F : List Nat} {Q : Tn} {tx : List S} {L : Nat} (hN : Nf T F Q) (htx : tx.length=Q.tx) : ∀ (l : List Ps) (lo lo' : List S) (made : Nat),bOk l→ckB T F lo' made l→(∀ s ∈ lo',s ∈ lo)→(∀ s ∈ said l,s ∈ tx)→lo.length + locs l≤L→bBd Q L (rowR T tx lo l).1
 | [],lo,lo',made,_,_,_,_,_=>by unfold rowR bBd;trivial
 | a :: l,lo,lo',made,h,c,hl,ht,hL=>by
  unfold bOk at h
  unfold ckB at c
  unfold said at ht
  unfold locs at hL
  unfold rowR bBd
  obtain ⟨q,e,lq⟩:=stR_ext (T:=T) (tx:=tx) (lo:=lo) (s_okS a h.1)
  refine ⟨st_bd (L:=L) hN htx a lo lo' made h.1 c.1 hl (fun s hs=>ht s (List.mem_append_left _ hs)) (by omega),?_⟩
  exact row_bd (L:=L) hN htx l (stR T tx lo a).2 (nextL lo' a) (made + locs1 a) h.2 c.2 (next_in (s_okS a h.1) hl) (fun s hs=>ht s (List.mem_append_right _ hs)) (by rw [e,List.length_append,lq];omega)
end
mutual
theorem loc_s {T : List Nm} {F : List Nat} : ∀ (a : Ps) (lo : List S) (made : Nat),okS a→ckS T F lo made a→locs1 a=0∨made + locs1 a≤16
 | .mk k n s ar b e,lo,made,h,c=>by
  unfold okS at h
  obtain ⟨hK,_,hb,he⟩:=h
  unfold ckS at c
  obtain ⟨_,⟨o2,o11,_⟩,cb,ce⟩:=c
  have i1:=loc_b b _ _ hb cb
  have i2:=loc_b e _ _ he ce
  unfold locs1
  by_cases c2 : k=2
  ·obtain rfl:=hK.1 (by omega)
   obtain rfl:=hK.2 (by omega)
   have h1:=o2 c2
   subst c2
   have h3 : mine 2=1:=rfl
   simp only [locs]
   omega
  ·by_cases c11 : k=11
   ·have h1:=o11 c11
    rw [if_pos c11] at i1 i2
    subst c11
    have h3 : mine 11=2:=rfl
    omega
   ·rw [if_neg c11] at i1 i2
    have h3 : mine k=0:=by unfold mine;rw [if_neg c2,if_neg c11]
    omega
theorem loc_b {T : List Nm} {F : List Nat} : ∀ (l : List Ps) (lo : List S) (made : Nat),okB l→ckB T F lo made l→locs l=0∨made + locs l≤16
 | [],_,_,_,_=>.inl (by simp [locs])
 | a :: l,lo,made,h,c=>by
  unfold okB at h
  unfold ckB at c
  have h1:=loc_s a lo made h.1 c.1
  have h2:=loc_b l _ _ h.2 c.2
  unfold locs
  omega
end
mutual
theorem dE_bind {t : List Nm} {tx lo : List S} : ∀ (a : Pe) (m : Nat),dE m (bindE (exR t tx lo) a)=dE m a
 | .mk k o n s ar,m=>by
  have h:=dEs_bind (t:=t) (tx:=tx) (lo:=lo) ar (m - 1)
  obtain ⟨k2,o2,n2,s2,e⟩ : ∃ k2 o2 n2 s2,exR t tx lo k o n s (bindEs (exR t tx lo) ar)=.mk k2 o2 n2 s2 (bindEs (exR t tx lo) ar):=by
   generalize bindEs (exR t tx lo) ar=z
   unfold exR
   repeat' split
   all_goals exact ⟨_,_,_,_,rfl⟩
  unfold bindE
  rw [e]
  simp only [dE,h]
theorem dEs_bind {t : List Nm} {tx lo : List S} : ∀ (l : List Pe) (m : Nat),dEs m (bindEs (exR t tx lo) l)=dEs m l
 | [],_=>by simp [bindEs,dEs]
 | a :: l,m=>by simp only [bindEs,dEs,dE_bind a m,dEs_bind l m]
end
mutual
theorem dS_stR {t : List Nm} {tx : List S} : ∀ (a : Ps) (m : Nat) (lo : List S),dS m (stR t tx lo a).1≤dS m a
 | .mk k n s ar b e,m,lo=>by
  have h1:=dEs_bind (t:=t) (tx:=tx) (lo:=lo) ar m
  have b1:=(dB_rowR (t:=t) (tx:=tx) b m lo).1
  have b2:=(dB_rowR (t:=t) (tx:=tx) b m (lo ++ [s] ++ List.replicate 1 [])).1
  have b3:=(dB_rowR (t:=t) (tx:=tx) e m (lo ++ List.replicate (locs b) [])).1
  unfold stR
  repeat' split
  all_goals (simp only [dS,dB,h1];omega)
theorem dB_rowR {t : List Nm} {tx : List S} : ∀ (l : List Ps) (m : Nat) (lo : List S),dB m (rowR t tx lo l).1≤dB m l∧dL m (rowR t tx lo l).1≤dL m l
 | [],m,lo=>by simp [rowR,dB,dL]
 | a :: l,m,lo=>by
  have h1:=dS_stR (t:=t) (tx:=tx) a (m - 1) lo
  have h2:=dS_stR (t:=t) (tx:=tx) a m lo
  have h3:=(dB_rowR (t:=t) (tx:=tx) l (m - 1) (stR t tx lo a).2).2
  have h4:=(dB_rowR (t:=t) (tx:=tx) l m (stR t tx lo a).2).2
  unfold rowR
  simp only [dB,dL]
  refine ⟨?_,by omega⟩
  split <;> omega
end
mutual
theorem dE_succ : ∀ (a : Pe) (m : Nat),dE m a≤dE (m + 1) a
 | .mk k o n s ar,m=>by
  have h:=dEs_succ ar (m - 1)
  simp only [dE]
  by_cases h1 : 1 < m
  ·rw [if_pos h1,if_pos (by omega)]
   rw [show m - 1 + 1=m + 1 - 1 by omega] at h
   omega
  ·rw [if_neg h1]
   split <;> omega
theorem dEs_succ : ∀ (l : List Pe) (m : Nat),dEs m l≤dEs (m + 1) l
 | [],_=>by simp [dEs]
 | a :: l,m=>by
  have h1:=dE_succ a m
  have h2:=dEs_succ l m
  simp only [dEs]
  omega
end
def GdR (Q : Tn) (p l : Int) (r : List Ps) : Prop:=∃ L : Nat,l=(L : Int)∧p≤l∧L≤24∧bBd Q L r∧r.length≤256∧dB 65 r≤32∧nB r≤1048576
def Gd (Q : Tn) (m : Mp) : Prop:=Even m∧∀ (i : Nat) (p l : Int) (r : List Ps),m.ps[i]?=some p→m.ls[i]?=some l→m.rs[i]?=some r→GdR Q p l r
theorem snoc_get {α : Type} {l : List α} {x y : α} {i : Nat} (h : (l ++ [x])[i]?=some y) : (i < l.length∧l[i]?=some y)∨(i=l.length∧x=y):=by
 have hi:=(List.getElem?_eq_some_iff.1 h).1
 rw [List.length_append] at hi
 simp only [List.length_cons,List.length_nil] at hi
 by_cases hlt : i < l.length
 ·rw [List.getElem?_append_left hlt] at h
  exact .inl ⟨hlt,h⟩
 ·obtain rfl : i=l.length:=by omega
  rw [List.getElem?_append_right (Nat.le_refl _),Nat.sub_self] at h
  exact .inr ⟨rfl,by simpa using h⟩
theorem gd_m0 (Q : Tn) : Gd Q m0:=⟨⟨rfl,rfl⟩,by intro i p l r h;simp [m0] at h⟩
section
variable {T : List Nm} {F : List Nat} {Q : Tn} {tx : List S} (hN : Nf T F Q) (htx : tx.length=Q.tx)
include hN htx
theorem rtn_gd {m : Mp} {pa : List S} {l : List Ps} (h : Gd Q m) (hp : pa.length≤8) (hr : RightB l) (hc : ckB T F pa 0 l) (hs : ∀ s ∈ said l,s ∈ tx) (hz : nB l≤1048576) : Gd Q (rtnI T tx m pa l):=by
 obtain ⟨⟨e1,e2⟩,hg⟩:=h
 refine ⟨rtn_even ⟨e1,e2⟩,?_⟩
 intro i p ll r h1 h2 h3
 unfold rtnI at h1 h2 h3
 simp only at h1 h2 h3
 rcases snoc_get h1 with ⟨i1,h1⟩ | ⟨i1,h1⟩
 ·rcases snoc_get h2 with ⟨i2,h2⟩ | ⟨i2,h2⟩
  ·rcases snoc_get h3 with ⟨i3,h3⟩ | ⟨i3,h3⟩
   ·exact hg i p ll r h1 h2 h3
   ·exfalso;omega
  ·exfalso;omega
 ·rcases snoc_get h2 with ⟨i2,h2⟩ | ⟨i2,h2⟩
  ·exfalso;omega
  ·rcases snoc_get h3 with ⟨i3,h3⟩ | ⟨i3,h3⟩
   ·exfalso;omega
   ·subst h1 h2 h3
    have hok:=right_okB hr
    have hle:=loc_b l pa 0 hok hc
    have e:=row_eq (t:=T) (tx:=tx) l pa hok
    refine ⟨pa.length + locs l,rfl,by omega,by omega,?_,?_,?_,?_⟩
    ·rw [e];exact row_bd hN htx l pa pa 0 hr.2.1 hc (fun _ h=>h) hs (Nat.le_refl _)
    ·rw [e,rowR_len];exact hr.2.2
    ·rw [e];exact Nat.le_trans (dB_rowR l 65 pa).1 hr.1
    ·exact Nat.le_trans (nB_rowI T tx l pa) hz
theorem whn_gd {m : Mp} {l : List Ex} (h : Gd Q m) (hw : WhenP (exPs l)) (hc : whenC T F l) (hz : nEs (exPs l) + 1≤1048576) : Gd Q (whnI T tx m (exPs l)).1:=by
 cases l with
 | nil=>exact h
 | cons x l2=>
  have hc:=hc x l2 rfl
  rcases hw with hw | ⟨a,ha,k2,k13,hR,hd⟩
  ·simp [exPs] at hw
  simp only [exPs] at ha hz k2 k13 ⊢
  obtain ⟨rfl,_⟩:=List.cons.inj ha
  show Gd Q (rtnI T tx m [] [.mk 12 0 [] [x.p] [] []])
  generalize x.p=a at *
  have hx : xOk false a:=by
   obtain ⟨k,o,n,s,ar⟩:=a
   have h2:=hR.2
   unfold xOk at h2 ⊢
   refine ⟨?_,h2.2⟩
   have h1:=h2.1
   simp only [headK] at k2 k13
   generalize ar.length=m at h1
   cases h1 with
   | num a b=>exact .num a b
   | text=>exact absurd rfl k2
   | name a=>exact .name a
   | neg=>exact .neg
   | not=>exact .not
   | random=>exact .random
   | title=>exact absurd rfl k13
   | bin a b=>exact .bin a b
   | has a=>exact .has a
   | prop a=>exact .prop a
   | call a b=>exact .call a b
   | tree a b=>exact .tree a b
   | self a b=>exact .self a b
  have hd4 : dE 64 a≤31:=Nat.le_trans (dE_succ a 64) hd
  refine rtn_gd hN htx h (by simp) ⟨?_,?_,by simp⟩ ?_ ?_ ?_
  ·simp only [dB,dS,dL,dEs]
   rw [if_pos (by omega)]
   simp only [Nat.max_zero,show (65 : Nat) - 1=64 from rfl]
   omega
  ·simp only [bOk,sOk,and_true]
   refine ⟨⟨rfl,by decide,⟨false,.one (by omega),fun h=>by cases h⟩,fun h=>absurd h (by decide)⟩,?_,by simp,by simp⟩
   intro y hy
   rw [List.mem_singleton] at hy
   rw [hy]
   exact hx
  ·simp only [ckB,ckS,ckEs,and_true]
   refine ⟨hc,?_⟩
   refine ⟨fun x=>?_,fun x=>?_,fun x=>?_,fun x=>?_,fun x=>?_,fun x=>?_⟩ <;> (exfalso;omega)
  ·intro s hs
   simp only [said,said1,List.append_nil] at hs
   unfold saidA at hs
   rw [List.mem_filterMap] at hs
   obtain ⟨y,hy,e⟩:=hs
   rw [List.mem_singleton] at hy
   rw [hy] at e
   obtain ⟨k,o,n,s2,ar⟩:=a
   simp only [headK] at k2
   simp [k2] at e
  ·simp only [nB,nS,nEs,List.length_nil] at hz ⊢
   omega
theorem xws_gd : ∀ (l : List Xt) (r : Mp × List Wy),Gd Q r.1→(∀ x ∈ l,WhenP (exPs x.wh.l))→(∀ x ∈ l,whenC T F x.wh.l)→(l.map Xt.m).sum≤1048576→Gd Q (l.foldl (xwI T tx) r).1
 | [],_,h,_,_,_=>h
 | x :: l,r,h,h1,h2,hz=>by
  rw [List.map_cons,List.sum_cons] at hz
  have hx : Xt.m x=1 + (x.to.length + 1) + (x.els.length + 1) + (nEs (exPs x.wh.l) + 1):=rfl
  exact xws_gd l (xwI T tx r x) (whn_gd hN htx h (h1 x (List.mem_cons_self ..)) (h2 x (List.mem_cons_self ..)) (by omega)) (fun y hy=>h1 y (List.mem_cons_of_mem _ hy)) (fun y hy=>h2 y (List.mem_cons_of_mem _ hy)) (by omega)
theorem obs_gd {pl : List Int} : ∀ (l : List Ob) (r : Mp × List Tp),Gd Q r.1→(∀ o ∈ l,ObP o)→(∀ o ∈ l,ObC T F o)→(l.map Ob.m).sum≤1048576→Gd Q (obsI T tx pl r l).1
 | [],_,h,_,_,_=>h
 | o :: l,r,h,h1,h2,hz=>by
  rw [List.map_cons,List.sum_cons] at hz
  have hx : (o.xt.l.map Xt.m).sum≤Ob.m o:=by unfold Ob.m;omega
  have p1:=h1 o (List.mem_cons_self ..)
  have p2:=h2 o (List.mem_cons_self ..)
  exact obs_gd l (obwI T tx pl r o) (xws_gd hN htx o.xt.l (r.1,[]) h (fun x hx=>(p1.2.2.2.2.2.2 x hx).2.2.2) p2.2.2.2 (by omega)) (fun y hy=>h1 y (List.mem_cons_of_mem _ hy)) (fun y hy=>h2 y (List.mem_cons_of_mem _ hy)) (by omega)
theorem des_gd : ∀ (l : List Rl) (r : Mp × List De),Gd Q r.1→(∀ x ∈ l,RlP x)→(∀ x ∈ l,whenC T F x.wh.l∧ckB T F [] 0 (stPs x.body.l))→(∀ x ∈ l,∀ s ∈ said (stPs x.body.l),s ∈ tx)→(l.map Rl.m).sum≤1048576→Gd Q (desI T tx r l).1
 | [],_,h,_,_,_,_=>h
 | x :: l,r,h,h1,h2,h3,hz=>by
  rw [List.map_cons,List.sum_cons] at hz
  have hx : Rl.m x=(x.vb.length + 1) + 1 + (x.no.length + 1) + (x.se.length + 1) + (nEs (exPs x.wh.l) + 1) + (nB (stPs x.body.l) + 1):=rfl
  have p1:=h1 x (List.mem_cons_self ..)
  have p2:=h2 x (List.mem_cons_self ..)
  refine des_gd l (dewI T tx r x) ?_ (fun y hy=>h1 y (List.mem_cons_of_mem _ hy)) (fun y hy=>h2 y (List.mem_cons_of_mem _ hy)) (fun y hy=>h3 y (List.mem_cons_of_mem _ hy)) (by omega)
  exact rtn_gd hN htx (whn_gd hN htx h p1.2.2.2.1 p2.1 (by omega)) (by simp) p1.2.2.2.2 p2.2 (h3 x (List.mem_cons_self ..)) (by omega)
theorem fns_gd : ∀ (l : List BindO.Fn) (r : Mp × List Int),Gd Q r.1→(∀ x ∈ l,FnP 8 x)→(∀ x ∈ l,ckB T F x.ps.l 0 (stPs x.body.l))→(∀ x ∈ l,∀ s ∈ said (stPs x.body.l),s ∈ tx)→(l.map BindO.Fn.m).sum≤1048576→Gd Q (fnsI T tx r l).1
 | [],_,h,_,_,_,_=>h
 | x :: l,r,h,h1,h2,h3,hz=>by
  rw [List.map_cons,List.sum_cons] at hz
  have hx : BindO.Fn.m x=(x.nm.length + 1) + ((x.ps.l.map fun x=>x.length + 1).sum + 1) + (nB (stPs x.body.l) + 1):=rfl
  have p1:=h1 x (List.mem_cons_self ..)
  have p8:=p1.2.1.1
  refine fns_gd l (fnwI T tx r x) ?_ (fun y hy=>h1 y (List.mem_cons_of_mem _ hy)) (fun y hy=>h2 y (List.mem_cons_of_mem _ hy)) (fun y hy=>h3 y (List.mem_cons_of_mem _ hy)) (by omega)
  exact rtn_gd hN htx h (by omega) p1.2.2 (h2 x (List.mem_cons_self ..)) (h3 x (List.mem_cons_self ..)) (by omega)
theorem dms_gd : ∀ (l : List BindO.Fn) (r : Mp × List Int),Gd Q r.1→(∀ x ∈ l,FnP 0 x)→(∀ x ∈ l,ckB T F [] 0 (stPs x.body.l))→(∀ x ∈ l,∀ s ∈ said (stPs x.body.l),s ∈ tx)→(l.map BindO.Fn.m).sum≤1048576→Gd Q (dmsI T tx r l).1
 | [],_,h,_,_,_,_=>h
 | x :: l,r,h,h1,h2,h3,hz=>by
  rw [List.map_cons,List.sum_cons] at hz
  have hx : BindO.Fn.m x=(x.nm.length + 1) + ((x.ps.l.map fun x=>x.length + 1).sum + 1) + (nB (stPs x.body.l) + 1):=rfl
  refine dms_gd l (dmwI T tx r x) ?_ (fun y hy=>h1 y (List.mem_cons_of_mem _ hy)) (fun y hy=>h2 y (List.mem_cons_of_mem _ hy)) (fun y hy=>h3 y (List.mem_cons_of_mem _ hy)) (by omega)
  exact rtn_gd hN htx h (by simp) (h1 x (List.mem_cons_self ..)).2.2 (h2 x (List.mem_cons_self ..)) (h3 x (List.mem_cons_self ..)) (by omega)
end
theorem num_gen {so : So} {T : List Nm} (h : Mk (ens so) T) {s : S} {k : Int} (hs : IsN T k s) : 0≤ofN T k s∧(k=1→ofN T k s < 4 + (so.fl.l.length : Int))∧(k=2→ofN T k s < (so.pr.l.length : Int))∧(k=3→ofN T k s < (so.gl.l.length : Int))∧(k=4→ofN T k s < (so.ob.l.length : Int) + 2)∧(k=6→ofN T k s < (so.fn.l.length : Int))∧(k=7→ofN T k s < (so.dm.l.length : Int)):=by
 obtain ⟨h1,h2⟩:=hs
 unfold hasN at h1
 cases hf : findN T s with
 | none=>rw [hf] at h1;cases h1
 | some x=>
  unfold getN at h2
  rw [hf] at h2
  simp only [Option.getD_some] at h2
  have hx : x ∈ T:=List.mem_of_find?_eq_some hf
  have e : ofN T k s=x.2.2:=by unfold ofN;rw [hf];simp [h2]
  rw [e]
  rcases (h.mem x).1 hx with hb | ⟨y,hy,rfl⟩
  ·simp only [base,List.mem_cons,List.not_mem_nil,or_false] at hb
   rcases hb with rfl | rfl | rfl | rfl <;> simp only at h2 ⊢ <;> refine ⟨by omega,fun _=>by omega,fun _=>by omega,fun _=>by omega,fun _=>by omega,fun _=>by omega,fun _=>by omega⟩
  ·simp only at h2 ⊢
   unfold ens ens1 at hy
   simp only [List.mem_append,List.mem_mapIdx,List.length_map] at hy
   rcases hy with (((((⟨i,hi,rfl⟩ | ⟨i,hi,rfl⟩) | ⟨i,hi,rfl⟩) | ⟨i,hi,rfl⟩) | ⟨i,hi,rfl⟩) | ⟨i,hi,rfl⟩) | ⟨i,hi,rfl⟩
   all_goals simp only at h2 ⊢
   all_goals refine ⟨by omega,fun _=>by omega,fun _=>by omega,fun _=>by omega,fun _=>by omega,fun _=>by omega,fun _=>by omega⟩
def tnOf (p : Bp) : Tn:=⟨p.gl.length,p.tx.length,p.pr.length,p.da.length,p.fl,p.fu,p.m.ps⟩
theorem nf_of {so : So} {T : List Nm} {tx : List S} {b : Bo} (hb : Bo.p b=bookI T tx so) (hm : Mk (ens so) T) (ho : so.ob.l.length≤126) : Nf T (pars so.fn.l) (tnOf (bookI T tx so)):=by
 obtain ⟨_,_,l3⟩:=book_lens hb
 have e7 : (bookI T tx so).da.length=so.dm.l.length:=by rw [← hb];exact l3
 have e6 : (bookI T tx so).fu=b.fu.l:=by rw [← hb];rfl
 have e5 : (bookI T tx so).m.ps=b.pa.l:=by rw [← hb];rfl
 have e2 : (bookI T tx so).pr.length=so.pr.l.length:=by simp [bookI,prl]
 have e3 : (bookI T tx so).gl.length=so.gl.l.length:=by simp [bookI]
 have e1 : (bookI T tx so).fl=4 + (so.fl.l.length : Int):=rfl
 refine ⟨fun s hs=>?_,fun s hs=>?_,fun s hs=>?_,fun s hs=>?_,fun s hs=>?_,fun s hs=>?_⟩
 ·have h:=num_gen hm hs;simp only [tnOf,e1];exact ⟨h.1,h.2.1 rfl⟩
 ·have h:=num_gen hm hs;simp only [tnOf,e2];exact ⟨h.1,h.2.2.1 rfl⟩
 ·have h:=num_gen hm hs;simp only [tnOf,e3];exact ⟨h.1,h.2.2.2.1 rfl⟩
 ·have h:=num_gen hm hs;have h2:=h.2.2.2.2.1 rfl;omega
 ·have h:=num_gen hm hs
  have h2:=h.2.2.2.2.2.1 rfl
  have h0:=h.1
  obtain ⟨i,hi⟩ : ∃ i : Nat,ofN T 6 s=(i : Int):=⟨(ofN T 6 s).toNat,by omega⟩
  have hlt : i < so.fn.l.length:=by omega
  obtain ⟨k,k1,k2⟩:=book_fn hb hlt
  refine ⟨i,so.fn.l[i].ps.l.length,hi,by unfold pars;simp [hlt],i,k,rfl,?_,?_⟩
  ·simp only [tnOf,e6];exact k1
  ·simp only [tnOf,e5];exact k2
 ·have h:=num_gen hm hs;simp only [tnOf,e7];exact ⟨h.1,h.2.2.2.2.2.2 rfl⟩
theorem said_in {so : So} {s : S} : (∀ x ∈ so.ru.l,s ∈ said (stPs x.body.l)→s ∈ (adds so).foldl wth [])∧(∀ x ∈ so.fn.l,s ∈ said (stPs x.body.l)→s ∈ (adds so).foldl wth [])∧(∀ x ∈ so.dm.l,s ∈ said (stPs x.body.l)→s ∈ (adds so).foldl wth []):=by
 refine ⟨fun x hx hs=>?_,fun x hx hs=>?_,fun x hx hs=>?_⟩
 all_goals
  rw [BnP.wths_mem]
  refine .inr ?_
  unfold adds ruT fnT
  simp only [List.mem_append,List.mem_flatMap]
 ·exact .inl (.inl (.inr ⟨x,hx,hs⟩))
 ·exact .inl (.inr ⟨x,hx,hs⟩)
 ·exact .inr ⟨x,hx,hs⟩
theorem book_gd {so : So} {T : List Nm} {tx : List S} {b : Bo} (hb : Bo.p b=bookI T tx so) (htx : tx=(adds so).foldl wth []) (hm : Mk (ens so) T) (hp : SoP so) (hc : SoC T so) (hz : So.m so≤1048576) : Gd (tnOf (bookI T tx so)) (bookI T tx so).m:=by
 have hN:=nf_of hb hm hp.2.2.2.2.1
 have ht : tx.length=(tnOf (bookI T tx so)).tx:=rfl
 have e : So.m so=(so.ti.length + 1) + (so.by_.length + 1) + (so.st.length + 1) + 1 + 1 + ((so.fl.l.map fun x=>x.length + 1).sum + 1) + ((so.pr.l.map Pr.m).sum + 1) + ((so.gl.l.map Pr.m).sum + 1) + ((so.ob.l.map Ob.m).sum + 1) + ((so.vb.l.map Vb.m).sum + 1) + ((so.ru.l.map Rl.m).sum + 1) + ((so.fn.l.map BindO.Fn.m).sum + 1) + ((so.dm.l.map BindO.Fn.m).sum + 1):=rfl
 have hS:=fun s=>said_in (so:=so) (s:=s)
 rw [← htx] at hS
 generalize tnOf (bookI T tx so)=Q at hN ht ⊢
 show Gd Q (dmsI T tx ((fnsI T tx ((desI T tx ((obsI T tx (prl so) (m0,th2 T tx (prl so) so.st) so.ob.l).1,[]) so.ru.l).1,[]) so.fn.l).1,[]) so.dm.l).1
 refine dms_gd hN ht so.dm.l _ ?_ hp.2.2.2.2.2.2.2.2.1.2 hc.2.2.2 (fun x hx s hs=>(hS s).2.2 x hx hs) (by omega)
 refine fns_gd hN ht so.fn.l _ ?_ hp.2.2.2.2.2.2.2.1.2 hc.2.2.1 (fun x hx s hs=>(hS s).2.1 x hx hs) (by omega)
 refine des_gd hN ht so.ru.l _ ?_ hp.2.2.2.2.2.2.2.2.2.2.2.1 hc.2.1 (fun x hx s hs=>(hS s).1 x hx hs) (by omega)
 exact obs_gd hN ht so.ob.l _ (gd_m0 _) hp.2.2.2.2.2.2.2.2.2.1 hc.1 (by omega)
theorem book_rt {so : So} {T : List Nm} {tx : List S} {b : Bo} (hb : Bo.p b=bookI T tx so) (htx : tx=(adds so).foldl wth []) (hm : Mk (ens so) T) (hp : SoP so) (hc : SoC T so) (hz : So.m so≤1048576) :
  (b.pa.l.length=b.rs.l.length∧b.lo.l.length=b.rs.l.length)∧∀ i (h : i < b.rs.l.length),∃ (p : Int) (L : Nat),b.pa.l[i]?=some p∧b.lo.l[i]?=some (L : Int)∧p≤(L : Int)∧L≤24∧bBd (tnOf (Bo.p b)) L (stPs b.rs.l[i].l)∧b.rs.l[i].l.length≤256∧dB 65 (stPs b.rs.l[i].l)≤32∧nB (stPs b.rs.l[i].l)≤1048576:=by
 have hg:=book_gd hb htx hm hp hc hz
 rw [← hb] at hg
 obtain ⟨⟨e1,e2⟩,h⟩:=hg
 have e1' : b.pa.l.length=b.rs.l.length:=by simpa [Bo.p] using e1
 have e2' : b.lo.l.length=b.rs.l.length:=by simpa [Bo.p] using e2
 refine ⟨⟨e1',e2'⟩,fun i hi=>?_⟩
 obtain ⟨L,h1,h2,h3,h4,h5,h6,h7⟩:=h i (b.pa.l[i]'(by rw [e1'];exact hi)) (b.lo.l[i]'(by rw [e2'];exact hi)) (stPs b.rs.l[i].l) (show b.pa.l[i]?=_ from List.getElem?_eq_getElem (by rw [e1'];exact hi)) (show b.lo.l[i]?=_ from List.getElem?_eq_getElem (by rw [e2'];exact hi)) (by simp [Bo.p,hi])
 rw [stPs_map,List.length_map] at h5
 exact ⟨_,L,List.getElem?_eq_getElem (by rw [e1'];exact hi),by rw [← h1];exact List.getElem?_eq_getElem (by rw [e2'];exact hi),by omega,h3,h4,h5,h6,h7⟩
theorem book_sz {so : So} {T : List Nm} {tx : List S} {b : Bo} (hb : Bo.p b=bookI T tx so) (htx : tx=(adds so).foldl wth []) (hz : So.m so≤1048576) :
  b.fu.l.length≤2097152∧b.pa.l.length≤4194304∧b.tx.l.length≤4194304∧b.pr.l.length≤4194304∧b.gl.l.length≤4194304∧b.da.l.length≤4194304:=by
 have e : So.m so=(so.ti.length + 1) + (so.by_.length + 1) + (so.st.length + 1) + 1 + 1 + ((so.fl.l.map fun x=>x.length + 1).sum + 1) + ((so.pr.l.map Pr.m).sum + 1) + ((so.gl.l.map Pr.m).sum + 1) + ((so.ob.l.map Ob.m).sum + 1) + ((so.vb.l.map Vb.m).sum + 1) + ((so.ru.l.map Rl.m).sum + 1) + ((so.fn.l.map BindO.Fn.m).sum + 1) + ((so.dm.l.map BindO.Fn.m).sum + 1):=rfl
 obtain ⟨_,l2,l3⟩:=book_lens hb
 have a1:=sum_len (m:=BindO.Fn.m) (fun _=>by unfold BindO.Fn.m;omega) so.fn.l
 have a2:=sum_len (m:=BindO.Fn.m) (fun _=>by unfold BindO.Fn.m;omega) so.dm.l
 have a3:=sum_len (m:=Pr.m) (fun _=>by unfold Pr.m;omega) so.pr.l
 have a4:=sum_len (m:=Pr.m) (fun _=>by unfold Pr.m;omega) so.gl.l
 have a5:=sum_len (m:=Rl.m) (fun _=>by unfold Rl.m;omega) so.ru.l
 have p1 : b.pr.l.length=so.pr.l.length:=by have:=congrArg (fun p : Bp=>p.pr.length) hb;simpa [Bo.p,bookI,prl] using this
 have p2 : b.gl.l.length=so.gl.l.length:=by have:=congrArg (fun p : Bp=>p.gl.length) hb;simpa [Bo.p,bookI] using this
 have h0 : m0.le 0:=⟨Nat.le_refl _,Nat.le_refl _,Nat.le_refl _⟩
 have h1:=obsI_le (t:=T) (tx:=tx) (pl:=prl so) so.ob.l (m0,th2 T tx (prl so) so.st) 0 h0
 have h2:=desI_le (t:=T) (tx:=tx) so.ru.l ((obsI T tx (prl so) (m0,th2 T tx (prl so) so.st) so.ob.l).1,[]) _ h1
 have h3:=fnsI_le (t:=T) (tx:=tx) so.fn.l ((desI T tx ((obsI T tx (prl so) (m0,th2 T tx (prl so) so.st) so.ob.l).1,[]) so.ru.l).1,[]) _ h2
 have h4:=dmsI_le (t:=T) (tx:=tx) so.dm.l ((fnsI T tx ((desI T tx ((obsI T tx (prl so) (m0,th2 T tx (prl so) so.st) so.ob.l).1,[]) so.ru.l).1,[]) so.fn.l).1,[]) _ h3
 have p3 : b.pa.l.length=(dmsI T tx ((fnsI T tx ((desI T tx ((obsI T tx (prl so) (m0,th2 T tx (prl so) so.st) so.ob.l).1,[]) so.ru.l).1,[]) so.fn.l).1,[]) so.dm.l).1.ps.length:=congrArg (fun p : Bp=>p.m.ps.length) hb
 have h5:=h4.1
 rw [← p3] at h5
 have ht : b.tx.l=(adds so).foldl wth []:=(book_tx hb).trans htx
 have ht2:=wths_len (adds so) []
 rw [← ht] at ht2
 have f1:=flat_len obT_len so.ob.l
 have f2:=ruT_len so.ru.l
 have f3:=fnT_len so.fn.l
 have f4:=fnT_len so.dm.l
 have ha : (adds so).length=3 + (so.ob.l.flatMap obT).length + (ruT so.ru.l).length + (fnT so.fn.l).length + (fnT so.dm.l).length:=by
  unfold adds
  simp only [List.length_append,List.length_cons,List.length_nil]
 rw [List.length_nil] at ht2
 refine ⟨by omega,by omega,by omega,by omega,by omega,by omega⟩
end Go.Proofs.YteibcfpepdbflaaGreat.BoP
