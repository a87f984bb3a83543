/- Names found by halving: the program's names.Find and Of, over names that rise. Conditions: lengths within the reach; the names rise. -/
import Derived.Test.YteibcfpepdbflaaGreatBindO
import Derived.Lib.SliceRun
import Derived.Laws.ResultCell
import Derived.Laws.Rows
import Derived.Laws.Cover1
import Derived.Deep.DeepCutAuto
import Derived.Outline
import Derived.Deep.RegionHeld3
import Derived.Deep.QuietTactic
import Derived.BigQuiet
import Derived.IntWalk
open Go.Lib renaming hid → hI
namespace Go.Proofs.YteibcfpepdbflaaGreat.BindW
open Go Go.RowKit BindP BindD
open Byt (str)
theorem toList_str (a : S) : (str a).toList=a:=by rw [ByteArray.toList_eq];rfl
theorem eq_q {a b : S} (h : a=b) : ((str a).toList == (str b).toList)=true:=by subst h;simp
theorem ne_q {a b : S} (h : a ≠ b) : ((str a).toList == (str b).toList)=false:=by rw [toList_str,toList_str];simpa using h
set_option maxRecDepth 100000 in
theorem place_i {A : Option Addr} {n c : Nat} (l : List S) (s : S) (w : World) (hr : Sq.Rd sv w A n l) (hn : n≤17592186043904) :
  Calls Tryz.prog 22 #[.slice A n c,.string (str s)] w fun e w'=>e=.returned (.int .i64 (place l s))∧w'=w:=by
 have HR:=hI hr
 have HLN:=hI hr.len
 clear hr
 go_enter Tryz.func22,Tryz.ntmps22
 go_wp2_with fail
 go_loop [5] (fun i=>∃ (z : Int) (j : Nat),z=(j : Int) - 1∧j≤n∧i=.int .i64 z∧Hid (∀ k x,j≤k→l[k]?=some x→x ≠ s)) (fun i=>(intOf i + 1).toNat)
 case atStart=>exact ⟨_,n,rfl,Nat.le_refl _,by go_num,hI fun k x hk hx=>by
  have:=(List.getElem?_eq_some_iff.1 hx).1
  rw [← HLN.out] at this
  omega⟩
 case round=>
  obtain ⟨z,j,hz,hj,rfl,HT⟩:=hrel
  cases j with
  | zero=>
   obtain rfl : z=-1:=by rw [hz];rfl
   have HV:=hI (show place l s=-1 from place_none l s fun c=>by
    obtain ⟨k,hk,e⟩:=List.getElem_of_mem c
    exact HT.out k s (Nat.zero_le _) (by rw [List.getElem?_eq_getElem hk,e]) rfl)
   clear hz
   go_wp2_with fail
   go_ret
   exact ⟨by rw [HV.out] <;> rfl,rfl⟩
  | succ k=>
   obtain rfl : z=(k : Int):=by omega
   obtain ⟨b,o,rfl,hb,hl,hc⟩:=HR.out.at_ (show k < n by omega)
   obtain ⟨y,hy⟩ : ∃ y,l[k]=y:=⟨_,rfl⟩
   rw [hy] at hc
   unfold sv at hc
   have HLY:=hI (show l[k]?=some y by rw [List.getElem?_eq_getElem hl,hy])
   have k0 : (0 : Int)≤(k : Int):=by omega
   have k1 : (k : Int) < (n : Int):=by omega
   clear hz hy hl
   by_cases hys : y=s
   ·have HV:=hI (show place l s=k from place_last l s k (by rw [HLY.out,hys]) fun j x hj hx=>HT.out j x hj hx)
    have q:=eq_q hys
    go_wp2_with fail
    go_ret
    exact ⟨by rw [HV.out] <;> rfl,rfl⟩
   ·have HT2:=hI (show ∀ j x,k≤j→l[j]?=some x→x ≠ s from fun j x hj hx=>by
     rcases Nat.eq_or_lt_of_le hj with e | e
     ·subst e
      rw [HLY.out] at hx
      injection hx with hx
      rw [← hx];exact hys
     ·exact HT.out j x e hx)
    have q:=ne_q hys
    go_wp2_with fail
    go_round
    case rel=>exact ⟨_,k,rfl,by omega,by go_num,HT2⟩
    case measure=>simp [intOf]
def nmE (x : Nm) : List Value:=[.string (str x.1),.int .i64 x.2.1,.int .i64 x.2.2]
theorem nmE_len (x : Nm) : (nmE x).length=3:=rfl
def getN (t : List Nm) (s : S) : Nm:=(findN t s).getD ([],0,0)
def hasN (t : List Nm) (s : S) : Bool:=(findN t s).isSome
theorem nkind_get (t : List Nm) (s : S) : nkind t s=(getN t s).2.1:=by unfold nkind getN;cases findN t s <;> rfl
theorem nnum_get (t : List Nm) (s : S) : nnum t s=(getN t s).2.2:=by unfold nnum getN;cases findN t s <;> rfl
theorem ofN_get (t : List Nm) (k : Int) (s : S) : ofN t k s=if hasN t s then (if (getN t s).2.1=k then (getN t s).2.2 else 0) else 0:=by unfold ofN getN hasN;cases findN t s <;> rfl
theorem find_at : ∀ (t : List Nm) (s : S) (j : Nat) (x : Nm),t[j]?=some x→x.1=s→(∀ (k : Nat) (y : Nm),k < j→t[k]?=some y→y.1 ≠ s)→findN t s=some x
 | [],_,_,_,h,_,_=>by simp at h
 | y :: t,s,0,x,h,hs,_=>by
  simp only [List.getElem?_cons_zero,Option.some.injEq] at h
  subst h
  unfold findN
  rw [List.find?_cons_of_pos (by simpa using hs)]
 | y :: t,s,j + 1,x,h,hs,hl=>by
  have h2:=find_at t s j x (by simpa using h) hs (fun k z hk hz=>hl (k + 1) z (by omega) (by simpa using hz))
  unfold findN at h2 ⊢
  rw [List.find?_cons_of_neg (by simpa using hl 0 y (by omega) rfl)]
  exact h2
theorem find_none (t : List Nm) (s : S) (h : ∀ (k : Nat) (y : Nm),t[k]?=some y→y.1 ≠ s) : findN t s=none:=by
 unfold findN
 rw [List.find?_eq_none]
 intro x hx
 obtain ⟨k,hk,rfl⟩:=List.getElem_of_mem hx
 simpa using h k _ (List.getElem?_eq_getElem hk)
def FindV (x : Nm) (b : Bool) (w : World) (e : Ending) (w' : World) : Prop:=e=.returned (.tuple #[.agg #[.string (str x.1),.int .i64 x.2.1,.int .i64 x.2.2],.bool b])∧Below w.heap.size w w'
theorem ret_ct {P : Program} {fn : Func} {Q : Ending→World→Prop} {a : Act} {w : World} {p u : Tmp} {ty : TypeId} {g : Nat} {t' : TypeId} {cs : Array Value} {fr : Nat × Nat} {d : TypeDesc} (hg : w.heap[g]?=some (.cells cs t' fr))
  (h : fn.results=#[.cell p ty,.tmp u]) (hp : a.tmps.getD p undef=.pointer (some ⟨g,0,none⟩)) (hu : P.underlying ty=some d) (hd : (match d with | .struct _ | .array _ _=>true | _=>false)=true) (hi : (P.info? ty).map (·.size)=some cs.size) (hdf : a.defers=[])
  (hq : Q (.returned (.tuple #[.agg cs,a.tmps.getD u undef])) w) : bodyPost P fn Q .ret a w:=by
 refine bodyPost_ret ?_ hdf hq
 rw [results_cell_tmp h]
 have hp' : a.tmps[p]?.getD undef=.pointer (some ⟨g,0,none⟩):=by simpa using hp
 simp [hp',asAddr,Result.andThen,run_loadVar_row w g t' ty cs fr _ hg hu hd hi]
theorem set3 {w : World} {g : Nat} {x0 x1 x2 y0 y1 y2 : Value} {t : TypeId} (h : w.heap[g]?=some (.cells #[x0,x1,x2] t (0,0))) : (((w.setCell ⟨g,0,none⟩ y0).setCell ⟨g,1,none⟩ y1).setCell ⟨g,2,none⟩ y2).heap[g]?=some (.cells #[y0,y1,y2] t (0,0)):=by
 simp [World.setCell,Array.getElem?_modify,h]
theorem set3_below {w0 w : World} {B g : Nat} {y0 y1 y2 : Value} (h : Below B w0 w) (hg : B≤g) : Below B w0 (((w.setCell ⟨g,0,none⟩ y0).setCell ⟨g,1,none⟩ y1).setCell ⟨g,2,none⟩ y2):=
 ((h.setCell (p:=⟨g,0,none⟩) hg _).setCell (p:=⟨g,1,none⟩) hg _).setCell (p:=⟨g,2,none⟩) hg _
theorem cells3 {w : World} {g : Nat} {x0 x1 x2 : Value} {t : TypeId} (h : w.heap[g]?=some (.cells #[x0,x1,x2] t (0,0))) : w.cell? ⟨g,0,none⟩=some x0∧w.cell? ⟨g,1,none⟩=some x1∧w.cell? ⟨g,2,none⟩=some x2∧∀ o,w.frozen? ⟨g,o,none⟩=false:=by
 refine ⟨by simp [World.cell?,h],by simp [World.cell?,h],by simp [World.cell?,h],fun o=>by simp [World.frozen?,h]⟩
set_option maxRecDepth 100000 in
theorem find_r {A : Option Addr} {n c : Nat} (t : List Nm) (s : S) (w : World) (hr : Sk.Rd nmE w A n t) (hn : n≤17592186043904) :
  Calls Tryz.prog 54 #[.slice A n c,.string (str s)] w (FindV (getN t s) (hasN t s) w):=by
 have HR:=hI hr
 have HLN:=hI hr.1
 clear hr
 go_enter Tryz.func54,Tryz.ntmps54
 obtain ⟨w0,hW⟩ : ∃ W,w.alloc (.cells #[.string ⟨#[]⟩,.int .i64 0,.int .i64 0] 116)=W:=⟨_,rfl⟩
 have hB : Below w.heap.size w w0:=by rw [← hW];exact (Below.refl _ _).alloc (Nat.le_refl _) _
 have HB:=hI hB
 have HX:=hI (show w0.heap[w.heap.size]?=some (.cells #[.string ⟨#[]⟩,.int .i64 0,.int .i64 0] 116 (0,0)) by rw [← hW];exact heap_alloc_new w _)
 have HR0:=hI (HR.out.below HB.out)
 clear hB
 go_wp2_with fail
 go_loop [6] (fun i=>∃ j : Nat,j≤n∧i=.int .i64 (j : Int)∧Hid (∀ (k : Nat) (x : Nm),k < j→t[k]?=some x→x.1 ≠ s)) (fun i=>n - (intOf i).toNat)
 case atStart=>exact ⟨0,Nat.zero_le _,rfl,hI fun k x hk=>by omega⟩
 case round=>
  obtain ⟨j,hj,rfl,HT⟩:=hrel
  by_cases hlt : j < n
  ·obtain ⟨b,o,rfl,hb,hl,hc⟩:=HR0.out.at_ nmE_len hlt
   obtain ⟨⟨y0,y1,y2⟩,hy⟩ : ∃ y,t[j]=y:=⟨_,rfl⟩
   rw [hy] at hc
   have c0 : w0.cell? ⟨b,o + j * 3,none⟩=some (.string (str y0)):=hc 0 _ rfl
   have c1 : w0.cell? ⟨b,o + j * 3 + 1,none⟩=some (.int .i64 y1):=hc 1 _ rfl
   have c2 : w0.cell? ⟨b,o + j * 3 + 2,none⟩=some (.int .i64 y2):=hc 2 _ rfl
   have HLY:=hI (show t[j]?=some (y0,y1,y2) by rw [List.getElem?_eq_getElem hl,hy])
   have k0 : (0 : Int)≤(j : Int):=by omega
   have k1 : (j : Int) < (n : Int):=by omega
   clear hy hl hc
   by_cases hys : y0=s
   ·have HV:=hI (find_at t s j _ HLY.out hys HT.out)
    subst hys
    have q:=eq_q (rfl : y0=y0)
    obtain ⟨z0,z1,z2,zf⟩:=cells3 HX.out
    go_wp2_with fail
    refine ret_ct (d:=_) (cs:=#[.string (str y0),.int .i64 y1,.int .i64 y2]) (t':=116) (fr:=(0,0)) (set3 HX.out) rfl rfl Tryz.underlying116 rfl (by kernel_rfl) rfl ?_
    unfold FindV getN hasN
    rw [HV.out]
    exact ⟨rfl,set3_below HB.out (Nat.le_refl _)⟩
   ·have q:=ne_q hys
    have HT2:=hI (show ∀ (k : Nat) (x : Nm),k < j + 1→t[k]?=some x→x.1 ≠ s from fun k x hk hx=>by
     rcases Nat.lt_or_eq_of_le (Nat.le_of_lt_succ hk) with e | e
     ·exact HT.out k x e hx
     ·subst e
      rw [HLY.out] at hx
      injection hx with hx
      rw [← hx];exact hys)
    go_wp2_with fail
    go_round
    case rel=>exact ⟨j + 1,by omega,by go_num,HT2⟩
    case measure=>simp [intOf];omega
  ·have HV:=hI (find_none t s fun k y hy=>HT.out k y (by have:=(List.getElem?_eq_some_iff.1 hy).1;rw [← HLN.out] at this;omega) hy)
   obtain ⟨z0,z1,z2,zf⟩:=cells3 HX.out
   have t1 : decide ((j : Int) < (n : Int))=false:=decide_eq_false (by omega)
   go_wp2_with fail
   refine ret_ct (d:=_) (cs:=#[.string ⟨#[]⟩,.int .i64 0,.int .i64 0]) (t':=116) (fr:=(0,0)) (set3 HX.out) rfl rfl Tryz.underlying116 rfl (by kernel_rfl) rfl ?_
   unfold FindV getN hasN
   rw [HV.out]
   exact ⟨rfl,set3_below HB.out (Nat.le_refl _)⟩
def errN (t : List Nm) (k : Int) (s : S) : Int:=if hasN t s then (if (getN t s).2.1=k then 0 else 12) else 11
def OfV (n e : Int) (w : World) (x : Ending) (w' : World) : Prop:=x=.returned (.tuple #[.int .i64 n,.int .i64 e])∧Below w.heap.size w w'
set_option maxRecDepth 100000 in
theorem of_r {A : Option Addr} {n c : Nat} (t : List Nm) (k : Int) (s : S) (w : World) (hr : Sk.Rd nmE w A n t) (hn : n≤17592186043904) :
  Calls Tryz.prog 77 #[.slice A n c,.int .i64 k,.string (str s)] w (OfV (ofN t k s) (errN t k s) w):=by
 have HG:=hI (ofN_get t k s)
 have HE:=hI (show errN t k s=if hasN t s then (if (getN t s).2.1=k then 0 else 12) else 11 from rfl)
 have HF:=hI (find_r (c:=c) t s w hr hn)
 obtain ⟨q,hq⟩ : ∃ q,hasN t s=q:=⟨_,rfl⟩
 obtain ⟨⟨y0,y1,y2⟩,hy⟩ : ∃ y,getN t s=y:=⟨_,rfl⟩
 rw [hq,hy] at HF HG HE
 clear hr hq hy
 go_enter Tryz.func77,Tryz.ntmps77
 cases q with
 | false=>
  have HG2:=hI (HG.out.trans (if_neg (by simp)))
  have HE2:=hI (HE.out.trans (if_neg (by simp)))
  go_wp2_with (go_at_call 54;refine HF.out.mono ?_;rintro e w1 ⟨rfl,hb⟩;have HB:=hI hb;clear hb)
  go_ret2
  exact ⟨by rw [HG2.out,HE2.out] <;> rfl,HB.out.alloc HB.out.size _⟩
 | true=>
  by_cases hk : y1=k
  ·have HG2:=hI (HG.out.trans ((if_pos rfl).trans (if_pos hk)))
   have HE2:=hI (HE.out.trans ((if_pos rfl).trans (if_pos hk)))
   have q1 : (y1 != k)=false:=by simpa using hk
   go_wp2_with (go_at_call 54;refine HF.out.mono ?_;rintro e w1 ⟨rfl,hb⟩;have HB:=hI hb;clear hb)
   go_ret2
   exact ⟨by rw [HG2.out,HE2.out] <;> rfl,HB.out.alloc HB.out.size _⟩
  ·have HG2:=hI (HG.out.trans ((if_pos rfl).trans (if_neg hk)))
   have HE2:=hI (HE.out.trans ((if_pos rfl).trans (if_neg hk)))
   have q1 : (y1 != k)=true:=by simpa using hk
   go_wp2_with (go_at_call 54;refine HF.out.mono ?_;rintro e w1 ⟨rfl,hb⟩;have HB:=hI hb;clear hb)
   go_ret2
   exact ⟨by rw [HG2.out,HE2.out] <;> rfl,HB.out.alloc HB.out.size _⟩
end Go.Proofs.YteibcfpepdbflaaGreat.BindW
namespace Go.Proofs.YteibcfpepdbflaaGreat.BindN
open Go Go.RowKit BindP BindD BindW
open Byt (str)
def lt (a b : S) : Bool:=Op.bytesLess a b
def cmpS (a b : S) : Int:=if lt a b then -1 else if a=b then 0 else 1
theorem isNaN_w (s : S) (w : World) : Calls Tryz.prog 133 #[.string (str s)] w fun e w'=>e=.returned (.bool false)∧w'=w:=by
 have q : ((str s).toList == (str s).toList)=true:=eq_q rfl
 go_enter Tryz.func133,Tryz.ntmps133
 go_wp2
 go_ret
 exact ⟨rfl,rfl⟩
set_option maxRecDepth 100000 in
theorem compare_w (a b : S) (w : World) : Calls Tryz.prog 128 #[.string (str a),.string (str b)] w fun e w'=>e=.returned (.int .i64 (cmpS a b))∧w'=w:=by
 have HC:=hI (show cmpS a b=if lt a b then -1 else if a=b then 0 else 1 from rfl)
 obtain ⟨q,hq⟩ : ∃ q,lt a b=q:=⟨_,rfl⟩
 have h1 : Op.bytesLess (str a).toList (str b).toList=q:=by rw [toList_str,toList_str];exact hq
 rw [hq] at HC
 clear hq
 go_enter Tryz.func128,Tryz.ntmps128
 cases q with
 | true=>
  have HC2:=hI (HC.out.trans (if_pos rfl))
  go_wp2_with (go_at_call 133;refine (isNaN_w _ _).mono ?_;rintro e w1 ⟨rfl,rfl⟩)
  go_ret
  exact ⟨by rw [HC2.out] <;> rfl,rfl⟩
 | false=>
  by_cases hab : a=b
  ·have HC2:=hI (HC.out.trans ((if_neg (by simp)).trans (if_pos hab)))
   subst hab
   have q:=eq_q (rfl : a=a)
   go_wp2_with (go_at_call 133;refine (isNaN_w _ _).mono ?_;rintro e w1 ⟨rfl,rfl⟩)
   go_ret
   exact ⟨by rw [HC2.out] <;> rfl,rfl⟩
  ·have HC2:=hI (HC.out.trans ((if_neg (by simp)).trans (if_neg hab)))
   have q:=ne_q hab
   clear hab
   go_wp2_with (go_at_call 133;refine (isNaN_w _ _).mono ?_;rintro e w1 ⟨rfl,rfl⟩)
   go_ret
   exact ⟨by rw [HC2.out] <;> rfl,rfl⟩
set_option maxRecDepth 100000 in
theorem cmp1_w (x : Nm) (b : S) (w : World) : Calls Tryz.prog 127 #[.agg #[.string (str x.1),.int .i64 x.2.1,.int .i64 x.2.2],.string (str b)] w fun e w'=>e=.returned (.int .i64 (cmpS x.1 b))∧Below w.heap.size w w':=by
 obtain ⟨x0,x1,x2⟩:=x
 have hb:=(Below.refl w.heap.size w).alloc (Nat.le_refl _) (.cells #[.string (str x0),.int .i64 x1,.int .i64 x2] 116)
 have HB:=hI hb
 clear hb
 go_enter Tryz.func127,Tryz.ntmps127
 go_wp2_with (go_at_call 128;refine (compare_w _ _ _).mono ?_;rintro e w1 ⟨rfl,rfl⟩)
 go_ret
 exact ⟨rfl,HB.out⟩
def Up (t : List Nm) : Prop:=∀ (i j : Nat) (x y : Nm),i < j→t[i]?=some x→t[j]?=some y→lt x.1 y.1=true
theorem lt_eq : ∀ (a b : S),lt a b=decide (a < b)
 | [],[]=>by simp [lt,Op.bytesLess]
 | [],_ :: _=>by simp [lt,Op.bytesLess]
 | _ :: _,[]=>by simp [lt,Op.bytesLess]
 | a :: x,b :: y=>by
  have h:=lt_eq x y
  unfold lt at h ⊢
  unfold Op.bytesLess
  rw [h]
  by_cases h1 : a < b
  ·simp [h1,List.cons_lt_cons_iff]
  ·by_cases h2 : a=b
   ·subst h2;simp
   ·simp [h1,h2,List.cons_lt_cons_iff]
theorem lt_irr (a : S) : lt a a=false:=by rw [lt_eq];simp
theorem lt_tr {a b c : S} (h : lt a b=true) (k : lt b c=true) : lt a c=true:=by
 rw [lt_eq] at h k ⊢
 exact decide_eq_true (List.lt_trans (of_decide_eq_true h) (of_decide_eq_true k))
def BsV (t : List Nm) (s : S) (w : World) (e : Ending) (w' : World) : Prop:=∃ k : Nat,e=.returned (.tuple #[.int .i64 (k : Int),.bool (hasN t s)])∧(hasN t s=true→t[k]?=some (getN t s))∧Below w.heap.size w w'
set_option maxRecDepth 100000 in
theorem search_w {A : Option Addr} {n c : Nat} (t : List Nm) (hu : Up t) (s : S) (w : World) (hr : Sk.Rd nmE w A n t) (hn : n≤17592186043904) :
  Calls Tryz.prog 126 #[.slice A n c,.string (str s),.func (.func 127) #[] #[]] w (BsV t s w):=by
 have HR:=hI hr
 have HLN:=hI hr.1
 have HU:=hI hu
 clear hr hu
 go_enter Tryz.func126,Tryz.ntmps126
 go_wp2_with fail
 go_loopw [9,10] (fun iv jv wr=>∃ i j : Nat,i≤j∧j≤n∧iv=.int .i64 (i : Int)∧jv=.int .i64 (j : Int)∧Hid (∀ (k : Nat) (x : Nm),k < i→t[k]?=some x→lt x.1 s=true)∧Hid (∀ (k : Nat) (x : Nm),j≤k→t[k]?=some x→lt x.1 s=false)∧Below w.heap.size w wr) (fun iv jv _=>(intOf jv).toNat - (intOf iv).toNat)
 case atStart=>exact ⟨0,n,Nat.zero_le _,Nat.le_refl _,rfl,rfl,hI fun k x hk=>by omega,hI fun k x hk hx=>by
  have:=(List.getElem?_eq_some_iff.1 hx).1
  rw [← HLN.out] at this
  omega,Below.refl _ _⟩
 case round=>
  obtain ⟨i,j,hij,hj,rfl,rfl,HLO,HHI,hb⟩:=hrel
  have HB:=hI hb
  clear hb
  by_cases hlt : i < j
  ·have k0 : (0 : Int)≤(i : Int):=by omega
   have k1 : (i : Int) < (j : Int):=by omega
   go_upto_region 5 with fail
   obtain ⟨m,hm⟩ : ∃ m : Nat,((i : Int) + (j : Int)) / 2=(m : Int):=⟨(i + j) / 2,by omega⟩
   have hmi : i≤m∧m < j:=by omega
   rw [hm]
   clear hm k0 k1
   obtain ⟨b,o,rfl,hb,hl,hc⟩:=(HR.out.below HB.out).at_ nmE_len (show m < n by omega)
   obtain ⟨⟨y0,y1,y2⟩,hy⟩ : ∃ y,t[m]=y:=⟨_,rfl⟩
   rw [hy] at hc
   have c0 : wr.cell? ⟨b,o + m * 3,none⟩=some (.string (str y0)):=hc 0 _ rfl
   have c1 : wr.cell? ⟨b,o + m * 3 + 1,none⟩=some (.int .i64 y1):=hc 1 _ rfl
   have c2 : wr.cell? ⟨b,o + m * 3 + 2,none⟩=some (.int .i64 y2):=hc 2 _ rfl
   have HLY:=hI (show t[m]?=some (y0,y1,y2) by rw [List.getElem?_eq_getElem hl,hy])
   have k0 : (0 : Int)≤(m : Int):=by omega
   have k1 : (m : Int) < (n : Int):=by omega
   obtain ⟨z,hz⟩ : ∃ z,cmpS y0 s=z:=⟨_,rfl⟩
   have HZ:=hI hz
   cases hq : lt y0 s with
   | true=>
    obtain rfl : z=-1:=by rw [← hz];unfold cmpS;rw [if_pos hq]
    have HL2:=hI (show ∀ (k : Nat) (x : Nm),k < m + 1→t[k]?=some x→lt x.1 s=true from fun k x hk hx=>by
     rcases Nat.lt_or_eq_of_le (Nat.le_of_lt_succ hk) with e | e
     ·exact lt_tr (HU.out k m x _ e hx HLY.out) hq
     ·subst e
      rw [HLY.out] at hx
      injection hx with hx
      rw [← hx];exact hq)
    clear hy hl hc hz hq
    go_wp2_with (go_at_call 127;refine (cmp1_w (y0,y1,y2) s _).mono ?_;rintro e w1 ⟨rfl,hb⟩;rw [HZ.out];have HB1:=hI (HB.out.trans (hb.mono HB.out.size));clear hb)
    go_roundw
    case rel=>exact ⟨m + 1,j,by omega,hj,by go_num,rfl,HL2,HHI,HB1.out⟩
    case measure=>simp [intOf];omega
   | false=>
    have hz2 : decide (z < 0)=false:=by
     rw [← hz];unfold cmpS;rw [if_neg (by rw [hq];simp)];split <;> rfl
    have HL2:=hI (show ∀ (k : Nat) (x : Nm),m≤k→t[k]?=some x→lt x.1 s=false from fun k x hk hx=>by
     rcases Nat.eq_or_lt_of_le hk with e | e
     ·subst e
      rw [HLY.out] at hx
      injection hx with hx
      rw [← hx];exact hq
     ·cases h : lt x.1 s with
      | false=>rfl
      | true=>have:=lt_tr (HU.out m k _ x e HLY.out hx) h;rw [hq] at this;cases this)
    clear hy hl hc hz hq
    go_wp2_with (go_at_call 127;refine (cmp1_w (y0,y1,y2) s _).mono ?_;rintro e w1 ⟨rfl,hb⟩;rw [HZ.out];have HB1:=hI (HB.out.trans (hb.mono HB.out.size));clear hb)
    go_roundw
    case rel=>exact ⟨i,m,by omega,by omega,rfl,rfl,HLO,HL2,HB1.out⟩
    case measure=>simp [intOf];omega
  ·obtain rfl : i=j:=by omega
   by_cases hin : i < n
   ·obtain ⟨b,o,rfl,hb,hl,hc⟩:=(HR.out.below HB.out).at_ nmE_len hin
    obtain ⟨⟨y0,y1,y2⟩,hy⟩ : ∃ y,t[i]=y:=⟨_,rfl⟩
    rw [hy] at hc
    have c0 : wr.cell? ⟨b,o + i * 3,none⟩=some (.string (str y0)):=hc 0 _ rfl
    have c1 : wr.cell? ⟨b,o + i * 3 + 1,none⟩=some (.int .i64 y1):=hc 1 _ rfl
    have c2 : wr.cell? ⟨b,o + i * 3 + 2,none⟩=some (.int .i64 y2):=hc 2 _ rfl
    have HLY:=hI (show t[i]?=some (y0,y1,y2) by rw [List.getElem?_eq_getElem hl,hy])
    have hq : lt y0 s=false:=HHI.out i _ (Nat.le_refl _) HLY.out
    have k0 : (0 : Int)≤(i : Int):=by omega
    have k1 : (i : Int) < (n : Int):=by omega
    clear hy hl hc
    have HNE:=hI (show ∀ (k : Nat) (x : Nm),k < i→t[k]?=some x→x.1 ≠ s from fun k x hk hx c=>by
     have h:=HLO.out k x hk hx
     rw [c,lt_irr] at h
     cases h)
    by_cases hys : y0=s
    ·subst hys
     have HZ:=hI (show cmpS y0 y0=0 by unfold cmpS;rw [lt_irr,if_neg (by simp),if_pos rfl])
     have HV:=hI (find_at t y0 i _ HLY.out rfl HNE.out)
     clear hq
     go_wp2_with (go_at_call 127;refine (cmp1_w (y0,y1,y2) y0 _).mono ?_;rintro e w1 ⟨rfl,hb⟩;rw [HZ.out];have HB1:=hI (HB.out.trans (hb.mono HB.out.size));clear hb)
     go_ret2
     refine ⟨i,?_,fun _=>?_,HB1.out⟩
     ·unfold hasN;rw [HV.out] <;> rfl
     ·unfold getN;rw [HV.out];exact HLY.out
    ·have HZ:=hI (show cmpS y0 s=1 by unfold cmpS;rw [hq,if_neg (by simp),if_neg hys])
     have HV:=hI (find_none t s fun k x hx c=>by
      rcases Nat.lt_trichotomy k i with h | h | h
      ·exact HNE.out k x h hx c
      ·subst h
       rw [HLY.out] at hx
       injection hx with hx
       rw [← hx] at c;exact hys c
      ·have h2:=HU.out i k _ x h HLY.out hx
       rw [c] at h2
       rw [hq] at h2;cases h2)
     clear hq hys
     go_wp2_with (go_at_call 127;refine (cmp1_w (y0,y1,y2) s _).mono ?_;rintro e w1 ⟨rfl,hb⟩;rw [HZ.out];have HB1:=hI (HB.out.trans (hb.mono HB.out.size));clear hb)
     go_ret2
     have hh : hasN t s=false:=by unfold hasN;rw [HV.out];rfl
     refine ⟨i,?_,fun c=>?_,HB1.out⟩
     ·rw [hh] <;> rfl
     ·rw [hh] at c;cases c
   ·have hin' : i=n:=by omega
    have HV:=hI (find_none t s fun k x hx c=>by
     have h1:=(List.getElem?_eq_some_iff.1 hx).1
     rw [← HLN.out,← hin'] at h1
     have h:=HLO.out k x h1 hx
     rw [c,lt_irr] at h
     cases h)
    subst hin'
    have t1 : decide ((i : Int) < (i : Int))=false:=decide_eq_false (by omega)
    go_wp2_with fail
    go_ret2
    have hh : hasN t s=false:=by unfold hasN;rw [HV.out];rfl
    refine ⟨i,?_,fun c=>?_,HB.out⟩
    ·rw [hh] <;> rfl
    ·rw [hh] at c;cases c
set_option maxRecDepth 100000 in
theorem find_w {A : Option Addr} {n c : Nat} (t : List Nm) (hu : Up t) (s : S) (w : World) (hr : Sk.Rd nmE w A n t) (hn : n≤17592186043904) :
  Calls Tryz.prog 113 #[.slice A n c,.string (str s)] w (FindV (getN t s) (hasN t s) w):=by
 have HR:=hI hr
 have HU:=hI hu
 clear hr hu
 go_enter Tryz.func113,Tryz.ntmps113
 obtain ⟨w0,hW⟩ : ∃ W,w.alloc (.cells #[.string ⟨#[]⟩,.int .i64 0,.int .i64 0] 116)=W:=⟨_,rfl⟩
 have hB : Below w.heap.size w w0:=by rw [← hW];exact (Below.refl _ _).alloc (Nat.le_refl _) _
 have HB:=hI hB
 have HX:=hI (show w0.heap[w.heap.size]?=some (.cells #[.string ⟨#[]⟩,.int .i64 0,.int .i64 0] 116 (0,0)) by rw [← hW];exact heap_alloc_new w _)
 have HS:=hI (Nat.lt_of_lt_of_le (Nat.lt_succ_self w.heap.size) (show w.heap.size + 1≤w0.heap.size by rw [← hW];simp))
 have HR0:=hI (HR.out.below HB.out)
 clear hB
 go_wp2_with fail
 refine (search_w (c:=c) t HU.out s w0 HR0.out hn).mono ?_
 rintro e w1 ⟨k,rfl,hk,hb⟩
 have HB1:=hI (HB.out.trans (hb.mono HB.out.size))
 have HX1:=hI ((hb.block _ HS.out).trans HX.out)
 have HR1:=hI (HR0.out.below hb)
 obtain ⟨z0,z1,z2,zf⟩:=cells3 HX1.out
 clear hb
 cases hh : hasN t s with
 | false=>
  have HH:=hI hh
  have HV:=hI (show getN t s=([],0,0) by unfold hasN at hh;unfold getN;cases h : findN t s with | none=>rfl | some x=>rw [h] at hh;cases hh)
  go_wp2_with fail
  refine ret_ct (d:=_) (cs:=#[.string ⟨#[]⟩,.int .i64 0,.int .i64 0]) (t':=116) (fr:=(0,0)) (set3 HX1.out) rfl rfl Tryz.underlying116 rfl (by kernel_rfl) rfl ?_
  unfold FindV
  rw [HV.out,HH.out]
  exact ⟨rfl,set3_below HB1.out (Nat.le_refl _)⟩
 | true=>
  have hk2:=hk hh
  have HH:=hI hh
  clear hk hh
  obtain ⟨⟨y0,y1,y2⟩,hy⟩ : ∃ y,getN t s=y:=⟨_,rfl⟩
  have HY:=hI hy
  rw [hy] at hk2
  have hkn : k < n:=by have:=(List.getElem?_eq_some_iff.1 hk2).1;rw [HR.out.1];exact this
  obtain ⟨b,o,rfl,hb,hl,hc⟩:=HR1.out.at_ nmE_len hkn
  have h2 : t[k]=(y0,y1,y2):=by rw [List.getElem?_eq_getElem hl] at hk2;injection hk2
  rw [h2] at hc
  have c0 : w1.cell? ⟨b,o + k * 3,none⟩=some (.string (str y0)):=hc 0 _ rfl
  have c1 : w1.cell? ⟨b,o + k * 3 + 1,none⟩=some (.int .i64 y1):=hc 1 _ rfl
  have c2 : w1.cell? ⟨b,o + k * 3 + 2,none⟩=some (.int .i64 y2):=hc 2 _ rfl
  have k0 : (0 : Int)≤(k : Int):=by omega
  have k1 : (k : Int) < (n : Int):=by omega
  clear h2 hc hl hk2 hkn hy
  go_wp2_with fail
  refine ret_ct (d:=_) (cs:=#[.string (str y0),.int .i64 y1,.int .i64 y2]) (t':=116) (fr:=(0,0)) (set3 HX1.out) rfl rfl Tryz.underlying116 rfl (by kernel_rfl) rfl ?_
  unfold FindV
  rw [HY.out,HH.out]
  exact ⟨rfl,set3_below HB1.out (Nat.le_refl _)⟩
set_option maxRecDepth 100000 in
theorem of_w {A : Option Addr} {n c : Nat} (t : List Nm) (hu : Up t) (k : Int) (s : S) (w : World) (hr : Sk.Rd nmE w A n t) (hn : n≤17592186043904) :
  Calls Tryz.prog 73 #[.slice A n c,.int .i64 k,.string (str s)] w (fun e w'=>∃ x,OfV (ofN t k s) x w e w'):=by
 have HG:=hI (ofN_get t k s)
 have HN:=hI (show hasN t s=true→(getN t s).1=s from fun h=>by
  unfold hasN at h
  unfold getN
  cases h2 : findN t s with
  | none=>rw [h2] at h;cases h
  | some x=>
   have h3:=List.find?_some (show List.find? (fun x : Nm=>decide (x.1=s)) t=some x from h2)
   simpa using h3)
 have HF:=hI (find_w (c:=c) t hu s w hr hn)
 obtain ⟨q,hq⟩ : ∃ q,hasN t s=q:=⟨_,rfl⟩
 obtain ⟨⟨y0,y1,y2⟩,hy⟩ : ∃ y,getN t s=y:=⟨_,rfl⟩
 rw [hq,hy] at HF HG HN
 clear hr hq hy hu
 go_enter Tryz.func73,Tryz.ntmps73
 cases q with
 | false=>
  have HG2:=hI (HG.out.trans (if_neg (by simp)))
  go_wp2_with (go_at_call 113;refine HF.out.mono ?_;rintro e w1 ⟨rfl,hb⟩;have HB:=hI hb;clear hb)
  go_ret2
  exact ⟨_,by rw [HG2.out] <;> rfl,HB.out.alloc HB.out.size _⟩
 | true=>
  have h1 : y0=s:=HN.out rfl
  subst h1
  have q0 : ((str y0).toList == (str y0).toList)=true:=eq_q rfl
  by_cases hk : y1=k
  ·have HG2:=hI (HG.out.trans ((if_pos rfl).trans (if_pos hk)))
   have q1 : (y1 == k)=true:=by simpa using hk
   go_wp2_with (go_at_call 113;refine HF.out.mono ?_;rintro e w1 ⟨rfl,hb⟩;have HB:=hI hb;clear hb)
   go_ret2
   exact ⟨_,by rw [HG2.out] <;> rfl,HB.out.alloc HB.out.size _⟩
  ·have HG2:=hI (HG.out.trans ((if_pos rfl).trans (if_neg hk)))
   have q1 : (y1 == k)=false:=by simpa using hk
   go_wp2_with (go_at_call 113;refine HF.out.mono ?_;rintro e w1 ⟨rfl,hb⟩;have HB:=hI hb;clear hb)
   go_ret2
   exact ⟨_,by rw [HG2.out] <;> rfl,HB.out.alloc HB.out.size _⟩
set_option maxRecDepth 100000 in
theorem number_w {A : Option Addr} {n c : Nat} (t : List Nm) (hu : Up t) (k : Int) (s : S) (w : World) (hr : Sk.Rd nmE w A n t) (hn : n≤17592186043904) :
  Calls Tryz.prog 25 #[.slice A n c,.int .i64 k,.string (str s)] w fun e w'=>e=.returned (.int .i64 (ofN t k s))∧Below w.heap.size w w':=by
 have HF:=hI (of_w (c:=c) t hu k s w hr hn)
 clear hr hu
 go_enter Tryz.func25,Tryz.ntmps25
 go_wp2_with (go_at_call 73;refine HF.out.mono ?_;rintro e w1 ⟨x,rfl,hb⟩;have HB:=hI hb;clear hb)
 go_ret
 exact ⟨rfl,HB.out⟩
end Go.Proofs.YteibcfpepdbflaaGreat.BindN
