/- The last place of a text in a list: the program's and the reference's. Conditions: lengths within the reach. -/
import Derived.Test.YteibcfpepdbflaaBindO
import Derived.Lib.SliceRun
import Derived.Laws.ResultCell
import Derived.Laws.Rows
namespace Go.Proofs.Yteibcfpepdbflaa.BindW
open Go Go.RowKit BindP BindD
open Byt (str)
theorem toList_str (a : S) : (str a).toList=a:=by rw [ByteArray.toList_eq];rfl
theorem eq_q {a b : S} (h : a=b) : ((str a).toList == (str b).toList)=true:=by subst h;simp
theorem ne_q {a b : S} (h : a ≠ b) : ((str a).toList == (str b).toList)=false:=by rw [toList_str,toList_str];simpa using h
set_option maxRecDepth 100000 in
theorem place_i {A : Option Addr} {n c : Nat} (l : List S) (s : S) (w : World) (hr : Sq.Rd sv w A n l) (hn : n≤17592186043904) :
  Calls Try.prog 46 #[.slice A n c,.string (str s)] w fun e w'=>e=.returned (.int .i64 (place l s))∧w'=w:=by
 have HR:=Lib.hid hr
 have HLN:=Lib.hid hr.len
 clear hr
 go_enter Try.func46,Try.ntmps46
 go_wp2_with fail
 go_loop [5] (fun i=>∃ (z : Int) (j : Nat),z=(j : Int) - 1∧j≤n∧i=.int .i64 z∧Hid (∀ k x,j≤k→l[k]?=some x→x ≠ s)) (fun i=>(intOf i + 1).toNat)
 case atStart=>exact ⟨_,n,rfl,Nat.le_refl _,by go_num,Lib.hid fun k x hk hx=>by
  have:=(List.getElem?_eq_some_iff.1 hx).1
  rw [← HLN.out] at this
  omega⟩
 case round=>
  obtain ⟨z,j,hz,hj,rfl,HT⟩:=hrel
  cases j with
  | zero=>
   obtain rfl : z=-1:=by rw [hz];rfl
   have HV:=Lib.hid (show place l s=-1 from place_none l s fun c=>by
    obtain ⟨k,hk,e⟩:=List.getElem_of_mem c
    exact HT.out k s (Nat.zero_le _) (by rw [List.getElem?_eq_getElem hk,e]) rfl)
   clear hz
   go_wp2_with fail
   go_ret
   exact ⟨by rw [HV.out] <;> rfl,rfl⟩
  | succ k=>
   obtain rfl : z=(k : Int):=by omega
   obtain ⟨b,o,rfl,hb,hl,hc⟩:=HR.out.at_ (show k < n by omega)
   obtain ⟨y,hy⟩ : ∃ y,l[k]=y:=⟨_,rfl⟩
   rw [hy] at hc
   unfold sv at hc
   have HLY:=Lib.hid (show l[k]?=some y by rw [List.getElem?_eq_getElem hl,hy])
   have k0 : (0 : Int)≤(k : Int):=by omega
   have k1 : (k : Int) < (n : Int):=by omega
   clear hz hy hl
   by_cases hys : y=s
   ·have HV:=Lib.hid (show place l s=k from place_last l s k (by rw [HLY.out,hys]) fun j x hj hx=>HT.out j x hj hx)
    have q:=eq_q hys
    go_wp2_with fail
    go_ret
    exact ⟨by rw [HV.out] <;> rfl,rfl⟩
   ·have HT2:=Lib.hid (show ∀ j x,k≤j→l[j]?=some x→x ≠ s from fun j x hj hx=>by
     rcases Nat.eq_or_lt_of_le hj with e | e
     ·subst e
      rw [HLY.out] at hx
      injection hx with hx
      rw [← hx];exact hys
     ·exact HT.out j x e hx)
    have q:=ne_q hys
    go_wp2_with fail
    go_round
    case rel=>exact ⟨_,k,rfl,by omega,by go_num,HT2⟩
    case measure=>simp [intOf]
def nmE (x : Nm) : List Value:=[.string (str x.1),.int .i64 x.2.1,.int .i64 x.2.2]
theorem nmE_len (x : Nm) : (nmE x).length=3:=rfl
def getN (t : List Nm) (s : S) : Nm:=(findN t s).getD ([],0,0)
def hasN (t : List Nm) (s : S) : Bool:=(findN t s).isSome
theorem nkind_get (t : List Nm) (s : S) : nkind t s=(getN t s).2.1:=by unfold nkind getN;cases findN t s <;> rfl
theorem nnum_get (t : List Nm) (s : S) : nnum t s=(getN t s).2.2:=by unfold nnum getN;cases findN t s <;> rfl
theorem ofN_get (t : List Nm) (k : Int) (s : S) : ofN t k s=if hasN t s then (if (getN t s).2.1=k then (getN t s).2.2 else 0) else 0:=by unfold ofN getN hasN;cases findN t s <;> rfl
theorem find_at : ∀ (t : List Nm) (s : S) (j : Nat) (x : Nm),t[j]?=some x→x.1=s→(∀ (k : Nat) (y : Nm),k < j→t[k]?=some y→y.1 ≠ s)→findN t s=some x
 | [],_,_,_,h,_,_=>by simp at h
 | y :: t,s,0,x,h,hs,_=>by
  simp only [List.getElem?_cons_zero,Option.some.injEq] at h
  subst h
  unfold findN
  rw [List.find?_cons_of_pos (by simpa using hs)]
 | y :: t,s,j + 1,x,h,hs,hl=>by
  have h2:=find_at t s j x (by simpa using h) hs (fun k z hk hz=>hl (k + 1) z (by omega) (by simpa using hz))
  unfold findN at h2 ⊢
  rw [List.find?_cons_of_neg (by simpa using hl 0 y (by omega) rfl)]
  exact h2
theorem find_none (t : List Nm) (s : S) (h : ∀ (k : Nat) (y : Nm),t[k]?=some y→y.1 ≠ s) : findN t s=none:=by
 unfold findN
 rw [List.find?_eq_none]
 intro x hx
 obtain ⟨k,hk,rfl⟩:=List.getElem_of_mem hx
 simpa using h k _ (List.getElem?_eq_getElem hk)
def FindV (x : Nm) (b : Bool) (w : World) (e : Ending) (w' : World) : Prop:=e=.returned (.tuple #[.agg #[.string (str x.1),.int .i64 x.2.1,.int .i64 x.2.2],.bool b])∧Below w.heap.size w w'
theorem ret_ct {P : Program} {fn : Func} {Q : Ending→World→Prop} {a : Act} {w : World} {p u : Tmp} {ty : TypeId} {g : Nat} {t' : TypeId} {cs : Array Value} {fr : Nat × Nat} {d : TypeDesc} (hg : w.heap[g]?=some (.cells cs t' fr))
  (h : fn.results=#[.cell p ty,.tmp u]) (hp : a.tmps.getD p undef=.pointer (some ⟨g,0,none⟩)) (hu : P.underlying ty=some d) (hd : (match d with | .struct _ | .array _ _=>true | _=>false)=true) (hi : (P.info? ty).map (·.size)=some cs.size) (hdf : a.defers=[])
  (hq : Q (.returned (.tuple #[.agg cs,a.tmps.getD u undef])) w) : bodyPost P fn Q .ret a w:=by
 refine bodyPost_ret ?_ hdf hq
 rw [results_cell_tmp h]
 have hp' : a.tmps[p]?.getD undef=.pointer (some ⟨g,0,none⟩):=by simpa using hp
 simp [hp',asAddr,Result.andThen,run_loadVar_row w g t' ty cs fr _ hg hu hd hi]
theorem set3 {w : World} {g : Nat} {x0 x1 x2 y0 y1 y2 : Value} {t : TypeId} (h : w.heap[g]?=some (.cells #[x0,x1,x2] t (0,0))) : (((w.setCell ⟨g,0,none⟩ y0).setCell ⟨g,1,none⟩ y1).setCell ⟨g,2,none⟩ y2).heap[g]?=some (.cells #[y0,y1,y2] t (0,0)):=by
 simp [World.setCell,Array.getElem?_modify,h]
theorem set3_below {w0 w : World} {B g : Nat} {y0 y1 y2 : Value} (h : Below B w0 w) (hg : B≤g) : Below B w0 (((w.setCell ⟨g,0,none⟩ y0).setCell ⟨g,1,none⟩ y1).setCell ⟨g,2,none⟩ y2):=
 ((h.setCell (p:=⟨g,0,none⟩) hg _).setCell (p:=⟨g,1,none⟩) hg _).setCell (p:=⟨g,2,none⟩) hg _
theorem cells3 {w : World} {g : Nat} {x0 x1 x2 : Value} {t : TypeId} (h : w.heap[g]?=some (.cells #[x0,x1,x2] t (0,0))) : w.cell? ⟨g,0,none⟩=some x0∧w.cell? ⟨g,1,none⟩=some x1∧w.cell? ⟨g,2,none⟩=some x2∧∀ o,w.frozen? ⟨g,o,none⟩=false:=by
 refine ⟨by simp [World.cell?,h],by simp [World.cell?,h],by simp [World.cell?,h],fun o=>by simp [World.frozen?,h]⟩
set_option maxRecDepth 100000 in
theorem find_r {A : Option Addr} {n c : Nat} (t : List Nm) (s : S) (w : World) (hr : Sk.Rd nmE w A n t) (hn : n≤17592186043904) :
  Calls Try.prog 49 #[.slice A n c,.string (str s)] w (FindV (getN t s) (hasN t s) w):=by
 have HR:=Lib.hid hr
 have HLN:=Lib.hid hr.1
 clear hr
 go_enter Try.func49,Try.ntmps49
 obtain ⟨w0,hW⟩ : ∃ W,w.alloc (.cells #[.string ⟨#[]⟩,.int .i64 0,.int .i64 0] 108)=W:=⟨_,rfl⟩
 have hB : Below w.heap.size w w0:=by rw [← hW];exact (Below.refl _ _).alloc (Nat.le_refl _) _
 have HB:=Lib.hid hB
 have HX:=Lib.hid (show w0.heap[w.heap.size]?=some (.cells #[.string ⟨#[]⟩,.int .i64 0,.int .i64 0] 108 (0,0)) by rw [← hW];exact heap_alloc_new w _)
 have HR0:=Lib.hid (HR.out.below HB.out)
 clear hB
 go_wp2_with fail
 go_loop [6] (fun i=>∃ j : Nat,j≤n∧i=.int .i64 (j : Int)∧Hid (∀ (k : Nat) (x : Nm),k < j→t[k]?=some x→x.1 ≠ s)) (fun i=>n - (intOf i).toNat)
 case atStart=>exact ⟨0,Nat.zero_le _,rfl,Lib.hid fun k x hk=>by omega⟩
 case round=>
  obtain ⟨j,hj,rfl,HT⟩:=hrel
  by_cases hlt : j < n
  ·obtain ⟨b,o,rfl,hb,hl,hc⟩:=HR0.out.at_ nmE_len hlt
   obtain ⟨⟨y0,y1,y2⟩,hy⟩ : ∃ y,t[j]=y:=⟨_,rfl⟩
   rw [hy] at hc
   have c0 : w0.cell? ⟨b,o + j * 3,none⟩=some (.string (str y0)):=hc 0 _ rfl
   have c1 : w0.cell? ⟨b,o + j * 3 + 1,none⟩=some (.int .i64 y1):=hc 1 _ rfl
   have c2 : w0.cell? ⟨b,o + j * 3 + 2,none⟩=some (.int .i64 y2):=hc 2 _ rfl
   have HLY:=Lib.hid (show t[j]?=some (y0,y1,y2) by rw [List.getElem?_eq_getElem hl,hy])
   have k0 : (0 : Int)≤(j : Int):=by omega
   have k1 : (j : Int) < (n : Int):=by omega
   clear hy hl hc
   by_cases hys : y0=s
   ·have HV:=Lib.hid (find_at t s j _ HLY.out hys HT.out)
    subst hys
    have q:=eq_q (rfl : y0=y0)
    obtain ⟨z0,z1,z2,zf⟩:=cells3 HX.out
    go_wp2_with fail
    refine ret_ct (d:=_) (cs:=#[.string (str y0),.int .i64 y1,.int .i64 y2]) (t':=108) (fr:=(0,0)) (set3 HX.out) rfl rfl Try.underlying108 rfl (by kernel_rfl) rfl ?_
    unfold FindV getN hasN
    rw [HV.out]
    exact ⟨rfl,set3_below HB.out (Nat.le_refl _)⟩
   ·have q:=ne_q hys
    have HT2:=Lib.hid (show ∀ (k : Nat) (x : Nm),k < j + 1→t[k]?=some x→x.1 ≠ s from fun k x hk hx=>by
     rcases Nat.lt_or_eq_of_le (Nat.le_of_lt_succ hk) with e | e
     ·exact HT.out k x e hx
     ·subst e
      rw [HLY.out] at hx
      injection hx with hx
      rw [← hx];exact hys)
    go_wp2_with fail
    go_round
    case rel=>exact ⟨j + 1,by omega,by go_num,HT2⟩
    case measure=>simp [intOf];omega
  ·have HV:=Lib.hid (find_none t s fun k y hy=>HT.out k y (by have:=(List.getElem?_eq_some_iff.1 hy).1;rw [← HLN.out] at this;omega) hy)
   obtain ⟨z0,z1,z2,zf⟩:=cells3 HX.out
   have t1 : decide ((j : Int) < (n : Int))=false:=decide_eq_false (by omega)
   go_wp2_with fail
   refine ret_ct (d:=_) (cs:=#[.string ⟨#[]⟩,.int .i64 0,.int .i64 0]) (t':=108) (fr:=(0,0)) (set3 HX.out) rfl rfl Try.underlying108 rfl (by kernel_rfl) rfl ?_
   unfold FindV getN hasN
   rw [HV.out]
   exact ⟨rfl,set3_below HB.out (Nat.le_refl _)⟩
def errN (t : List Nm) (k : Int) (s : S) : Int:=if hasN t s then (if (getN t s).2.1=k then 0 else 12) else 11
def OfV (n e : Int) (w : World) (x : Ending) (w' : World) : Prop:=x=.returned (.tuple #[.int .i64 n,.int .i64 e])∧Below w.heap.size w w'
set_option maxRecDepth 100000 in
theorem of_r {A : Option Addr} {n c : Nat} (t : List Nm) (k : Int) (s : S) (w : World) (hr : Sk.Rd nmE w A n t) (hn : n≤17592186043904) :
  Calls Try.prog 19 #[.slice A n c,.int .i64 k,.string (str s)] w (OfV (ofN t k s) (errN t k s) w):=by
 have HG:=Lib.hid (ofN_get t k s)
 have HE:=Lib.hid (show errN t k s=if hasN t s then (if (getN t s).2.1=k then 0 else 12) else 11 from rfl)
 have HF:=Lib.hid (find_r (c:=c) t s w hr hn)
 obtain ⟨q,hq⟩ : ∃ q,hasN t s=q:=⟨_,rfl⟩
 obtain ⟨⟨y0,y1,y2⟩,hy⟩ : ∃ y,getN t s=y:=⟨_,rfl⟩
 rw [hq,hy] at HF HG HE
 clear hr hq hy
 go_enter Try.func19,Try.ntmps19
 cases q with
 | false=>
  have HG2:=Lib.hid (HG.out.trans (if_neg (by simp)))
  have HE2:=Lib.hid (HE.out.trans (if_neg (by simp)))
  go_wp2_with (go_at_call 49;refine HF.out.mono ?_;rintro e w1 ⟨rfl,hb⟩;have HB:=Lib.hid hb;clear hb)
  go_ret2
  exact ⟨by rw [HG2.out,HE2.out] <;> rfl,HB.out.alloc HB.out.size _⟩
 | true=>
  by_cases hk : y1=k
  ·have HG2:=Lib.hid (HG.out.trans ((if_pos rfl).trans (if_pos hk)))
   have HE2:=Lib.hid (HE.out.trans ((if_pos rfl).trans (if_pos hk)))
   have q1 : (y1 != k)=false:=by simpa using hk
   go_wp2_with (go_at_call 49;refine HF.out.mono ?_;rintro e w1 ⟨rfl,hb⟩;have HB:=Lib.hid hb;clear hb)
   go_ret2
   exact ⟨by rw [HG2.out,HE2.out] <;> rfl,HB.out.alloc HB.out.size _⟩
  ·have HG2:=Lib.hid (HG.out.trans ((if_pos rfl).trans (if_neg hk)))
   have HE2:=Lib.hid (HE.out.trans ((if_pos rfl).trans (if_neg hk)))
   have q1 : (y1 != k)=true:=by simpa using hk
   go_wp2_with (go_at_call 49;refine HF.out.mono ?_;rintro e w1 ⟨rfl,hb⟩;have HB:=Lib.hid hb;clear hb)
   go_ret2
   exact ⟨by rw [HG2.out,HE2.out] <;> rfl,HB.out.alloc HB.out.size _⟩
end Go.Proofs.Yteibcfpepdbflaa.BindW
