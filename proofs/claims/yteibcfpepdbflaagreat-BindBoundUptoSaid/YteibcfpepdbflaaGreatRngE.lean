/- A range over a function whose iterator keeps no state of its own, whose rounds all go on, over a list that is known: the caller's law, at the wide fence. Over every program. -/
import Derived.Test.YteibcfpepdbflaaGreatBkD
import Derived.Test.YteibcfpepdbflaaGreatRows
import Derived.RangeFuncNested
import Derived.RangeFuncBound
import Derived.RangeFuncCalls
import Derived.RangeFuncLeaves
import Derived.Shelf.Abstract
import Derived.Shelf.RegionOpen
import Derived.WalkKit
import Derived.OwnWalkIn
import Derived.TacticsInMore
import Derived.LoopNIn
import Derived.LoopIn
namespace Go.Proofs.YteibcfpepdbflaaGreat.BkE
open Go Go.RowKit BindP BindD BindO BindW BindN BindG BindX BindB BindS BindK BindT BindA BkA BkB BkC BkD
open Byt (str)
structure Wy where
 dr : Int
 tt : Int
 wn : Int
 el : Int
def wyE (x : Wy) : List Value:=[.int .i64 x.dr,.int .i64 x.tt,.int .i64 x.wn,.int .i64 x.el]
theorem wyE_len (x : Wy) : (wyE x).length=4:=rfl
def RtW : (Nat→Prop)→World→Wy→Prop:=fun _ _ _=>True
theorem stays_w : Stays RtW:=fun _ _ _ _ _ _ _=>trivial
theorem elW : Sk.El Tryz.prog 78 153 wyE (.agg #[.int .i64 0,.int .i64 0,.int .i64 0,.int .i64 0]) 4 32 where
 und:=Tryz.underlying78
 info:=by kernel_rfl
 len:=wyE_len
 one:=fun x u hu=>by cases x;simp [wyE] at hu;rcases hu with rfl | rfl | rfl | rfl <;> rfl
 zs:=rfl
 pos:=by omega
def posG (out : List Wy) (x : Wy) : Nat→Nat
 | 0=>0
 | i + 1=>match out[i]? with
  | some y=>if x.dr < y.dr then posG out x i else i + 1
  | none=>i + 1
def insAt (out : List Wy) (x : Wy) (k : Nat) : List Wy:=out.take k ++ x :: out.drop k
def insI (out : List Wy) (x : Wy) : List Wy:=insAt out x (posG out x out.length)
theorem insAt_len {out : List Wy} {x : Wy} {k : Nat} : (insAt out x k).length=out.length + 1:=by
 unfold insAt
 rw [List.length_append,List.length_cons,List.length_take,List.length_drop]
 omega
theorem insAt_last {out : List Wy} {x : Wy} : insAt out x out.length=out ++ [x]:=by unfold insAt;simp
theorem insAt_at {out : List Wy} {x : Wy} {k : Nat} (h : k≤out.length) : (insAt out x k)[k]?=some x:=by
 unfold insAt
 rw [List.getElem?_append_right (by rw [List.length_take];omega),List.length_take]
 simp [Nat.min_eq_left h]
theorem insAt_low {out : List Wy} {x : Wy} {k i : Nat} (h : i < k) (hk : k≤out.length) : (insAt out x k)[i]?=out[i]?:=by
 unfold insAt
 rw [List.getElem?_append_left (by rw [List.length_take];omega),List.getElem?_take]
 simp [h]
theorem insAt_swap {out : List Wy} {x : Wy} {k : Nat} (h : k < out.length) : ((insAt out x (k + 1)).set (k + 1) out[k]).set k x=insAt out x k:=by
 apply List.ext_getElem?
 intro i
 have hl : ∀ n,(insAt out x n).length=out.length + 1:=fun n=>insAt_len
 rcases Nat.lt_trichotomy i k with hi | hi | hi
 ·rw [List.getElem?_set_ne (by omega),List.getElem?_set_ne (by omega),insAt_low (by omega) (by omega),insAt_low hi (by omega)]
 ·subst hi
  rw [List.getElem?_set_self (by rw [List.length_set,hl];omega),insAt_at (by omega)]
 ·rw [List.getElem?_set_ne (by omega)]
  rcases Nat.lt_or_ge (k + 1) i with h2 | h2
  ·rw [List.getElem?_set_ne (by omega)]
   unfold insAt
   rw [List.getElem?_append_right (by rw [List.length_take];omega),List.getElem?_append_right (by rw [List.length_take];omega),List.length_take,List.length_take]
   obtain ⟨d,rfl⟩ : ∃ d,i=k + 2 + d:=⟨i - (k + 2),by omega⟩
   rw [Nat.min_eq_left (by omega),Nat.min_eq_left (by omega),show k + 2 + d - (k + 1)=d + 1 by omega,show k + 2 + d - k=d + 1 + 1 by omega,List.getElem?_cons_succ,List.getElem?_cons_succ,List.getElem?_drop,List.getElem?_drop]
   congr 1;omega
  ·obtain rfl : i=k + 1:=by omega
   rw [List.getElem?_set_self (by rw [hl];omega)]
   unfold insAt
   rw [List.getElem?_append_right (by rw [List.length_take];omega),List.length_take,Nat.min_eq_left (by omega),show k + 1 - k=0 + 1 by omega,List.getElem?_cons_succ,List.getElem?_drop,Nat.add_zero,List.getElem?_eq_getElem h]
theorem flat_set {α : Type} {enc : α→List Value} {k : Nat} (hk : ∀ x,(enc x).length=k) : ∀ (l : List α) (i : Nat) (x : α) (j : Nat),i < l.length→((l.set i x).flatMap enc)[j]?=if i * k≤j∧j < i * k + k then (enc x)[j - i * k]? else (l.flatMap enc)[j]?
 | [],i,x,j,h=>by simp at h
 | a :: l,0,x,j,_=>by
  rw [List.set_cons_zero,List.flatMap_cons,List.flatMap_cons,Nat.zero_mul,Nat.sub_zero]
  by_cases h : j < k
  ·rw [if_pos (by omega),List.getElem?_append_left (by rw [hk];exact h)]
  ·rw [if_neg (by omega),List.getElem?_append_right (by rw [hk];omega),List.getElem?_append_right (by rw [hk];omega),hk,hk]
 | a :: l,i + 1,x,j,hi=>by
  rw [List.set_cons_succ,List.flatMap_cons,List.flatMap_cons,Nat.succ_mul]
  by_cases h : j < k
  ·rw [if_neg (by omega),List.getElem?_append_left (by rw [hk];exact h),List.getElem?_append_left (by rw [hk];exact h)]
  ·rw [List.getElem?_append_right (by rw [hk];omega),List.getElem?_append_right (by rw [hk];omega),hk,flat_set hk l i x (j - k) (by simp at hi;omega)]
   by_cases h2 : i * k≤j - k∧j - k < i * k + k
   ·rw [if_pos h2,if_pos (by omega),show j - k - i * k=j - (i * k + k) by omega]
   ·rw [if_neg h2,if_neg (by omega)]
theorem own_set {α : Type} {enc : α→List Value} {k : Nat} {E : TypeId} (hk : ∀ x,(enc x).length=k) {w : World} {B g n cap i : Nat} {l : List α} (hi : i < l.length) (x : α) (h : Sk.Own enc k E w B (.slice (some ⟨g,0,none⟩) n cap) l) :
  Sk.Own enc k E (putRow w g (i * k) (enc x)) B (.slice (some ⟨g,0,none⟩) n cap) (l.set i x):=by
 obtain ⟨_,h⟩:=h
 rcases h with ⟨hv,_⟩ | ⟨g',cap',cur,hv,hB,hh,hc,hm,hs,ht⟩
 ·cases hv
 ·injection hv with e1 e2 e3
  injection e1 with e1
  injection e1 with e1
  subst e1 e2 e3
  have hik : i * k + k≤l.length * k:=by rw [← Nat.succ_mul];exact Nat.mul_le_mul_right k hi
  have hsz : i * k + k≤cur.size:=by rw [hs];exact Nat.le_trans hik (Nat.mul_le_mul_right k hc)
  refine ⟨Sk.flat_len hk _,.inr ⟨g,cap,setL cur (i * k) (enc x),by simp,hB,putRow_heap _ _ _ _ _ hh,by simpa using hc,hm,by rw [setL_size];exact hs,?_⟩⟩
  rw [List.length_set]
  apply List.ext_getElem?
  intro j
  have h1:=congrArg (fun q : List Value=>q[j]?) ht
  simp only [List.getElem?_take,Array.getElem?_toList] at h1 ⊢
  rw [setL_get,hk,flat_set hk l i x j hi]
  by_cases hj : j < l.length * k
  ·rw [if_pos hj] at h1 ⊢
   by_cases h2 : i * k≤j∧j < i * k + k
   ·rw [if_pos (show i * k≤j∧j < i * k + k∧j < cur.size from ⟨h2.1,h2.2,by omega⟩),if_pos h2]
   ·rw [if_neg (fun c : i * k≤j∧j < i * k + k∧j < cur.size=>h2 ⟨c.1,c.2.1⟩),if_neg h2]
    exact h1
  ·rw [if_neg hj] at h1 ⊢
   rw [if_neg (fun c=>by omega)]
   exact h1
def rtnI (t : List Nm) (tx : List S) (m : Mp) (pa : List S) (l : List Ps) : Mp:=⟨m.ps ++ [(pa.length : Int)],m.ls ++ [((pa.length + locs l : Nat) : Int)],m.rs ++ [(rowI t tx pa l).1]⟩
def whnI (t : List Nm) (tx : List S) (m : Mp) : List Pe→Mp × Int
 | []=>(m,-1)
 | a :: _=>(rtnI t tx m [] [.mk 12 0 [] [a] [] []],(m.rs.length : Int))
def xwI (t : List Nm) (tx : List S) (r : Mp × List Wy) (x : Xt) : Mp × List Wy:=((whnI t tx r.1 (exPs x.wh.l)).1,insI r.2 ⟨x.dir,thg t x.to,(whnI t tx r.1 (exPs x.wh.l)).2,txt tx x.els⟩)
def wysI (t : List Nm) (tx : List S) (m : Mp) (l : List Xt) : Mp × List Wy:=l.foldl (xwI t tx) (m,[])
theorem wysI_snoc (t : List Nm) (tx : List S) (m : Mp) (l : List Xt) (x : Xt) : wysI t tx m (l ++ [x])=xwI t tx (wysI t tx m l) x:=by
 unfold wysI
 rw [List.foldl_append]
 rfl
theorem insI_len (out : List Wy) (x : Wy) : (insI out x).length=out.length + 1:=insAt_len
theorem wysI_len (t : List Nm) (tx : List S) (m : Mp) (l : List Xt) : (wysI t tx m l).2.length=l.length:=by
 have h : ∀ (l : List Xt) (r : Mp × List Wy),(l.foldl (xwI t tx) r).2.length=r.2.length + l.length:=by
  intro l
  induction l with
  | nil=>intro r;rfl
  | cons a l ih=>
   intro r
   rw [List.foldl_cons,ih,List.length_cons]
   unfold xwI
   rw [insI_len]
   omega
 unfold wysI
 rw [h]
 simp
def MkV (X : Nat→Prop) (w0 : World) (tv xv : Value) (y : Nat→Value) (w : World) (vp vl vr : Value) (r : Mp × Int) (e : Ending) (w' : World) : Prop:=
 ∃ vp' vl' vr' m',e=.returned (.int .i64 r.2)∧Ms.p m'=r.1∧Mb X w0 tv xv y w' vp' vl' vr' m'∧Ft (Dm w0 vp vl vr) (Dm w0 vp' vl' vr') w w'
theorem rt_mk {X : Nat→Prop} {w0 : World} {tv xv : Value} {y : Nat→Value} {w : World} {vp vl vr : Value} {m : Ms} {t : List Nm} {tx : List S} {pa : List S} {l : List Ps} {e : Ending} {w' : World} (h : RtV X w0 tv xv y w vp vl vr m pa.length (pa.length + locs l) (rowI t tx pa l).1 e w') :
  MkV X w0 tv xv y w vp vl vr (rtnI t tx m.p pa l,(m.rs.length : Int)) e w':=by
 obtain ⟨vp',vl',vr',s,h1,h2,h3,h4⟩:=h
 refine ⟨vp',vl',vr',_,h1,?_,h3,h4⟩
 unfold Ms.p rtnI
 simp only [List.map_append,List.map_cons,List.map_nil,h2]
theorem wh_mk {X : Nat→Prop} {w0 : World} {tv xv : Value} {y : Nat→Value} {w : World} {vp vl vr : Value} {m : Ms} {t : List Nm} {tx : List S} {wh : List Pe} {e : Ending} {w' : World} (hM : Mb X w0 tv xv y w vp vl vr m) (h : WhV X w0 tv xv y w vp vl vr m t tx wh e w') :
  MkV X w0 tv xv y w vp vl vr (whnI t tx m.p wh) e w':=by
 cases wh with
 | nil=>
  obtain ⟨rfl,rfl⟩:=h
  exact ⟨vp,vl,vr,m,rfl,rfl,hM,Ft.refl _ _⟩
 | cons a l=>
  have h2:=rt_mk (t:=t) (tx:=tx) (pa:=[]) (l:=[.mk 12 0 [] [a] [] []]) (m:=m) h
  have e2 : (m.rs.length : Int)=(m.p.rs.length : Int):=by unfold Ms.p;simp
  rw [e2] at h2
  exact h2
theorem ms_le {m : Ms} {n : Nat} (h : Mp.le m.p n) : m.le n:=by
 obtain ⟨h1,h2,h3⟩:=h
 refine ⟨h1,h2,?_⟩
 unfold Ms.p at h3
 simpa using h3
theorem rtnI_le {t : List Nm} {tx : List S} {m : Mp} {pa : List S} {l : List Ps} {n : Nat} (h : m.le n) : (rtnI t tx m pa l).le (n + 1):=by
 obtain ⟨h1,h2,h3⟩:=h
 unfold rtnI
 exact ⟨by simp;exact h1,by simp;exact h2,by simp;exact h3⟩
theorem whnI_le {t : List Nm} {tx : List S} {m : Mp} {wh : List Pe} {n : Nat} (h : m.le n) : (whnI t tx m wh).1.le (n + 1):=by
 cases wh with
 | nil=>exact ⟨Nat.le_succ_of_le h.1,Nat.le_succ_of_le h.2.1,Nat.le_succ_of_le h.2.2⟩
 | cons a l=>exact rtnI_le h
theorem wysI_le {t : List Nm} {tx : List S} {m : Mp} {n : Nat} (l : List Xt) (h : m.le n) : (wysI t tx m l).1.le (n + l.length):=by
 have g : ∀ (l : List Xt) (r : Mp × List Wy) (n : Nat),r.1.le n→(l.foldl (xwI t tx) r).1.le (n + l.length):=by
  intro l
  induction l with
  | nil=>intro r n h;exact h
  | cons a l ih=>
   intro r n h
   rw [List.foldl_cons,List.length_cons,show n + (l.length + 1)=(n + 1) + l.length by omega]
   exact ih _ _ (whnI_le h)
 exact g l (m,[]) n h
end Go.Proofs.YteibcfpepdbflaaGreat.BkE
namespace Go.Proofs.YteibcfpepdbflaaGreat.RngE
open Go Go.RowKit
def Gives {α : Type} (P : Program) (gf : Nat) (lb : Array Value) (enc : α→Array Value) (Kp : World→World→Prop) (xs : List α) (w0 : World) : Prop:=
 ∀ (l : Nat) (J : List α→World→Prop) (W : World),Below w0.heap.size w0 W→AbidesFrom W.heap.size J →
  (∀ pre x suf W1,xs=pre ++ x :: suf→J pre W1→YieldAt Fence.wide 1 P l (enc x) W1 fun e W'=>e=.returned (.bool true)∧J (pre ++ [x]) W'∧Kp W1 W') →
  J [] W→CallsIn Fence.wide 2 P gf (#[.func (.yield l) #[] #[]] ++ lb) W fun e W'=>(∃ v,e=.returned v)∧J xs W'
theorem grown_of {W W' : World} (h : Below W.heap.size W W') : W.grownBy W' none:=⟨h.os,h.tape,h.output,h.size,fun k hk _=>h.block k hk⟩
theorem abides {β : Type} {J : β→World→Prop} {B : Nat} (hJ : AbidesFrom B J) {s : β} {W W' : World} (h : J s W) (hb : Below W.heap.size W W') : J s W':=hJ s W W' none h (grown_of hb) (fun r e=>by cases e)
section
variable {P : Program} {α : Type}
theorem range {g : Operand} {ps : Array Tmp} {assign body : Code} {Q : Exit→Act→World→Prop} {a : Act} {w : World}
  {gf : Nat} {lb : Array Value} (hg : a.eval g=.func (.func gf) #[] lb) (eg : ∀ args w,(callFunc gf args).run P w=.ok (.enter gf args) w)
  {enc : α→Array Value} {Kp : World→World→Prop} {xs : List α} (hseq : Gives P gf lb enc Kp xs w)
  (hKt : ∀ {A B C : World},Kp A B→Kp B C→Kp A C) (hKb : ∀ (W : World) (l : Nat) (o o' : Obj),w.heap.size≤l→W.heap[l]?=some o→o.isCells=false→Kp W (W.putObj l o'))
  (hps : ∀ x,(enc x).size=ps.size)
  (I : List α→World→Prop) (hI : OwnFrom w.heap.size I) (h0 : I [] w) (Ax : α→Act→World→Prop) (hAx : ∀ x a',OwnFrom w.heap.size (fun (_ : Unit) W=>Ax x a' W))
  (hassign : ∀ (l : Nat) (pre : List α) (x : α) (W : World) (K : Act→World→Prop),I pre W→(∀ a' W',KeepsFrom w.heap.size W W'→Kp W W'→I pre W'→Ax x a' W'→K a' W') →
   assign.wpIn (Fence.wide.inRound l) 1 P (Exit.then K (fun _ _ _=>False)) { tmps:=(ps.zip (enc x)).foldl (fun t (p,v)=>t.setIfInBounds p v) a.tmps,defers:=[] } W)
  (hbody : ∀ (l : Nat) (pre : List α) (x : α) (suf : List α) (a' : Act) (W : World),xs=pre ++ x :: suf→w.heap.size≤l→I pre W→Ax x a' W →
   body.wpIn (Fence.wide.inRound l) 1 P (fun e _ W'=>e=.normal∧KeepsFrom w.heap.size W W'∧Kp W W'∧I (pre ++ [x]) W') a' W)
  (hdone : ∀ (D : Nat) (W : World),w.heap.size≤D→I xs W→W.heap[D]?=some (.deferred (some []))→Q .normal { a with defers:={ target:=.collected D,args:=#[] } :: a.defers } W) :
  (Code.rangeFunc g ps assign body).wpIn Fence.wide 3 P Q a w:=by
 refine wpIn_rangeFunc fun fn hfn=>?_
 obtain ⟨rec,hrec⟩ : ∃ rec : LoopState→Option Code→Loop,∀ st pe,rec st pe={ state:=st,pending:=pe,fn,tmps:=a.tmps,params:=ps,assign,body,defers:=w.heap.size }:=⟨_,fun _ _=>rfl⟩
 have recB : ∀ st pe st',{ rec st pe with state:=st' }=rec st' pe:=fun st pe st'=>by simp [hrec]
 obtain ⟨D,hD⟩ : ∃ D,w.heap.size=D:=⟨_,rfl⟩
 obtain ⟨W1,hW1⟩ : ∃ W1,(w.alloc (.deferred (some []))).alloc (.loop (rec .ready none))=W1:=⟨_,rfl⟩
 have g1 : W1.heap[D + 1]?=some (.loop (rec .ready none)):=by
  subst hW1 hD;have h:=World.alloc_heap_new (w.alloc (.deferred (some []))) (.loop (rec .ready none));rwa [World.size_alloc] at h
 have g0 : W1.heap[D]?=some (.deferred (some [])):=by
  subst hW1 hD;exact (Below.heap_alloc _ _ _ (by simp)).trans (World.alloc_heap_new w _)
 have hs1 : W1.heap.size=D + 2:=by subst hW1 hD;simp
 have i1 : I [] W1:=by subst hW1;exact hI.alloc _ (hI.alloc _ h0)
 have b1 : Below w.heap.size w W1:=by
  subst hW1;exact ((Below.refl _ w).alloc (Nat.le_refl _) _).alloc (by simp) _
 refine ⟨D + 1,[{ target:=.collected D,args:=#[] }],W1,{ target:=.fn (.func gf) lb,args:=#[.func (.yield (D + 1)) #[] #[]] },W1,gf,#[.func (.yield (D + 1)) #[] #[]] ++ lb,W1,?_,?_,fun _ _=>trivial,?_,fun _=>by omega,?_⟩
 ·have h:=run_enterLoop_outer (P:=P) (w:=w) fn a.tmps ps assign body
  rw [← hrec,hW1,hD] at h
  exact h
 ·simp only [resolve,hg]
  simp [go_sem]
 ·simp [invoke,go_sem,eg]
 ·have low : ∀ {A : World} {row : Option Nat},(∀ r,row=some r→W1.heap.size≤r∧∃ o : Obj,A.heap[r]?=some o∧o.isWalk=true)→(∀ r,row=some r→w.heap.size≤r∧∃ o : Obj,A.heap[r]?=some o∧o.isCells=false):=
   fun hr r e=>by obtain ⟨h,o,ho,hw⟩:=hr r e;exact ⟨by omega,o,ho,Obj.not_cells_of_walk hw⟩
  refine (hseq (D + 1)
   (fun pre W=>I pre W∧W.heap[D + 1]?=some (.loop (rec .ready none))∧W.heap[D]?=some (.deferred (some [])))
   W1 b1 ?_ ?_ ⟨i1,g1,g0⟩).mono ?_
  ·rintro s A B row ⟨h,k1,k0⟩ hgr hr
   exact ⟨hI s A B row h hgr (low hr),(grownBy_keeps hgr (fun r e=>(hr r e).2) k1 rfl).trans k1,(grownBy_keeps hgr (fun r e=>(hr r e).2) k0 rfl).trans k0⟩
  ·rintro pre x suf W hxs ⟨hi,k1,k0⟩
   have hy:=run_yield (P:=P) (args:=enc x) k1 (by rw [hrec];exact hps x)
   rw [hrec] at hy
   refine ⟨fn,_,assign,body,hy,roundIn_of_wpIn hfn (hassign _ pre x W _ hi ?_)⟩
   intro a' Wa hkfa hkpa hia hax
   have k1a:=hkfa.same _ _ (by omega) k1 rfl
   have k0a:=hkfa.same _ _ (by omega) k0 rfl
   have hlt : D + 1 < Wa.heap.size:=(Array.getElem?_eq_some_iff.1 k1a).1
   refine ⟨_,run_beginRound k1a (by rw [hrec]),?_⟩
   rw [recB]
   obtain ⟨V,hV⟩ : ∃ V,Wa.putObj (D + 1) (.loop (rec .busy none))=V:=⟨_,rfl⟩
   have v1 : V.heap[D + 1]?=some (.loop (rec .busy none)):=by subst hV;exact World.putObj_heap_same hlt
   have v0 : V.heap[D]?=some (.deferred (some [])):=by subst hV;exact (World.putObj_heap_other (by omega)).trans k0a
   have vk : Kp W V:=by subst hV;exact hKt hkpa (hKb _ _ _ _ (by omega) k1a rfl)
   have vi : I pre V:=by subst hV;exact hI.putObj _ hia (by omega) k1a rfl
   have va : Ax x a' V:=by subst hV;exact (hAx x a').putObj (s:=()) _ hax (by omega) k1a rfl
   rw [hV]
   refine wpIn_mono (hbody _ pre x suf a' V hxs (by omega) vi va) ?_
   rintro e a3 U ⟨rfl,hU,hk,hi3⟩
   have u1:=hU.same _ _ (by omega) v1 rfl
   have u0:=hU.same _ _ (by omega) v0 rfl
   have hr:=run_endRound (P:=P) none u1
   rw [show ({ rec .busy none with state:=if (none : Option Code).isNone then .ready else .done,pending:=none } : Loop)=rec .ready none by simp [hrec]] at hr
   exact ⟨_,_,hr,rfl,⟨hI.putObj _ hi3 (by omega) u1 rfl,World.putObj_heap_same (Array.getElem?_eq_some_iff.1 u1).1,(World.putObj_heap_other (by omega)).trans u0⟩,hKt (hKt vk hk) (hKb _ _ _ _ (by omega) u1 rfl)⟩
  ·rintro e U ⟨⟨v,rfl⟩,hi,u1,u0⟩
   have h:=run_endLoop (P:=P) u1 (by rw [hrec];simp)
   rw [show (rec .ready none).pending=none by rw [hrec]] at h
   subst hD
   exact ⟨none,_,h,hdone _ _ (Nat.le_refl _) (hI.putObj _ hi (by omega) u1 rfl) ((World.putObj_heap_other (by omega)).trans u0)⟩
end
end Go.Proofs.YteibcfpepdbflaaGreat.RngE
