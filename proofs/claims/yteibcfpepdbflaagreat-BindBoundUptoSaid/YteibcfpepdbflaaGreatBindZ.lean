/- The reference's Block: statements bound in the reference's way. Conditions: lengths and sizes within the reach. -/
import Derived.Test.YteibcfpepdbflaaGreatBindX
import Derived.Test.YteibcfpepdbflaaGreatBindL
import Derived.Test.YteibcfpepdbflaaGreatBkB
namespace Go.Proofs.YteibcfpepdbflaaGreat.BindY
open Go Go.RowKit BindP BindD BindO BindW BindN BindG BindX
open Byt (str)
structure Lq (w : World) (rb ob B : Nat) (ecs : Array Value) (o0 o1 o2 o3 v : Value) (l : List Ex) (wr : World) : Prop where
 e : wr.heap[w.heap.size]?=some (.cells ecs 68 (0,0))
 r : wr.heap[rb]?=some (.cells #[.int .i64 0,.int .i64 0,.int .i64 0,.string ⟨#[]⟩,.slice none 0 0] 68 (0,0))
 a : wr.heap[ob]?=some (.cells #[o0,o1,o2,o3,v] 68 (0,0))
 own : Ow exE RdX 5 68 (fun b=>B≤b) wr B v l
 low : Below w.heap.size w wr
 sz : B≤wr.heap.size
 lt : w.heap.size < rb∧rb < ob∧ob < B
section
variable {w : World} {rb ob B : Nat} {ecs : Array Value} {o0 o1 o2 o3 v : Value} {l : List Ex} {wr : World}
theorem Lq.next (h : Lq w rb ob B ecs o0 o1 o2 o3 v l wr) {w7 : World} (hb : Below B wr w7) {v7 : Value} {l2 : List Ex} (ho : Ow exE RdX 5 68 (fun b=>B≤b) w7 B v7 l2) : Lq w rb ob B ecs o0 o1 o2 o3 v7 l2 (w7.setCell ⟨ob,4,none⟩ v7):=by
 obtain ⟨l1,l2',l3⟩:=h.lt
 have h1:=h.sz
 have h2:=hb.size
 refine ⟨?_,?_,?_,ho.keep stays_x (keep_set 4 _ (by omega)),?_,?_,h.lt⟩
 ·rw [Below.heap_setCell _ _ _ _ (by simp;omega),hb.block _ (by omega)];exact h.e
 ·rw [Below.heap_setCell _ _ _ _ (by simp;omega),hb.block _ (by omega)];exact h.r
 ·have:=(hb.block ob l3).trans h.a
  simp [World.setCell,Array.getElem?_modify,this]
 ·exact (h.low.trans (hb.mono (by omega))).setCell (p:=⟨ob,4,none⟩) (by simp;omega) _
 ·simp [World.setCell];omega
theorem Lq.below (h : Lq w rb ob B ecs o0 o1 o2 o3 v l wr) {w7 : World} (hb : Below wr.heap.size wr w7) : Lq w rb ob B ecs o0 o1 o2 o3 v l w7:=by
 obtain ⟨l1,l2,l3⟩:=h.lt
 have:=h.sz
 exact ⟨(hb.block _ (by omega)).trans h.e,(hb.block _ (by omega)).trans h.r,(hb.block _ (by omega)).trans h.a,h.own.below stays_x hb,h.low.trans (hb.mono h.low.size),Nat.le_trans h.sz hb.size,h.lt⟩
theorem Lq.set2 (h : Lq w rb ob B ecs o0 o1 o2 o3 v l wr) (y : Value) : Lq w rb ob B ecs o0 o1 y o3 v l (wr.setCell ⟨ob,2,none⟩ y):=by
 obtain ⟨l1,l2,l3⟩:=h.lt
 have hs:=h.sz
 refine ⟨?_,?_,?_,h.own.keep stays_x (keep_set 2 _ (by omega)),?_,?_,h.lt⟩
 ·rw [Below.heap_setCell _ _ _ _ (by simp;omega)];exact h.e
 ·rw [Below.heap_setCell _ _ _ _ (by simp;omega)];exact h.r
 ·simp [World.setCell,Array.getElem?_modify,h.a]
 ·exact h.low.setCell (p:=⟨ob,2,none⟩) (by simp;omega) _
 ·simp [World.setCell];omega
theorem Lq.fin {A : Option Addr} {n c : Nat} (h : Lq w rb ob B ecs o0 o1 o2 o3 (.slice A n c) l wr) (k o q : Int) (s : S) :
  (putRow wr rb 0 [o0,o1,o2,o3,.slice A n c]).heap[rb]?=some (.cells #[o0,o1,o2,o3,.slice A n c] 68 (0,0))∧RdX (fun b=>w.heap.size≤b) (putRow wr rb 0 [o0,o1,o2,o3,.slice A n c]) (.mk k o q s A c l)∧Below w.heap.size w (putRow wr rb 0 [o0,o1,o2,o3,.slice A n c])∧n=l.length:=by
 obtain ⟨l1,l2,l3⟩:=h.lt
 obtain ⟨A',c',e,hg⟩:=h.own.list stays_x
 injection e with e1 e2 e3
 subst e1 e2 e3
 have hk : Keep (fun b=>B≤b) (fun b=>w.heap.size≤b) wr (putRow wr rb 0 [o0,o1,o2,o3,.slice A l.length c]):=(keep_row (K:=fun b=>B≤b) 0 _ (by omega)).trans (Keep.weak fun b hb _=>by omega)
 have hg2:=hg.keep stays_x hk
 exact ⟨put5 _ _ _ _ _ h.r,.mk hg2.1 hg2.2,putRow_below _ _ _ h.low (by omega),rfl⟩
end
end Go.Proofs.YteibcfpepdbflaaGreat.BindY
namespace Go.Proofs.YteibcfpepdbflaaGreat.BindZ
open Go Go.RowKit BindP BindD BindO BindW BindN BindG BindX BindB BindS BindK BindT BindV BindL BindA BindY
open Byt (str)
structure Lc (wr : World) (sb xb B : Nat) (scs : Array Value) (x0 x1 x2 : Value) (Aa : Option Addr) (ca : Nat) (al : List Ex) (x4 x5 : Value) (U : World) : Prop where
 s : U.heap[sb]?=some (.cells scs 65 (0,0))
 x : U.heap[xb]?=some (.cells #[x0,x1,x2,.slice Aa al.length ca,x4,x5] 65 (0,0))
 args : Lx (fun b=>B≤b) U Aa ca al
 low : Below wr.heap.size wr U
 lt : wr.heap.size≤sb∧sb < xb∧xb < B
 sz : B≤U.heap.size
section
variable {wr : World} {sb xb B : Nat} {scs : Array Value} {x0 x1 x2 : Value} {Aa : Option Addr} {ca : Nat} {al : List Ex} {x4 x5 : Value} {U U' : World}
theorem Lc.of (h : La wr sb xb B scs x0 x1 x2 (.slice Aa al.length ca) x4 x5 al U) : Lc wr sb xb B scs x0 x1 x2 Aa ca al x4 x5 U:=by
 obtain ⟨A',c',e,hg⟩:=h.own.list stays_x
 injection e with e1 e2 e3
 subst e1 e3
 exact ⟨h.s,h.x,hg,h.low,h.lt,h.sz⟩
theorem Lc.below (h : Lc wr sb xb B scs x0 x1 x2 Aa ca al x4 x5 U) (hb : Below U.heap.size U U') : Lc wr sb xb B scs x0 x1 x2 Aa ca al x4 x5 U':=by
 obtain ⟨l1,l2,l3⟩:=h.lt
 have:=h.sz
 exact ⟨(hb.block _ (by omega)).trans h.s,(hb.block _ (by omega)).trans h.x,h.args.below stays_x hb,h.low.trans (hb.mono h.low.size),h.lt,Nat.le_trans h.sz hb.size⟩
theorem Lc.set4 (h : Lc wr sb xb B scs x0 x1 x2 Aa ca al x4 x5 U) (y : Value) : Lc wr sb xb B scs x0 x1 x2 Aa ca al y x5 (U.setCell ⟨xb,4,none⟩ y):=by
 obtain ⟨l1,l2,l3⟩:=h.lt
 refine ⟨?_,?_,h.args.keep stays_x (keep_set 4 _ (by omega)),h.low.setCell (p:=⟨xb,4,none⟩) (by simp;omega) _,h.lt,by have:=h.sz;simp [World.setCell];exact this⟩
 ·rw [Below.heap_setCell _ _ _ _ (by simp;omega)];exact h.s
 ·simp [World.setCell,Array.getElem?_modify,h.x]
theorem Lc.set5 (h : Lc wr sb xb B scs x0 x1 x2 Aa ca al x4 x5 U) (y : Value) : Lc wr sb xb B scs x0 x1 x2 Aa ca al x4 y (U.setCell ⟨xb,5,none⟩ y):=by
 obtain ⟨l1,l2,l3⟩:=h.lt
 refine ⟨?_,?_,h.args.keep stays_x (keep_set 5 _ (by omega)),h.low.setCell (p:=⟨xb,5,none⟩) (by simp;omega) _,h.lt,by have:=h.sz;simp [World.setCell];exact this⟩
 ·rw [Below.heap_setCell _ _ _ _ (by simp;omega)];exact h.s
 ·simp [World.setCell,Array.getElem?_modify,h.x]
end
mutual
theorem stR_len (t : List Nm) (tx : List S) : ∀ (a : Ps) (lo : List S),(stR t tx lo a).2.length≤lo.length + locs1 a
 | .mk k n s ar b e,lo=>by
  unfold stR locs1 mine
  by_cases c2 : k=2
  ·rw [if_pos c2,if_pos c2];simp
  rw [if_neg c2,if_neg c2]
  by_cases c3 : k=3
  ·rw [if_pos c3];simp
  rw [if_neg c3]
  by_cases c4 : k=4
  ·rw [if_pos c4];simp
  rw [if_neg c4]
  by_cases c5 : k=5
  ·rw [if_pos c5];simp
  rw [if_neg c5]
  by_cases c6 : k=6
  ·rw [if_pos c6];simp
  rw [if_neg c6]
  by_cases c17 : k=17
  ·rw [if_pos c17];simp
  rw [if_neg c17]
  by_cases c18 : k=18
  ·rw [if_pos c18];simp
  rw [if_neg c18]
  by_cases c11 : k=11
  ·rw [if_pos c11,if_pos c11];simp
  rw [if_neg c11,if_neg c11]
  simp
theorem rowR_len (t : List Nm) (tx : List S) : ∀ (l : List Ps) (lo : List S),(rowR t tx lo l).2.length≤lo.length + locs l
 | [],lo=>by simp [rowR]
 | a :: l,lo=>by
  have h1:=stR_len t tx a lo
  have h2:=rowR_len t tx l (stR t tx lo a).2
  simp only [rowR,locs]
  omega
end
theorem keep_rd {A : Option Addr} {q : Nat} {l : List S} {w w' : World} {v : Value} (h : Sq.Rd sv w A q l) (hg : w.grownBy w' v.ownBlock) (hn : ∀ a,A=some a→0 < q→v.ownBlock ≠ some a.block) : Sq.Rd sv w' A q l:=
 ⟨h.1,fun h0=>by
  obtain ⟨b,o,e,hb,hc⟩:=h.2 h0
  exact ⟨b,o,e,Nat.lt_of_lt_of_le hb hg.size,fun i x hx=>(World.cell?_of_block (hg.block b hb (fun c=>hn _ e h0 c.symm))).trans (hc i x hx)⟩⟩
end Go.Proofs.YteibcfpepdbflaaGreat.BindZ
