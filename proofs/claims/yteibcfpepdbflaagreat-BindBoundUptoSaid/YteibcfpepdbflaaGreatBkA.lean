/- kinds.Locals: how many locals statements make. Conditions: sizes within the reach. -/
import Derived.Test.YteibcfpepdbflaaGreatBindK
import Derived.Deep.CutBlock
open Go.Lib renaming hid → hI
namespace Go.Proofs.YteibcfpepdbflaaGreat.RgD
open Go Go.RowKit
section
variable {P : Program} {ops : Array Oper} {Q : Exit→Act→World→Prop} {md : Region.Mode} {S : World→Prop} {fr : List Nat}
theorem storeS {i fuel : Nat} {oi : Oper} {listed : Array Bool} {ts : Array Value} {ds : List Deferred} {w w1 : World} (hi : ops[i]?=some oi) (hd : oi.dst=none)
  (hw : Region.wanted oi (yielded ops ts)=true) (hx : (execOp (Act.eval ⟨ts,ds⟩) oi).run P w=.ok .skip w1) (hS : S w1)
  (h : wpAnyD P md ops Q fr S fuel (listed.setIfInBounds i true) ⟨ts,ds⟩ w1) :
  wpOp P ops Q i (fun a' w'=>(i ∉ fr→S w')∧wpAnyD P md ops Q fr S fuel (listed.setIfInBounds i true) a' w') ⟨ts,ds⟩ w:=by
 unfold wpOp
 simp only [hi,hw,if_true,Oper.wp,hx,Oper.upon]
 refine .inl ⟨fun _=>hS,?_⟩
 rw [hd]
 exact h
theorem appQ {α : Type} {enc : α→Value} {T E : TypeId} {z : α} {by' : Nat} (el : Sq.El P T E enc z by') {i t fuel : Nat} {oi : Oper} {listed : Array Bool} {ts : Array Value} {ds : List Deferred} {w : World} (s x : Operand) (hi : ops[i]?=some oi) (hd : oi.dst=some t)
  (hw : Region.wanted oi (yielded ops ts)=true) (ho : oi.op=.call { callee:=.builtin .append,args:=#[s,x],argTypes:=#[T,T] })
  {B : Nat} {v : Value} {l : List α} (hs : Act.eval ⟨ts,ds⟩ s=v) (hown : Sq.Own enc E w B v l) (A : Option Addr) (m c : Nat) (l2 : List α) (hx : Act.eval ⟨ts,ds⟩ x=.slice A m c) (hr : Sq.Rd enc w A m l2)
  (h63 : l.length + m≤maxLen) (hb : (l.length + m) * by'≤140737488355328) (hB : B≤w.heap.size)
  (h : ∀ v' w',Sq.Own enc E w' B v' (l ++ l2)→Below B w w'→w.grownBy w' v.ownBlock→(v'.ownBlock=v.ownBlock∨v'.ownBlock=some w.heap.size)→S w'∧wpAnyD P md ops Q fr S fuel (listed.setIfInBounds i true) ⟨ts.setIfInBounds t v',ds⟩ w') :
  wpOp P ops Q i (fun a' w'=>(i ∉ fr→S w')∧wpAnyD P md ops Q fr S fuel (listed.setIfInBounds i true) a' w') ⟨ts,ds⟩ w:=by
 unfold wpOp
 simp only [hi,hw,if_true]
 refine .inl (Sq.wp_append el s x ho hs hown A m c l2 hx hr h63 hb hB fun v' w' h1 h2 h3 h4=>?_)
 rw [hd]
 obtain ⟨hS,hk⟩:=h v' w' h1 h2 h3 h4
 exact ⟨fun _=>hS,hk⟩
end
end Go.Proofs.YteibcfpepdbflaaGreat.RgD
namespace Go.Proofs.YteibcfpepdbflaaGreat.BindT
open Go Go.RowKit BindP BindD BindO BindW BindN BindG BindX BindB BindS BindK
open Byt (str)
theorem Stp.setx {Bb : Nat} {lv lv' : Value} {w w' : World} (h : Stp Bb lv w lv' w') {g o : Nat} (hg : w.heap.size≤g) (v : Value) : Stp Bb lv w lv' (w'.setCell ⟨g,o,none⟩ v):=
 ⟨h.os,h.tape,h.output,by simp [World.setCell];exact h.size,fun b hb h1 h2=>by
  simp only [World.setCell,Array.getElem?_modify]
  rw [if_neg (fun c : g=b=>by omega)]
  exact h.block b hb h1 h2,h.own⟩
theorem Stp.grown {Bb : Nat} {lv lv' : Value} {w w' w2 : World} {row : Option Nat} (h : Stp Bb lv w lv' w') (hg : w'.grownBy w2 row) (hr : ∀ g,row=some g→w.heap.size≤g) : Stp Bb lv w lv' w2:=
 ⟨hg.os.trans h.os,hg.tape.trans h.tape,hg.output.trans h.output,Nat.le_trans h.size hg.size,fun b hb h1 h2=>(hg.block b (Nat.lt_of_lt_of_le hb h.size) (fun c=>by have:=hr b c.symm;omega)).trans (h.block b hb h1 h2),h.own⟩
theorem Bn.grown {Bb W : Nat} {tv xv : Value} {w w2 : World} {lv : Value} {lo : List S} {row : Option Nat} (h : Bn Bb W tv xv w lv lo) (hg : w.grownBy w2 row) (h1 : row ≠ some Bb) (h2 : ∀ g,row=some g→lv.ownBlock ≠ some g) : Bn Bb W tv xv w2 lv lo:=
 ⟨(hg.block _ h.lt (Ne.symm h1)).trans h.box,own_keep h.own (fun b e=>hg.block b (h.lvlt e).2 (fun c=>h2 b c.symm e)),h.ne,h.le,Nat.lt_of_lt_of_le h.lt hg.size⟩
structure La (wr : World) (sb xb B : Nat) (scs : Array Value) (x0 x1 x2 v x4 x5 : Value) (al : List Ex) (U : World) : Prop where
 s : U.heap[sb]?=some (.cells scs 65 (0,0))
 x : U.heap[xb]?=some (.cells #[x0,x1,x2,v,x4,x5] 65 (0,0))
 own : Ow exE RdX 5 68 (fun b=>B≤b) U B v al
 low : Below wr.heap.size wr U
 sz : B≤U.heap.size
 lt : wr.heap.size≤sb∧sb < xb∧xb < B
section
variable {wr : World} {sb xb B : Nat} {scs : Array Value} {x0 x1 x2 v x4 x5 : Value} {al : List Ex} {U : World}
theorem La.below (h : La wr sb xb B scs x0 x1 x2 v x4 x5 al U) {U7 : World} (hb : Below U.heap.size U U7) : La wr sb xb B scs x0 x1 x2 v x4 x5 al U7:=by
 obtain ⟨l1,l2,l3⟩:=h.lt
 have:=h.sz
 exact ⟨(hb.block _ (by omega)).trans h.s,(hb.block _ (by omega)).trans h.x,h.own.below stays_x hb,h.low.trans (hb.mono h.low.size),Nat.le_trans h.sz hb.size,h.lt⟩
theorem La.next (h : La wr sb xb B scs x0 x1 x2 v x4 x5 al U) {w7 : World} (hb : Below B U w7) {v7 : Value} {l2 : List Ex} (ho : Ow exE RdX 5 68 (fun b=>B≤b) w7 B v7 l2) : La wr sb xb B scs x0 x1 x2 v7 x4 x5 l2 (w7.setCell ⟨xb,3,none⟩ v7):=by
 obtain ⟨l1,l2',l3⟩:=h.lt
 have h1:=h.sz
 have h2:=hb.size
 refine ⟨?_,?_,ho.keep stays_x (keep_set 3 _ (by omega)),?_,?_,h.lt⟩
 ·rw [Below.heap_setCell _ _ _ _ (by simp;omega),hb.block _ (by omega)];exact h.s
 ·have:=(hb.block xb l3).trans h.x
  simp [World.setCell,Array.getElem?_modify,this]
 ·exact (h.low.trans (hb.mono (by omega))).setCell (p:=⟨xb,3,none⟩) (by simp;omega) _
 ·simp [World.setCell];omega
end
structure Lb (Bb : Nat) (wr : World) (sb xb B : Nat) (scs : Array Value) (x0 x1 x2 : Value) (Aa : Option Addr) (ca : Nat) (al : List Ex) (x4 x5 : Value) (lv : Value) (U : World) : Prop where
 s : U.heap[sb]?=some (.cells scs 65 (0,0))
 x : U.heap[xb]?=some (.cells #[x0,x1,x2,.slice Aa al.length ca,x4,x5] 65 (0,0))
 args : Lx (fun b=>B≤b∧lv.ownBlock ≠ some b) U Aa ca al
 sn : lv.ownBlock ≠ some sb
 xn : lv.ownBlock ≠ some xb
 lt : Bb < wr.heap.size∧wr.heap.size≤sb∧sb < xb∧xb < B
 sz : xb < U.heap.size
section
variable {Bb : Nat} {wr : World} {sb xb B : Nat} {scs : Array Value} {x0 x1 x2 : Value} {Aa : Option Addr} {ca : Nat} {al : List Ex} {x4 x5 lv lv' : Value} {U U' : World}
theorem Lb.of (h : La wr sb xb B scs x0 x1 x2 (.slice Aa al.length ca) x4 x5 al U) (hBb : Bb < wr.heap.size) (hl : ∀ g,lv.ownBlock=some g→g < wr.heap.size) : Lb Bb wr sb xb B scs x0 x1 x2 Aa ca al x4 x5 lv U:=by
 obtain ⟨l1,l2,l3⟩:=h.lt
 obtain ⟨A',c',e,hg⟩:=h.own.list stays_x
 injection e with e1 e2 e3
 subst e1 e3
 exact ⟨h.s,h.x,hg.keep stays_x (Keep.weak fun b hb _=>⟨hb,fun c=>by have:=hl b c;omega⟩),fun c=>by have:=hl _ c;omega,fun c=>by have:=hl _ c;omega,⟨hBb,l1,l2,l3⟩,by have:=h.sz;omega⟩
theorem Lb.stp (h : Lb Bb wr sb xb B scs x0 x1 x2 Aa ca al x4 x5 lv U) (k : Stp Bb lv U lv' U') : Lb Bb wr sb xb B scs x0 x1 x2 Aa ca al x4 x5 lv' U':=by
 obtain ⟨l1,l2,l3,l4⟩:=h.lt
 have hs:=h.sz
 refine ⟨(k.block _ (by omega) (by omega) h.sn).trans h.s,(k.block _ (by omega) (by omega) h.xn).trans h.x,h.args.keep stays_x (Keep.stp k (by omega)),fun c=>?_,fun c=>?_,h.lt,Nat.lt_of_lt_of_le hs k.size⟩
 ·rcases k.own _ c with e | e
  ·exact h.sn e
  ·omega
 ·rcases k.own _ c with e | e
  ·exact h.xn e
  ·omega
theorem Lb.set4 (h : Lb Bb wr sb xb B scs x0 x1 x2 Aa ca al x4 x5 lv U) (y : Value) : Lb Bb wr sb xb B scs x0 x1 x2 Aa ca al y x5 lv (U.setCell ⟨xb,4,none⟩ y):=by
 obtain ⟨l1,l2,l3,l4⟩:=h.lt
 refine ⟨?_,?_,h.args.keep stays_x (keep_set 4 _ (by omega)),h.sn,h.xn,h.lt,by have:=h.sz;simp [World.setCell];exact this⟩
 ·rw [Below.heap_setCell _ _ _ _ (by simp;omega)];exact h.s
 ·simp [World.setCell,Array.getElem?_modify,h.x]
theorem Lb.set5 (h : Lb Bb wr sb xb B scs x0 x1 x2 Aa ca al x4 x5 lv U) (y : Value) : Lb Bb wr sb xb B scs x0 x1 x2 Aa ca al x4 y lv (U.setCell ⟨xb,5,none⟩ y):=by
 obtain ⟨l1,l2,l3,l4⟩:=h.lt
 refine ⟨?_,?_,h.args.keep stays_x (keep_set 5 _ (by omega)),h.sn,h.xn,h.lt,by have:=h.sz;simp [World.setCell];exact this⟩
 ·rw [Below.heap_setCell _ _ _ _ (by simp;omega)];exact h.s
 ·simp [World.setCell,Array.getElem?_modify,h.x]
end
structure Rw (t : List Nm) (tx lo : List S) (Bb W : Nat) (tv xv : Value) (l : List St) (lv0 : Value) (w : World) (j : Nat) (lv vo : Value) (out : List St) (wr : World) : Prop where
 bn : Bn Bb W tv xv wr lv (rowI t tx lo (stPs (l.take j))).2
 own : Ow stE RdS 6 65 (fun b=>w.heap.size≤b∧lv.ownBlock ≠ some b) wr w.heap.size vo out
 ps : stPs out=(rowI t tx lo (stPs (l.take j))).1
 len : out.length=j
 stp : Stp Bb lv0 w lv wr
theorem rowI_snoc (t : List Nm) (tx : List S) : ∀ (l : List Ps) (lo : List S) (x : Ps),rowI t tx lo (l ++ [x])=((rowI t tx lo l).1 ++ [(stI t tx (rowI t tx lo l).2 x).1],(stI t tx (rowI t tx lo l).2 x).2)
 | [],lo,x=>by simp [rowI]
 | a :: l,lo,x=>by
  rw [List.cons_append]
  unfold rowI
  rw [rowI_snoc t tx l]
  rfl
theorem stPs_app (l1 l2 : List St) : stPs (l1 ++ l2)=stPs l1 ++ stPs l2:=by rw [stPs_map,stPs_map,stPs_map,List.map_append]
theorem nB_app : ∀ (l1 l2 : List Ps),nB (l1 ++ l2)=nB l1 + nB l2
 | [],l2=>by simp [nB]
 | a :: l1,l2=>by simp only [List.cons_append,nB,nB_app l1 l2,Nat.add_assoc]
theorem take_nB {l : List St} {j : Nat} (h : j < l.length) : nB (stPs (l.take j)) + nS l[j].p≤nB (stPs l):=by
 have e : l=l.take (j + 1) ++ l.drop (j + 1):=(List.take_append_drop _ _).symm
 have e2 : stPs (l.take (j + 1))=stPs (l.take j) ++ [l[j].p]:=by rw [List.take_succ_eq_append_getElem h,stPs_app];rfl
 have h2 : nB (stPs l)=nB (stPs (l.take (j + 1))) + nB (stPs (l.drop (j + 1))):=by rw [← nB_app,← stPs_app,← e]
 rw [e2,nB_app] at h2
 have h3 : nB [l[j].p]=nS l[j].p:=by simp only [nB,Nat.add_zero]
 omega
end Go.Proofs.YteibcfpepdbflaaGreat.BindT
namespace Go.Proofs.YteibcfpepdbflaaGreat.BkA
open Go Go.RowKit BindP BindD BindO BindW BindN BindG BindX BindB BindS BindK BindT
open Byt (str)
def LcC (l : List St) : Prop:=∀ (A : Option Addr) (c : Nat) (w : World),Ls top w A c l→Calls Tryz.prog 74 #[.slice A l.length c] w fun e w'=>e=.returned (.int .i64 (locs (stPs l) : Int))∧Below w.heap.size w w'
theorem locs_ap : ∀ (l1 l2 : List Ps),locs (l1 ++ l2)=locs l1 + locs l2
 | [],l2=>by simp [locs]
 | a :: l1,l2=>by simp only [List.cons_append,locs,locs_ap l1 l2,Nat.add_assoc]
theorem locs_tk {l : List St} {j : Nat} (h : j < l.length) : locs (stPs (l.take (j + 1)))=locs (stPs (l.take j)) + locs1 l[j].p:=by
 rw [List.take_succ_eq_append_getElem h,stPs_app,locs_ap]
 simp only [stPs,locs,Nat.add_zero]
set_option maxRecDepth 100000 in
set_option maxHeartbeats 8000000 in
theorem locals_i : ∀ (N : Nat) (l : List St),nB (stPs l)≤N→nB (stPs l)≤1048576→LcC l:=by
 intro N
 induction N using Nat.strongRecOn with
 | _ N ihN=>
  intro l hlN hnB A c w hl
  have HL:=hI hl
  have HIH:=hI (show ∀ l' : List St,nB (stPs l') < N∧nB (stPs l')≤1048576→LcC l' from fun l' h=>ihN _ h.1 l' (Nat.le_refl _) h.2)
  have hll : l.length≤1048576:=by
   have h1:=sum_len (m:=fun x : St=>nS x.p) (fun x=>by cases x;unfold St.p nS;omega) l
   rw [← nB_sum] at h1
   omega
  have HTOT:=hI (show ∀ j,locs (stPs (l.take j))≤2 * nB (stPs l) from fun j=>by
   have h1:=locs_le.2 (stPs (l.take j))
   have e : l=l.take j ++ l.drop j:=(List.take_append_drop _ _).symm
   have h2 : nB (stPs l)=nB (stPs (l.take j)) + nB (stPs (l.drop j)):=by rw [← nB_app,← stPs_app,← e]
   omega)
  obtain ⟨m,hm⟩ : ∃ m,l.length=m:=⟨_,rfl⟩
  have HM:=hI hm
  have HNN:=hI (And.intro hlN hnB)
  rw [hm] at hll ⊢
  clear hm ihN hlN hl hnB
  go_enter Tryz.func74,Tryz.ntmps74
  go_wp2_with fail
  go_loopw [3,8] (fun nv iv wr=>∃ (j z : Nat),j≤m∧nv=.int .i64 (z : Int)∧iv=.int .i64 (j : Int)∧Hid (locs (stPs (l.take j))=z)∧Below w.heap.size w wr) (fun _ iv _=>m - (intOf iv).toNat)
  case atStart=>exact ⟨0,0,Nat.zero_le _,rfl,rfl,hI (by simp [stPs,locs]),Below.refl _ _⟩
  case round=>
   obtain ⟨j,n0,hj,rfl,rfl,HQ,hb⟩:=hrel
   have HB:=hI hb
   clear hb
   by_cases hlt : j < m
   ·have hjl : j < l.length:=by rw [HM.out];exact hlt
    obtain ⟨b_,o_,rfl,hbl,hc⟩:=Lg.at_ stE_len HL.out hjl
    obtain ⟨⟨k,n,s,Aa,ca,ar,Ab,cb,b,Ae,ce,e⟩,hy⟩ : ∃ y,l[j]=y:=⟨_,rfl⟩
    have hmem : l[j] ∈ l:=List.getElem_mem hjl
    have htk:=take_nB hjl
    have hlk:=locs_tk hjl
    have hbd:=HTOT.out (j + 1)
    rw [hy] at hc hmem htk hlk
    have HOP:=hI ((HL.out.2 _ hmem).open_)
    have hcell : ∀ q u,(stE (.mk k n s Aa ca ar Ab cb b Ae ce e))[q]?=some u→wr.cell? ⟨b_,o_ + j * 6 + q,none⟩=some u:=fun q u hq=>(HB.out.cell (p:=⟨b_,o_ + j * 6 + q,none⟩) hbl).trans (hc q u hq)
    have c0 : wr.cell? ⟨b_,o_ + j * 6,none⟩=some (.int .i64 k):=hcell 0 _ rfl
    have c1:=hcell 1 _ rfl
    have c2:=hcell 2 _ rfl
    have c3:=hcell 3 _ rfl
    have c4:=hcell 4 _ rfl
    have c5:=hcell 5 _ rfl
    have k0 : (0 : Int)≤(j : Int):=by omega
    have k1 : (j : Int) < (m : Int):=by omega
    unfold St.p nS at htk
    unfold St.p locs1 at hlk
    have hnn:=HNN.out
    have HZ:=hI (show (nB (stPs b) < N∧nB (stPs b)≤1048576)∧(nB (stPs e) < N∧nB (stPs e)≤1048576) by omega)
    obtain ⟨lb,hlb⟩ : ∃ x,locs (stPs b)=x:=⟨_,rfl⟩
    obtain ⟨le,hle⟩ : ∃ x,locs (stPs e)=x:=⟨_,rfl⟩
    have HLB:=hI (And.intro hlb hle)
    have hq:=HQ.out
    have HNX:=hI hlk
    rw [hlk,hq,hlb,hle] at hbd
    have HBD:=hI (show n0 + (mine k + (lb + le))≤2097152 by omega)
    have hn0 : n0≤2097152:=by omega
    unfold sv at c2
    clear hc hy hmem htk hlk hcell hjl hlb hle hq hnn hbd
    go_upto_block 2 with fail
    obtain ⟨w1,hw1⟩ : ∃ W,wr.alloc (.cells #[.int .i64 k,.int .i64 n,.string (str s),.slice Aa ar.length ca,.slice Ab b.length cb,.slice Ae e.length ce] 65)=W:=⟨_,rfl⟩
    obtain ⟨m1,s1,b1⟩:=made hw1
    rw [hw1]
    have HB1:=hI (HB.out.trans (b1.mono HB.out.size))
    obtain ⟨sb,hsb⟩ : ∃ p,wr.heap.size=p:=⟨_,rfl⟩
    rw [hsb] at m1 ⊢
    obtain ⟨y0,y1,y2,y3,y4,y5,yf⟩:=cells6 m1
    have HM1:=hI m1
    clear c0 c1 c2 c3 c4 c5 hw1 hsb s1 b1 m1
    go_cut [3] (fun v wx=>∃ z : Nat,v=.int .i64 (z : Int)∧z=n0 + mine k∧w1=wx)
    case first=>
     by_cases h2 : k=2
     ·subst h2
      go_wp2_with fail
      go_meet
      exact ⟨n0 + 1,by go_num,rfl,rfl⟩
     by_cases h11 : k=11
     ·subst h11
      go_wp2_with fail
      go_meet
      exact ⟨n0 + 2,by go_num,rfl,rfl⟩
     go_wp2_with fail
     go_meet
     exact ⟨n0,rfl,by unfold mine;rw [if_neg h2,if_neg h11];rfl,rfl⟩
    case rest=>
     obtain ⟨z,rfl,hz,rfl⟩:=hcut
     have hbd:=HBD.out
     have hz2 : z + (lb + le)≤2097152:=by omega
     have HZZ:=hI hz
     have zw1 : IntKind.i64.wrap ((lb : Int) + (le : Int))=(lb : Int) + (le : Int):=by rw [IntKind.wrap_i64];omega
     have zw2 : IntKind.i64.wrap ((z : Int) + ((lb : Int) + (le : Int)))=(z : Int) + ((lb : Int) + (le : Int)):=by rw [IntKind.wrap_i64];omega
     have hSB : ∀ U,Below w1.heap.size w1 U→U.cell? ⟨sb,4,none⟩=some (.slice Ab b.length cb)∧U.cell? ⟨sb,5,none⟩=some (.slice Ae e.length ce):=fun U hU=>by
      obtain ⟨_,_,_,_,z4,z5,_⟩:=cells6 ((hU.block _ (Array.getElem?_eq_some_iff.1 HM1.out).1).trans HM1.out)
      exact ⟨z4,z5⟩
     have HSB:=hI hSB
     have hS0:=HSB.out _ (Below.drew (Below.refl _ _))
     clear y0 y1 y2 y3 y4 y5 yf hz hbd hSB
     go_upto_region 10 with fail
     refine RgD.begin_ [] (fun U=>U.cell? ⟨sb,4,none⟩=some (.slice Ab b.length cb)∧U.cell? ⟨sb,5,none⟩=some (.slice Ae e.length ce)) (by kernel_rfl) hS0 (fun hHeld=>?_)
     refine RgD.tk 0 22 (v:=.int .i64 (z : Int)) (h:=?_)
     simp only [RgD.sA,RgD.s0,RgD.s1]
     refine RgD.tk 1 23 (h:=?_)
     simp only [RgD.sA,RgD.s0,RgD.s1]
     refine RgD.tk 2 24 (v:=.slice Ab b.length cb) (hy:=by intro w0 hSw;have z4:=hSw.1;first | (go_simp;done) | (go_simp;with_reducible rfl) | (go_simp;intro hc;exfalso;omega)) (h:=?_)
     simp only [RgD.sA,RgD.s0,RgD.s1]
     refine RgD.tk 4 26 (h:=?_)
     simp only [RgD.sA,RgD.s0,RgD.s1]
     refine RgD.tk 5 27 (v:=.slice Ae e.length ce) (hy:=by intro w0 hSw;have z5:=hSw.2;first | (go_simp;done) | (go_simp;with_reducible rfl) | (go_simp;intro hc;exfalso;omega)) (h:=?_)
     simp only [RgD.sA,RgD.s0,RgD.s1]
     refine RgD.one (i:=3) (by kernel_rfl) ?_
     refine RgD.call (i:=3) (t:=25) rfl rfl (by rfl) (by go_simp;exact ⟨rfl,rfl⟩) ?_
     refine (HIH.out b HZ.out.1 Ab cb w1.drew (Lg.keep stays_s (Keep.below (Below.drew HB1.out)) HOP.out.2.1)).mono ?_
     rintro r w2 ⟨rfl,hb⟩
     rw [HLB.out.1]
     have HB2:=hI ((Below.drew (Below.refl w1.heap.size w1)).trans hb)
     have gS2:=HSB.out _ HB2.out
     clear hb
     refine ⟨_,rfl,gS2,?_⟩
     simp only [RgD.sA,RgD.s0,RgD.s1]
     refine RgD.one (i:=6) (by kernel_rfl) ?_
     refine RgD.call (i:=6) (t:=28) rfl rfl (by rfl) (by go_simp;exact ⟨rfl,rfl⟩) ?_
     have HB4:=hI (HB1.out.trans (HB2.out.mono HB1.out.size))
     refine (HIH.out e HZ.out.2 Ae ce w2 (Lg.keep stays_s (Keep.below HB4.out) HOP.out.2.2)).mono ?_
     rintro r w3 ⟨rfl,hb⟩
     rw [HLB.out.2]
     have HB3:=hI (HB2.out.trans (hb.mono HB2.out.size))
     have HB5:=hI (HB4.out.trans (hb.mono HB4.out.size))
     have gS3:=HSB.out _ HB3.out
     clear hb
     refine ⟨_,rfl,gS3,?_⟩
     simp only [RgD.sA,RgD.s0,RgD.s1]
     refine RgD.tk 7 29 (v:=.int .i64 ((lb : Int) + (le : Int))) (h:=?_)
     simp only [RgD.sA,RgD.s0,RgD.s1]
     refine RgD.tk 8 30 (v:=.int .i64 ((z + (lb + le) : Nat) : Int)) (h:=?_)
     simp only [RgD.sA,RgD.s0,RgD.s1]
     refine RgD.tk 9 3 (v:=.int .i64 ((z + (lb + le) : Nat) : Int)) (h:=?_)
     simp only [RgD.sA,RgD.s0,RgD.s1]
     refine RgD.done (by kernel_rfl) ?_ _
     clear gS2 gS3 hS0
     go_wp2_with fail
     go_roundw
     case rel=>exact ⟨j + 1,z + (lb + le),by omega,rfl,by go_num,hI (by have h0:=HNX.out;have h1:=HQ.out;have h2:=HLB.out;have h3:=HZZ.out;omega),HB5.out⟩
     case measure=>simp [intOf];omega
   ·obtain rfl : m=j:=by omega
    have HTK:=hI (show l.take m=l from List.take_of_length_le (by rw [HM.out];exact Nat.le_refl _))
    go_wp2_with fail
    go_ret
    have h:=HQ.out
    rw [HTK.out] at h
    exact ⟨by rw [h] <;> rfl,HB.out⟩
end Go.Proofs.YteibcfpepdbflaaGreat.BkA
