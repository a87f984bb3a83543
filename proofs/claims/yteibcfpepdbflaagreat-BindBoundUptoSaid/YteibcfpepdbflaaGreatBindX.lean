/- bind.Expr: an expression bound in the program's way. Conditions: the names rise; lengths and sizes within the reach. -/
import Derived.Test.YteibcfpepdbflaaGreatBindN
import Derived.Test.YteibcfpepdbflaaGreatBindR
open Go.Lib renaming hid → hI
open Go.Proofs.YteibcfpepdbflaaGreat.RgD renaming tk → tK, sA → zA, s0 → zB, s1 → zC
namespace Go.Proofs.YteibcfpepdbflaaGreat.BindX
open Go Go.RowKit BindP BindD BindO BindW BindN BindG
open Byt (str)
theorem elX : Sk.El Tryz.prog 50 68 exE (.agg #[.int .i64 0,.int .i64 0,.int .i64 0,.string ⟨#[]⟩,.slice none 0 0]) 5 64 where
 und:=Tryz.underlying50
 info:=by kernel_rfl
 len:=exE_len
 one:=fun x u hu=>by cases x;simp [exE,sv] at hu;rcases hu with rfl | rfl | rfl | rfl | rfl <;> rfl
 zs:=rfl
 pos:=by omega
structure Env (w : World) (A1 : Option Addr) (n1 : Nat) (t : List Nm) (A2 : Option Addr) (n2 : Nat) (tx : List S) (A3 : Option Addr) (n3 : Nat) (lo : List S) : Prop where
 t : Sk.Rd nmE w A1 n1 t
 x : Sq.Rd sv w A2 n2 tx
 l : Sq.Rd sv w A3 n3 lo
 n1 : n1≤17592186043904
 n2 : n2≤17592186043904
 n3 : n3≤17592186043904
theorem Env.below {w w' : World} {A1 : Option Addr} {n1 : Nat} {t : List Nm} {A2 : Option Addr} {n2 : Nat} {tx : List S} {A3 : Option Addr} {n3 : Nat} {lo : List S} (h : Env w A1 n1 t A2 n2 tx A3 n3 lo) (hb : Below w.heap.size w w') : Env w' A1 n1 t A2 n2 tx A3 n3 lo:=
 ⟨h.t.below hb,h.x.below hb,h.l.below hb,h.n1,h.n2,h.n3⟩
def ExV (p : Pe) (w : World) (e : Ending) (w' : World) : Prop:=∃ x : Ex,e=.returned (.agg (exE x).toArray)∧RdX (fun b=>w.heap.size≤b) w' x∧x.p=p∧Below w.heap.size w w'
theorem cells5 {w : World} {g : Nat} {x0 x1 x2 x3 x4 : Value} {t : TypeId} (h : w.heap[g]?=some (.cells #[x0,x1,x2,x3,x4] t (0,0))) : w.cell? ⟨g,0,none⟩=some x0∧w.cell? ⟨g,1,none⟩=some x1∧w.cell? ⟨g,2,none⟩=some x2∧w.cell? ⟨g,3,none⟩=some x3∧w.cell? ⟨g,4,none⟩=some x4∧∀ o,w.frozen? ⟨g,o,none⟩=false:=by
 refine ⟨by simp [World.cell?,h],by simp [World.cell?,h],by simp [World.cell?,h],by simp [World.cell?,h],by simp [World.cell?,h],fun o=>by simp [World.frozen?,h]⟩
theorem cells1 {w : World} {g : Nat} {x0 : Value} {t : TypeId} (h : w.heap[g]?=some (.cells #[x0] t (0,0))) : w.cell? ⟨g,0,none⟩=some x0∧∀ o,w.frozen? ⟨g,o,none⟩=false:=by
 refine ⟨by simp [World.cell?,h],fun o=>by simp [World.frozen?,h]⟩
theorem other_cell {w : World} {g ab : Nat} {v : Value} (h : g ≠ ab) (o : Nat) : (w.setCell ⟨ab,0,none⟩ v).cell? ⟨g,o,none⟩=w.cell? ⟨g,o,none⟩∧(w.setCell ⟨ab,0,none⟩ v).frozen? ⟨g,o,none⟩=w.frozen? ⟨g,o,none⟩:=by
 have e : (w.setCell ⟨ab,0,none⟩ v).heap[g]?=w.heap[g]?:=by simp [World.setCell,Array.getElem?_modify,Ne.symm h]
 unfold World.cell? World.frozen?
 rw [e]
 exact ⟨rfl,rfl⟩
theorem sum_mem {α : Type} {m : α→Nat} : ∀ (l : List α) (x : α),x ∈ l→m x≤(l.map m).sum
 | [],_,h=>by cases h
 | y :: l,x,h=>by
  rw [List.map_cons,List.sum_cons]
  rcases List.mem_cons.1 h with rfl | h
  ·omega
  ·have:=sum_mem (m:=m) l x h;omega
theorem sum_len {α : Type} {m : α→Nat} (hm : ∀ x,1≤m x) : ∀ l : List α,l.length≤(l.map m).sum
 | []=>by simp
 | y :: l=>by have h1:=hm y;have h2:=sum_len hm l;simp only [List.length_cons,List.map_cons,List.sum_cons];omega
theorem nE_pos (p : Pe) : 1≤nE p:=by cases p;unfold nE;omega
theorem put5 {w : World} {g : Nat} {x0 x1 x2 x3 x4 : Value} {t : TypeId} (y0 y1 y2 y3 y4 : Value) (h : w.heap[g]?=some (.cells #[x0,x1,x2,x3,x4] t (0,0))) : (putRow w g 0 [y0,y1,y2,y3,y4]).heap[g]?=some (.cells #[y0,y1,y2,y3,y4] t (0,0)):=by
 simp [putRow,World.setCell,Array.getElem?_modify,h]
theorem ret_c {P : Program} {fn : Func} {Q : Ending→World→Prop} {a : Act} {w : World} {p : Tmp} {ty : TypeId} {g : Nat} {t' : TypeId} {cs : Array Value} {fr : Nat × Nat} {d : TypeDesc} (hg : w.heap[g]?=some (.cells cs t' fr))
  (h : fn.results=#[.cell p ty]) (hp : a.tmps.getD p undef=.pointer (some ⟨g,0,none⟩)) (hu : P.underlying ty=some d) (hd : (match d with | .struct _ | .array _ _=>true | _=>false)=true) (hi : (P.info? ty).map (·.size)=some cs.size) (hdf : a.defers=[])
  (hq : Q (.returned (.agg cs)) w) : bodyPost P fn Q .ret a w:=
 bodyPost_ret (results_cell_row h _ w g t' cs fr d hp hg hu hd hi) hdf hq
set_option maxRecDepth 100000 in
theorem with_w (kd n : Int) (ab : Nat) (A : Option Addr) (m c : Nat) (w : World) (h : w.heap[ab]?=some (.cells #[.slice A m c] 50 (0,0))) :
  Calls Tryz.prog 125 #[.int .i64 kd,.int .i64 n,.pointer (some ⟨ab,0,none⟩)] w fun e w'=>e=.returned (.agg #[.int .i64 kd,.int .i64 0,.int .i64 n,.string ⟨#[]⟩,.slice A m c])∧Below w.heap.size w w':=by
 go_enter Tryz.func125,Tryz.ntmps125
 obtain ⟨w1,hw1⟩ : ∃ W,w.alloc (.cells #[.int .i64 0,.int .i64 0,.int .i64 0,.string ⟨#[]⟩,.slice none 0 0] 68)=W:=⟨_,rfl⟩
 obtain ⟨m1,s1,b1⟩:=made hw1
 have hab : ab < w.heap.size:=by
  rcases Nat.lt_or_ge ab w.heap.size with h2 | h2
  ·exact h2
  ·simp [Array.getElem?_eq_none h2] at h
 obtain ⟨a0,af⟩:=cells1 ((b1.block _ hab).trans h)
 obtain ⟨x0,x1,x2,x3,x4,xf⟩:=cells5 m1
 have HM1:=hI m1
 have HB1:=hI b1
 clear s1 b1 m1 h
 go_wp2_with fail
 refine ret_c (d:=_) (cs:=#[.int .i64 kd,.int .i64 0,.int .i64 n,.string ⟨#[]⟩,.slice A m c]) (t':=68) (fr:=(0,0)) (put5 _ _ _ _ _ HM1.out) rfl rfl Tryz.underlying68 rfl (by kernel_rfl) rfl ?_
 exact ⟨rfl,putRow_below [.int .i64 kd,.int .i64 0,.int .i64 n,.string ⟨#[]⟩,.slice A m c] _ 0 HB1.out (Nat.le_refl _)⟩
abbrev z0 : Ex:=.mk 0 0 0 [] none 0 []
structure Lp (w : World) (rb ab B : Nat) (ecs : Array Value) (v : Value) (l : List Ex) (wr : World) : Prop where
 e : wr.heap[w.heap.size]?=some (.cells ecs 68 (0,0))
 r : wr.heap[rb]?=some (.cells #[.int .i64 0,.int .i64 0,.int .i64 0,.string ⟨#[]⟩,.slice none 0 0] 68 (0,0))
 a : wr.heap[ab]?=some (.cells #[v] 50 (0,0))
 own : Ow exE RdX 5 68 (fun b=>B≤b) wr B v l
 low : Below w.heap.size w wr
 sz : B≤wr.heap.size
 lt : w.heap.size < rb∧rb < ab∧ab < B
theorem Lp.next {w : World} {rb ab B : Nat} {ecs : Array Value} {v : Value} {l : List Ex} {wr w7 : World} (h : Lp w rb ab B ecs v l wr) (hb : Below B wr w7) {g n cap : Nat} {x : Ex}
  (ho : Ow exE RdX 5 68 (fun b=>B≤b) w7 B (.slice (some ⟨g,0,none⟩) n cap) (l ++ [z0])) (hx : RdX (fun b=>B≤b∧(Value.slice (some ⟨g,0,none⟩) n cap).ownBlock ≠ some b) w7 x) :
  Lp w rb ab B ecs (.slice (some ⟨g,0,none⟩) n cap) (l ++ [x]) ((putRow w7 g (l.length * 5) (exE x)).setCell ⟨ab,0,none⟩ (.slice (some ⟨g,0,none⟩) n cap)) ∧
  Lp w rb ab B ecs (.slice (some ⟨g,0,none⟩) n cap) (l ++ [x]) (putRow (w7.setCell ⟨ab,0,none⟩ (.slice (some ⟨g,0,none⟩) n cap)) g (l.length * 5) (exE x)):=by
 have hg : B≤g:=ho.row g rfl
 obtain ⟨l1,l2,l3⟩:=h.lt
 have e7:=(hb.block _ (by omega : w.heap.size < B)).trans h.e
 have r7:=(hb.block _ (by omega : rb < B)).trans h.r
 have a7:=(hb.block _ l3).trans h.a
 have b7 : Below w.heap.size w w7:=h.low.trans (hb.mono (by omega))
 have hne : ¬ B≤ab:=by omega
 constructor
 ·refine ⟨?_,?_,?_,?_,?_,?_,h.lt⟩
  ·rw [Below.heap_setCell _ _ _ _ (by simp;omega),putRow_other _ _ _ _ _ (by omega)];exact e7
  ·rw [Below.heap_setCell _ _ _ _ (by simp;omega),putRow_other _ _ _ _ _ (by omega)];exact r7
  ·simp [World.setCell,Array.getElem?_modify,putRow_other _ _ _ _ _ (show ab ≠ g by omega),a7]
  ·exact (BindG.Ow.last stays_x exE_len x ho hx).keep stays_x (keep_set 0 _ hne)
  ·exact (putRow_below _ g _ b7 (by omega)).setCell (p:=⟨ab,0,none⟩) (by simp;omega) _
  ·have:=hb.size;have:=h.sz;simp [World.setCell,putRow_size];omega
 ·have ho2:=ho.keep stays_x (keep_set (K:=fun b=>B≤b) (w:=w7) 0 (.slice (some ⟨g,0,none⟩) n cap) hne)
  have hx2:=hx.keep (keep_set (K:=fun b=>B≤b∧(Value.slice (some ⟨g,0,none⟩) n cap).ownBlock ≠ some b) (w:=w7) 0 (.slice (some ⟨g,0,none⟩) n cap) (fun c=>hne c.1))
  refine ⟨?_,?_,?_,?_,?_,?_,h.lt⟩
  ·rw [putRow_other _ _ _ _ _ (by omega),Below.heap_setCell _ _ _ _ (by simp;omega)];exact e7
  ·rw [putRow_other _ _ _ _ _ (by omega),Below.heap_setCell _ _ _ _ (by simp;omega)];exact r7
  ·rw [putRow_other _ _ _ _ _ (by omega)];simp [World.setCell,Array.getElem?_modify,a7]
  ·exact BindG.Ow.last stays_x exE_len x ho2 hx2
  ·exact putRow_below _ g _ (b7.setCell (p:=⟨ab,0,none⟩) (by simp;omega) _) (by omega)
  ·have:=hb.size;have:=h.sz;simp [World.setCell,putRow_size];omega
theorem Lp.below {w : World} {rb ab B : Nat} {ecs : Array Value} {v : Value} {l : List Ex} {wr w7 : World} (h : Lp w rb ab B ecs v l wr) (hb : Below wr.heap.size wr w7) : Lp w rb ab B ecs v l w7:=by
 obtain ⟨l1,l2,l3⟩:=h.lt
 have:=h.sz
 exact ⟨(hb.block _ (by omega)).trans h.e,(hb.block _ (by omega)).trans h.r,(hb.block _ (by omega)).trans h.a,h.own.below stays_x hb,h.low.trans (hb.mono h.low.size),Nat.le_trans h.sz hb.size,h.lt⟩
theorem Lp.set4 {w : World} {rb ab B : Nat} {x0 x1 x2 x3 x4 v : Value} {l : List Ex} {wr : World} (h : Lp w rb ab B #[x0,x1,x2,x3,x4] v l wr) (y : Value) : Lp w rb ab B #[x0,x1,x2,x3,y] v l (wr.setCell ⟨w.heap.size,4,none⟩ y):=by
 obtain ⟨l1,l2,l3⟩:=h.lt
 have hs:=h.sz
 refine ⟨?_,?_,?_,?_,?_,?_,h.lt⟩
 ·simp [World.setCell,Array.getElem?_modify,h.e]
 ·rw [Below.heap_setCell _ _ _ _ (by simp;omega)];exact h.r
 ·rw [Below.heap_setCell _ _ _ _ (by simp;omega)];exact h.a
 ·exact h.own.keep stays_x (keep_set 4 _ (by omega))
 ·exact h.low.setCell (p:=⟨w.heap.size,4,none⟩) (Nat.le_refl _) _
 ·simp [World.setCell];omega
theorem Lp.fin {w : World} {rb ab B : Nat} {ecs : Array Value} {A : Option Addr} {n c : Nat} {l : List Ex} {wr : World} (h : Lp w rb ab B ecs (.slice A n c) l wr) (y0 y1 y2 y3 y4 : Value) (k o q : Int) (s : S) :
  (putRow wr rb 0 [y0,y1,y2,y3,y4]).heap[rb]?=some (.cells #[y0,y1,y2,y3,y4] 68 (0,0))∧RdX (fun b=>w.heap.size≤b) (putRow wr rb 0 [y0,y1,y2,y3,y4]) (.mk k o q s A c l)∧Below w.heap.size w (putRow wr rb 0 [y0,y1,y2,y3,y4])∧n=l.length:=by
 obtain ⟨l1,l2,l3⟩:=h.lt
 obtain ⟨A',c',e,hg⟩:=h.own.list stays_x
 injection e with e1 e2 e3
 subst e1 e2 e3
 have hk : Keep (fun b=>B≤b) (fun b=>w.heap.size≤b) wr (putRow wr rb 0 [y0,y1,y2,y3,y4]):=(keep_row (K:=fun b=>B≤b) 0 _ (by omega)).trans (Keep.weak fun b hb _=>by omega)
 have hg2:=hg.keep stays_x hk
 exact ⟨put5 _ _ _ _ _ h.r,.mk hg2.1 hg2.2,putRow_below _ _ _ h.low (by omega),rfl⟩
theorem zero_cells {E : TypeId} {w : World} {B g n cap : Nat} {l : List Ex} (h : Sk.Own exE 5 E w B (.slice (some ⟨g,0,none⟩) n cap) (l ++ [z0])) :
  (w.cell? ⟨g,l.length * 5,none⟩=some (.int .i64 0)∧w.cell? ⟨g,l.length * 5 + 1,none⟩=some (.int .i64 0)∧w.cell? ⟨g,l.length * 5 + 2,none⟩=some (.int .i64 0)∧w.cell? ⟨g,l.length * 5 + 3,none⟩=some (.string ⟨#[]⟩)∧w.cell? ⟨g,l.length * 5 + 4,none⟩=some (.slice none 0 0))∧n=l.length + 1∧∀ o,w.frozen? ⟨g,o,none⟩=false:=by
 have hr:=h.rd
 have hn : n=l.length + 1:=by have:=hr.1;simpa using this
 obtain ⟨b,o,e,_,hl,hc⟩:=hr.at_ exE_len (i:=l.length) (by omega)
 injection e with e
 injection e with e1 e2
 subst e1 e2
 have hz : (l ++ [z0])[l.length]=z0:=by simp
 rw [hz] at hc
 simp only [Nat.zero_add] at hc
 refine ⟨⟨hc 0 _ rfl,hc 1 _ rfl,hc 2 _ rfl,hc 3 _ rfl,hc 4 _ rfl⟩,hn,fun o=>?_⟩
 rcases h.2 with ⟨hv,_⟩ | ⟨g',cap',cur,hv,_,hh,_⟩
 ·cases hv
 ·injection hv with e1
  injection e1 with e1
  injection e1 with e1
  subst e1
  simp [World.frozen?,hh]
set_option maxRecDepth 100000 in
set_option maxHeartbeats 8000000 in
theorem expr_w (t : List Nm) (hu : Up t) (tx lo : List S) (A1 A2 A3 : Option Addr) (n1 c1 n2 c2 n3 c3 : Nat) : ∀ (e : Ex) (w : World) (_ : Env w A1 n1 t A2 n2 tx A3 n3 lo) (_ : RdX top w e) (_ : nE e.p≤1048576),
  Calls Tryz.prog 109 #[.slice A1 n1 c1,.slice A2 n2 c2,.slice A3 n3 c3,.agg (exE e).toArray] w (ExV (bindE (exI t tx lo) e.p) w):=by
 intro e
 induction e using Ex.ind with
 | _ k o n s A c ar ih=>
  intro w henv hx hsz
  have HIH:=hI ih
  have HEN:=hI henv
  have HA:=hI hx.open_
  have HU:=hI hu
  have hsz2 : nEs (exPs ar) + 1≤1048576:=by unfold Ex.p nE at hsz;omega
  have HSZ:=hI (show ∀ x ∈ ar,nE x.p≤1048576 from fun x hx=>by
   have h1:=sum_mem (m:=fun x : Ex=>nE x.p) ar x hx
   rw [← nEs_sum] at h1
   omega)
  have hlen : ar.length≤1048576:=by
   have h1:=sum_len (m:=fun x : Ex=>nE x.p) (fun x=>nE_pos x.p) ar
   rw [← nEs_sum] at h1
   omega
  clear henv hx hsz hu
  show Calls Tryz.prog 109 #[.slice A1 n1 c1,.slice A2 n2 c2,.slice A3 n3 c3,.agg #[.int .i64 k,.int .i64 o,.int .i64 n,.string (str s),.slice A ar.length c]] w _
  go_enter Tryz.func109,Tryz.ntmps109
  obtain ⟨m,hm⟩ : ∃ m,ar.length=m:=⟨_,rfl⟩
  rw [hm] at hlen ⊢
  have HM:=hI hm
  clear hm
  obtain ⟨w1,hw1⟩ : ∃ W,w.alloc (.cells #[.int .i64 k,.int .i64 o,.int .i64 n,.string (str s),.slice A m c] 68)=W:=⟨_,rfl⟩
  obtain ⟨w2,hw2⟩ : ∃ W,w1.alloc (.cells #[.int .i64 0,.int .i64 0,.int .i64 0,.string ⟨#[]⟩,.slice none 0 0] 68)=W:=⟨_,rfl⟩
  obtain ⟨w3,hw3⟩ : ∃ W,w2.alloc (.cells #[.slice none 0 0] 50)=W:=⟨_,rfl⟩
  obtain ⟨m1,s1,b1⟩:=made hw1
  obtain ⟨m2,s2,b2⟩:=made hw2
  obtain ⟨m3,s3,b3⟩:=made hw3
  have B3 : Below w.heap.size w w3:=(b1.trans (b2.mono (by omega))).trans (b3.mono (by omega))
  have HL0:=hI (show Lp w w1.heap.size w2.heap.size w3.heap.size #[.int .i64 k,.int .i64 o,.int .i64 n,.string (str s),.slice A m c] (.slice none 0 0) [] w3 from
   ⟨(b3.block _ (by omega)).trans ((b2.block _ (by omega)).trans m1),(b3.block _ (by omega)).trans m2,m3,Ow.nil _ _,B3,Nat.le_refl _,by omega⟩)
  obtain ⟨x0,x1,x2,x3,x4,xf⟩:=cells5 HL0.out.e
  obtain ⟨y0,yf⟩:=cells1 HL0.out.a
  clear m1 m2 m3 s1 s2 s3 b1 b2 b3 B3
  go_wp2_with fail
  clear hw1 hw2 hw3 x0 x1 x2 x3 x4 xf y0 yf
  generalize w1.heap.size=rb at HL0
  generalize w2.heap.size=ab at HL0
  generalize w3.heap.size=B at HL0
  go_loopw [19] (fun iv wr=>∃ (j : Nat) (v : Value) (l : List Ex),j≤m∧iv=.int .i64 (j : Int)∧l.length=j∧Hid (l.map Ex.p=(ar.take j).map fun x=>bindE (exI t tx lo) x.p)∧Lp w rb ab B #[.int .i64 k,.int .i64 o,.int .i64 n,.string (str s),.slice A m c] v l wr) (fun iv _=>m - (intOf iv).toNat)
  case atStart=>exact ⟨0,_,[],Nat.zero_le _,rfl,rfl,hI rfl,HL0.out⟩
  case round=>
   obtain ⟨j,v,l,hj,rfl,hlj,HP,hlp⟩:=hrel
   have HLP:=hI hlp
   clear hlp
   by_cases hlt : j < m
   ·have hlt2 : j < ar.length:=by rw [HM.out];exact hlt
    obtain ⟨b,o2,rfl,hbb,hc⟩:=Lg.at_ exE_len (Lg.below stays_x HLP.out.low (show Lx top w A c ar from HA.out)) hlt2
    obtain ⟨⟨k2,p2,q2,s2,A4,c4,ar2⟩,hy⟩ : ∃ y,ar[j]=y:=⟨_,rfl⟩
    have hmem : ar[j] ∈ ar:=List.getElem_mem hlt2
    have HNX:=hI (show (ar.take (j + 1)).map (fun x=>bindE (exI t tx lo) x.p)=(ar.take j).map (fun x=>bindE (exI t tx lo) x.p) ++ [bindE (exI t tx lo) (Ex.mk k2 p2 q2 s2 A4 c4 ar2).p] by
     rw [List.take_succ_eq_append_getElem hlt2,List.map_append,hy];rfl)
    rw [hy] at hc hmem
    have HME:=hI hmem
    have c0 : wr.cell? ⟨b,o2 + j * 5,none⟩=some (.int .i64 k2):=hc 0 _ rfl
    have c1 : wr.cell? ⟨b,o2 + j * 5 + 1,none⟩=some (.int .i64 p2):=hc 1 _ rfl
    have c2 : wr.cell? ⟨b,o2 + j * 5 + 2,none⟩=some (.int .i64 q2):=hc 2 _ rfl
    have c3 : wr.cell? ⟨b,o2 + j * 5 + 3,none⟩=some (.string (str s2)):=hc 3 _ rfl
    have c4' : wr.cell? ⟨b,o2 + j * 5 + 4,none⟩=some (.slice A4 ar2.length c4):=hc 4 _ rfl
    have k0 : (0 : Int)≤(j : Int):=by omega
    have k1 : (j : Int) < (m : Int):=by omega
    clear hc hy hmem
    obtain ⟨w4,hw4⟩ : ∃ W,wr.alloc (.cells #[.int .i64 k2,.int .i64 p2,.int .i64 q2,.string (str s2),.slice A4 ar2.length c4] 68)=W:=⟨_,rfl⟩
    go_upto_region 5 with fail
    obtain ⟨m4,s4,b4⟩:=made hw4
    clear hw4 c0 c1 c2 c3 c4'
    obtain ⟨Av,cv,rfl,_,_⟩:=HLP.out.own.own.shape
    obtain rfl : l.length=j:=hlj
    have lB:=HLP.out.lt.2.2
    have hsz0:=HLP.out.sz
    have hbB0 : Below B wr w4.drew:=Below.drew (b4.mono hsz0)
    have hO0:=HLP.out.own.below stays_x (Below.drew b4)
    have hA0 : w4.drew.heap[ab]?=some (.cells #[.slice Av l.length cv] 50 (0,0)):=(b4.block _ (by omega)).trans HLP.out.a
    have hX0 : w4.drew.heap[wr.heap.size]?=some (.cells #[.int .i64 k2,.int .i64 p2,.int .i64 q2,.string (str s2),.slice A4 ar2.length c4] 68 (0,0)):=m4
    have hlo : ∀ g,(Value.slice Av l.length cv).ownBlock=some g→g < wr.heap.size:=fun g hg=>(HLP.out.own.lt hg).2
    have hs0 : wr.heap.size < w4.drew.heap.size:=by show wr.heap.size < w4.heap.size;omega
    have HD0:=hI (show l.length≤1048576 by omega)
    have i0 : (0 : Int)≤(l.length : Int):=by omega
    have i1 : (l.length : Int) < ((l.length + 1 : Nat) : Int):=by omega
    clear b4 m4 s4
    refine RgD.begin_ [9,10,11] (fun U=>U.heap[ab]?=some (.cells #[.slice Av l.length cv] 50 (0,0))∧U.heap[wr.heap.size]?=some (.cells #[.int .i64 k2,.int .i64 p2,.int .i64 q2,.string (str s2),.slice A4 ar2.length c4] 68 (0,0))) (by kernel_rfl) ⟨hA0,hX0⟩ (fun hHeld=>?_)
    refine tK 0 23 (v:=.slice Av l.length cv) (hy:=by intro w0 hSw;obtain ⟨z0,zf⟩:=cells1 hSw.1;first | (go_simp;done) | (go_simp;with_reducible rfl) | (go_simp;intro hc;exfalso;omega)) (h:=?_)
    simp only [zA,zB,zC]
    refine tK 1 24 (h:=?_)
    simp only [zA,zB,zC]
    refine tK 2 25 (h:=?_)
    simp only [zA,zB,zC]
    refine tK 3 26 (h:=?_)
    simp only [zA,zB,zC]
    refine tK 4 27 (v:=.agg #[.int .i64 k2,.int .i64 p2,.int .i64 q2,.string (str s2),.slice A4 ar2.length c4]) (hy:=by intro w0 hSw;obtain ⟨z0,z1,z2,z3,z4,zf⟩:=cells5 hSw.2;first | (go_simp;done) | (go_simp;with_reducible rfl) | (go_simp;intro hc;exfalso;omega)) (h:=?_)
    simp only [zA,zB,zC]
    refine tK 6 29 (v:=.int .i64 (l.length : Int)) (h:=?_)
    simp only [zA,zB,zC]
    refine RgD.two (i:=5) (j:=7) (by kernel_rfl) ?_ ?_
    ·refine RgD.call (i:=5) (t:=28) rfl rfl (by rfl) (by go_simp;exact ⟨rfl,rfl⟩) ?_
     refine (HIH.out _ HME.out w4.drew (HEN.out.below (HLP.out.low.trans (hbB0.mono (Nat.le_of_lt (Nat.lt_trans HLP.out.lt.1 (Nat.lt_trans HLP.out.lt.2.1 lB)))))) ((HA.out.2 _ HME.out).keep (Keep.below (HLP.out.low.trans (hbB0.mono (Nat.le_of_lt (Nat.lt_trans HLP.out.lt.1 (Nat.lt_trans HLP.out.lt.2.1 lB))))))) (HSZ.out _ HME.out)).mono ?_
     rintro e w5 ⟨x,rfl,hx,hpx,hb⟩
     have hbB1:=hbB0.trans (hb.mono (by omega))
     have hO1:=hO0.below stays_x hb
     have hA1:=(hb.block ab (by omega)).trans hA0
     have hX1:=(hb.block _ hs0).trans hX0
     have hs1:=Nat.lt_of_lt_of_le hs0 hb.size
     have hx1 : RdX (fun b=>B≤b∧(Value.slice Av l.length cv).ownBlock ≠ some b) w5 x:=hx.keep (Keep.weak fun b hb1 _=>⟨by omega,fun hc=>by have:=hlo b hc;omega⟩)
     have HPX:=hI hpx
     clear hb hx hpx
     obtain ⟨xk,xo,xn,xs,xA,xc,xr⟩:=x
     have gS1:=And.intro hA1 hX1
     refine ⟨.agg #[.int .i64 xk,.int .i64 xo,.int .i64 xn,.string (str xs),.slice xA xr.length xc],rfl,gS1,?_⟩
     simp only [zA,zB,zC]
     refine RgD.one (i:=7) (by kernel_rfl) ?_
     obtain ⟨w6,hw⟩ : ∃ W,w5.alloc (.cells #[.int .i64 0,.int .i64 0,.int .i64 0,.string ⟨#[]⟩,.slice none 0 0] 68)=W:=⟨_,rfl⟩
     have hb:=(made hw).2.2
     have hbB2:=hbB1.trans (hb.mono (by omega))
     have hO2:=hO1.below stays_x hb
     have hA2:=(hb.block ab (by omega)).trans hA1
     have hX2:=(hb.block _ hs1).trans hX1
     have hs2:=Nat.lt_of_lt_of_le hs1 hb.size
     have hx2:=hx1.keep (Keep.below hb)
     have hz2 : Sk.Rd exE w6 (some ⟨w5.heap.size,0,none⟩) 1 [z0]:=by rw [← hw];exact Sk.rd_lit (enc:=exE) _ 68 [z0] _ rfl 1 rfl
     refine RgD.eff (i:=7) (t:=30) (v:=.slice (some ⟨w5.heap.size,0,none⟩) 1 1) (w1:=w6) rfl rfl (by rfl) (by first | (go_simp;done) | (go_simp;with_reducible rfl) | (go_simp;rw [hw];rfl)) ⟨hA2,hX2⟩ ?_
     simp only [zA,zB,zC]
     have gS2:=And.intro hA2 hX2
     clear hb hw
     refine RgD.one (i:=8) (by kernel_rfl) ?_
     refine RgD.app elX (i:=8) (t:=31) (.tmp 23) (.tmp 30) rfl rfl (by rfl) rfl rfl hO2.own (some ⟨w5.heap.size,0,none⟩) 1 1 [z0] rfl hz2 (by have:=HD0.out;unfold maxLen;omega) (by have:=HD0.out;omega) (by omega) ?_
     intro v7 w7 ho7 hb7 hg7 hv7
     have hO3:=Ow.append stays_x hO2 ho7 hg7 hv7 (show B≤w6.heap.size by omega) (fun y hy=>by obtain rfl : y=z0:=(by simpa using hy);exact .mk (Sl.nil _) (fun _ h=>by cases h))
     have hx3:=hx2.keep (keep_app hg7 hv7)
     have hbB3:=hbB2.trans hb7
     have hA3:=(hb7.block ab (by omega)).trans hA2
     have hX3:=(hg7.block _ hs2 (fun hc=>by have:=hlo _ hc.symm;omega)).trans hX2
     have gS3:=And.intro hA3 hX3
     refine ⟨gS3,?_⟩
     simp only [zA,zB,zC]
     obtain ⟨A7,c7,rfl,_,_⟩:=ho7.shape
     have e7 : (l ++ [z0]).length=l.length + 1:=by simp
     rw [e7] at ho7 hO3 hx3 ⊢
     obtain ⟨g,rfl,hg0,_⟩:=ho7.form (by omega)
     obtain ⟨⟨f0,f1,f2,f3,f4⟩,_,ff⟩:=zero_cells ho7
     obtain ⟨a0,af⟩:=cells1 hA3
     have hab : ab ≠ g:=by omega
     have HNL:=HLP.out.next hbB3 hO3 hx3
     have hga : g ≠ ab:=Ne.symm hab
     refine RgD.tk0 9 32 (v:=.pointer (some ⟨g,l.length * 5,none⟩)) (h:=?_)
     simp only [zA,zB,zC]
     refine RgD.two (i:=10) (j:=11) (by kernel_rfl) ?_ ?_
     ·have hN : Lp w rb ab B #[.int .i64 k,.int .i64 o,.int .i64 n,.string (str s),.slice (some ⟨b,o2,none⟩) m c] (.slice (some ⟨g,0,none⟩) (l.length + 1) c7) _ ((putRow w7 g (l.length * 5) [.int .i64 xk,.int .i64 xo,.int .i64 xn,.string (str xs),.slice xA xr.length xc]).setCell ⟨ab,0,none⟩ (.slice (some ⟨g,0,none⟩) (l.length + 1) c7)):=HNL.1
      clear HNL
      have a8 : (putRow w7 g (l.length * 5) [.int .i64 xk,.int .i64 xo,.int .i64 xn,.string (str xs),.slice xA xr.length xc]).cell? ⟨ab,0,none⟩=some (.slice Av l.length cv):=by unfold World.cell?;rw [putRow_other _ _ _ _ _ hab];exact a0
      have af8 : ∀ o,(putRow w7 g (l.length * 5) [.int .i64 xk,.int .i64 xo,.int .i64 xn,.string (str xs),.slice xA xr.length xc]).frozen? ⟨ab,o,none⟩=false:=fun o=>by unfold World.frozen?;rw [putRow_other _ _ _ _ _ hab];exact af o
      obtain ⟨w8,hw8⟩ : ∃ W,putRow w7 g (l.length * 5) [.int .i64 xk,.int .i64 xo,.int .i64 xn,.string (str xs),.slice xA xr.length xc]=W:=⟨_,rfl⟩
      rw [hw8] at hN a8
      simp only [hw8] at af8
      refine RgD.store (i:=10) (w1:=w8) rfl rfl (by rfl) (by kernel_rfl) (by first | (go_simp;done) | (go_simp;exact hw8)) ?_
      refine RgD.one (i:=11) (by kernel_rfl) ?_
      obtain ⟨w9,hw9⟩ : ∃ W,w8.setCell ⟨ab,0,none⟩ (.slice (some ⟨g,0,none⟩) (l.length + 1) c7)=W:=⟨_,rfl⟩
      refine RgD.store (i:=11) (w1:=w9) rfl rfl (by rfl) (by kernel_rfl) (by first | (go_simp;done) | (go_simp;exact hw9)) ?_
      rw [hw9] at hN
      refine RgD.done (by kernel_rfl) ?_ _
      have HN:=hI hN
      clear hN
      go_wp2_with fail
      go_roundw
      case rel=>exact ⟨l.length + 1,_,l ++ [Ex.mk xk xo xn xs xA xc xr],by omega,by go_num,by simp,hI (by rw [List.map_append,HP.out,HNX.out,← HPX.out];rfl),HN.out⟩
      case measure=>simp [intOf];omega
     ·have hN : Lp w rb ab B #[.int .i64 k,.int .i64 o,.int .i64 n,.string (str s),.slice (some ⟨b,o2,none⟩) m c] (.slice (some ⟨g,0,none⟩) (l.length + 1) c7) _ (putRow (w7.setCell ⟨ab,0,none⟩ (.slice (some ⟨g,0,none⟩) (l.length + 1) c7)) g (l.length * 5) [.int .i64 xk,.int .i64 xo,.int .i64 xn,.string (str xs),.slice xA xr.length xc]):=HNL.2
      clear HNL
      have e0:=(other_cell (w:=w7) (v:=.slice (some ⟨g,0,none⟩) (l.length + 1) c7) hga (l.length * 5)).1.trans f0
      have e1:=(other_cell (w:=w7) (v:=.slice (some ⟨g,0,none⟩) (l.length + 1) c7) hga (l.length * 5 + 1)).1.trans f1
      have e2:=(other_cell (w:=w7) (v:=.slice (some ⟨g,0,none⟩) (l.length + 1) c7) hga (l.length * 5 + 2)).1.trans f2
      have e3:=(other_cell (w:=w7) (v:=.slice (some ⟨g,0,none⟩) (l.length + 1) c7) hga (l.length * 5 + 3)).1.trans f3
      have e4:=(other_cell (w:=w7) (v:=.slice (some ⟨g,0,none⟩) (l.length + 1) c7) hga (l.length * 5 + 4)).1.trans f4
      have ef:=fun o=>(other_cell (w:=w7) (v:=.slice (some ⟨g,0,none⟩) (l.length + 1) c7) hga o).2.trans (ff o)
      obtain ⟨w8,hw8⟩ : ∃ W,w7.setCell ⟨ab,0,none⟩ (.slice (some ⟨g,0,none⟩) (l.length + 1) c7)=W:=⟨_,rfl⟩
      rw [hw8] at hN e0 e1 e2 e3 e4
      simp only [hw8] at ef
      refine RgD.store (i:=11) (w1:=w8) rfl rfl (by rfl) (by kernel_rfl) (by first | (go_simp;done) | (go_simp;exact hw8)) ?_
      refine RgD.one (i:=10) (by kernel_rfl) ?_
      obtain ⟨w9,hw9⟩ : ∃ W,putRow w8 g (l.length * 5) [.int .i64 xk,.int .i64 xo,.int .i64 xn,.string (str xs),.slice xA xr.length xc]=W:=⟨_,rfl⟩
      refine RgD.store (i:=10) (w1:=w9) rfl rfl (by rfl) (by kernel_rfl) (by first | (go_simp;done) | (go_simp;exact hw9)) ?_
      rw [hw9] at hN
      refine RgD.done (by kernel_rfl) ?_ _
      have HN:=hI hN
      clear hN
      go_wp2_with fail
      go_roundw
      case rel=>exact ⟨l.length + 1,_,l ++ [Ex.mk xk xo xn xs xA xc xr],by omega,by go_num,by simp,hI (by rw [List.map_append,HP.out,HNX.out,← HPX.out];rfl),HN.out⟩
      case measure=>simp [intOf];omega
    ·obtain ⟨w5,hw⟩ : ∃ W,w4.drew.alloc (.cells #[.int .i64 0,.int .i64 0,.int .i64 0,.string ⟨#[]⟩,.slice none 0 0] 68)=W:=⟨_,rfl⟩
     have hb:=(made hw).2.2
     have hbB1:=hbB0.trans (hb.mono (by omega))
     have hO1:=hO0.below stays_x hb
     have hA1:=(hb.block ab (by omega)).trans hA0
     have hX1:=(hb.block _ hs0).trans hX0
     have hs1:=Nat.lt_of_lt_of_le hs0 hb.size
     have hz1 : Sk.Rd exE w5 (some ⟨w4.drew.heap.size,0,none⟩) 1 [z0]:=by rw [← hw];exact Sk.rd_lit (enc:=exE) _ 68 [z0] _ rfl 1 rfl
     refine RgD.eff (i:=7) (t:=30) (v:=.slice (some ⟨w4.drew.heap.size,0,none⟩) 1 1) (w1:=w5) rfl rfl (by rfl) (by first | (go_simp;done) | (go_simp;with_reducible rfl) | (go_simp;rw [hw];rfl)) ⟨hA1,hX1⟩ ?_
     simp only [zA,zB,zC]
     have gS1:=And.intro hA1 hX1
     clear hb hw
     refine RgD.one (i:=5) (by kernel_rfl) ?_
     refine RgD.call (i:=5) (t:=28) rfl rfl (by rfl) (by go_simp;exact ⟨rfl,rfl⟩) ?_
     refine (HIH.out _ HME.out w5 (HEN.out.below (HLP.out.low.trans (hbB1.mono (Nat.le_of_lt (Nat.lt_trans HLP.out.lt.1 (Nat.lt_trans HLP.out.lt.2.1 lB)))))) ((HA.out.2 _ HME.out).keep (Keep.below (HLP.out.low.trans (hbB1.mono (Nat.le_of_lt (Nat.lt_trans HLP.out.lt.1 (Nat.lt_trans HLP.out.lt.2.1 lB))))))) (HSZ.out _ HME.out)).mono ?_
     rintro e w6 ⟨x,rfl,hx,hpx,hb⟩
     have hbB2:=hbB1.trans (hb.mono (by omega))
     have hO2:=hO1.below stays_x hb
     have hA2:=(hb.block ab (by omega)).trans hA1
     have hX2:=(hb.block _ hs1).trans hX1
     have hs2:=Nat.lt_of_lt_of_le hs1 hb.size
     have hz2:=hz1.below hb
     have hx2 : RdX (fun b=>B≤b∧(Value.slice Av l.length cv).ownBlock ≠ some b) w6 x:=hx.keep (Keep.weak fun b hb1 _=>⟨by omega,fun hc=>by have:=hlo b hc;omega⟩)
     have HPX:=hI hpx
     clear hb hx hpx
     obtain ⟨xk,xo,xn,xs,xA,xc,xr⟩:=x
     have gS2:=And.intro hA2 hX2
     refine ⟨.agg #[.int .i64 xk,.int .i64 xo,.int .i64 xn,.string (str xs),.slice xA xr.length xc],rfl,gS2,?_⟩
     simp only [zA,zB,zC]
     refine RgD.one (i:=8) (by kernel_rfl) ?_
     refine RgD.app elX (i:=8) (t:=31) (.tmp 23) (.tmp 30) rfl rfl (by rfl) rfl rfl hO2.own (some ⟨w4.drew.heap.size,0,none⟩) 1 1 [z0] rfl hz2 (by have:=HD0.out;unfold maxLen;omega) (by have:=HD0.out;omega) (by omega) ?_
     intro v7 w7 ho7 hb7 hg7 hv7
     have hO3:=Ow.append stays_x hO2 ho7 hg7 hv7 (show B≤w6.heap.size by omega) (fun y hy=>by obtain rfl : y=z0:=(by simpa using hy);exact .mk (Sl.nil _) (fun _ h=>by cases h))
     have hx3:=hx2.keep (keep_app hg7 hv7)
     have hbB3:=hbB2.trans hb7
     have hA3:=(hb7.block ab (by omega)).trans hA2
     have hX3:=(hg7.block _ hs2 (fun hc=>by have:=hlo _ hc.symm;omega)).trans hX2
     have gS3:=And.intro hA3 hX3
     refine ⟨gS3,?_⟩
     simp only [zA,zB,zC]
     obtain ⟨A7,c7,rfl,_,_⟩:=ho7.shape
     have e7 : (l ++ [z0]).length=l.length + 1:=by simp
     rw [e7] at ho7 hO3 hx3 ⊢
     obtain ⟨g,rfl,hg0,_⟩:=ho7.form (by omega)
     obtain ⟨⟨f0,f1,f2,f3,f4⟩,_,ff⟩:=zero_cells ho7
     obtain ⟨a0,af⟩:=cells1 hA3
     have hab : ab ≠ g:=by omega
     have HNL:=HLP.out.next hbB3 hO3 hx3
     have hga : g ≠ ab:=Ne.symm hab
     refine RgD.tk0 9 32 (v:=.pointer (some ⟨g,l.length * 5,none⟩)) (h:=?_)
     simp only [zA,zB,zC]
     refine RgD.two (i:=10) (j:=11) (by kernel_rfl) ?_ ?_
     ·have hN : Lp w rb ab B #[.int .i64 k,.int .i64 o,.int .i64 n,.string (str s),.slice (some ⟨b,o2,none⟩) m c] (.slice (some ⟨g,0,none⟩) (l.length + 1) c7) _ ((putRow w7 g (l.length * 5) [.int .i64 xk,.int .i64 xo,.int .i64 xn,.string (str xs),.slice xA xr.length xc]).setCell ⟨ab,0,none⟩ (.slice (some ⟨g,0,none⟩) (l.length + 1) c7)):=HNL.1
      clear HNL
      have a8 : (putRow w7 g (l.length * 5) [.int .i64 xk,.int .i64 xo,.int .i64 xn,.string (str xs),.slice xA xr.length xc]).cell? ⟨ab,0,none⟩=some (.slice Av l.length cv):=by unfold World.cell?;rw [putRow_other _ _ _ _ _ hab];exact a0
      have af8 : ∀ o,(putRow w7 g (l.length * 5) [.int .i64 xk,.int .i64 xo,.int .i64 xn,.string (str xs),.slice xA xr.length xc]).frozen? ⟨ab,o,none⟩=false:=fun o=>by unfold World.frozen?;rw [putRow_other _ _ _ _ _ hab];exact af o
      obtain ⟨w8,hw8⟩ : ∃ W,putRow w7 g (l.length * 5) [.int .i64 xk,.int .i64 xo,.int .i64 xn,.string (str xs),.slice xA xr.length xc]=W:=⟨_,rfl⟩
      rw [hw8] at hN a8
      simp only [hw8] at af8
      refine RgD.store (i:=10) (w1:=w8) rfl rfl (by rfl) (by kernel_rfl) (by first | (go_simp;done) | (go_simp;exact hw8)) ?_
      refine RgD.one (i:=11) (by kernel_rfl) ?_
      obtain ⟨w9,hw9⟩ : ∃ W,w8.setCell ⟨ab,0,none⟩ (.slice (some ⟨g,0,none⟩) (l.length + 1) c7)=W:=⟨_,rfl⟩
      refine RgD.store (i:=11) (w1:=w9) rfl rfl (by rfl) (by kernel_rfl) (by first | (go_simp;done) | (go_simp;exact hw9)) ?_
      rw [hw9] at hN
      refine RgD.done (by kernel_rfl) ?_ _
      have HN:=hI hN
      clear hN
      go_wp2_with fail
      go_roundw
      case rel=>exact ⟨l.length + 1,_,l ++ [Ex.mk xk xo xn xs xA xc xr],by omega,by go_num,by simp,hI (by rw [List.map_append,HP.out,HNX.out,← HPX.out];rfl),HN.out⟩
      case measure=>simp [intOf];omega
     ·have hN : Lp w rb ab B #[.int .i64 k,.int .i64 o,.int .i64 n,.string (str s),.slice (some ⟨b,o2,none⟩) m c] (.slice (some ⟨g,0,none⟩) (l.length + 1) c7) _ (putRow (w7.setCell ⟨ab,0,none⟩ (.slice (some ⟨g,0,none⟩) (l.length + 1) c7)) g (l.length * 5) [.int .i64 xk,.int .i64 xo,.int .i64 xn,.string (str xs),.slice xA xr.length xc]):=HNL.2
      clear HNL
      have e0:=(other_cell (w:=w7) (v:=.slice (some ⟨g,0,none⟩) (l.length + 1) c7) hga (l.length * 5)).1.trans f0
      have e1:=(other_cell (w:=w7) (v:=.slice (some ⟨g,0,none⟩) (l.length + 1) c7) hga (l.length * 5 + 1)).1.trans f1
      have e2:=(other_cell (w:=w7) (v:=.slice (some ⟨g,0,none⟩) (l.length + 1) c7) hga (l.length * 5 + 2)).1.trans f2
      have e3:=(other_cell (w:=w7) (v:=.slice (some ⟨g,0,none⟩) (l.length + 1) c7) hga (l.length * 5 + 3)).1.trans f3
      have e4:=(other_cell (w:=w7) (v:=.slice (some ⟨g,0,none⟩) (l.length + 1) c7) hga (l.length * 5 + 4)).1.trans f4
      have ef:=fun o=>(other_cell (w:=w7) (v:=.slice (some ⟨g,0,none⟩) (l.length + 1) c7) hga o).2.trans (ff o)
      obtain ⟨w8,hw8⟩ : ∃ W,w7.setCell ⟨ab,0,none⟩ (.slice (some ⟨g,0,none⟩) (l.length + 1) c7)=W:=⟨_,rfl⟩
      rw [hw8] at hN e0 e1 e2 e3 e4
      simp only [hw8] at ef
      refine RgD.store (i:=11) (w1:=w8) rfl rfl (by rfl) (by kernel_rfl) (by first | (go_simp;done) | (go_simp;exact hw8)) ?_
      refine RgD.one (i:=10) (by kernel_rfl) ?_
      obtain ⟨w9,hw9⟩ : ∃ W,putRow w8 g (l.length * 5) [.int .i64 xk,.int .i64 xo,.int .i64 xn,.string (str xs),.slice xA xr.length xc]=W:=⟨_,rfl⟩
      refine RgD.store (i:=10) (w1:=w9) rfl rfl (by rfl) (by kernel_rfl) (by first | (go_simp;done) | (go_simp;exact hw9)) ?_
      rw [hw9] at hN
      refine RgD.done (by kernel_rfl) ?_ _
      have HN:=hI hN
      clear hN
      go_wp2_with fail
      go_roundw
      case rel=>exact ⟨l.length + 1,_,l ++ [Ex.mk xk xo xn xs xA xc xr],by omega,by go_num,by simp,hI (by rw [List.map_append,HP.out,HNX.out,← HPX.out];rfl),HN.out⟩
      case measure=>simp [intOf];omega
   ·obtain rfl : l.length=j:=hlj
    obtain rfl : m=l.length:=by omega
    have HQ:=hI (show exPs l=bindEs (exI t tx lo) (exPs ar) by
     rw [exPs_map,HP.out,List.take_of_length_le (by rw [HM.out];exact Nat.le_refl _),bindEs_map,exPs_map,List.map_map];rfl)
    obtain ⟨Av,cv,rfl,_,_⟩:=HLP.out.own.own.shape
    obtain ⟨w5,hw5⟩ : ∃ W,wr.setCell ⟨w.heap.size,4,none⟩ (.slice Av l.length cv)=W:=⟨_,rfl⟩
    have HP5:=hI (hw5 ▸ HLP.out.set4 (.slice Av l.length cv))
    have HEN5:=hI (HEN.out.below HP5.out.low)
    obtain ⟨u0,u1,u2,u3,u4,uf⟩:=cells5 HLP.out.e
    obtain ⟨v0,vf⟩:=cells1 HLP.out.a
    obtain ⟨x0,x1,x2,x3,x4,xf⟩:=cells5 HP5.out.e
    obtain ⟨y0,y1,y2,y3,y4,yf⟩:=cells5 HP5.out.r
    obtain ⟨a0,af⟩:=cells1 HP5.out.a
    have k9 : ¬ ((l.length : Int) < (l.length : Int)):=by omega
    by_cases h2 : k=2
    ·subst h2
     go_wp2_with (first | (go_at_call 22;refine (place_i tx s _ HEN5.out.x HEN.out.n2).mono ?_;rintro e w6 ⟨rfl,rfl⟩) | (go_at_call 125;refine (with_w _ _ ab _ _ _ _ HP5.out.a).mono ?_;rintro e w7 ⟨rfl,hb⟩;have HP7:=hI (HP5.out.below hb);obtain ⟨z0,z1,z2,z3,z4,zf⟩:=cells5 HP7.out.r;clear hb))
     obtain ⟨f1,f2,f3,_⟩:=HP7.out.fin (.int .i64 19) (.int .i64 0) (.int .i64 (place tx s)) (.string ⟨#[]⟩) (.slice Av l.length cv) 19 0 (place tx s) []
     refine ret_c (d:=_) (cs:=#[.int .i64 19,.int .i64 0,.int .i64 (place tx s),.string ⟨#[]⟩,.slice Av l.length cv]) (t':=68) (fr:=(0,0)) f1 rfl rfl Tryz.underlying68 rfl (by kernel_rfl) rfl ?_
     refine ⟨_,rfl,f2,?_,f3⟩
     show Pe.mk 19 0 (place tx s) [] (exPs l)=bindE _ (Pe.mk 2 o n s (exPs ar))
     rw [HQ.out]
     unfold bindE exI
     rw [if_pos rfl]
    by_cases h7 : k=7
    ·subst h7
     go_wp2_with (first | (go_at_call 25;refine (number_w t HU.out 1 s _ HEN5.out.t HEN.out.n1).mono ?_;rintro e w6 ⟨rfl,hb⟩;have HP6:=hI (HP5.out.below hb);clear hb) | (go_at_call 125;refine (with_w _ _ ab _ _ _ _ HP6.out.a).mono ?_;rintro e w7 ⟨rfl,hb⟩;have HP7:=hI (HP6.out.below hb);obtain ⟨z0,z1,z2,z3,z4,zf⟩:=cells5 HP7.out.r;clear hb))
     obtain ⟨f1,f2,f3,_⟩:=HP7.out.fin (.int .i64 16) (.int .i64 0) (.int .i64 (ofN t 1 s)) (.string ⟨#[]⟩) (.slice Av l.length cv) 16 0 (ofN t 1 s) []
     refine ret_c (d:=_) (cs:=#[.int .i64 16,.int .i64 0,.int .i64 (ofN t 1 s),.string ⟨#[]⟩,.slice Av l.length cv]) (t':=68) (fr:=(0,0)) f1 rfl rfl Tryz.underlying68 rfl (by kernel_rfl) rfl ?_
     refine ⟨_,rfl,f2,?_,f3⟩
     show Pe.mk 16 0 (ofN t 1 s) [] (exPs l)=bindE _ (Pe.mk 7 o n s (exPs ar))
     rw [HQ.out]
     unfold bindE exI
     rw [if_neg (by decide),if_pos rfl]
    by_cases h8 : k=8
    ·subst h8
     go_wp2_with (first | (go_at_call 25;refine (number_w t HU.out 2 s _ HEN5.out.t HEN.out.n1).mono ?_;rintro e w6 ⟨rfl,hb⟩;have HP6:=hI (HP5.out.below hb);clear hb) | (go_at_call 125;refine (with_w _ _ ab _ _ _ _ HP6.out.a).mono ?_;rintro e w7 ⟨rfl,hb⟩;have HP7:=hI (HP6.out.below hb);obtain ⟨z0,z1,z2,z3,z4,zf⟩:=cells5 HP7.out.r;clear hb))
     obtain ⟨f1,f2,f3,_⟩:=HP7.out.fin (.int .i64 17) (.int .i64 0) (.int .i64 (ofN t 2 s)) (.string ⟨#[]⟩) (.slice Av l.length cv) 17 0 (ofN t 2 s) []
     refine ret_c (d:=_) (cs:=#[.int .i64 17,.int .i64 0,.int .i64 (ofN t 2 s),.string ⟨#[]⟩,.slice Av l.length cv]) (t':=68) (fr:=(0,0)) f1 rfl rfl Tryz.underlying68 rfl (by kernel_rfl) rfl ?_
     refine ⟨_,rfl,f2,?_,f3⟩
     show Pe.mk 17 0 (ofN t 2 s) [] (exPs l)=bindE _ (Pe.mk 8 o n s (exPs ar))
     rw [HQ.out]
     unfold bindE exI
     rw [if_neg (by decide),if_neg (by decide),if_pos rfl]
    by_cases h9 : k=9
    ·subst h9
     go_wp2_with (first | (go_at_call 25;refine (number_w t HU.out 6 s _ HEN5.out.t HEN.out.n1).mono ?_;rintro e w6 ⟨rfl,hb⟩;have HP6:=hI (HP5.out.below hb);clear hb) | (go_at_call 125;refine (with_w _ _ ab _ _ _ _ HP6.out.a).mono ?_;rintro e w7 ⟨rfl,hb⟩;have HP7:=hI (HP6.out.below hb);obtain ⟨z0,z1,z2,z3,z4,zf⟩:=cells5 HP7.out.r;clear hb))
     obtain ⟨f1,f2,f3,_⟩:=HP7.out.fin (.int .i64 18) (.int .i64 0) (.int .i64 (ofN t 6 s)) (.string ⟨#[]⟩) (.slice Av l.length cv) 18 0 (ofN t 6 s) []
     refine ret_c (d:=_) (cs:=#[.int .i64 18,.int .i64 0,.int .i64 (ofN t 6 s),.string ⟨#[]⟩,.slice Av l.length cv]) (t':=68) (fr:=(0,0)) f1 rfl rfl Tryz.underlying68 rfl (by kernel_rfl) rfl ?_
     refine ⟨_,rfl,f2,?_,f3⟩
     show Pe.mk 18 0 (ofN t 6 s) [] (exPs l)=bindE _ (Pe.mk 9 o n s (exPs ar))
     rw [HQ.out]
     unfold bindE exI
     rw [if_neg (by decide),if_neg (by decide),if_neg (by decide),if_pos rfl]
    by_cases h3 : k=3
    ·subst h3
     obtain ⟨pl,hpl⟩ : ∃ pl,place lo s=pl:=⟨_,rfl⟩
     have HPL:=hI hpl
     clear hpl
     by_cases hp : 0≤pl
     ·have hp2 : decide (0≤pl)=true:=decide_eq_true hp
      go_wp2_with (first | (go_at_call 22;refine (place_i lo s _ HEN5.out.l HEN.out.n3).mono ?_;rintro e w6 ⟨rfl,rfl⟩;rw [HPL.out]) | (go_at_call 125;refine (with_w _ _ ab _ _ _ _ HP5.out.a).mono ?_;rintro e w7 ⟨rfl,hb⟩;have HP7:=hI (HP5.out.below hb);obtain ⟨z0,z1,z2,z3,z4,zf⟩:=cells5 HP7.out.r;clear hb))
      obtain ⟨f1,f2,f3,_⟩:=HP7.out.fin (.int .i64 15) (.int .i64 0) (.int .i64 pl) (.string ⟨#[]⟩) (.slice Av l.length cv) 15 0 pl []
      refine ret_c (d:=_) (cs:=#[.int .i64 15,.int .i64 0,.int .i64 pl,.string ⟨#[]⟩,.slice Av l.length cv]) (t':=68) (fr:=(0,0)) f1 rfl rfl Tryz.underlying68 rfl (by kernel_rfl) rfl ?_
      refine ⟨_,rfl,f2,?_,f3⟩
      show Pe.mk 15 0 pl [] (exPs l)=bindE _ (Pe.mk 3 o n s (exPs ar))
      rw [HQ.out]
      unfold bindE exI
      rw [if_neg (by decide),if_neg (by decide),if_neg (by decide),if_neg (by decide),if_pos rfl,HPL.out,if_pos hp]
     ·have hp2 : decide (0≤pl)=false:=decide_eq_false hp
      obtain ⟨⟨g0,g1,g2⟩,hge⟩ : ∃ y,getN t s=y:=⟨_,rfl⟩
      have HGE:=hI hge
      have HNK:=hI (show nkind t s=g1 by rw [nkind_get,hge])
      have HNN:=hI (show nnum t s=g2 by rw [nnum_get,hge])
      clear hge
      by_cases hg : g1=3
      ·subst hg
       go_wp2_with (first | (go_at_call 22;refine (place_i lo s _ HEN5.out.l HEN.out.n3).mono ?_;rintro e w6 ⟨rfl,rfl⟩;rw [HPL.out]) | (go_at_call 113;refine (find_w t HU.out s _ HEN5.out.t HEN.out.n1).mono ?_;rintro e w6 ⟨rfl,hb⟩;rw [HGE.out];obtain ⟨w6b,hw6⟩ : ∃ W,w6.alloc (.cells #[.string (str g0),.int .i64 3,.int .i64 g2] 116)=W:=⟨_,rfl⟩;have HP6:=hI ((HP5.out.below hb).below (made hw6).2.2);obtain ⟨b0,b1,b2,bf⟩:=cells3 (made hw6).1;clear hb) | (go_at_call 125;refine (with_w _ _ ab _ _ _ _ HP6.out.a).mono ?_;rintro e w7 ⟨rfl,hb⟩;have HP7:=hI (HP6.out.below hb);obtain ⟨z0,z1,z2,z3,z4,zf⟩:=cells5 HP7.out.r;clear hb))
       obtain ⟨f1,f2,f3,_⟩:=HP7.out.fin (.int .i64 14) (.int .i64 0) (.int .i64 g2) (.string ⟨#[]⟩) (.slice Av l.length cv) 14 0 g2 []
       refine ret_c (d:=_) (cs:=#[.int .i64 14,.int .i64 0,.int .i64 g2,.string ⟨#[]⟩,.slice Av l.length cv]) (t':=68) (fr:=(0,0)) f1 rfl rfl Tryz.underlying68 rfl (by kernel_rfl) rfl ?_
       refine ⟨_,rfl,f2,?_,f3⟩
       show Pe.mk 14 0 g2 [] (exPs l)=bindE _ (Pe.mk 3 o n s (exPs ar))
       rw [HQ.out]
       unfold bindE exI
       rw [if_neg (by decide),if_neg (by decide),if_neg (by decide),if_neg (by decide),if_pos rfl,HPL.out,if_neg (by omega),HNK.out,if_pos rfl,HNN.out]
      ·have hg2 : (g1 == 3)=false:=by simpa using hg
       go_wp2_with (first | (go_at_call 22;refine (place_i lo s _ HEN5.out.l HEN.out.n3).mono ?_;rintro e w6 ⟨rfl,rfl⟩;rw [HPL.out]) | (go_at_call 113;refine (find_w t HU.out s _ HEN5.out.t HEN.out.n1).mono ?_;rintro e w6 ⟨rfl,hb⟩;rw [HGE.out];obtain ⟨w6b,hw6⟩ : ∃ W,w6.alloc (.cells #[.string (str g0),.int .i64 g1,.int .i64 g2] 116)=W:=⟨_,rfl⟩;have HP6:=hI ((HP5.out.below hb).below (made hw6).2.2);obtain ⟨b0,b1,b2,bf⟩:=cells3 (made hw6).1;clear hb) | (go_at_call 125;refine (with_w _ _ ab _ _ _ _ HP6.out.a).mono ?_;rintro e w7 ⟨rfl,hb⟩;have HP7:=hI (HP6.out.below hb);obtain ⟨z0,z1,z2,z3,z4,zf⟩:=cells5 HP7.out.r;clear hb))
       obtain ⟨f1,f2,f3,_⟩:=HP7.out.fin (.int .i64 1) (.int .i64 0) (.int .i64 g2) (.string ⟨#[]⟩) (.slice Av l.length cv) 1 0 g2 []
       refine ret_c (d:=_) (cs:=#[.int .i64 1,.int .i64 0,.int .i64 g2,.string ⟨#[]⟩,.slice Av l.length cv]) (t':=68) (fr:=(0,0)) f1 rfl rfl Tryz.underlying68 rfl (by kernel_rfl) rfl ?_
       refine ⟨_,rfl,f2,?_,f3⟩
       show Pe.mk 1 0 g2 [] (exPs l)=bindE _ (Pe.mk 3 o n s (exPs ar))
       rw [HQ.out]
       unfold bindE exI
       rw [if_neg (by decide),if_neg (by decide),if_neg (by decide),if_neg (by decide),if_pos rfl,HPL.out,if_neg (by omega),HNK.out,if_neg hg,HNN.out]
    ·go_wp2_with fail
     obtain ⟨f1,f2,f3,_⟩:=HP5.out.fin (.int .i64 k) (.int .i64 o) (.int .i64 n) (.string (str s)) (.slice Av l.length cv) k o n s
     refine ret_c (d:=_) (cs:=#[.int .i64 k,.int .i64 o,.int .i64 n,.string (str s),.slice Av l.length cv]) (t':=68) (fr:=(0,0)) f1 rfl rfl Tryz.underlying68 rfl (by kernel_rfl) rfl ?_
     refine ⟨_,rfl,f2,?_,f3⟩
     show Pe.mk k o n s (exPs l)=bindE _ (Pe.mk k o n s (exPs ar))
     rw [HQ.out]
     unfold bindE exI
     rw [if_neg h2,if_neg h7,if_neg h8,if_neg h9,if_neg h3]
end Go.Proofs.YteibcfpepdbflaaGreat.BindX
