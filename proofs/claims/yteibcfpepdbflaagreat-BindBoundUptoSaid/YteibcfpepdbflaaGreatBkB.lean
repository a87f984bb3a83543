/- The maker of a book: its box, its three rows of routines; what a step of its turns. No walk here. -/
import Derived.Test.YteibcfpepdbflaaGreatBindQ
import Derived.Test.YteibcfpepdbflaaGreatBkA
open Go.Lib renaming hid → hI
namespace Go.Proofs.YteibcfpepdbflaaGreat.BindA
open Go Go.RowKit BindP BindD BindO BindW BindN BindG BindX BindB BindS BindK BindT BindQ
open Byt (str)
def StV (p : List Ps) (w : World) (e : Ending) (w' : World) : Prop:=∃ (A : Option Addr) (c : Nat) (l : List St),e=.returned (.slice A l.length c)∧stPs l=p∧Ls (fun b=>w.heap.size≤b) w' A c l∧Below w.heap.size w w'
set_option maxRecDepth 100000 in
theorem block_i (t : List Nm) (hu : Up t) (tx lo : List S) (A1 A2 A3 A : Option Addr) (n1 c1 n2 c2 n3 c3 c : Nat) (l : List St) (w : World) (henv : Env w A1 n1 t A2 n2 tx A3 n3 lo) (hl : Ls top w A c l) (hn : nB (stPs l)≤1048576) (hsz : lo.length + 2 * nB (stPs l)≤4194304) :
  Calls Tryz.prog 17 #[.slice A1 n1 c1,.slice A2 n2 c2,.slice A3 n3 c3,.slice A l.length c] w (StV (rowI t tx lo (stPs l)).1 w):=by
 have HEN:=hI henv
 have HL:=hI hl
 have HZ:=hI (And.intro hn hsz)
 have HU:=hI hu
 have HLN:=hI (show n3=lo.length from henv.l.len)
 clear henv hl hn hsz hu
 go_enter Tryz.func17,Tryz.ntmps17
 go_wp2_with (at_builtin;refine Sq.wpList_append elS rfl _ _ rfl rfl (Sq.own_nil w w.heap.size) A3 n3 c3 lo rfl HEN.out.l (by have h1:=HLN.out;have h2:=HZ.out.2;unfold maxLen;simp;omega) (by have h1:=HLN.out;have h2:=HZ.out.2;simp;omega) (Nat.le_refl _) ?_;intro v1 w1 ho hb _ _;rw [List.nil_append] at ho;obtain ⟨Av,cv,rfl,_,_⟩:=ho.shape;have HO:=hI ho;have HB:=hI hb;clear ho hb)
 have HB2:=hI (made (rfl : w1.alloc (.cells #[.slice A1 n1 c1,.slice A2 n2 c2,.slice Av lo.length cv] 135)=w1.alloc (.cells #[.slice A1 n1 c1,.slice A2 n2 c2,.slice Av lo.length cv] 135)))
 have HBW:=hI (HB.out.trans (HB2.out.2.2.mono HB.out.size))
 have HBN:=hI (show Bn w1.heap.size w.heap.size (.slice A1 n1 c1) (.slice A2 n2 c2) (w1.alloc (.cells #[.slice A1 n1 c1,.slice A2 n2 c2,.slice Av lo.length cv] 135)) (.slice Av lo.length cv) lo from
  ⟨HB2.out.1,HO.out.below HB2.out.2.2,fun c=>by have:=(World.ownsRow.lt HO.out _ c).2;omega,HB.out.size,by have:=HB2.out.2.1;omega⟩)
 refine (row_w t HU.out tx w1.heap.size w A1 A2 n1 c1 n2 c2 HEN.out.t HEN.out.x HEN.out.n1 HEN.out.n2 _ l (Nat.le_refl _) A c _ (.slice Av lo.length cv) lo HBN.out HBW.out HL.out HZ.out.1 HZ.out.2).mono ?_
 rintro e w3 ⟨lv',A',c',l',rfl,hp,hb,hst,hls⟩
 have HP:=hI hp
 have HST:=hI hst
 have HLS:=hI hls
 clear hp hb hst hls
 go_wp2_with fail
 go_ret
 have hs:=HBW.out.size
 refine ⟨A',c',l',rfl,HP.out,HLS.out.keep stays_s (Keep.weak fun b hb _=>by have:=hb.1;omega),HBW.out.trans (HST.out.low HB.out.size (fun b e=>(World.ownsRow.lt HO.out b e).1) hs)⟩
end Go.Proofs.YteibcfpepdbflaaGreat.BindA
namespace Go.Proofs.YteibcfpepdbflaaGreat.BkB
open Go Go.RowKit BindP BindD BindO BindW BindN BindG BindX BindB BindS BindK BindT
open Byt (str)
theorem cells18 {w : World} {g : Nat} {x0 x1 x2 x3 x4 x5 x6 x7 x8 x9 x10 x11 x12 x13 x14 x15 x16 x17 : Value} {t : TypeId} (h : w.heap[g]?=some (.cells #[x0,x1,x2,x3,x4,x5,x6,x7,x8,x9,x10,x11,x12,x13,x14,x15,x16,x17] t (0,0))) : w.cell? ⟨g,0,none⟩=some x0∧w.cell? ⟨g,1,none⟩=some x1∧w.cell? ⟨g,2,none⟩=some x2∧w.cell? ⟨g,3,none⟩=some x3∧w.cell? ⟨g,4,none⟩=some x4∧w.cell? ⟨g,5,none⟩=some x5∧w.cell? ⟨g,6,none⟩=some x6∧w.cell? ⟨g,7,none⟩=some x7∧w.cell? ⟨g,8,none⟩=some x8∧w.cell? ⟨g,9,none⟩=some x9∧w.cell? ⟨g,10,none⟩=some x10∧w.cell? ⟨g,11,none⟩=some x11∧w.cell? ⟨g,12,none⟩=some x12∧w.cell? ⟨g,13,none⟩=some x13∧w.cell? ⟨g,14,none⟩=some x14∧w.cell? ⟨g,15,none⟩=some x15∧w.cell? ⟨g,16,none⟩=some x16∧w.cell? ⟨g,17,none⟩=some x17∧∀ o,w.frozen? ⟨g,o,none⟩=false:=by
 refine ⟨by simp [World.cell?,h],by simp [World.cell?,h],by simp [World.cell?,h],by simp [World.cell?,h],by simp [World.cell?,h],by simp [World.cell?,h],by simp [World.cell?,h],by simp [World.cell?,h],by simp [World.cell?,h],by simp [World.cell?,h],by simp [World.cell?,h],by simp [World.cell?,h],by simp [World.cell?,h],by simp [World.cell?,h],by simp [World.cell?,h],by simp [World.cell?,h],by simp [World.cell?,h],by simp [World.cell?,h],fun o=>by simp [World.frozen?,h]⟩
def inE (n : Int) : List Value:=[.int .i64 n]
def hdE (s : Sv St) : List Value:=[s.v]
def HdR (K : Nat→Prop) (w : World) (s : Sv St) : Prop:=Ls K w s.a s.c s.l
theorem stays_h : Stays HdR:=fun _ _ _ _ _ h r=>Lg.keep stays_s h r
def RtI : (Nat→Prop)→World→Int→Prop:=fun _ _ _=>True
theorem stays_i : Stays RtI:=fun _ _ _ _ _ _ _=>trivial
theorem elI : Sk.El Tryz.prog 34 3 inE (.int .i64 0) 1 8 where
 und:=Tryz.underlying34
 info:=by kernel_rfl
 len:=fun _=>rfl
 one:=fun x u hu=>by simp [inE] at hu;subst hu;rfl
 zs:=rfl
 pos:=by omega
theorem elH : Sk.El Tryz.prog 40 46 hdE (.slice none 0 0) 1 24 where
 und:=Tryz.underlying40
 info:=by kernel_rfl
 len:=fun _=>rfl
 one:=fun x u hu=>by simp [hdE,Sv.v] at hu;subst hu;rfl
 zs:=rfl
 pos:=by omega
structure Ft (D D' : Nat→Prop) (w w' : World) : Prop where
 os : w'.os=w.os
 tape : w'.tape=w.tape
 output : w'.output=w.output
 size : w.heap.size≤w'.heap.size
 block : ∀ b,b < w.heap.size→¬ D b→w'.heap[b]?=w.heap[b]?
 own : ∀ b,D' b→D b∨w.heap.size≤b
section
variable {D D' D2 : Nat→Prop} {w w' w2 : World}
theorem Ft.refl (D : Nat→Prop) (w : World) : Ft D D w w:=⟨rfl,rfl,rfl,Nat.le_refl _,fun _ _ _=>rfl,fun _ h=>.inl h⟩
theorem Ft.trans (h : Ft D D' w w') (k : Ft D' D2 w' w2) : Ft D D2 w w2:=
 ⟨k.os.trans h.os,k.tape.trans h.tape,k.output.trans h.output,Nat.le_trans h.size k.size,fun b hb h1=>(k.block b (Nat.lt_of_lt_of_le hb h.size) (fun c=>by
  rcases h.own b c with e | e
  ·exact h1 e
  ·omega)).trans (h.block b hb h1),fun b hb=>by
  rcases k.own b hb with e | e
  ·exact h.own b e
  ·exact .inr (Nat.le_trans h.size e)⟩
theorem Ft.below (h : Below w.heap.size w w') : Ft D D w w':=⟨h.os,h.tape,h.output,h.size,fun b hb _=>h.block b hb,fun _ h=>.inl h⟩
theorem Ft.keep (h : Ft D D' w w') : Keep (fun b=>¬ D b) (fun b=>¬ D' b) w w':=⟨h.size,fun b hk hb=>⟨fun c=>by
 rcases h.own b c with e | e
 ·exact hk e
 ·omega,h.block b hb hk⟩⟩
theorem Ft.low {W : Nat} (h : Ft D D' w w') (hD : ∀ b,D b→W≤b) (hw : W≤w.heap.size) : Below W w w':=
 ⟨h.os,h.tape,h.output,h.size,fun b hb=>h.block b (by omega) (fun c=>by have:=hD b c;omega)⟩
end
theorem sk_keep {α : Type} {enc : α→List Value} {k : Nat} {E : TypeId} {w w' : World} {B : Nat} {v : Value} {l : List α} (h : Sk.Own enc k E w B v l) (hk : ∀ g,v.ownBlock=some g→w'.heap[g]?=w.heap[g]?) : Sk.Own enc k E w' B v l:=by
 obtain ⟨h1,h2⟩:=h
 refine ⟨h1,h2.imp id ?_⟩
 rintro ⟨g,cap,cur,rfl,hB,hh,hr⟩
 exact ⟨g,cap,cur,rfl,hB,(hk g rfl).trans hh,hr⟩
structure Ms where
 ps : List Int
 ls : List Int
 rs : List (Sv St)
structure Mp where
 ps : List Int
 ls : List Int
 rs : List (List Ps)
def Ms.p (m : Ms) : Mp:=⟨m.ps,m.ls,m.rs.map fun s=>stPs s.l⟩
def Mp.le (m : Mp) (n : Nat) : Prop:=m.ps.length≤n∧m.ls.length≤n∧m.rs.length≤n
def Ms.le (m : Ms) (n : Nat) : Prop:=m.ps.length≤n∧m.ls.length≤n∧m.rs.length≤n
def Dm (w0 : World) (vp vl vr : Value) : Nat→Prop:=fun b=>b=w0.heap.size∨vp.ownBlock=some b∨vl.ownBlock=some b∨vr.ownBlock=some b
structure Mb (X : Nat→Prop) (w0 : World) (tv xv : Value) (y : Nat→Value) (w : World) (vp vl vr : Value) (m : Ms) : Prop where
 box : w.heap[w0.heap.size]?=some (.cells #[tv,xv,y 0,y 1,y 2,y 3,y 4,y 5,y 6,y 7,y 8,y 9,y 10,y 11,y 12,vp,vl,vr] 73 (0,0))
 op : Sk.Own inE 1 3 w w0.heap.size vp m.ps
 ol : Sk.Own inE 1 3 w w0.heap.size vl m.ls
 or : Sk.Own hdE 1 46 w w0.heap.size vr m.rs
 sub : ∀ s ∈ m.rs,HdR (fun b=>¬ Dm w0 vp vl vr b∧¬ X b) w s
 xl : ∀ b,X b→b < w.heap.size
 pW : vp.ownBlock ≠ some w0.heap.size
 lW : vl.ownBlock ≠ some w0.heap.size
 rW : vr.ownBlock ≠ some w0.heap.size
 pl : ∀ b,vp.ownBlock=some b→vl.ownBlock ≠ some b
 pr : ∀ b,vp.ownBlock=some b→vr.ownBlock ≠ some b
 lr : ∀ b,vl.ownBlock=some b→vr.ownBlock ≠ some b
 low : Below w0.heap.size w0 w
 lt : w0.heap.size < w.heap.size
section
variable {X : Nat→Prop} {w0 : World} {tv xv : Value} {y : Nat→Value} {w w' : World} {vp vl vr : Value} {m : Ms}
theorem Mb.dm (h : Mb X w0 tv xv y w vp vl vr m) {b : Nat} (hb : Dm w0 vp vl vr b) : w0.heap.size≤b∧b < w.heap.size:=by
 rcases hb with rfl | e | e | e
 ·exact ⟨Nat.le_refl _,h.lt⟩
 ·exact World.ownsRow.lt h.op b e
 ·exact World.ownsRow.lt h.ol b e
 ·exact World.ownsRow.lt h.or b e
theorem Mb.keeps (h : Mb X w0 tv xv y w vp vl vr m) (hk : ∀ b,Dm w0 vp vl vr b→w'.heap[b]?=w.heap[b]?) (hs : Keep (fun b=>¬ Dm w0 vp vl vr b∧¬ X b) (fun b=>¬ Dm w0 vp vl vr b∧¬ X b) w w') (hl : Below w0.heap.size w w') : Mb X w0 tv xv y w' vp vl vr m:=
 ⟨(hk _ (.inl rfl)).trans h.box,sk_keep h.op fun g e=>hk g (.inr (.inl e)),sk_keep h.ol fun g e=>hk g (.inr (.inr (.inl e))),sk_keep h.or fun g e=>hk g (.inr (.inr (.inr e))),fun s hs'=>stays_h _ _ _ _ _ hs (h.sub s hs'),fun b hb=>Nat.lt_of_lt_of_le (h.xl b hb) hs.size,h.pW,h.lW,h.rW,h.pl,h.pr,h.lr,h.low.trans hl,Nat.lt_of_lt_of_le h.lt hl.size⟩
theorem Mb.below (h : Mb X w0 tv xv y w vp vl vr m) (hb : Below w.heap.size w w') : Mb X w0 tv xv y w' vp vl vr m:=
 h.keeps (fun b hd=>hb.block b (h.dm hd).2) (Keep.below hb) (hb.mono (Nat.le_of_lt h.lt))
theorem Mb.setx (h : Mb X w0 tv xv y w vp vl vr m) {g : Nat} (o : Nat) (hg : ¬ Dm w0 vp vl vr g) (hX : X g) (hW : w0.heap.size≤g) (v : Value) : Mb X w0 tv xv y (w.setCell ⟨g,o,none⟩ v) vp vl vr m:=
 h.keeps (fun b hb=>by
  have e : g ≠ b:=fun c=>hg (c ▸ hb)
  simp [World.setCell,Array.getElem?_modify,e]) (keep_set o v fun c=>c.2 hX) ((Below.refl _ _).setCell (p:=⟨g,o,none⟩) hW v)
theorem Mb.newx (h : Mb X w0 tv xv y w vp vl vr m) {X' : Nat→Prop} {row : Option Nat} (hg : w.grownBy w' row) (hr : ∀ b,row=some b→X b∧¬ Dm w0 vp vl vr b∧w0.heap.size≤b) (hx : ∀ b,X' b→X b∨w.heap.size≤b) (hl : ∀ b,X' b→b < w'.heap.size) : Mb X' w0 tv xv y w' vp vl vr m:=by
 have hb : ∀ b,Dm w0 vp vl vr b→w'.heap[b]?=w.heap[b]?:=fun b hd=>hg.block b (h.dm hd).2 (fun c=>(hr b c.symm).2.1 hd)
 have hk : Keep (fun b=>¬ Dm w0 vp vl vr b∧¬ X b) (fun b=>¬ Dm w0 vp vl vr b∧¬ X' b) w w':=⟨hg.size,fun b hb hlt=>⟨⟨hb.1,fun c=>by
  rcases hx b c with c | c
  ·exact hb.2 c
  ·omega⟩,hg.block b hlt (fun c=>hb.2 (hr b c.symm).1)⟩⟩
 exact ⟨(hb _ (.inl rfl)).trans h.box,sk_keep h.op fun g e=>hb g (.inr (.inl e)),sk_keep h.ol fun g e=>hb g (.inr (.inr (.inl e))),sk_keep h.or fun g e=>hb g (.inr (.inr (.inr e))),fun s hs'=>stays_h _ _ _ _ _ hk (h.sub s hs'),hl,h.pW,h.lW,h.rW,h.pl,h.pr,h.lr,
  h.low.trans ⟨hg.os,hg.tape,hg.output,hg.size,fun b hlt=>hg.block b (by have:=h.lt;omega) (fun c=>by have:=(hr b c.symm).2.2;omega)⟩,Nat.lt_of_lt_of_le h.lt hg.size⟩
theorem Ft.keepx {D D' : Nat→Prop} {w w' : World} (h : Ft D D' w w') (X : Nat→Prop) : Keep (fun b=>¬ D b∧¬ X b) (fun b=>¬ D' b∧¬ X b) w w':=⟨h.size,fun b hk hb=>⟨⟨(h.keep.blk b hk.1 hb).1,hk.2⟩,(h.keep.blk b hk.1 hb).2⟩⟩
theorem Mb.appP (h : Mb X w0 tv xv y w vp vl vr m) {w7 : World} {v7 : Value} {x : Int} (ho : Sk.Own inE 1 3 w7 w0.heap.size v7 (m.ps ++ [x])) (hg : w.grownBy w7 vp.ownBlock) (hb : Below w0.heap.size w w7) (hv : v7.ownBlock=vp.ownBlock∨v7.ownBlock=some w.heap.size) :
  Mb X w0 tv xv y (w7.setCell ⟨w0.heap.size,15,none⟩ v7) v7 vl vr ⟨m.ps ++ [x],m.ls,m.rs⟩∧Ft (Dm w0 vp vl vr) (Dm w0 v7 vl vr) w (w7.setCell ⟨w0.heap.size,15,none⟩ v7):=by
 have hs:=hg.size
 have hlt:=h.lt
 have hne : ∀ b,b ≠ w0.heap.size→(w7.setCell ⟨w0.heap.size,15,none⟩ v7).heap[b]?=w7.heap[b]?:=fun b hb=>by simp [World.setCell,Array.getElem?_modify,Ne.symm hb]
 have h7W : v7.ownBlock ≠ some w0.heap.size:=fun c=>by
  rcases hv with e | e
  ·rw [e] at c;exact h.pW c
  ·rw [e] at c;injection c with c;omega
 have h7 : ∀ b,v7.ownBlock=some b→vp.ownBlock=some b∨w.heap.size≤b:=fun b c=>by
  rcases hv with e | e
  ·rw [e] at c;exact .inl c
  ·rw [e] at c;injection c with c;exact .inr (by omega)
 have hsz : (w7.setCell ⟨w0.heap.size,15,none⟩ v7).heap.size=w7.heap.size:=by simp [World.setCell]
 have hF : Ft (Dm w0 vp vl vr) (Dm w0 v7 vl vr) w (w7.setCell ⟨w0.heap.size,15,none⟩ v7):=by
  refine ⟨hg.os,hg.tape,hg.output,by rw [hsz];exact hs,fun b hbl hd=>?_,fun b hd=>?_⟩
  ·rw [hne b (fun c=>hd (.inl c))]
   exact hg.block b hbl (fun c=>hd (by have e:=c.symm;exact .inr (.inl e)))
  ·rcases hd with c | e | e | e
   ·exact .inl (.inl c)
   ·rcases h7 b e with e | e
    ·exact .inl (.inr (.inl e))
    ·exact .inr e
   ·exact .inl (.inr (.inr (.inl e)))
   ·exact .inl (.inr (.inr (.inr e)))
 have hcell : ∀ q : Value,(∀ b,q.ownBlock=some b→w0.heap.size≤b∧b < w.heap.size)→q.ownBlock ≠ some w0.heap.size→(∀ b,q.ownBlock=some b→vp.ownBlock ≠ some b)→∀ b,q.ownBlock=some b→(w7.setCell ⟨w0.heap.size,15,none⟩ v7).heap[b]?=w.heap[b]?:=fun q h1 h2 h3 b e=>by
  rw [hne b (fun c=>h2 (c ▸ e))]
  exact hg.block b (h1 b e).2 (fun c=>h3 b e c.symm)
 have hbx:=(hg.block _ h.lt (Ne.symm h.pW)).trans h.box
 refine ⟨⟨by simp [World.setCell,Array.getElem?_modify,hbx],?_,?_,?_,?_,fun b hb=>by rw [hsz];exact Nat.lt_of_lt_of_le (h.xl b hb) hs,?_,?_,?_,?_,?_,?_,h.low.trans (hb.setCell (p:=⟨w0.heap.size,15,none⟩) (Nat.le_refl _) _),by rw [hsz];omega⟩,hF⟩
 ·exact sk_keep ho fun b e=>hne b (fun c=>h7W (c ▸ e))
 ·exact sk_keep h.ol (hcell vl (fun b e=>World.ownsRow.lt h.ol b e) h.lW (fun b e=>fun c=>h.pl b c e))
 ·exact sk_keep h.or (hcell vr (fun b e=>World.ownsRow.lt h.or b e) h.rW (fun b e=>fun c=>h.pr b c e))
 ·exact fun s hs2=>stays_h _ _ _ _ _ (hF.keepx X) (h.sub s hs2)
 ·exact h7W
 ·exact h.lW
 ·exact h.rW
 ·intro b e c
  rcases h7 b e with e | e
  ·exact h.pl b e c
  ·have:=(World.ownsRow.lt h.ol b c).2;omega
 ·intro b e c
  rcases h7 b e with e | e
  ·exact h.pr b e c
  ·have:=(World.ownsRow.lt h.or b c).2;omega
 ·exact h.lr
theorem Mb.appL (h : Mb X w0 tv xv y w vp vl vr m) {w7 : World} {v7 : Value} {x : Int} (ho : Sk.Own inE 1 3 w7 w0.heap.size v7 (m.ls ++ [x])) (hg : w.grownBy w7 vl.ownBlock) (hb : Below w0.heap.size w w7) (hv : v7.ownBlock=vl.ownBlock∨v7.ownBlock=some w.heap.size) :
  Mb X w0 tv xv y (w7.setCell ⟨w0.heap.size,16,none⟩ v7) vp v7 vr ⟨m.ps,m.ls ++ [x],m.rs⟩∧Ft (Dm w0 vp vl vr) (Dm w0 vp v7 vr) w (w7.setCell ⟨w0.heap.size,16,none⟩ v7):=by
 have hs:=hg.size
 have hlt:=h.lt
 have hne : ∀ b,b ≠ w0.heap.size→(w7.setCell ⟨w0.heap.size,16,none⟩ v7).heap[b]?=w7.heap[b]?:=fun b hb=>by simp [World.setCell,Array.getElem?_modify,Ne.symm hb]
 have h7W : v7.ownBlock ≠ some w0.heap.size:=fun c=>by
  rcases hv with e | e
  ·rw [e] at c;exact h.lW c
  ·rw [e] at c;injection c with c;omega
 have h7 : ∀ b,v7.ownBlock=some b→vl.ownBlock=some b∨w.heap.size≤b:=fun b c=>by
  rcases hv with e | e
  ·rw [e] at c;exact .inl c
  ·rw [e] at c;injection c with c;exact .inr (by omega)
 have hsz : (w7.setCell ⟨w0.heap.size,16,none⟩ v7).heap.size=w7.heap.size:=by simp [World.setCell]
 have hF : Ft (Dm w0 vp vl vr) (Dm w0 vp v7 vr) w (w7.setCell ⟨w0.heap.size,16,none⟩ v7):=by
  refine ⟨hg.os,hg.tape,hg.output,by rw [hsz];exact hs,fun b hbl hd=>?_,fun b hd=>?_⟩
  ·rw [hne b (fun c=>hd (.inl c))]
   exact hg.block b hbl (fun c=>hd (by have e:=c.symm;exact .inr (.inr (.inl e))))
  ·rcases hd with c | e | e | e
   ·exact .inl (.inl c)
   ·exact .inl (.inr (.inl e))
   ·rcases h7 b e with e | e
    ·exact .inl (.inr (.inr (.inl e)))
    ·exact .inr e
   ·exact .inl (.inr (.inr (.inr e)))
 have hcell : ∀ q : Value,(∀ b,q.ownBlock=some b→w0.heap.size≤b∧b < w.heap.size)→q.ownBlock ≠ some w0.heap.size→(∀ b,q.ownBlock=some b→vl.ownBlock ≠ some b)→∀ b,q.ownBlock=some b→(w7.setCell ⟨w0.heap.size,16,none⟩ v7).heap[b]?=w.heap[b]?:=fun q h1 h2 h3 b e=>by
  rw [hne b (fun c=>h2 (c ▸ e))]
  exact hg.block b (h1 b e).2 (fun c=>h3 b e c.symm)
 have hbx:=(hg.block _ h.lt (Ne.symm h.lW)).trans h.box
 refine ⟨⟨by simp [World.setCell,Array.getElem?_modify,hbx],?_,?_,?_,?_,fun b hb=>by rw [hsz];exact Nat.lt_of_lt_of_le (h.xl b hb) hs,?_,?_,?_,?_,?_,?_,h.low.trans (hb.setCell (p:=⟨w0.heap.size,16,none⟩) (Nat.le_refl _) _),by rw [hsz];omega⟩,hF⟩
 ·exact sk_keep h.op (hcell vp (fun b e=>World.ownsRow.lt h.op b e) h.pW (fun b e=>h.pl b e))
 ·exact sk_keep ho fun b e=>hne b (fun c=>h7W (c ▸ e))
 ·exact sk_keep h.or (hcell vr (fun b e=>World.ownsRow.lt h.or b e) h.rW (fun b e=>fun c=>h.lr b c e))
 ·exact fun s hs2=>stays_h _ _ _ _ _ (hF.keepx X) (h.sub s hs2)
 ·exact h.pW
 ·exact h7W
 ·exact h.rW
 ·intro b e c
  rcases h7 b c with c | c
  ·exact h.pl b e c
  ·have:=(World.ownsRow.lt h.op b e).2;omega
 ·exact h.pr
 ·intro b e c
  rcases h7 b e with e | e
  ·exact h.lr b e c
  ·have:=(World.ownsRow.lt h.or b c).2;omega
theorem Mb.appR (h : Mb X w0 tv xv y w vp vl vr m) {w7 : World} {v7 : Value} {x : Sv St} (ho : Sk.Own hdE 1 46 w7 w0.heap.size v7 (m.rs ++ [x])) (hg : w.grownBy w7 vr.ownBlock) (hb : Below w0.heap.size w w7) (hv : v7.ownBlock=vr.ownBlock∨v7.ownBlock=some w.heap.size) (hx : HdR (fun b=>¬ Dm w0 vp vl vr b∧¬ X b) w x) :
  Mb X w0 tv xv y (w7.setCell ⟨w0.heap.size,17,none⟩ v7) vp vl v7 ⟨m.ps,m.ls,m.rs ++ [x]⟩∧Ft (Dm w0 vp vl vr) (Dm w0 vp vl v7) w (w7.setCell ⟨w0.heap.size,17,none⟩ v7):=by
 have hs:=hg.size
 have hlt:=h.lt
 have hne : ∀ b,b ≠ w0.heap.size→(w7.setCell ⟨w0.heap.size,17,none⟩ v7).heap[b]?=w7.heap[b]?:=fun b hb=>by simp [World.setCell,Array.getElem?_modify,Ne.symm hb]
 have h7W : v7.ownBlock ≠ some w0.heap.size:=fun c=>by
  rcases hv with e | e
  ·rw [e] at c;exact h.rW c
  ·rw [e] at c;injection c with c;omega
 have h7 : ∀ b,v7.ownBlock=some b→vr.ownBlock=some b∨w.heap.size≤b:=fun b c=>by
  rcases hv with e | e
  ·rw [e] at c;exact .inl c
  ·rw [e] at c;injection c with c;exact .inr (by omega)
 have hsz : (w7.setCell ⟨w0.heap.size,17,none⟩ v7).heap.size=w7.heap.size:=by simp [World.setCell]
 have hF : Ft (Dm w0 vp vl vr) (Dm w0 vp vl v7) w (w7.setCell ⟨w0.heap.size,17,none⟩ v7):=by
  refine ⟨hg.os,hg.tape,hg.output,by rw [hsz];exact hs,fun b hbl hd=>?_,fun b hd=>?_⟩
  ·rw [hne b (fun c=>hd (.inl c))]
   exact hg.block b hbl (fun c=>hd (by have e:=c.symm;exact .inr (.inr (.inr e))))
  ·rcases hd with c | e | e | e
   ·exact .inl (.inl c)
   ·exact .inl (.inr (.inl e))
   ·exact .inl (.inr (.inr (.inl e)))
   ·rcases h7 b e with e | e
    ·exact .inl (.inr (.inr (.inr e)))
    ·exact .inr e
 have hcell : ∀ q : Value,(∀ b,q.ownBlock=some b→w0.heap.size≤b∧b < w.heap.size)→q.ownBlock ≠ some w0.heap.size→(∀ b,q.ownBlock=some b→vr.ownBlock ≠ some b)→∀ b,q.ownBlock=some b→(w7.setCell ⟨w0.heap.size,17,none⟩ v7).heap[b]?=w.heap[b]?:=fun q h1 h2 h3 b e=>by
  rw [hne b (fun c=>h2 (c ▸ e))]
  exact hg.block b (h1 b e).2 (fun c=>h3 b e c.symm)
 have hbx:=(hg.block _ h.lt (Ne.symm h.rW)).trans h.box
 refine ⟨⟨by simp [World.setCell,Array.getElem?_modify,hbx],?_,?_,?_,?_,fun b hb=>by rw [hsz];exact Nat.lt_of_lt_of_le (h.xl b hb) hs,?_,?_,?_,?_,?_,?_,h.low.trans (hb.setCell (p:=⟨w0.heap.size,17,none⟩) (Nat.le_refl _) _),by rw [hsz];omega⟩,hF⟩
 ·exact sk_keep h.op (hcell vp (fun b e=>World.ownsRow.lt h.op b e) h.pW (fun b e=>h.pr b e))
 ·exact sk_keep h.ol (hcell vl (fun b e=>World.ownsRow.lt h.ol b e) h.lW (fun b e=>h.lr b e))
 ·exact sk_keep ho fun b e=>hne b (fun c=>h7W (c ▸ e))
 ·intro s hs2
  rcases List.mem_append.1 hs2 with hs2 | hs2
  ·exact stays_h _ _ _ _ _ (hF.keepx X) (h.sub s hs2)
  ·obtain rfl : s=x:=by simpa using hs2
   exact stays_h _ _ _ _ _ (hF.keepx X) hx
 ·exact h.pW
 ·exact h.lW
 ·exact h7W
 ·exact h.pl
 ·intro b e c
  rcases h7 b c with c | c
  ·exact h.pr b e c
  ·have:=(World.ownsRow.lt h.op b e).2;omega
 ·intro b e c
  rcases h7 b c with c | c
  ·exact h.lr b e c
  ·have:=(World.ownsRow.lt h.ol b e).2;omega
end
end Go.Proofs.YteibcfpepdbflaaGreat.BkB
