/- A maker's ways of an object's exits. Conditions: sizes within the reach. -/
import Derived.Test.YteibcfpepdbflaaGreatRngE
import Derived.Test.YteibcfpepdbflaaGreatTxA
import Derived.Deep.CutBlock
open Go.Lib renaming hid → hI
open Go.Proofs.YteibcfpepdbflaaGreat.RgD renaming tk → tK, sA → zA, s0 → zB, s1 → zC
namespace Go.Proofs.YteibcfpepdbflaaGreat.BkF
open Go Go.RowKit BindP BindD BindO BindW BindN BindG BindX BindB BindS BindK BindT BindA BkA BkB BkC BkD BkE TxA
open Byt (str)
theorem Mb.less {X X' : Nat→Prop} {w0 : World} {tv xv : Value} {y : Nat→Value} {w : World} {vp vl vr : Value} {m : Ms} (h : Mb X' w0 tv xv y w vp vl vr m) (hx : ∀ b,X b→X' b) : Mb X w0 tv xv y w vp vl vr m:=
 ⟨h.box,h.op,h.ol,h.or,fun s hs=>stays_h _ _ _ _ _ (Keep.weak fun b hb _=>⟨hb.1,fun c=>hb.2 (hx b c)⟩) (h.sub s hs),fun b hb=>h.xl b (hx b hb),h.pW,h.lW,h.rW,h.pl,h.pr,h.lr,h.low,h.lt⟩
def Xo (X : Nat→Prop) (v : Value) : Nat→Prop:=fun b=>X b∨v.ownBlock=some b
structure Mo (X : Nat→Prop) (w0 : World) (tv xv : Value) (y : Nat→Value) (w : World) (D0 : Nat→Prop) (vo : Value) (out : List Wy) (r : Mp) (vp vl vr : Value) (m : Ms) (wr : World) : Prop where
 mb : Mb (Xo X vo) w0 tv xv y wr vp vl vr m
 p : m.p=r
 ft : Ft D0 (Dm w0 vp vl vr) w wr
 ow : Ow wyE RtW 4 153 (fun b=>w.heap.size≤b∧¬ Dm w0 vp vl vr b) wr w.heap.size vo out
section
variable {X : Nat→Prop} {w0 : World} {tv xv : Value} {y : Nat→Value} {w : World} {D0 : Nat→Prop} {vo : Value} {out : List Wy} {r : Mp} {vp vl vr : Value} {m : Ms} {wr w' : World}
theorem Mo.below (h : Mo X w0 tv xv y w D0 vo out r vp vl vr m wr) (hb : Below wr.heap.size wr w') : Mo X w0 tv xv y w D0 vo out r vp vl vr m w':=
 ⟨h.mb.below hb,h.p,h.ft.trans (Ft.below hb),h.ow.below stays_w hb⟩
theorem Mo.step (h : Mo X w0 tv xv y w D0 vo out r vp vl vr m wr) {vp' vl' vr' : Value} {m' : Ms} {r' : Mp} (hM : Mb (Xo X vo) w0 tv xv y w' vp' vl' vr' m') (hp : m'.p=r') (hf : Ft (Dm w0 vp vl vr) (Dm w0 vp' vl' vr') wr w') : Mo X w0 tv xv y w D0 vo out r' vp' vl' vr' m' w':=
 ⟨hM,hp,h.ft.trans hf,h.ow.keep stays_w ⟨hf.size,fun b hb hl=>⟨⟨hb.1,(hf.keep.blk b hb.2 hl).1⟩,(hf.keep.blk b hb.2 hl).2⟩⟩⟩
theorem Mo.app (h : Mo X w0 tv xv y w D0 vo out r vp vl vr m wr) {v' : Value} {x : Wy} (hw : w0.heap.size≤w.heap.size) (ho : Sk.Own wyE 4 153 w' w.heap.size v' (out ++ [x])) (hg : wr.grownBy w' vo.ownBlock) (hv : v'.ownBlock=vo.ownBlock∨v'.ownBlock=some wr.heap.size) : Mo X w0 tv xv y w D0 v' (out ++ [x]) r vp vl vr m w':=by
 have hrow : ∀ b,vo.ownBlock=some b→w.heap.size≤b∧¬ Dm w0 vp vl vr b:=fun b e=>h.ow.row b e
 have hsz:=h.ft.size
 refine ⟨h.mb.newx hg (fun b e=>⟨.inr e,(hrow b e).2,Nat.le_trans hw (hrow b e).1⟩) (fun b hb=>?_) (fun b hb=>?_),h.p,⟨hg.os.trans h.ft.os,hg.tape.trans h.ft.tape,hg.output.trans h.ft.output,Nat.le_trans hsz hg.size,fun b hb hd=>(hg.block b (by omega) (fun c=>by have:=(hrow b c.symm).1;omega)).trans (h.ft.block b hb hd),fun b hd=>h.ft.own b hd⟩,Ow.append stays_w h.ow ho hg hv ⟨hsz,fun c=>by have:=(h.mb.dm c).2;omega⟩ (fun _ _=>trivial)⟩
 ·rcases hb with c | c
  ·exact .inl (.inl c)
  ·rcases hv with e | e
   ·exact .inl (.inr (e ▸ c))
   ·rw [e] at c;injection c with c;exact .inr (by omega)
 ·rcases hb with c | c
  ·exact Nat.lt_of_lt_of_le (h.mb.xl b (.inl c)) hg.size
  ·exact (World.ownsRow.lt ho b c).2
theorem Mo.put (h : Mo X w0 tv xv y w D0 vo out r vp vl vr m wr) (hw : w0.heap.size≤w.heap.size) {g n cap i : Nat} (hv : vo=.slice (some ⟨g,0,none⟩) n cap) (hi : i < out.length) (x : Wy) : Mo X w0 tv xv y w D0 vo (out.set i x) r vp vl vr m (putRow wr g (i * 4) (wyE x)):=by
 subst hv
 have hrow:=h.ow.row g rfl
 have hsz:=h.ft.size
 refine ⟨?_,h.p,⟨?_,?_,?_,?_,fun b hb hd=>?_,fun b hd=>h.ft.own b hd⟩,⟨own_set wyE_len hi x h.ow.own,h.ow.row,fun _ _=>trivial⟩⟩
 ·have e : putRow wr g (i * 4) (wyE x)=(((wr.setCell ⟨g,i * 4,none⟩ (.int .i64 x.dr)).setCell ⟨g,i * 4 + 1,none⟩ (.int .i64 x.tt)).setCell ⟨g,i * 4 + 1 + 1,none⟩ (.int .i64 x.wn)).setCell ⟨g,i * 4 + 1 + 1 + 1,none⟩ (.int .i64 x.el):=rfl
  rw [e]
  have hW:=Nat.le_trans hw hrow.1
  exact (((h.mb.setx _ hrow.2 (.inr rfl) hW _).setx _ hrow.2 (.inr rfl) hW _).setx _ hrow.2 (.inr rfl) hW _).setx _ hrow.2 (.inr rfl) hW _
 ·exact (putRow_below (B:=0) (w0:=wr) (wyE x) g (i * 4) (Below.refl _ _) (Nat.zero_le _)).os.trans h.ft.os
 ·exact (putRow_below (B:=0) (w0:=wr) (wyE x) g (i * 4) (Below.refl _ _) (Nat.zero_le _)).tape.trans h.ft.tape
 ·exact (putRow_below (B:=0) (w0:=wr) (wyE x) g (i * 4) (Below.refl _ _) (Nat.zero_le _)).output.trans h.ft.output
 ·rw [putRow_size];exact hsz
 ·rw [putRow_other _ _ _ _ _ (fun c=>by have:=hrow.1;omega)]
  exact h.ft.block b hb hd
end
theorem sk_frozen {α : Type} {enc : α→List Value} {k : Nat} {E : TypeId} {w : World} {B g n c : Nat} {l : List α} (h : Sk.Own enc k E w B (.slice (some ⟨g,0,none⟩) n c) l) (o : Nat) : w.frozen? ⟨g,o,none⟩=false:=by
 obtain ⟨_,h⟩:=h
 rcases h with ⟨hv,_⟩ | ⟨g',cap',cur,hv,hB,hh,_⟩
 ·cases hv
 ·injection hv with e1 _ _
  injection e1 with e1
  injection e1 with e1
  subst e1
  simp [World.frozen?,hh]
def WaV (X : Nat→Prop) (w0 : World) (tv xv : Value) (y : Nat→Value) (w : World) (D0 : Nat→Prop) (r : Mp × List Wy) (e : Ending) (w' : World) : Prop:=
 ∃ vp vl vr m A c,e=.returned (.slice A r.2.length c)∧Mo X w0 tv xv y w D0 (.slice A r.2.length c) r.2 r.1 vp vl vr m w'
theorem low_rd {w : World} {D0 D : Nat→Prop} {wr : World} (h : Ft D0 D w wr) {b : Nat} (hb : b < w.heap.size) (hd : ¬ D0 b) (p : Nat) : wr.cell? ⟨b,p,none⟩=w.cell? ⟨b,p,none⟩:=World.cell?_of_block (h.block b hb hd)
set_option maxRecDepth 100000 in
set_option maxHeartbeats 16000000 in
theorem ways_w (X : Nat→Prop) (w0 : World) (A1 A2 : Option Addr) (n1 c1 n2 c2 : Nat) (t : List Nm) (tx : List S) (hbs : Bs w0 A1 n1 t A2 n2 tx) (y : Nat→Value) (w : World) (vp vl vr : Value) (m : Ms) (hM : Mb X w0 (.slice A1 n1 c1) (.slice A2 n2 c2) y w vp vl vr m)
  (l : List Xt) (A : Option Addr) (c : Nat) (hl : Lg Xt.e Xt.R (fun b=>¬ Dm w0 vp vl vr b) w A c l) (n : Nat) (hm : m.p.le n) (hn : n + l.length≤2000000) (hz : (l.map Xt.m).sum≤1048576) :
  Calls Tryz.prog 72 #[.pointer (some ⟨w0.heap.size,0,none⟩),.slice A l.length c] w (WaV X w0 (.slice A1 n1 c1) (.slice A2 n2 c2) y w (Dm w0 vp vl vr) (wysI t tx m.p l)):=by
 have HBS:=hI hbs
 have HL:=hI hl
 have HN:=hI (And.intro hm (And.intro hn hz))
 have HM0:=hI hM
 have HW:=hI (Nat.le_of_lt hM.lt)
 obtain ⟨D0,hD0⟩ : ∃ D,Dm w0 vp vl vr=D:=⟨_,rfl⟩
 have HD0:=hI hD0
 obtain ⟨q,hq⟩ : ∃ z,l.length=z:=⟨_,rfl⟩
 have HQ:=hI hq
 rw [hq,hD0]
 rw [hD0] at HL
 have hqn : q≤2000000:=by omega
 clear hbs hl hm hn hz hM hD0 hq
 go_enter Tryz.func72,Tryz.ntmps72
 go_wp2_with fail
 go_loopw [5,11] (fun vo iv wr=>∃ (j : Nat) (Ao : Option Addr) (co : Nat) (vp1 vl1 vr1 : Value) (m1 : Ms),j≤q∧Value.slice Ao j co=vo∧iv=.int .i64 (j : Int)∧Mo X w0 (.slice A1 n1 c1) (.slice A2 n2 c2) y w D0 vo (wysI t tx m.p (l.take j)).2 (wysI t tx m.p (l.take j)).1 vp1 vl1 vr1 m1 wr) (fun _ iv _=>q - (intOf iv).toNat)
 case atStart=>
  refine ⟨0,none,0,vp,vl,vr,m,Nat.zero_le _,rfl,rfl,Mb.less HM0.out (fun b h=>h.elim id (fun c=>by simp [Value.ownBlock] at c)),rfl,HD0.out ▸ Ft.refl _ _,Ow.nil _ _⟩
 case round=>
  obtain ⟨j,Ao,co,vp1,vl1,vr1,m1,hj,rfl,rfl,hmo⟩:=hrel
  have HMO:=hI hmo
  clear hmo
  by_cases hlt : j < q
  ·have hjl : j < l.length:=by rw [HQ.out];exact hlt
   obtain ⟨b_,o_,rfl,hbl,hc⟩:=Lg.at_ Xt.len HL.out hjl
   have hkb : ¬ D0 b_:=HL.out.1.blk _ rfl (by omega)
   obtain ⟨⟨d,s1,s2,⟨Aw,cw,wl⟩⟩,hy⟩ : ∃ y,l[j]=y:=⟨_,rfl⟩
   have hmem : l[j] ∈ l:=List.getElem_mem hjl
   have htk:=List.take_succ_eq_append_getElem hjl
   rw [hy] at hc hmem htk
   have HR:=hI (show Lx (fun b=>¬ D0 b) w Aw cw wl from HL.out.2 _ hmem)
   have HZ:=hI (show nEs (exPs wl)≤1048575 by
    have h1 : Xt.m ⟨d,s1,s2,⟨Aw,cw,wl⟩⟩≤(l.map Xt.m).sum:=sum_mem l _ hmem
    have h2:=HN.out.2.2
    have h3 : Xt.m ⟨d,s1,s2,⟨Aw,cw,wl⟩⟩=1 + (s1.length + 1) + (s2.length + 1) + (nEs (exPs wl) + 1):=rfl
    omega)
   have HTK:=hI (show wysI t tx m.p (l.take (j + 1))=xwI t tx (wysI t tx m.p (l.take j)) ⟨d,s1,s2,⟨Aw,cw,wl⟩⟩ by rw [htk,wysI_snoc])
   have HLE:=hI (show (wysI t tx m.p (l.take j)).1.le 2000000 by
    have h1:=wysI_le (t:=t) (tx:=tx) (l.take j) HN.out.1
    have h2:=HN.out.2.1
    have h3 : (l.take j).length=j:=by rw [List.length_take];omega
    have h4:=HQ.out
    rw [h3] at h1
    exact ⟨Nat.le_trans h1.1 (by omega),Nat.le_trans h1.2.1 (by omega),Nat.le_trans h1.2.2 (by omega)⟩)
   obtain ⟨R0,hR0⟩ : ∃ r,wysI t tx m.p (l.take j)=r:=⟨_,rfl⟩
   have HOL:=hI (show R0.2.length=j by rw [← hR0,wysI_len,List.length_take];omega)
   rw [hR0] at HMO HTK HLE
   have hcell : ∀ p u,(Xt.e ⟨d,s1,s2,⟨Aw,cw,wl⟩⟩)[p]?=some u→wr.cell? ⟨b_,o_ + j * 4 + p,none⟩=some u:=fun p u hp=>(low_rd HMO.out.ft hbl hkb _).trans (hc p u hp)
   have e0 : wr.cell? ⟨b_,o_ + j * 4,none⟩=some (.int .i64 d):=hcell 0 _ rfl
   have e1 : wr.cell? ⟨b_,o_ + j * 4 + 1,none⟩=some (.string (str s1)):=hcell 1 _ rfl
   have e2 : wr.cell? ⟨b_,o_ + j * 4 + 2,none⟩=some (.string (str s2)):=hcell 2 _ rfl
   have e3 : wr.cell? ⟨b_,o_ + j * 4 + 3,none⟩=some (.slice Aw wl.length cw):=hcell 3 _ rfl
   have k0 : (0 : Int)≤(j : Int):=by omega
   have k1 : (j : Int) < (q : Int):=by omega
   clear hc hy hmem htk hcell hjl hR0
   go_upto_region 5 with fail
   obtain ⟨w1,hw1⟩ : ∃ W,wr.alloc (.cells #[.int .i64 d,.string (str s1),.string (str s2),.slice Aw wl.length cw] 106)=W:=⟨_,rfl⟩
   obtain ⟨mm1,ms1,b1⟩:=made hw1
   rw [hw1]
   have HMO1:=hI (HMO.out.below b1)
   obtain ⟨xb,hxb⟩ : ∃ p,wr.heap.size=p:=⟨_,rfl⟩
   rw [hxb] at mm1 ⊢
   have HXD:=hI (show ¬ Dm w0 vp1 vl1 vr1 xb∧Value.ownBlock (.slice Ao j co) ≠ some xb∧xb < w1.heap.size from ⟨fun h=>by have:=(HMO.out.mb.dm h).2;omega,fun h=>by have:=(HMO.out.ow.lt h).2;omega,by omega⟩)
   have HM1:=hI mm1
   clear e0 e1 e2 e3 hw1 hxb ms1 b1 HMO
   have hS0 : w1.drew.heap[xb]?=some (.cells #[.int .i64 d,.string (str s1),.string (str s2),.slice Aw wl.length cw] 106 (0,0)):=HM1.out
   refine RgD.begin_ [] (fun U=>U.heap[xb]?=some (.cells #[.int .i64 d,.string (str s1),.string (str s2),.slice Aw wl.length cw] 106 (0,0))) (by kernel_rfl) hS0 (fun hHeld=>?_)
   refine tK 0 15 (v:=.slice Ao j co) (h:=?_)
   simp only [zA,zB,zC]
   refine tK 1 16 (h:=?_)
   simp only [zA,zB,zC]
   refine tK 2 17 (v:=.int .i64 d) (hy:=by intro w0 hSw;obtain ⟨z0,z1,z2,z3,zf⟩:=cellz4 hSw;first | (go_simp;done) | (go_simp;with_reducible rfl) | (go_simp;intro hc;exfalso;omega)) (h:=?_)
   simp only [zA,zB,zC]
   refine tK 3 18 (h:=?_)
   simp only [zA,zB,zC]
   refine tK 4 19 (h:=?_)
   simp only [zA,zB,zC]
   refine tK 5 20 (v:=.string (str s1)) (hy:=by intro w0 hSw;obtain ⟨z0,z1,z2,z3,zf⟩:=cellz4 hSw;first | (go_simp;done) | (go_simp;with_reducible rfl) | (go_simp;intro hc;exfalso;omega)) (h:=?_)
   simp only [zA,zB,zC]
   refine tK 7 22 (h:=?_)
   simp only [zA,zB,zC]
   refine tK 8 23 (h:=?_)
   simp only [zA,zB,zC]
   refine tK 9 24 (v:=.slice Aw wl.length cw) (hy:=by intro w0 hSw;obtain ⟨z0,z1,z2,z3,zf⟩:=cellz4 hSw;first | (go_simp;done) | (go_simp;with_reducible rfl) | (go_simp;intro hc;exfalso;omega)) (h:=?_)
   simp only [zA,zB,zC]
   refine tK 11 26 (h:=?_)
   simp only [zA,zB,zC]
   refine tK 12 27 (h:=?_)
   simp only [zA,zB,zC]
   refine tK 13 28 (v:=.string (str s2)) (hy:=by intro w0 hSw;obtain ⟨z0,z1,z2,z3,zf⟩:=cellz4 hSw;first | (go_simp;done) | (go_simp;with_reducible rfl) | (go_simp;intro hc;exfalso;omega)) (h:=?_)
   simp only [zA,zB,zC]
   refine RgD.one (i:=6) (by kernel_rfl) ?_
   refine RgD.call (i:=6) (t:=21) rfl rfl (by rfl) (by go_simp;exact ⟨rfl,rfl⟩) ?_
   have hd:=Below.drew (Below.refl w1.heap.size w1)
   have hMO:=HMO1.out.below hd
   refine (thing_w (Xo X (.slice Ao j co)) w0 A1 A2 n1 c1 n2 c2 t tx HBS.out y w1.drew vp1 vl1 vr1 m1 hMO.mb s1).mono ?_
   rintro r w5 ⟨rfl,hb⟩
   have HMO5:=hI (hMO.below hb)
   have HB5:=hI (hd.trans hb)
   have gS5:=(HB5.out.block _ HXD.out.2.2).trans HM1.out
   clear hd hb hMO
   refine ⟨_,rfl,gS5,?_⟩
   simp only [zA,zB,zC]
   refine RgD.one (i:=10) (by kernel_rfl) ?_
   refine RgD.call (i:=10) (t:=25) rfl rfl (by rfl) (by go_simp;exact ⟨rfl,rfl⟩) ?_
   have hle : m1.p.le 2000000:=HMO5.out.p ▸ HLE.out
   refine (when_w (Xo X (.slice Ao j co)) w0 A1 A2 n1 c1 n2 c2 t tx HBS.out y w5 vp1 vl1 vr1 m1 HMO5.out.mb (by have h:=ms_le hle;exact ⟨Nat.le_trans h.1 (by omega),Nat.le_trans h.2.1 (by omega),Nat.le_trans h.2.2 (by omega)⟩) wl Aw cw (Lg.keep stays_x HMO5.out.ft.keep HR.out) HZ.out).mono ?_
   intro r w6 hr
   obtain ⟨vp2,vl2,vr2,m2,rfl,hp2,hM2,hF2⟩:=wh_mk HMO5.out.mb hr
   have gS6:=(hF2.block _ (Nat.lt_of_lt_of_le HXD.out.2.2 HB5.out.size) HXD.out.1).trans gS5
   have HX6:=hI (show xb < w6.heap.size from Nat.lt_of_lt_of_le HXD.out.2.2 (Nat.le_trans HB5.out.size hF2.size))
   rw [HMO5.out.p] at hp2
   have HMO6:=hI (HMO5.out.step hM2 hp2 hF2)
   rw [HMO5.out.p]
   obtain ⟨wn,hwn⟩ : ∃ z,(whnI t tx R0.1 (exPs wl)).2=z:=⟨_,rfl⟩
   have HWN:=hI hwn
   rw [hwn]
   clear hr hle hp2 hM2 hF2 hwn
   refine ⟨_,rfl,gS6,?_⟩
   simp only [zA,zB,zC]
   refine RgD.one (i:=14) (by kernel_rfl) ?_
   refine RgD.call (i:=14) (t:=29) rfl rfl (by rfl) (by go_simp;exact ⟨rfl,rfl⟩) ?_
   refine (text_w (Xo X (.slice Ao j co)) w0 A1 A2 n1 c1 n2 c2 t tx HBS.out y w6 vp2 vl2 vr2 m2 HMO6.out.mb s2).mono ?_
   rintro r w7 ⟨rfl,hb⟩
   have HMO7:=hI (HMO6.out.below hb)
   have gS7:=(hb.block _ HX6.out).trans gS6
   have HX7:=hI (Nat.lt_of_lt_of_le HX6.out hb.size)
   clear hb
   refine ⟨_,rfl,gS7,?_⟩
   simp only [zA,zB,zC]
   refine tK 15 30 (v:=.agg #[.int .i64 d,.int .i64 (thg t s1),.int .i64 wn,.int .i64 (txt tx s2)]) (h:=?_)
   simp only [zA,zB,zC]
   refine RgD.one (i:=16) (by kernel_rfl) ?_
   obtain ⟨w8,hw⟩ : ∃ W,w7.alloc (.cells #[.int .i64 d,.int .i64 (thg t s1),.int .i64 wn,.int .i64 (txt tx s2)] 153)=W:=⟨_,rfl⟩
   have hb:=(made hw).2.2
   have HMO8:=hI (HMO7.out.below hb)
   have gS8:=(hb.block _ HX7.out).trans gS7
   have HX8:=hI (Nat.lt_of_lt_of_le HX7.out hb.size)
   have hz : Sk.Rd wyE w8 (some ⟨w7.heap.size,0,none⟩) 1 [(⟨d,thg t s1,wn,txt tx s2⟩ : Wy)]:=by rw [← hw];exact Sk.rd_lit (enc:=wyE) _ 153 [(⟨d,thg t s1,wn,txt tx s2⟩ : Wy)] _ rfl 1 rfl
   refine RgD.eff (i:=16) (t:=31) (v:=.slice (some ⟨w7.heap.size,0,none⟩) 1 1) (w1:=w8) rfl rfl (by rfl) (by first | (go_simp;done) | (go_simp;with_reducible rfl) | (go_simp;rw [hw];rfl)) gS8 ?_
   simp only [zA,zB,zC]
   clear hb hw
   refine RgD.one (i:=17) (by kernel_rfl) ?_
   refine RgD.app elW (i:=17) (t:=32) (.tmp 15) (.tmp 31) rfl rfl (by rfl) rfl rfl HMO8.out.ow.own (some ⟨w7.heap.size,0,none⟩) 1 1 [(⟨d,thg t s1,wn,txt tx s2⟩ : Wy)] rfl hz (by have:=HOL.out;unfold maxLen;omega) (by have:=HOL.out;omega) HMO8.out.ft.size ?_
   intro v11 w11 ho hb hg hv
   have HMO11:=hI (HMO8.out.app HW.out ho hg hv)
   have gS11:=(hg.block _ HX8.out HXD.out.2.1.symm).trans gS8
   refine ⟨gS11,?_⟩
   simp only [zA,zB,zC]
   obtain ⟨A11,c11,rfl,_,_⟩:=ho.shape
   obtain ⟨q11,hq⟩ : ∃ z,(R0.2 ++ [(⟨d,thg t s1,wn,txt tx s2⟩ : Wy)]).length=z:=⟨_,rfl⟩
   rw [hq] at HMO11 ⊢
   have HQ11:=hI (show q11=j + 1 by rw [← hq,List.length_append,HOL.out];rfl)
   clear hq ho hb hg hv hz
   refine tK 18 5 (h:=?_)
   simp only [zA,zB,zC]
   refine RgD.done (by kernel_rfl) ?_ _
   clear hS0 gS5 gS6 gS7 gS8 gS11
   obtain rfl:=HQ11.out
   obtain ⟨O,hO⟩ : ∃ z,R0.2=z:=⟨_,rfl⟩
   obtain ⟨x,hx⟩ : ∃ z,(⟨d,thg t s1,wn,txt tx s2⟩ : Wy)=z:=⟨_,rfl⟩
   have HX:=hI hx
   have HOO:=hI hO
   have hol:=HOL.out
   rw [hO] at hol
   rw [hO,hx] at HMO11
   rw [← insAt_last,hol] at HMO11
   obtain ⟨g,rfl,hgl,hgs⟩ : ∃ g,A11=some ⟨g,0,none⟩∧w.heap.size≤g∧g < w11.heap.size:=by
    have h:=HMO11.out.ow.own.form (by omega)
    exact h
   have HOL2:=hI hol
   have HOI:=hI (show xwI t tx R0 ⟨d,s1,s2,⟨Aw,cw,wl⟩⟩=((whnI t tx R0.1 (exPs wl)).1,insI O x) by unfold xwI;rw [← hx,← hO,HWN.out])
   obtain ⟨R1,hR1⟩ : ∃ z,(whnI t tx R0.1 (exPs wl)).1=z:=⟨_,rfl⟩
   rw [hR1] at HMO11 HOI
   clear hO hx hol hgs hR1
   go_wp2_with fail
   go_loopw [8] (fun iv wq=>∃ i : Nat,i≤j∧iv=.int .i64 (i : Int)∧Mo X w0 (.slice A1 n1 c1) (.slice A2 n2 c2) y w D0 (.slice (some ⟨g,0,none⟩) (j + 1) c11) (insAt O x i) R1 vp2 vl2 vr2 m2 wq∧Hid (posG O x i=posG O x j)) (fun iv _=>(intOf iv).toNat)
   case atStart=>exact ⟨j,Nat.le_refl _,by go_num,HMO11.out,hI rfl⟩
   case round=>
    obtain ⟨i,hi,rfl,hmo,HP⟩:=hrel
    have HMI:=hI hmo
    clear hmo
    by_cases h0 : 0 < i
    ·obtain ⟨k,rfl⟩ : ∃ k,i=k + 1:=⟨i - 1,by omega⟩
     have hkO : k < O.length:=by rw [HOL2.out];omega
     have hcel : ∀ p (hp : p < j + 1) (z : Wy),(insAt O x (k + 1))[p]?=some z→∀ r u,(wyE z)[r]?=some u→wr.cell? ⟨g,p * 4 + r,none⟩=some u:=fun p hp z hz r u hu=>by
      obtain ⟨b,o,e,_,hl2,hc⟩:=HMI.out.ow.own.rd.at_ wyE_len hp
      injection e with e
      injection e with e1 e2
      subst e1 e2
      have h2:=hc r u (by
       have h3 : (insAt O x (k + 1))[p]'hl2=z:=by rw [List.getElem?_eq_getElem hl2] at hz;exact Option.some.inj hz
       rw [h3];exact hu)
      rwa [Nat.zero_add] at h2
     obtain ⟨z,hz⟩ : ∃ z,O[k]=z:=⟨_,rfl⟩
     have f1:=hcel (k + 1) (by omega) x (insAt_at (by rw [HOL2.out];omega))
     have f2:=hcel k (by omega) z (by rw [insAt_low (by omega) (by rw [HOL2.out];omega),List.getElem?_eq_getElem hkO,hz])
     have d0 : wr.cell? ⟨g,(k + 1) * 4,none⟩=some (.int .i64 x.dr):=f1 0 _ rfl
     have p0 : wr.cell? ⟨g,k * 4,none⟩=some (.int .i64 z.dr):=f2 0 _ rfl
     have HF1:=hI f1
     have HF2:=hI f2
     have HZK:=hI hz
     have k2 : ((k + 1 : Nat) : Int) - 1=(k : Int):=by omega
     have k3 : (0 : Int) < ((k + 1 : Nat) : Int):=by omega
     have k4 : ((k + 1 : Nat) : Int) < ((j + 1 : Nat) : Int):=by omega
     have k5 : (k : Int) < ((j + 1 : Nat) : Int):=by omega
     have k6 : (0 : Int)≤(k : Int):=by omega
     have k7 : IntKind.i64.wrap (k : Int)=(k : Int):=by rw [IntKind.wrap_i64];omega
     clear hcel f1 f2 hz
     by_cases hl3 : x.dr < z.dr
     ·have hd : decide (x.dr < z.dr)=true:=by simpa using hl3
      have HPX:=hI (show posG O x k=posG O x j by
       rw [← HP.out]
       conv=>rhs;unfold posG
       rw [List.getElem?_eq_getElem (by rw [HOL2.out];omega),HZK.out]
       simp only [hl3,if_true])
      clear hl3
      go_upto_region 7 with fail
      refine RgD.begin_ [] (fun U=>U.cell? ⟨g,(k + 1) * 4,none⟩=some (.int .i64 x.dr)∧U.cell? ⟨g,k * 4,none⟩=some (.int .i64 z.dr)) (by kernel_rfl) ⟨d0,p0⟩ (fun hHeld=>?_)
      refine tK 0 36 (v:=.int .i64 ((k + 1 : Nat) : Int)) (h:=?_)
      simp only [zA,zB,zC]
      refine tK 1 37 (h:=?_)
      simp only [zA,zB,zC]
      refine tK 2 38 (h:=?_)
      simp only [zA,zB,zC]
      refine tK 3 39 (h:=?_)
      simp only [zA,zB,zC]
      refine tK 4 40 (v:=.int .i64 ((k + 1 : Nat) : Int)) (h:=?_)
      simp only [zA,zB,zC]
      refine tK 5 41 (v:=.pointer (some ⟨g,(k + 1) * 4,none⟩)) (h:=?_)
      simp only [zA,zB,zC]
      refine tK 6 42 (v:=.pointer (some ⟨g,(k + 1) * 4,none⟩)) (h:=?_)
      simp only [zA,zB,zC]
      refine tK 7 43 (v:=.int .i64 x.dr) (hy:=by intro w0 hSw;obtain ⟨z0,z1⟩:=hSw;first | (go_simp;done) | (go_simp;with_reducible rfl) | (go_simp;intro hc;exfalso;omega)) (h:=?_)
      simp only [zA,zB,zC]
      refine tK 8 44 (h:=?_)
      simp only [zA,zB,zC]
      refine tK 9 45 (v:=.int .i64 ((k + 1 : Nat) : Int)) (h:=?_)
      simp only [zA,zB,zC]
      refine tK 10 46 (v:=.int .i64 (k : Int)) (h:=?_)
      simp only [zA,zB,zC]
      refine tK 11 47 (v:=.pointer (some ⟨g,k * 4,none⟩)) (h:=?_)
      simp only [zA,zB,zC]
      refine tK 12 48 (v:=.pointer (some ⟨g,k * 4,none⟩)) (h:=?_)
      simp only [zA,zB,zC]
      refine tK 13 49 (v:=.int .i64 z.dr) (hy:=by intro w0 hSw;obtain ⟨z0,z1⟩:=hSw;first | (go_simp;done) | (go_simp;with_reducible rfl) | (go_simp;intro hc;exfalso;omega)) (h:=?_)
      simp only [zA,zB,zC]
      refine tK 14 50 (v:=.bool true) (h:=?_)
      simp only [zA,zB,zC]
      refine tK 15 51 (v:=.bool true) (h:=?_)
      simp only [zA,zB,zC]
      refine RgD.done (by kernel_rfl) ?_ _
      clear d0 p0
      go_upto_region 9 with fail
      have d0 : wr.cell? ⟨g,(k + 1) * 4,none⟩=some (.int .i64 x.dr):=HF1.out 0 _ rfl
      have d1 : wr.cell? ⟨g,(k + 1) * 4 + 1,none⟩=some (.int .i64 x.tt):=HF1.out 1 _ rfl
      have d2 : wr.cell? ⟨g,(k + 1) * 4 + 2,none⟩=some (.int .i64 x.wn):=HF1.out 2 _ rfl
      have d3 : wr.cell? ⟨g,(k + 1) * 4 + 3,none⟩=some (.int .i64 x.el):=HF1.out 3 _ rfl
      have p0 : wr.cell? ⟨g,k * 4,none⟩=some (.int .i64 z.dr):=HF2.out 0 _ rfl
      have p1 : wr.cell? ⟨g,k * 4 + 1,none⟩=some (.int .i64 z.tt):=HF2.out 1 _ rfl
      have p2 : wr.cell? ⟨g,k * 4 + 2,none⟩=some (.int .i64 z.wn):=HF2.out 2 _ rfl
      have p3 : wr.cell? ⟨g,k * 4 + 3,none⟩=some (.int .i64 z.el):=HF2.out 3 _ rfl
      have ff : ∀ o,wr.frozen? ⟨g,o,none⟩=false:=fun o=>sk_frozen HMI.out.ow.own o
      have HMS:=hI (show Mo X w0 (.slice A1 n1 c1) (.slice A2 n2 c2) y w D0 (.slice (some ⟨g,0,none⟩) (j + 1) c11) (insAt O x k) R1 vp2 vl2 vr2 m2 (putRow (putRow wr g ((k + 1) * 4) (wyE z)) g (k * 4) (wyE x)) by
       have h:=(HMI.out.put HW.out rfl (i:=k + 1) (by rw [insAt_len,HOL2.out];omega) z).put HW.out rfl (i:=k) (by rw [List.length_set,insAt_len,HOL2.out];omega) x
       rw [← HZK.out,insAt_swap hkO] at h
       rw [← HZK.out]
       exact h)
      go_region
      clear d0 d1 d2 d3 p0 p1 p2 p3 ff
      go_wp2_with fail
      go_roundw
      case rel=>exact ⟨k,by omega,rfl,(HMS.out.below (Below.drew (Below.refl _ _))).below (Below.drew (Below.refl _ _)),hI HPX.out⟩
      case measure=>simp [intOf]
     ·have hd : decide (x.dr < z.dr)=false:=by simpa using hl3
      have HPX:=hI (show posG O x j=k + 1 by
       rw [← HP.out]
       unfold posG
       rw [List.getElem?_eq_getElem (by rw [HOL2.out];omega),HZK.out]
       simp only [hl3,if_false])
      clear hl3
      go_upto_region 7 with fail
      refine RgD.begin_ [] (fun U=>U.cell? ⟨g,(k + 1) * 4,none⟩=some (.int .i64 x.dr)∧U.cell? ⟨g,k * 4,none⟩=some (.int .i64 z.dr)) (by kernel_rfl) ⟨d0,p0⟩ (fun hHeld=>?_)
      refine tK 0 36 (v:=.int .i64 ((k + 1 : Nat) : Int)) (h:=?_)
      simp only [zA,zB,zC]
      refine tK 1 37 (h:=?_)
      simp only [zA,zB,zC]
      refine tK 2 38 (h:=?_)
      simp only [zA,zB,zC]
      refine tK 3 39 (h:=?_)
      simp only [zA,zB,zC]
      refine tK 4 40 (v:=.int .i64 ((k + 1 : Nat) : Int)) (h:=?_)
      simp only [zA,zB,zC]
      refine tK 5 41 (v:=.pointer (some ⟨g,(k + 1) * 4,none⟩)) (h:=?_)
      simp only [zA,zB,zC]
      refine tK 6 42 (v:=.pointer (some ⟨g,(k + 1) * 4,none⟩)) (h:=?_)
      simp only [zA,zB,zC]
      refine tK 7 43 (v:=.int .i64 x.dr) (hy:=by intro w0 hSw;obtain ⟨z0,z1⟩:=hSw;first | (go_simp;done) | (go_simp;with_reducible rfl) | (go_simp;intro hc;exfalso;omega)) (h:=?_)
      simp only [zA,zB,zC]
      refine tK 8 44 (h:=?_)
      simp only [zA,zB,zC]
      refine tK 9 45 (v:=.int .i64 ((k + 1 : Nat) : Int)) (h:=?_)
      simp only [zA,zB,zC]
      refine tK 10 46 (v:=.int .i64 (k : Int)) (h:=?_)
      simp only [zA,zB,zC]
      refine tK 11 47 (v:=.pointer (some ⟨g,k * 4,none⟩)) (h:=?_)
      simp only [zA,zB,zC]
      refine tK 12 48 (v:=.pointer (some ⟨g,k * 4,none⟩)) (h:=?_)
      simp only [zA,zB,zC]
      refine tK 13 49 (v:=.int .i64 z.dr) (hy:=by intro w0 hSw;obtain ⟨z0,z1⟩:=hSw;first | (go_simp;done) | (go_simp;with_reducible rfl) | (go_simp;intro hc;exfalso;omega)) (h:=?_)
      simp only [zA,zB,zC]
      refine tK 14 50 (v:=.bool false) (h:=?_)
      simp only [zA,zB,zC]
      refine tK 15 51 (v:=.bool false) (h:=?_)
      simp only [zA,zB,zC]
      refine RgD.done (by kernel_rfl) ?_ _
      clear d0 p0
      go_wp2_with fail
      go_roundw
      case rel=>
       have hmo:=HMI.out.below (Below.drew (Below.refl wr.heap.size wr))
       have e : insAt O x (k + 1)=insI O x:=by unfold insI;rw [HOL2.out,HPX.out]
       rw [e] at hmo
       exact ⟨j + 1,_,_,vp2,vl2,vr2,m2,by omega,rfl,by go_num,by rw [HTK.out,HOI.out];exact hmo⟩
      case measure=>simp [intOf];omega
    ·obtain rfl : i=0:=by omega
     go_upto_region 7 with fail
     refine RgD.begin_ [] (fun _=>True) (by kernel_rfl) trivial (fun hHeld=>?_)
     refine tK 0 36 (v:=.int .i64 ((0 : Nat) : Int)) (h:=?_)
     simp only [zA,zB,zC]
     refine tK 1 37 (h:=?_)
     simp only [zA,zB,zC]
     refine tK 2 38 (h:=?_)
     simp only [zA,zB,zC]
     refine RgD.ps 3 39 (h:=?_)
     simp only [zA,zB,zC]
     refine RgD.ps 4 40 (h:=?_)
     simp only [zA,zB,zC]
     refine RgD.ps 5 41 (h:=?_)
     simp only [zA,zB,zC]
     refine RgD.ps 6 42 (h:=?_)
     simp only [zA,zB,zC]
     refine RgD.ps 7 43 (h:=?_)
     simp only [zA,zB,zC]
     refine RgD.ps 8 44 (h:=?_)
     simp only [zA,zB,zC]
     refine RgD.ps 9 45 (h:=?_)
     simp only [zA,zB,zC]
     refine RgD.ps 10 46 (h:=?_)
     simp only [zA,zB,zC]
     refine RgD.ps 11 47 (h:=?_)
     simp only [zA,zB,zC]
     refine RgD.ps 12 48 (h:=?_)
     simp only [zA,zB,zC]
     refine RgD.ps 13 49 (h:=?_)
     simp only [zA,zB,zC]
     refine RgD.ps 14 50 (h:=?_)
     simp only [zA,zB,zC]
     refine tK 15 51 (h:=?_)
     simp only [zA,zB,zC]
     refine RgD.done (by kernel_rfl) ?_ _
     go_wp2_with fail
     go_roundw
     case rel=>
      have hmo:=HMI.out.below (Below.drew (Below.refl wr.heap.size wr))
      have e : insAt O x 0=insI O x:=by
       have h:=HP.out
       unfold insI
       rw [HOL2.out,← h]
       rfl
      rw [e] at hmo
      exact ⟨j + 1,_,_,vp2,vl2,vr2,m2,by omega,rfl,by go_num,by rw [HTK.out,HOI.out];exact hmo⟩
     case measure=>simp [intOf];omega
  ·obtain rfl : q=j:=by omega
   have HTK:=hI (show l.take q=l from List.take_of_length_le (by rw [HQ.out];exact Nat.le_refl _))
   have hmo:=HMO.out
   rw [HTK.out] at hmo
   have hlen : (wysI t tx m.p l).2.length=q:=by rw [wysI_len,HQ.out]
   have HMO2:=hI hmo
   have HLEN:=hI hlen
   clear hmo hlen HMO
   go_wp2_with fail
   go_ret
   exact ⟨vp1,vl1,vr1,m1,Ao,co,by rw [HLEN.out];rfl,by rw [HLEN.out];exact HMO2.out⟩
end Go.Proofs.YteibcfpepdbflaaGreat.BkF
