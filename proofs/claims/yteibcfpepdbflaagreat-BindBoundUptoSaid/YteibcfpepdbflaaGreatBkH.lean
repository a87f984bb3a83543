/- A maker's thing of an object. Conditions: sizes within the reach; props that are there. -/
import Derived.Test.YteibcfpepdbflaaGreatBkG
open Go.Lib renaming hid → hI
open Go.Proofs.YteibcfpepdbflaaGreat.RgD renaming tk → tK, sA → zA, s0 → zB, s1 → zC
namespace Go.Proofs.YteibcfpepdbflaaGreat.BkH
open Go Go.RowKit BindP BindD BindO BindW BindN BindG BindX BindB BindS BindK BindT BindA BkA BkB BkC BkD BkE BkF BkG TxA
open Byt (str)
theorem cells9 {w : World} {g : Nat} {x0 x1 x2 x3 x4 x5 x6 x7 x8 : Value} {t : TypeId} (h : w.heap[g]?=some (.cells #[x0,x1,x2,x3,x4,x5,x6,x7,x8] t (0,0))) : w.cell? ⟨g,0,none⟩=some x0∧w.cell? ⟨g,1,none⟩=some x1∧w.cell? ⟨g,2,none⟩=some x2∧w.cell? ⟨g,3,none⟩=some x3∧w.cell? ⟨g,4,none⟩=some x4∧w.cell? ⟨g,5,none⟩=some x5∧w.cell? ⟨g,6,none⟩=some x6∧w.cell? ⟨g,7,none⟩=some x7∧w.cell? ⟨g,8,none⟩=some x8∧∀ o,w.frozen? ⟨g,o,none⟩=false:=by
 refine ⟨by simp [World.cell?,h],by simp [World.cell?,h],by simp [World.cell?,h],by simp [World.cell?,h],by simp [World.cell?,h],by simp [World.cell?,h],by simp [World.cell?,h],by simp [World.cell?,h],by simp [World.cell?,h],fun o=>by simp [World.frozen?,h]⟩
theorem sk_lower {α : Type} {enc : α→List Value} {k : Nat} {E : TypeId} {w : World} {B B' : Nat} {v : Value} {l : List α} (h : Sk.Own enc k E w B v l) (hB : ∀ g,v.ownBlock=some g→B'≤g) : Sk.Own enc k E w B' v l:=by
 obtain ⟨h1,h2⟩:=h
 refine ⟨h1,h2.imp id ?_⟩
 rintro ⟨g,cap,cur,rfl,_,hh,hr⟩
 exact ⟨g,cap,cur,rfl,hB g rfl,hh,hr⟩
theorem ret_th (p : Tmp) (g : Nat) (y0 y1 y2 y3 y4 y5 y6 y7 y8 : Value) {fn : Func} {Q : Ending→World→Prop} {a : Act} {w : World} (hg : w.heap[g]?=some (.cells #[y0,y1,y2,y3,y4,y5,y6,y7,y8] 80 (0,0)))
  (h : fn.results=#[.cell p 80]) (hp : a.tmps.getD p undef=.pointer (some ⟨g,0,none⟩)) (hdf : a.defers=[]) (hq : Q (.returned (.agg #[y0,y1,y2,y3,y4,y5,y6,y7,y8])) w) : bodyPost Tryz.prog fn Q .ret a w:=
 ret_c (d:=_) (cs:=#[y0,y1,y2,y3,y4,y5,y6,y7,y8]) (t':=80) (fr:=(0,0)) hg h hp Tryz.underlying80 rfl (by kernel_rfl) hdf hq
theorem Mb.putx {X : Nat→Prop} {w0 : World} {tv xv : Value} {y : Nat→Value} {vp vl vr : Value} {m : Ms} {g : Nat} (hg : ¬ Dm w0 vp vl vr g) (hX : X g) (hW : w0.heap.size≤g) : ∀ (vs : List Value) (o : Nat) {w : World},Mb X w0 tv xv y w vp vl vr m→Mb X w0 tv xv y (putRow w g o vs) vp vl vr m
 | [],_,_,h=>h
 | v :: vs,o,_,h=>Mb.putx hg hX hW vs (o + 1) (h.setx o hg hX hW v)
def ObV (K0 X : Nat→Prop) (w0 : World) (tv xv : Value) (y : Nat→Value) (w : World) (D0 : Nat→Prop) (r : Mp × Tp) (e : Ending) (w' : World) : Prop:=
 ∃ vp vl vr m x,e=.returned (.agg (thE x).toArray)∧Th.p x=r.2∧Ms.p m=r.1∧Mb X w0 tv xv y w' vp vl vr m∧Ft D0 (Dm w0 vp vl vr) w w'∧ThR (fun b=>(K0 b∨w.heap.size≤b)∧¬ Dm w0 vp vl vr b) w' x
set_option maxRecDepth 100000 in
set_option maxHeartbeats 16000000 in
theorem object_w (K0 X : Nat→Prop) (w0 : World) (hK0 : ∀ b,K0 b→b < w0.heap.size) (A1 A2 : Option Addr) (n1 c1 n2 c2 : Nat) (t : List Nm) (tx : List S) (hbs : Bs w0 A1 n1 t A2 n2 tx) (y : Nat→Value) (w : World) (vp vl vr : Value) (m : Ms) (hM : Mb X w0 (.slice A1 n1 c1) (.slice A2 n2 c2) y w vp vl vr m)
  (pl : List Int) (Ay : Option Addr) (cy : Nat) (hy : y 6=.slice Ay pl.length cy) (hpl : Sk.Rd inE w Ay pl.length pl) (hpn : pl.length≤1048576) (o : Ob) (hR : Ob.R K0 w o) (hz : Ob.m o≤1048576) (n : Nat) (hm : m.p.le n) (hn : n + o.xt.l.length≤2000000)
  (hP : ∀ p ∈ o.pr.l,0≤ofN t 2 p.nm∧ofN t 2 p.nm < (pl.length : Int)) (hF : ∀ f ∈ o.fl.l,0≤ofN t 1 f) :
  Calls Tryz.prog 24 #[.pointer (some ⟨w0.heap.size,0,none⟩),.agg (Ob.e o).toArray] w (ObV K0 X w0 (.slice A1 n1 c1) (.slice A2 n2 c2) y w (Dm w0 vp vl vr) (objI t tx pl m.p o)):=by
 have HK0:=hI hK0
 have HBS:=hI hbs
 have HN:=hI (And.intro hm hn)
 have HM0:=hI hM
 obtain ⟨nm,ti,inn,tt,room,⟨Aw,cw,wl⟩,⟨Aa,ca,al⟩,⟨Af,cf,fl⟩,⟨Ap,cp,prl⟩,⟨Ax,cx,xl⟩⟩:=o
 have HR:=hI hR
 have HPF:=hI (And.intro hP hF)
 have HZ:=hI hz
 obtain ⟨q,hq⟩ : ∃ z,pl.length=z:=⟨_,rfl⟩
 have HQ:=hI hq
 rw [hq] at hy hpl hpn
 have HPL:=hI hpl
 have HQN:=hI hpn
 obtain ⟨x0,x1,x2,x3,x4,x5,x6,x7,x8,x9,x10,x11,x12,x13,x14,x15,x16,x17,xf⟩:=cells18 hM.box
 have HY:=hI hy
 rw [hy] at x8
 have HMC:=hI (show ∀ U,Below w.heap.size w U→U.cell? ⟨w0.heap.size,0,none⟩=some (.slice A1 n1 c1)∧U.cell? ⟨w0.heap.size,1,none⟩=some (.slice A2 n2 c2)∧U.cell? ⟨w0.heap.size,8,none⟩=some (.slice Ay q cy) from fun U h=>by
  obtain ⟨y0,y1,y2,y3,y4,y5,y6,y7,y8,y9,y10,y11,y12,y13,y14,y15,y16,y17,yf⟩:=cells18 ((h.block _ hM.lt).trans hM.box)
  rw [hy] at y8
  exact ⟨y0,y1,y8⟩)
 clear hK0 hbs hm hn hM hR hP hF hz hq hy hpl hpn x0 x1 x2 x3 x4 x5 x6 x7 x8 x9 x10 x11 x12 x13 x14 x15 x16 x17 xf
 show Calls Tryz.prog 24 #[.pointer (some ⟨w0.heap.size,0,none⟩),.agg #[.string (str nm),.string (str ti),.string (str inn),.string (str tt),.bool room,.slice Aw wl.length cw,.slice Aa al.length ca,.slice Af fl.length cf,.slice Ap prl.length cp,.slice Ax xl.length cx]] w _
 go_enter Tryz.func24,Tryz.ntmps24
 go_upto_region 1 with fail
 obtain ⟨V1,hV1⟩ : ∃ W,w.alloc (.cells #[.string (str nm),.string (str ti),.string (str inn),.string (str tt),.bool room,.slice Aw wl.length cw,.slice Aa al.length ca,.slice Af fl.length cf,.slice Ap prl.length cp,.slice Ax xl.length cx] 63)=W:=⟨_,rfl⟩
 rw [hV1]
 obtain ⟨V,hV⟩ : ∃ W,V1.alloc (.cells #[.int .i64 0,.int .i64 0,.int .i64 0,.int .i64 0,.bool false,.slice none 0 0,.slice none 0 0,.slice none 0 0,.slice none 0 0] 80)=W:=⟨_,rfl⟩
 rw [hV]
 obtain ⟨m1,s1,b1⟩:=made hV1
 obtain ⟨m2,s2,b2⟩:=made hV
 have m1':=(b2.block w.heap.size (by omega)).trans m1
 have HV0:=hI (b1.trans (b2.mono b1.size))
 obtain ⟨rb,hrb⟩ : ∃ p,w.heap.size + 1=p:=⟨_,rfl⟩
 obtain ⟨ob,hob⟩ : ∃ p,w.heap.size=p:=⟨_,rfl⟩
 have HRB:=hI (show w.heap.size≤ob∧ob < rb∧rb < V.heap.size by omega)
 rw [s1,hrb] at m2
 rw [hrb]
 rw [hob] at m1' ⊢
 have HS1:=hI m1'
 have HS2:=hI m2
 clear hV1 hV m1 m1' m2 s1 s2 b1 b2 hrb hob
 go_cut [5] (fun v wx=>∃ (xb : Nat) (Ap' : Option Addr) (cp' : Nat),v=.pointer (some ⟨xb,0,none⟩)∧Oj w ob rb xb #[.string (str nm),.string (str ti),.string (str inn),.string (str tt),.bool room,.slice Aw wl.length cw,.slice Aa al.length ca,.slice Af fl.length cf,.slice Ap prl.length cp,.slice Ax xl.length cx] (place tx ti) (txt tx tt) 0 0 room (.slice Ap' q cp') pl (.slice Aw wl.length cw) (.slice Aa al.length ca) (.slice none 0 0) wx)
 case first=>
  have HSB:=hI (show ∀ U,Below V.heap.size V U→U.cell? ⟨w0.heap.size,0,none⟩=some (.slice A1 n1 c1)∧U.cell? ⟨w0.heap.size,1,none⟩=some (.slice A2 n2 c2)∧U.cell? ⟨w0.heap.size,8,none⟩=some (.slice Ay q cy) from fun U h=>HMC.out U (HV0.out.trans (h.mono HV0.out.size)))
  have HSO:=hI (show ∀ U,Below V.heap.size V U→U.heap[ob]?=some (.cells #[.string (str nm),.string (str ti),.string (str inn),.string (str tt),.bool room,.slice Aw wl.length cw,.slice Aa al.length ca,.slice Af fl.length cf,.slice Ap prl.length cp,.slice Ax xl.length cx] 63 (0,0)) from fun U h=>(h.block _ (by have:=HRB.out;omega)).trans HS1.out)
  have HSR:=hI (show ∀ U,Below V.heap.size V U→U.heap[rb]?=some (.cells #[.int .i64 0,.int .i64 0,.int .i64 0,.int .i64 0,.bool false,.slice none 0 0,.slice none 0 0,.slice none 0 0,.slice none 0 0] 80 (0,0)) from fun U h=>(h.block _ HRB.out.2.2).trans HS2.out)
  have hS0 : Below V.heap.size V V.drew:=Below.drew (Below.refl _ _)
  have HS0:=hI hS0
  refine RgD.begin_ [26] (fun U=>Below V.heap.size V U) (by kernel_rfl) hS0 (fun hHeld=>?_)
  refine tK 0 10 (h:=?_)
  simp only [zA,zB,zC]
  refine tK 1 11 (h:=?_)
  simp only [zA,zB,zC]
  refine tK 2 12 (h:=?_)
  simp only [zA,zB,zC]
  refine tK 3 13 (v:=.slice A2 n2 c2) (hy:=by intro w0 hSw;obtain ⟨z0,z1,z2⟩:=HSB.out _ hSw;first | (go_simp;done) | (go_simp;with_reducible rfl) | (go_simp;intro hc;exfalso;omega)) (h:=?_)
  simp only [zA,zB,zC]
  refine tK 4 14 (h:=?_)
  simp only [zA,zB,zC]
  refine tK 5 15 (v:=.string (str ti)) (hy:=by intro w0 hSw;obtain ⟨z0,z1,z2,z3,z4,z5,z6,z7,z8,z9,zf⟩:=cellz10 (HSO.out _ hSw);first | (go_simp;done) | (go_simp;with_reducible rfl) | (go_simp;intro hc;exfalso;omega)) (h:=?_)
  simp only [zA,zB,zC]
  refine tK 7 17 (h:=?_)
  simp only [zA,zB,zC]
  refine tK 8 18 (h:=?_)
  simp only [zA,zB,zC]
  refine tK 9 19 (v:=.string (str tt)) (hy:=by intro w0 hSw;obtain ⟨z0,z1,z2,z3,z4,z5,z6,z7,z8,z9,zf⟩:=cellz10 (HSO.out _ hSw);first | (go_simp;done) | (go_simp;with_reducible rfl) | (go_simp;intro hc;exfalso;omega)) (h:=?_)
  simp only [zA,zB,zC]
  refine tK 11 21 (h:=?_)
  simp only [zA,zB,zC]
  refine tK 12 22 (v:=.bool room) (hy:=by intro w0 hSw;obtain ⟨z0,z1,z2,z3,z4,z5,z6,z7,z8,z9,zf⟩:=cellz10 (HSO.out _ hSw);first | (go_simp;done) | (go_simp;with_reducible rfl) | (go_simp;intro hc;exfalso;omega)) (h:=?_)
  simp only [zA,zB,zC]
  refine tK 13 23 (h:=?_)
  simp only [zA,zB,zC]
  refine tK 14 24 (v:=.slice Aw wl.length cw) (hy:=by intro w0 hSw;obtain ⟨z0,z1,z2,z3,z4,z5,z6,z7,z8,z9,zf⟩:=cellz10 (HSO.out _ hSw);first | (go_simp;done) | (go_simp;with_reducible rfl) | (go_simp;intro hc;exfalso;omega)) (h:=?_)
  simp only [zA,zB,zC]
  refine tK 15 25 (h:=?_)
  simp only [zA,zB,zC]
  refine tK 16 26 (v:=.slice Aa al.length ca) (hy:=by intro w0 hSw;obtain ⟨z0,z1,z2,z3,z4,z5,z6,z7,z8,z9,zf⟩:=cellz10 (HSO.out _ hSw);first | (go_simp;done) | (go_simp;with_reducible rfl) | (go_simp;intro hc;exfalso;omega)) (h:=?_)
  simp only [zA,zB,zC]
  refine tK 17 27 (h:=?_)
  simp only [zA,zB,zC]
  refine tK 18 28 (h:=?_)
  simp only [zA,zB,zC]
  refine tK 19 29 (h:=?_)
  simp only [zA,zB,zC]
  refine tK 20 30 (h:=?_)
  simp only [zA,zB,zC]
  refine tK 21 31 (h:=?_)
  simp only [zA,zB,zC]
  refine tK 22 32 (v:=.slice Ay q cy) (hy:=by intro w0 hSw;obtain ⟨z0,z1,z2⟩:=HSB.out _ hSw;first | (go_simp;done) | (go_simp;with_reducible rfl) | (go_simp;intro hc;exfalso;omega)) (h:=?_)
  simp only [zA,zB,zC]
  refine RgD.two (i:=6) (j:=25) (by kernel_rfl) ?_ ?_
  ·refine RgD.call (i:=6) (t:=16) rfl rfl (by rfl) (by go_simp;exact ⟨rfl,rfl⟩) ?_
   refine (place_i tx ti V.drew (HBS.out.x.below (HM0.out.low.trans ((HV0.out.trans (HS0.out.mono HV0.out.size)).mono (Nat.le_of_lt HM0.out.lt)))) HBS.out.n2).mono ?_
   rintro r w5 ⟨rfl,hw5⟩
   subst hw5
   refine ⟨_,rfl,HS0.out,?_⟩
   simp only [zA,zB,zC]
   refine RgD.two (i:=10) (j:=25) (by kernel_rfl) ?_ ?_
   ·refine RgD.call (i:=10) (t:=20) rfl rfl (by rfl) (by go_simp;exact ⟨rfl,rfl⟩) ?_
    refine (text_w X w0 A1 A2 n1 c1 n2 c2 t tx HBS.out y V.drew vp vl vr m (HM0.out.below (HV0.out.trans (HS0.out.mono HV0.out.size))) tt).mono ?_
    rintro r u1 ⟨rfl,hb⟩
    have hS1 : Below V.heap.size V u1:=HS0.out.trans (hb.mono HS0.out.size)
    have HSS1:=hI hS1
    clear hb
    refine ⟨_,rfl,hS1,?_⟩
    simp only [zA,zB,zC]
    refine RgD.two (i:=23) (j:=25) (by kernel_rfl) ?_ ?_
    ·refine RgD.app elI (i:=23) (t:=33) (.const (.slice none 0 0)) (.tmp 32) rfl rfl (by rfl) rfl rfl (Sk.own_nil u1 u1.heap.size) Ay q cy pl rfl (HPL.out.below (HV0.out.trans (HSS1.out.mono HV0.out.size))) (by have:=HQN.out;unfold maxLen;simp;omega) (by have:=HQN.out;simp;omega) (Nat.le_refl _) ?_
     intro v9 u2 ho hb hg hv
     have hS2 : Below V.heap.size V u2:=HSS1.out.trans (hb.mono HSS1.out.size)
     have HSS2:=hI hS2
     rw [List.nil_append] at ho
     obtain ⟨A9,c9,rfl,_,_⟩:=ho.shape
     rw [HQ.out] at ho ⊢
     have HO9:=hI ho
     have HOG2:=hI (show ∀ g,(Value.slice A9 q c9).ownBlock=some g→u1.heap.size≤g∧g < u2.heap.size from fun g e=>World.ownsRow.lt ho g e)
     have HNV:=hI (show ∀ g,(Value.slice A9 q c9).ownBlock=some g→V.heap.size≤g from fun g e=>Nat.le_trans HSS1.out.size (HOG2.out g e).1)
     clear ho hb hg hv
     refine ⟨hS2,?_⟩
     simp only [zA,zB,zC]
     refine tK 24 34 (h:=?_)
     simp only [zA,zB,zC]
     refine RgD.one (i:=25) (by kernel_rfl) ?_
     obtain ⟨u3,hw⟩ : ∃ W,u2.alloc (.cells #[.int .i64 0,.int .i64 0,.int .i64 0,.int .i64 0,.bool false,.slice none 0 0,.slice none 0 0,.slice none 0 0,.slice none 0 0] 80)=W:=⟨_,rfl⟩
     obtain ⟨mm,ms,hb⟩:=made hw
     obtain ⟨xb,hxb⟩ : ∃ p,u2.heap.size=p:=⟨_,rfl⟩
     rw [hxb] at mm
     have HXX3:=hI mm
     have HXV:=hI (show V.heap.size≤xb from hxb ▸ HSS2.out.size)
     have hS3 : Below V.heap.size V u3:=HSS2.out.trans (hb.mono HSS2.out.size)
     have HSS3:=hI hS3
     have HO10:=hI (HO9.out.below hb)
     have HNX:=hI (show (Value.slice A9 q c9).ownBlock ≠ some xb from fun e=>by have h1:=(HOG2.out xb e).2;omega)
     refine RgD.eff (i:=25) (t:=5) (v:=.pointer (some ⟨xb,0,none⟩)) (w1:=u3) rfl rfl (by rfl) (by first | (go_simp;done) | (go_simp;exact ⟨hxb,hw⟩) | (go_simp;rw [hw,hxb];rfl) | (go_simp;rw [hw,hxb])) hS3 ?_
     simp only [zA,zB,zC]
     clear hw mm ms hb hxb
     refine RgD.one (i:=26) (by kernel_rfl) ?_
     obtain ⟨f0,f1,f2,f3,f4,f5,f6,f7,f8,ff⟩:=cells9 HXX3.out
     obtain ⟨u4,hw⟩ : ∃ W,putRow u3 xb 0 [.int .i64 (place tx ti),.int .i64 (txt tx tt),.int .i64 0,.int .i64 0,.bool room,.slice A9 q c9,.slice Aw wl.length cw,.slice Aa al.length ca,.slice none 0 0]=W:=⟨_,rfl⟩
     have hS4 : Below V.heap.size V u4:=by rw [← hw];exact putRow_below _ _ _ HSS3.out HXV.out
     have hx4 : u4.heap[xb]?=some (.cells #[.int .i64 (place tx ti),.int .i64 (txt tx tt),.int .i64 0,.int .i64 0,.bool room,.slice A9 q c9,.slice Aw wl.length cw,.slice Aa al.length ca,.slice none 0 0] 80 (0,0)):=by rw [← hw];exact putRow_mid [] [.int .i64 0,.int .i64 0,.int .i64 0,.int .i64 0,.bool false,.slice none 0 0,.slice none 0 0,.slice none 0 0,.slice none 0 0] [] [.int .i64 (place tx ti),.int .i64 (txt tx tt),.int .i64 0,.int .i64 0,.bool room,.slice A9 q c9,.slice Aw wl.length cw,.slice Aa al.length ca,.slice none 0 0] rfl HXX3.out
     have ho4:=sk_keep (w':=u4) HO10.out (fun g e=>by rw [← hw];exact putRow_other _ _ _ _ _ (fun c=>HNX.out (c ▸ e)))
     have HE:=hI (And.intro hS4 (And.intro hx4 ho4))
     refine RgD.storeS (i:=26) (w1:=u4) rfl rfl (by rfl) (by first | (go_simp;done) | (go_simp;exact hw) | (go_simp;rw [hw])) hS4 ?_
     clear f0 f1 f2 f3 f4 f5 f6 f7 f8 ff hw hS4 hx4 ho4
     refine RgD.done (by kernel_rfl) ?_ _
     clear hS0
     go_wp2_with fail
     go_meet
     have hv:=HNV.out
     have hr:=HRB.out
     have h0:=HV0.out.size
     have hx:=HXV.out
     exact ⟨xb,A9,c9,rfl,⟨HSO.out _ HE.out.1,HSR.out _ HE.out.1,HE.out.2.1,sk_lower HE.out.2.2 (fun g e=>by have:=hv g e;omega),HV0.out.trans (HE.out.1.mono h0),⟨hr.1,by omega,by omega,by omega,by omega,by omega⟩,⟨fun c=>by have:=hv _ c;omega,fun c=>by have:=hv _ c;omega,HNX.out⟩⟩⟩
    ·obtain ⟨u5,hw⟩ : ∃ W,u1.alloc (.cells #[.int .i64 0,.int .i64 0,.int .i64 0,.int .i64 0,.bool false,.slice none 0 0,.slice none 0 0,.slice none 0 0,.slice none 0 0] 80)=W:=⟨_,rfl⟩
     obtain ⟨mm,ms,hb⟩:=made hw
     obtain ⟨xb,hxb⟩ : ∃ p,u1.heap.size=p:=⟨_,rfl⟩
     rw [hxb] at mm
     have HXX5:=hI mm
     have HXV:=hI (show V.heap.size≤xb from hxb ▸ HSS1.out.size)
     have hS5 : Below V.heap.size V u5:=HSS1.out.trans (hb.mono HSS1.out.size)
     have HSS5:=hI hS5
     refine RgD.eff (i:=25) (t:=5) (v:=.pointer (some ⟨xb,0,none⟩)) (w1:=u5) rfl rfl (by rfl) (by first | (go_simp;done) | (go_simp;exact ⟨hxb,hw⟩) | (go_simp;rw [hw,hxb];rfl) | (go_simp;rw [hw,hxb])) hS5 ?_
     simp only [zA,zB,zC]
     clear hw mm ms hb hxb
     refine RgD.one (i:=23) (by kernel_rfl) ?_
     refine RgD.app elI (i:=23) (t:=33) (.const (.slice none 0 0)) (.tmp 32) rfl rfl (by rfl) rfl rfl (Sk.own_nil u5 u5.heap.size) Ay q cy pl rfl (HPL.out.below (HV0.out.trans (HSS5.out.mono HV0.out.size))) (by have:=HQN.out;unfold maxLen;simp;omega) (by have:=HQN.out;simp;omega) (Nat.le_refl _) ?_
     intro v9 u6 ho hb hg hv
     have hS6 : Below V.heap.size V u6:=HSS5.out.trans (hb.mono HSS5.out.size)
     have HSS6:=hI hS6
     rw [List.nil_append] at ho
     obtain ⟨A9,c9,rfl,_,_⟩:=ho.shape
     rw [HQ.out] at ho ⊢
     have HO9:=hI ho
     have HOG6:=hI (show ∀ g,(Value.slice A9 q c9).ownBlock=some g→u5.heap.size≤g∧g < u6.heap.size from fun g e=>World.ownsRow.lt ho g e)
     have HXX6:=hI ((hb.block xb (Array.getElem?_eq_some_iff.1 HXX5.out).1).trans HXX5.out)
     have HNX:=hI (show (Value.slice A9 q c9).ownBlock ≠ some xb from fun e=>by have h1:=(HOG6.out xb e).1;have h2:=(Array.getElem?_eq_some_iff.1 HXX5.out).1;omega)
     have HNV:=hI (show ∀ g,(Value.slice A9 q c9).ownBlock=some g→V.heap.size≤g from fun g e=>Nat.le_trans HSS5.out.size (HOG6.out g e).1)
     clear ho hb hg hv
     refine ⟨hS6,?_⟩
     simp only [zA,zB,zC]
     refine tK 24 34 (h:=?_)
     simp only [zA,zB,zC]
     refine RgD.one (i:=26) (by kernel_rfl) ?_
     obtain ⟨f0,f1,f2,f3,f4,f5,f6,f7,f8,ff⟩:=cells9 HXX6.out
     obtain ⟨u7,hw⟩ : ∃ W,putRow u6 xb 0 [.int .i64 (place tx ti),.int .i64 (txt tx tt),.int .i64 0,.int .i64 0,.bool room,.slice A9 q c9,.slice Aw wl.length cw,.slice Aa al.length ca,.slice none 0 0]=W:=⟨_,rfl⟩
     have hS7 : Below V.heap.size V u7:=by rw [← hw];exact putRow_below _ _ _ HSS6.out HXV.out
     have hx7 : u7.heap[xb]?=some (.cells #[.int .i64 (place tx ti),.int .i64 (txt tx tt),.int .i64 0,.int .i64 0,.bool room,.slice A9 q c9,.slice Aw wl.length cw,.slice Aa al.length ca,.slice none 0 0] 80 (0,0)):=by rw [← hw];exact putRow_mid [] [.int .i64 0,.int .i64 0,.int .i64 0,.int .i64 0,.bool false,.slice none 0 0,.slice none 0 0,.slice none 0 0,.slice none 0 0] [] [.int .i64 (place tx ti),.int .i64 (txt tx tt),.int .i64 0,.int .i64 0,.bool room,.slice A9 q c9,.slice Aw wl.length cw,.slice Aa al.length ca,.slice none 0 0] rfl HXX6.out
     have ho7:=sk_keep (w':=u7) HO9.out (fun g e=>by rw [← hw];exact putRow_other _ _ _ _ _ (fun c=>HNX.out (c ▸ e)))
     have HE:=hI (And.intro hS7 (And.intro hx7 ho7))
     refine RgD.storeS (i:=26) (w1:=u7) rfl rfl (by rfl) (by first | (go_simp;done) | (go_simp;exact hw) | (go_simp;rw [hw])) hS7 ?_
     clear f0 f1 f2 f3 f4 f5 f6 f7 f8 ff hw hS7 hx7 ho7
     refine RgD.done (by kernel_rfl) ?_ _
     clear hS0
     go_wp2_with fail
     go_meet
     have hv:=HNV.out
     have hr:=HRB.out
     have h0:=HV0.out.size
     have hx:=HXV.out
     exact ⟨xb,A9,c9,rfl,⟨HSO.out _ HE.out.1,HSR.out _ HE.out.1,HE.out.2.1,sk_lower HE.out.2.2 (fun g e=>by have:=hv g e;omega),HV0.out.trans (HE.out.1.mono h0),⟨hr.1,by omega,by omega,by omega,by omega,by omega⟩,⟨fun c=>by have:=hv _ c;omega,fun c=>by have:=hv _ c;omega,HNX.out⟩⟩⟩
   ·obtain ⟨u8,hw⟩ : ∃ W,V.drew.alloc (.cells #[.int .i64 0,.int .i64 0,.int .i64 0,.int .i64 0,.bool false,.slice none 0 0,.slice none 0 0,.slice none 0 0,.slice none 0 0] 80)=W:=⟨_,rfl⟩
    obtain ⟨mm,ms,hb⟩:=made hw
    obtain ⟨xb,hxb⟩ : ∃ p,V.drew.heap.size=p:=⟨_,rfl⟩
    rw [hxb] at mm
    have HXX8:=hI mm
    have HXV:=hI (show V.heap.size≤xb from hxb ▸ HS0.out.size)
    have hS8 : Below V.heap.size V u8:=HS0.out.trans (hb.mono HS0.out.size)
    have HSS8:=hI hS8
    refine RgD.eff (i:=25) (t:=5) (v:=.pointer (some ⟨xb,0,none⟩)) (w1:=u8) rfl rfl (by rfl) (by first | (go_simp;done) | (go_simp;exact ⟨hxb,hw⟩) | (go_simp;rw [hw,hxb];rfl) | (go_simp;rw [hw,hxb])) hS8 ?_
    simp only [zA,zB,zC]
    clear hw mm ms hb hxb
    refine RgD.one (i:=10) (by kernel_rfl) ?_
    refine RgD.call (i:=10) (t:=20) rfl rfl (by rfl) (by go_simp;exact ⟨rfl,rfl⟩) ?_
    refine (text_w X w0 A1 A2 n1 c1 n2 c2 t tx HBS.out y u8 vp vl vr m (HM0.out.below (HV0.out.trans (HSS8.out.mono HV0.out.size))) tt).mono ?_
    rintro r u9 ⟨rfl,hb⟩
    have hS9 : Below V.heap.size V u9:=HSS8.out.trans (hb.mono HSS8.out.size)
    have HSS9:=hI hS9
    have HXX9:=hI ((hb.block xb (Array.getElem?_eq_some_iff.1 HXX8.out).1).trans HXX8.out)
    clear hb
    refine ⟨_,rfl,hS9,?_⟩
    simp only [zA,zB,zC]
    refine RgD.one (i:=23) (by kernel_rfl) ?_
    refine RgD.app elI (i:=23) (t:=33) (.const (.slice none 0 0)) (.tmp 32) rfl rfl (by rfl) rfl rfl (Sk.own_nil u9 u9.heap.size) Ay q cy pl rfl (HPL.out.below (HV0.out.trans (HSS9.out.mono HV0.out.size))) (by have:=HQN.out;unfold maxLen;simp;omega) (by have:=HQN.out;simp;omega) (Nat.le_refl _) ?_
    intro v9 u10 ho hb hg hv
    have hS10 : Below V.heap.size V u10:=HSS9.out.trans (hb.mono HSS9.out.size)
    have HSS10:=hI hS10
    rw [List.nil_append] at ho
    obtain ⟨A9,c9,rfl,_,_⟩:=ho.shape
    rw [HQ.out] at ho ⊢
    have HO9:=hI ho
    have HOG10:=hI (show ∀ g,(Value.slice A9 q c9).ownBlock=some g→u9.heap.size≤g∧g < u10.heap.size from fun g e=>World.ownsRow.lt ho g e)
    have HXX10:=hI ((hb.block xb (Array.getElem?_eq_some_iff.1 HXX9.out).1).trans HXX9.out)
    have HNX:=hI (show (Value.slice A9 q c9).ownBlock ≠ some xb from fun e=>by have h1:=(HOG10.out xb e).1;have h2:=(Array.getElem?_eq_some_iff.1 HXX9.out).1;omega)
    have HNV:=hI (show ∀ g,(Value.slice A9 q c9).ownBlock=some g→V.heap.size≤g from fun g e=>Nat.le_trans HSS9.out.size (HOG10.out g e).1)
    clear ho hb hg hv
    refine ⟨hS10,?_⟩
    simp only [zA,zB,zC]
    refine tK 24 34 (h:=?_)
    simp only [zA,zB,zC]
    refine RgD.one (i:=26) (by kernel_rfl) ?_
    obtain ⟨f0,f1,f2,f3,f4,f5,f6,f7,f8,ff⟩:=cells9 HXX10.out
    obtain ⟨u11,hw⟩ : ∃ W,putRow u10 xb 0 [.int .i64 (place tx ti),.int .i64 (txt tx tt),.int .i64 0,.int .i64 0,.bool room,.slice A9 q c9,.slice Aw wl.length cw,.slice Aa al.length ca,.slice none 0 0]=W:=⟨_,rfl⟩
    have hS11 : Below V.heap.size V u11:=by rw [← hw];exact putRow_below _ _ _ HSS10.out HXV.out
    have hx11 : u11.heap[xb]?=some (.cells #[.int .i64 (place tx ti),.int .i64 (txt tx tt),.int .i64 0,.int .i64 0,.bool room,.slice A9 q c9,.slice Aw wl.length cw,.slice Aa al.length ca,.slice none 0 0] 80 (0,0)):=by rw [← hw];exact putRow_mid [] [.int .i64 0,.int .i64 0,.int .i64 0,.int .i64 0,.bool false,.slice none 0 0,.slice none 0 0,.slice none 0 0,.slice none 0 0] [] [.int .i64 (place tx ti),.int .i64 (txt tx tt),.int .i64 0,.int .i64 0,.bool room,.slice A9 q c9,.slice Aw wl.length cw,.slice Aa al.length ca,.slice none 0 0] rfl HXX10.out
    have ho11:=sk_keep (w':=u11) HO9.out (fun g e=>by rw [← hw];exact putRow_other _ _ _ _ _ (fun c=>HNX.out (c ▸ e)))
    have HE:=hI (And.intro hS11 (And.intro hx11 ho11))
    refine RgD.storeS (i:=26) (w1:=u11) rfl rfl (by rfl) (by first | (go_simp;done) | (go_simp;exact hw) | (go_simp;rw [hw])) hS11 ?_
    clear f0 f1 f2 f3 f4 f5 f6 f7 f8 ff hw hS11 hx11 ho11
    refine RgD.done (by kernel_rfl) ?_ _
    clear hS0
    go_wp2_with fail
    go_meet
    have hv:=HNV.out
    have hr:=HRB.out
    have h0:=HV0.out.size
    have hx:=HXV.out
    exact ⟨xb,A9,c9,rfl,⟨HSO.out _ HE.out.1,HSR.out _ HE.out.1,HE.out.2.1,sk_lower HE.out.2.2 (fun g e=>by have:=hv g e;omega),HV0.out.trans (HE.out.1.mono h0),⟨hr.1,by omega,by omega,by omega,by omega,by omega⟩,⟨fun c=>by have:=hv _ c;omega,fun c=>by have:=hv _ c;omega,HNX.out⟩⟩⟩
  ·obtain ⟨u12,hw⟩ : ∃ W,V.drew.alloc (.cells #[.int .i64 0,.int .i64 0,.int .i64 0,.int .i64 0,.bool false,.slice none 0 0,.slice none 0 0,.slice none 0 0,.slice none 0 0] 80)=W:=⟨_,rfl⟩
   obtain ⟨mm,ms,hb⟩:=made hw
   obtain ⟨xb,hxb⟩ : ∃ p,V.drew.heap.size=p:=⟨_,rfl⟩
   rw [hxb] at mm
   have HXX12:=hI mm
   have HXV:=hI (show V.heap.size≤xb from hxb ▸ HS0.out.size)
   have hS12 : Below V.heap.size V u12:=HS0.out.trans (hb.mono HS0.out.size)
   have HSS12:=hI hS12
   refine RgD.eff (i:=25) (t:=5) (v:=.pointer (some ⟨xb,0,none⟩)) (w1:=u12) rfl rfl (by rfl) (by first | (go_simp;done) | (go_simp;exact ⟨hxb,hw⟩) | (go_simp;rw [hw,hxb];rfl) | (go_simp;rw [hw,hxb])) hS12 ?_
   simp only [zA,zB,zC]
   clear hw mm ms hb hxb
   refine RgD.one (i:=6) (by kernel_rfl) ?_
   refine RgD.call (i:=6) (t:=16) rfl rfl (by rfl) (by go_simp;exact ⟨rfl,rfl⟩) ?_
   refine (place_i tx ti u12 (HBS.out.x.below (HM0.out.low.trans ((HV0.out.trans (HSS12.out.mono HV0.out.size)).mono (Nat.le_of_lt HM0.out.lt)))) HBS.out.n2).mono ?_
   rintro r w5 ⟨rfl,hw5⟩
   obtain rfl : u12=w5:=hw5.symm
   refine ⟨_,rfl,HSS12.out,?_⟩
   simp only [zA,zB,zC]
   refine RgD.one (i:=10) (by kernel_rfl) ?_
   refine RgD.call (i:=10) (t:=20) rfl rfl (by rfl) (by go_simp;exact ⟨rfl,rfl⟩) ?_
   refine (text_w X w0 A1 A2 n1 c1 n2 c2 t tx HBS.out y u12 vp vl vr m (HM0.out.below (HV0.out.trans (HSS12.out.mono HV0.out.size))) tt).mono ?_
   rintro r u13 ⟨rfl,hb⟩
   have hS13 : Below V.heap.size V u13:=HSS12.out.trans (hb.mono HSS12.out.size)
   have HSS13:=hI hS13
   have HXX13:=hI ((hb.block xb (Array.getElem?_eq_some_iff.1 HXX12.out).1).trans HXX12.out)
   clear hb
   refine ⟨_,rfl,hS13,?_⟩
   simp only [zA,zB,zC]
   refine RgD.one (i:=23) (by kernel_rfl) ?_
   refine RgD.app elI (i:=23) (t:=33) (.const (.slice none 0 0)) (.tmp 32) rfl rfl (by rfl) rfl rfl (Sk.own_nil u13 u13.heap.size) Ay q cy pl rfl (HPL.out.below (HV0.out.trans (HSS13.out.mono HV0.out.size))) (by have:=HQN.out;unfold maxLen;simp;omega) (by have:=HQN.out;simp;omega) (Nat.le_refl _) ?_
   intro v9 u14 ho hb hg hv
   have hS14 : Below V.heap.size V u14:=HSS13.out.trans (hb.mono HSS13.out.size)
   have HSS14:=hI hS14
   rw [List.nil_append] at ho
   obtain ⟨A9,c9,rfl,_,_⟩:=ho.shape
   rw [HQ.out] at ho ⊢
   have HO9:=hI ho
   have HOG14:=hI (show ∀ g,(Value.slice A9 q c9).ownBlock=some g→u13.heap.size≤g∧g < u14.heap.size from fun g e=>World.ownsRow.lt ho g e)
   have HXX14:=hI ((hb.block xb (Array.getElem?_eq_some_iff.1 HXX13.out).1).trans HXX13.out)
   have HNX:=hI (show (Value.slice A9 q c9).ownBlock ≠ some xb from fun e=>by have h1:=(HOG14.out xb e).1;have h2:=(Array.getElem?_eq_some_iff.1 HXX13.out).1;omega)
   have HNV:=hI (show ∀ g,(Value.slice A9 q c9).ownBlock=some g→V.heap.size≤g from fun g e=>Nat.le_trans HSS13.out.size (HOG14.out g e).1)
   clear ho hb hg hv
   refine ⟨hS14,?_⟩
   simp only [zA,zB,zC]
   refine tK 24 34 (h:=?_)
   simp only [zA,zB,zC]
   refine RgD.one (i:=26) (by kernel_rfl) ?_
   obtain ⟨f0,f1,f2,f3,f4,f5,f6,f7,f8,ff⟩:=cells9 HXX14.out
   obtain ⟨u15,hw⟩ : ∃ W,putRow u14 xb 0 [.int .i64 (place tx ti),.int .i64 (txt tx tt),.int .i64 0,.int .i64 0,.bool room,.slice A9 q c9,.slice Aw wl.length cw,.slice Aa al.length ca,.slice none 0 0]=W:=⟨_,rfl⟩
   have hS15 : Below V.heap.size V u15:=by rw [← hw];exact putRow_below _ _ _ HSS14.out HXV.out
   have hx15 : u15.heap[xb]?=some (.cells #[.int .i64 (place tx ti),.int .i64 (txt tx tt),.int .i64 0,.int .i64 0,.bool room,.slice A9 q c9,.slice Aw wl.length cw,.slice Aa al.length ca,.slice none 0 0] 80 (0,0)):=by rw [← hw];exact putRow_mid [] [.int .i64 0,.int .i64 0,.int .i64 0,.int .i64 0,.bool false,.slice none 0 0,.slice none 0 0,.slice none 0 0,.slice none 0 0] [] [.int .i64 (place tx ti),.int .i64 (txt tx tt),.int .i64 0,.int .i64 0,.bool room,.slice A9 q c9,.slice Aw wl.length cw,.slice Aa al.length ca,.slice none 0 0] rfl HXX14.out
   have ho15:=sk_keep (w':=u15) HO9.out (fun g e=>by rw [← hw];exact putRow_other _ _ _ _ _ (fun c=>HNX.out (c ▸ e)))
   have HE:=hI (And.intro hS15 (And.intro hx15 ho15))
   refine RgD.storeS (i:=26) (w1:=u15) rfl rfl (by rfl) (by first | (go_simp;done) | (go_simp;exact hw) | (go_simp;rw [hw])) hS15 ?_
   clear f0 f1 f2 f3 f4 f5 f6 f7 f8 ff hw hS15 hx15 ho15
   refine RgD.done (by kernel_rfl) ?_ _
   clear hS0
   go_wp2_with fail
   go_meet
   have hv:=HNV.out
   have hr:=HRB.out
   have h0:=HV0.out.size
   have hx:=HXV.out
   exact ⟨xb,A9,c9,rfl,⟨HSO.out _ HE.out.1,HSR.out _ HE.out.1,HE.out.2.1,sk_lower HE.out.2.2 (fun g e=>by have:=hv g e;omega),HV0.out.trans (HE.out.1.mono h0),⟨hr.1,by omega,by omega,by omega,by omega,by omega⟩,⟨fun c=>by have:=hv _ c;omega,fun c=>by have:=hv _ c;omega,HNX.out⟩⟩⟩
 case rest=>
  obtain ⟨xb,Ap',cp',rfl,hoj⟩:=hcut
  obtain ⟨wd,hwd⟩ : ∃ W,W=wc:=⟨_,rfl⟩
  rw [← hwd] at hoj ⊢
  have HOJ:=hI hoj
  obtain ⟨z0,z1,z2,z3,z4,z5,z6,z7,z8,z9,zf⟩:=cellz10 hoj.src
  clear hoj hwd
  obtain ⟨bq,hbq⟩ : ∃ b,decide (inn=[])=b:=⟨_,rfl⟩
  have HBQ:=hI hbq
  have q1:=emp_q inn bq hbq
  clear hbq
  go_upto_if 37 with fail
  go_cut [3] (fun v wx=>v=.pointer (some ⟨ob,0,none⟩)∧Oj w ob rb xb #[.string (str nm),.string (str ti),.string (str inn),.string (str tt),.bool room,.slice Aw wl.length cw,.slice Aa al.length ca,.slice Af fl.length cf,.slice Ap prl.length cp,.slice Ax xl.length cx] (place tx ti) (txt tx tt) (if inn=[] then 0 else ofN t 4 inn) 0 room (.slice Ap' q cp') pl (.slice Aw wl.length cw) (.slice Aa al.length ca) (.slice none 0 0) wx)
  case first=>
   cases bq with
   | true=>
    have HE:=hI (of_decide_eq_true HBQ.out)
    go_wp2_with fail
    go_meet
    exact ⟨rfl,by rw [if_pos HE.out];exact HOJ.out⟩
   | false=>
    have HE:=hI (of_decide_eq_false HBQ.out)
    go_wp2_with fail
    refine (thing_w X w0 A1 A2 n1 c1 n2 c2 t tx HBS.out y wd vp vl vr m (HM0.out.below HOJ.out.low) inn).mono ?_
    rintro e w5 ⟨rfl,hb⟩
    have HOJ5:=hI ((HOJ.out.below hb).setPa (thg t inn))
    obtain ⟨f0,f1,f2,f3,f4,f5,f6,f7,f8,ff⟩:=cells9 (HOJ.out.below hb).x
    clear hb z0 z1 z2 z3 z4 z5 z6 z7 z8 z9 zf
    go_wp2_with fail
    go_meet
    have e1 : thg t inn=ofN t 4 inn:=by unfold thg;rw [if_neg HE.out]
    refine ⟨rfl,?_⟩
    rw [if_neg HE.out,← e1]
    exact HOJ5.out
  case rest=>
   clear z0 z1 z2 z3 z4 z5 z6 z7 z8 z9 zf
   obtain ⟨rfl,hoj⟩:=hcut
   obtain ⟨pa0,hpa⟩ : ∃ z,(if inn=[] then 0 else ofN t 4 inn)=z:=⟨_,rfl⟩
   have HPA:=hI hpa
   rw [hpa] at hoj
   obtain ⟨we,hwe⟩ : ∃ W,W=wc:=⟨_,rfl⟩
   rw [← hwe] at hoj ⊢
   have HOJ1:=hI hoj
   obtain ⟨z0,z1,z2,z3,z4,z5,z6,z7,z8,z9,zf⟩:=cellz10 hoj.src
   have zF : fl.length≤1048576:=by
    have h1:=sum_len (m:=fun x : S=>x.length + 1) (fun _=>by omega) fl
    have h2:=HZ.out
    unfold Ob.m at h2
    simp only at h2
    omega
   have zP : prl.length≤1048576:=by
    have h1:=sum_len (m:=Pr.m) (fun _=>by unfold Pr.m;omega) prl
    have h2:=HZ.out
    unfold Ob.m at h2
    simp only at h2
    omega
   have HXE:=hI (show (xl.map Xt.m).sum≤1048576 by
    have h2:=HZ.out
    unfold Ob.m at h2
    simp only at h2
    omega)
   clear hoj hwe hpa HOJ wd q1 HBQ
   have HBX:=hI (show ∀ U,Below w.heap.size w U→U.cell? ⟨w0.heap.size,0,none⟩=some (.slice A1 n1 c1) from fun U h=>(HMC.out U h).1)
   have HTT:=hI (show ∀ U,Below w.heap.size w U→Sk.Rd nmE U A1 n1 t from fun U h=>(HBS.out.t.below HM0.out.low).below h)
   go_wp2_with fail
   go_loopw [46] (fun iv wr=>∃ j : Nat,j≤fl.length∧iv=.int .i64 (j : Int)∧Oj w ob rb xb #[.string (str nm),.string (str ti),.string (str inn),.string (str tt),.bool room,.slice Aw wl.length cw,.slice Aa al.length ca,.slice Af fl.length cf,.slice Ap prl.length cp,.slice Ax xl.length cx] (place tx ti) (txt tx tt) pa0 (flgI t 0 (fl.take j)) room (.slice Ap' q cp') pl (.slice Aw wl.length cw) (.slice Aa al.length ca) (.slice none 0 0) wr) (fun iv _=>fl.length - (intOf iv).toNat)
   case atStart=>exact ⟨0,Nat.zero_le _,rfl,HOJ1.out⟩
   case round=>
    obtain ⟨j,hj,rfl,hoj⟩:=hrel
    clear z0 z1 z2 z3 z4 z5 z6 z7 z8 z9 zf
    have HOJ2:=hI hoj
    obtain ⟨z0,z1,z2,z3,z4,z5,z6,z7,z8,z9,zf⟩:=cellz10 hoj.src
    have k0 : (0 : Int)≤(j : Int):=by omega
    by_cases hlt : j < fl.length
    ·have k1 : (j : Int) < (fl.length : Int):=by omega
     obtain ⟨b,o,rfl,hbz,hc⟩:=Lg.at_ (enc:=svE) (k:=1) (fun _=>rfl) (Lg.keep stays_t (Keep.below hoj.low) HR.out.2.2.1 : Lg svE Rt K0 wr Af cf fl) hlt
     have hmem : fl[j] ∈ fl:=List.getElem_mem hlt
     have hf0:=HPF.out.2 _ hmem
     have htk:=List.take_succ_eq_append_getElem hlt
     obtain ⟨f,hy⟩ : ∃ y,fl[j]=y:=⟨_,rfl⟩
     rw [hy] at hc hf0 htk
     have HTK:=hI (show flgI t 0 (fl.take (j + 1))=or64 (flgI t 0 (fl.take j)) (shl1 (ofN t 1 f)) by rw [htk,flgI_snoc])
     have d0 : wr.cell? ⟨b,o + j,none⟩=some (.string (str f)):=by have h:=hc 0 _ rfl;unfold sv at h;simpa using h
     obtain ⟨nf,hnf⟩ : ∃ z,ofN t 1 f=z:=⟨_,rfl⟩
     have HNF:=hI hnf
     rw [hnf] at hf0
     obtain ⟨fz,hfz⟩ : ∃ z,flgI t 0 (fl.take j)=z:=⟨_,rfl⟩
     rw [hfz] at HOJ2 HTK
     clear hc hy hmem htk hbz hoj hnf hfz
     go_upto_region 7 with fail
     clear z0 z1 z2 z3 z4 z5 z6 z7 z8 z9 zf d0
     have hS0 : Below wr.heap.size wr wr.drew:=Below.drew (Below.refl _ _)
     have HS0:=hI hS0
     refine RgD.begin_ [11] (fun U=>Below wr.heap.size wr U) (by kernel_rfl) hS0 (fun hHeld=>?_)
     refine tK 0 50 (h:=?_)
     simp only [zA,zB,zC]
     refine tK 1 51 (v:=.int .i64 fz) (hy:=by intro w0 hSw;obtain ⟨f0,f1,f2,f3,f4,f5,f6,f7,f8,ff⟩:=cells9 (HOJ2.out.below hSw).x;first | (go_simp;done) | (go_simp;with_reducible rfl) | (go_simp;intro hc;exfalso;omega)) (h:=?_)
     simp only [zA,zB,zC]
     refine tK 2 52 (h:=?_)
     simp only [zA,zB,zC]
     refine tK 3 53 (h:=?_)
     simp only [zA,zB,zC]
     refine tK 4 54 (h:=?_)
     simp only [zA,zB,zC]
     refine tK 5 55 (v:=.slice A1 n1 c1) (hy:=by intro w0 hSw;have z0:=HBX.out _ (HOJ2.out.below hSw).low;first | (go_simp;done) | (go_simp;with_reducible rfl) | (go_simp;intro hc;exfalso;omega)) (h:=?_)
     simp only [zA,zB,zC]
     refine tK 6 56 (h:=?_)
     simp only [zA,zB,zC]
     refine RgD.one (i:=7) (by kernel_rfl) ?_
     refine RgD.call (i:=7) (t:=57) rfl rfl (by rfl) (by go_simp;exact ⟨rfl,rfl⟩) ?_
     refine (number_w t HBS.out.up 1 f wr.drew (HTT.out _ (HOJ2.out.below HS0.out).low) HBS.out.n1).mono ?_
     rintro r w5 ⟨rfl,hb⟩
     rw [HNF.out]
     have hS5:=HS0.out.trans (hb.mono HS0.out.size)
     have HS5:=hI hS5
     clear hb
     refine ⟨_,rfl,hS5,?_⟩
     simp only [zA,zB,zC]
     refine tK 8 58 (v:=.int .i64 (shl1 nf)) (hy:=by intro w0 hSw;unfold shl1;first | (go_simp;done) | (go_simp;with_reducible rfl) | (go_simp;intro hc;exfalso;omega)) (h:=?_)
     simp only [zA,zB,zC]
     refine tK 9 59 (v:=.int .i64 (or64 fz (shl1 nf))) (hy:=by intro w0 hSw;unfold or64;first | (go_simp;done) | (go_simp;with_reducible rfl) | (go_simp;intro hc;exfalso;omega)) (h:=?_)
     simp only [zA,zB,zC]
     refine tK 10 60 (h:=?_)
     simp only [zA,zB,zC]
     refine RgD.one (i:=11) (by kernel_rfl) ?_
     have HOJ5:=hI ((HOJ2.out.below HS5.out).setFl (or64 fz (shl1 nf)))
     obtain ⟨f0,f1,f2,f3,f4,f5,f6,f7,f8,ff⟩:=cells9 (HOJ2.out.below HS5.out).x
     obtain ⟨w6,hw⟩ : ∃ W,w5.setCell ⟨xb,3,none⟩ (.int .i64 (or64 fz (shl1 nf)))=W:=⟨_,rfl⟩
     rw [hw] at HOJ5
     refine RgD.store (i:=11) (w1:=w6) rfl rfl (by rfl) (by kernel_rfl) (by first | (go_simp;done) | (go_simp;exact hw) | (go_simp;rw [hw])) ?_
     refine RgD.done (by kernel_rfl) ?_ _
     clear hS0 hS5 f0 f1 f2 f3 f4 f5 f6 f7 f8 ff hw
     go_wp2_with fail
     go_roundw
     case rel=>exact ⟨j + 1,by omega,by go_num,by rw [HTK.out,HNF.out];exact HOJ5.out⟩
     case measure=>simp [intOf];omega
    ·obtain rfl : fl.length=j:=by omega
     have hfl : fl.take fl.length=fl:=List.take_length
     rw [hfl] at hoj
     obtain ⟨fz,hfz⟩ : ∃ z,flgI t 0 fl=z:=⟨_,rfl⟩
     have HFZ:=hI hfz
     rw [hfz] at hoj
     have HOJ3:=hI hoj
     clear hoj hfl hfz HOJ2
     go_wp2_with fail
     go_loopw [65] (fun iv wr=>∃ j : Nat,j≤prl.length∧iv=.int .i64 (j : Int)∧Oj w ob rb xb #[.string (str nm),.string (str ti),.string (str inn),.string (str tt),.bool room,.slice Aw wl.length cw,.slice Aa al.length ca,.slice Af fl.length cf,.slice Ap prl.length cp,.slice Ax xl.length cx] (place tx ti) (txt tx tt) pa0 fz room (.slice Ap' q cp') (prpI t pl (prl.take j)) (.slice Aw wl.length cw) (.slice Aa al.length ca) (.slice none 0 0) wr) (fun iv _=>prl.length - (intOf iv).toNat)
     case atStart=>exact ⟨0,Nat.zero_le _,rfl,HOJ3.out⟩
     case round=>
      obtain ⟨j,hj,rfl,hoj⟩:=hrel
      clear z0 z1 z2 z3 z4 z5 z6 z7 z8 z9 zf
      have HOJ2:=hI hoj
      obtain ⟨z0,z1,z2,z3,z4,z5,z6,z7,z8,z9,zf⟩:=cellz10 hoj.src
      have k0 : (0 : Int)≤(j : Int):=by omega
      by_cases hlt : j < prl.length
      ·have k1 : (j : Int) < (prl.length : Int):=by omega
       obtain ⟨b,o,rfl,hbz,hc⟩:=Lg.at_ Pr.len (Lg.keep Pr.stays (Keep.below hoj.low) HR.out.2.2.2.1 : Lg Pr.e Pr.R K0 wr Ap cp prl) hlt
       have hmem : prl[j] ∈ prl:=List.getElem_mem hlt
       have hf0:=HPF.out.1 _ hmem
       have htk:=List.take_succ_eq_append_getElem hlt
       obtain ⟨⟨pnm,pnu⟩,hy⟩ : ∃ y,prl[j]=y:=⟨_,rfl⟩
       rw [hy] at hc hf0 htk
       have HTK:=hI (show prpI t pl (prl.take (j + 1))=(prpI t pl (prl.take j)).set (ofN t 2 pnm).toNat pnu by rw [htk,prpI_snoc])
       have d0 : wr.cell? ⟨b,o + j * 2,none⟩=some (.string (str pnm)):=hc 0 _ rfl
       have d1 : wr.cell? ⟨b,o + j * 2 + 1,none⟩=some (.int .i64 pnu):=hc 1 _ rfl
       simp only [HQ.out] at hf0
       obtain ⟨nf,hnf⟩ : ∃ z : Nat,ofN t 2 pnm=(z : Int):=⟨(ofN t 2 pnm).toNat,by omega⟩
       have HNF:=hI hnf
       rw [hnf] at hf0
       have hnq : nf < q:=by omega
       have hn0 : (0 : Int)≤(nf : Int):=by omega
       have hn1 : (nf : Int) < (q : Int):=by omega
       have HNQ:=hI hnq
       obtain ⟨fp,hfp⟩ : ∃ z,prpI t pl (prl.take j)=z:=⟨_,rfl⟩
       have HFL:=hI (show fp.length=q by rw [← hfp,prpI_len,HQ.out])
       rw [hfp] at HOJ2 HTK
       obtain ⟨g,rfl,hg1,hg2⟩:=HOJ2.out.own.form (by omega)
       clear hc hy hmem htk hbz hoj hnf hf0 hfp
       go_upto_region 12 with fail
       obtain ⟨w1,hw1⟩ : ∃ W,wr.alloc (.cells #[.string (str pnm),.int .i64 pnu] 77)=W:=⟨_,rfl⟩
       obtain ⟨mm1,ms1,b1⟩:=made hw1
       rw [hw1]
       obtain ⟨pb,hpb⟩ : ∃ p,wr.heap.size=p:=⟨_,rfl⟩
       have HOJ4:=hI (HOJ2.out.below b1)
       rw [hpb] at mm1 ⊢
       have HPB:=hI mm1
       clear z0 z1 z2 z3 z4 z5 z6 z7 z8 z9 zf d0 d1 hw1 mm1 ms1 b1 hpb
       have hS0 : Below w1.heap.size w1 w1.drew:=Below.drew (Below.refl _ _)
       have HS0:=hI hS0
       have HP2:=hI (show ∀ U,Below w1.heap.size w1 U→U.cell? ⟨pb,0,none⟩=some (.string (str pnm))∧U.cell? ⟨pb,1,none⟩=some (.int .i64 pnu) from fun U h=>by
        have h1:=(h.block _ (Array.getElem?_eq_some_iff.1 HPB.out).1).trans HPB.out
        exact ⟨by simp [World.cell?,h1],by simp [World.cell?,h1]⟩)
       refine RgD.begin_ [12] (fun U=>Below w1.heap.size w1 U) (by kernel_rfl) hS0 (fun hHeld=>?_)
       refine tK 0 69 (h:=?_)
       simp only [zA,zB,zC]
       refine tK 1 70 (v:=.slice (some ⟨g,0,none⟩) q cp') (hy:=by intro w0 hSw;obtain ⟨f0,f1,f2,f3,f4,f5,f6,f7,f8,ff⟩:=cells9 (HOJ4.out.below hSw).x;first | (go_simp;done) | (go_simp;with_reducible rfl) | (go_simp;intro hc;exfalso;omega)) (h:=?_)
       simp only [zA,zB,zC]
       refine tK 2 71 (h:=?_)
       simp only [zA,zB,zC]
       refine tK 3 72 (h:=?_)
       simp only [zA,zB,zC]
       refine tK 4 73 (h:=?_)
       simp only [zA,zB,zC]
       refine tK 5 74 (v:=.slice A1 n1 c1) (hy:=by intro w0 hSw;have z0:=HBX.out _ (HOJ4.out.below hSw).low;first | (go_simp;done) | (go_simp;with_reducible rfl) | (go_simp;intro hc;exfalso;omega)) (h:=?_)
       simp only [zA,zB,zC]
       refine tK 6 75 (h:=?_)
       simp only [zA,zB,zC]
       refine tK 7 76 (v:=.string (str pnm)) (hy:=by intro w0 hSw;have p0:=(HP2.out _ hSw).1;first | (go_simp;done) | (go_simp;with_reducible rfl) | (go_simp;intro hc;exfalso;omega)) (h:=?_)
       simp only [zA,zB,zC]
       refine tK 9 78 (h:=?_)
       simp only [zA,zB,zC]
       refine tK 10 79 (v:=.int .i64 pnu) (hy:=by intro w0 hSw;have p1:=(HP2.out _ hSw).2;first | (go_simp;done) | (go_simp;with_reducible rfl) | (go_simp;intro hc;exfalso;omega)) (h:=?_)
       simp only [zA,zB,zC]
       refine RgD.one (i:=8) (by kernel_rfl) ?_
       refine RgD.call (i:=8) (t:=77) rfl rfl (by rfl) (by go_simp;exact ⟨rfl,rfl⟩) ?_
       refine (number_w t HBS.out.up 2 pnm w1.drew (HTT.out _ (HOJ4.out.below HS0.out).low) HBS.out.n1).mono ?_
       rintro r w5 ⟨rfl,hb⟩
       rw [HNF.out]
       have hS5:=HS0.out.trans (hb.mono HS0.out.size)
       have HS5:=hI hS5
       clear hb
       refine ⟨_,rfl,hS5,?_⟩
       simp only [zA,zB,zC]
       refine tK 11 80 (v:=.pointer (some ⟨g,nf,none⟩)) (hy:=by intro w0 hSw;have hn0:=hn0;have hn1:=hn1;first | (go_simp;done) | (go_simp;with_reducible rfl) | (go_simp;intro hc;exfalso;omega)) (h:=?_)
       simp only [zA,zB,zC]
       refine RgD.one (i:=12) (by kernel_rfl) ?_
       have HOJ5:=hI ((HOJ4.out.below HS5.out).setPr (i:=nf) (by rw [HFL.out];exact HNQ.out) pnu)
       have ff:=sk_frozen (HOJ4.out.below HS5.out).own nf
       obtain ⟨b2,o2,e2,_,_,hcc⟩:=Sk.Rd.at_ (k:=1) (fun _=>rfl) (HOJ4.out.below HS5.out).own.rd HNQ.out
       injection e2 with e2
       injection e2 with e2 e3 _
       subst e2 e3
       have d5:=hcc 0 _ rfl
       simp only [Nat.zero_add,Nat.mul_one,Nat.add_zero] at d5
       clear hcc
       obtain ⟨w6,hw⟩ : ∃ W,w5.setCell ⟨g,nf,none⟩ (.int .i64 pnu)=W:=⟨_,rfl⟩
       rw [hw] at HOJ5
       refine RgD.store (i:=12) (w1:=w6) rfl rfl (by rfl) (by kernel_rfl) (by first | (go_simp;done) | (go_simp;exact hw) | (go_simp;rw [hw])) ?_
       refine RgD.done (by kernel_rfl) ?_ _
       clear d5 hS0 hS5 ff hw hn0 hn1 hnq hg1 hg2
       go_wp2_with fail
       go_roundw
       case rel=>exact ⟨j + 1,by omega,by go_num,by rw [HTK.out,HNF.out];exact HOJ5.out⟩
       case measure=>simp [intOf];omega
      ·obtain rfl : prl.length=j:=by omega
       have hpl2 : prl.take prl.length=prl:=List.take_length
       rw [hpl2] at hoj
       obtain ⟨fp,hfp⟩ : ∃ z,prpI t pl prl=z:=⟨_,rfl⟩
       have HFP:=hI hfp
       have HFL:=hI (show fp.length=q by rw [← hfp,prpI_len,HQ.out])
       rw [hfp] at hoj
       have HOJ5:=hI hoj
       have hxs:=(Array.getElem?_eq_some_iff.1 hoj.x).1
       have hrs:=(Array.getElem?_eq_some_iff.1 hoj.res).1
       have HGE:=hI (show (w.heap.size≤rb∧rb < wr.heap.size∧rb ≠ xb)∧w.heap.size≤xb∧xb < wr.heap.size from ⟨⟨hoj.lt.2.1,hrs,hoj.lt.2.2.2.2.2⟩,hoj.lt.2.2.1,hxs⟩)
       have HDX:=hI (show ∀ b,w.heap.size≤b→¬ Dm w0 vp vl vr b from fun b hb hd=>by have:=(HM0.out.dm hd).2;omega)
       have hlo:=hoj.low
       have HMX:=hI (Mb.newx (X':=fun b=>X b∨b=xb∨b=rb) (row:=none) HM0.out ⟨hlo.os,hlo.tape,hlo.output,hlo.size,fun b hl _=>hlo.block b hl⟩ (fun b e=>by cases e) (fun b e=>by rcases e with e | e | e;exact .inl e;exact .inr (by have:=HGE.out;omega);exact .inr (by have:=HGE.out;omega)) (fun b e=>by rcases e with e | e | e;exact Nat.lt_of_lt_of_le (HM0.out.xl b e) hlo.size;have:=HGE.out;omega;have:=HGE.out;omega))
       have HXL:=hI (show Lg Xt.e Xt.R (fun b=>¬ Dm w0 vp vl vr b) wr Ax cx xl from Lg.keep Xt.stays ⟨hlo.size,fun b hb hl=>⟨fun hd=>by have:=(HM0.out.dm hd).1;have:=HK0.out b hb;omega,hlo.block b hl⟩⟩ HR.out.2.2.2.2)
       clear hoj hpl2 hfp hxs hrs hlo HOJ2 HOJ3 HOJ1
       go_wp2_with fail
       refine (ways_w (fun b=>X b∨b=xb∨b=rb) w0 A1 A2 n1 c1 n2 c2 t tx HBS.out y wr vp vl vr m HMX.out xl Ax cx HXL.out n HN.out.1 HN.out.2 HXE.out).mono ?_
       rintro e w5 ⟨vp',vl',vr',m',A',c',rfl,hmo⟩
       have HMO:=hI hmo
       obtain ⟨nw,hnw⟩ : ∃ z,(wysI t tx m.p xl).2.length=z:=⟨_,rfl⟩
       rw [hnw] at hmo ⊢
       have HNW:=hI hnw
       have hx5:=(hmo.ft.block xb HGE.out.2.2 (HDX.out xb HGE.out.2.1)).trans HOJ5.out.x
       have hr5:=(hmo.ft.block rb HGE.out.1.2.1 (HDX.out rb HGE.out.1.1)).trans HOJ5.out.res
       have HDY:=hI (show ∀ b,w.heap.size≤b→b < wr.heap.size→¬ Dm w0 vp' vl' vr' b from fun b h1 h2 hd=>by
        rcases hmo.ft.own b hd with c | c
        ·exact HDX.out b h1 c
        ·omega)
       obtain ⟨f0,f1,f2,f3,f4,f5,f6,f7,f8,ff⟩:=cells9 hx5
       obtain ⟨w6,hw6⟩ : ∃ W,w5.setCell ⟨xb,8,none⟩ (.slice A' nw c')=W:=⟨_,rfl⟩
       have hx6 : w6.heap[xb]?=some (.cells #[.int .i64 (place tx ti),.int .i64 (txt tx tt),.int .i64 pa0,.int .i64 fz,.bool room,.slice Ap' q cp',.slice Aw wl.length cw,.slice Aa al.length ca,.slice A' nw c'] 80 (0,0)):=by rw [← hw6];simp [World.setCell,Array.getElem?_modify,hx5]
       have hr6 : w6.heap[rb]?=some (.cells #[.int .i64 0,.int .i64 0,.int .i64 0,.int .i64 0,.bool false,.slice none 0 0,.slice none 0 0,.slice none 0 0,.slice none 0 0] 80 (0,0)):=by rw [← hw6];exact (hset HGE.out.1.2.2).trans hr5
       obtain ⟨r0,r1,r2,r3,r4,r5,r6,r7,r8,rf⟩:=cells9 hr6
       obtain ⟨g0,g1,g2,g3,g4,g5,g6,g7,g8,gf⟩:=cells9 hx6
       obtain ⟨w7,hw7⟩ : ∃ W,((((((((w6.setCell ⟨rb,0,none⟩ (.int .i64 (place tx ti))).setCell ⟨rb,1,none⟩ (.int .i64 (txt tx tt))).setCell ⟨rb,2,none⟩ (.int .i64 pa0)).setCell ⟨rb,3,none⟩ (.int .i64 fz)).setCell ⟨rb,4,none⟩ (.bool room)).setCell ⟨rb,5,none⟩ (.slice Ap' q cp')).setCell ⟨rb,6,none⟩ (.slice Aw wl.length cw)).setCell ⟨rb,7,none⟩ (.slice Aa al.length ca)).setCell ⟨rb,8,none⟩ (.slice A' nw c')=W:=⟨_,rfl⟩
       have hp7 : putRow w6 rb 0 [.int .i64 (place tx ti),.int .i64 (txt tx tt),.int .i64 pa0,.int .i64 fz,.bool room,.slice Ap' q cp',.slice Aw wl.length cw,.slice Aa al.length ca,.slice A' nw c']=w7:=hw7
       have HX:=hI (show w7.heap[rb]?=some (.cells #[.int .i64 (place tx ti),.int .i64 (txt tx tt),.int .i64 pa0,.int .i64 fz,.bool room,.slice Ap' q cp',.slice Aw wl.length cw,.slice Aa al.length ca,.slice A' nw c'] 80 (0,0)) by rw [← hp7];exact putRow_mid [] [.int .i64 0,.int .i64 0,.int .i64 0,.int .i64 0,.bool false,.slice none 0 0,.slice none 0 0,.slice none 0 0,.slice none 0 0] [] [.int .i64 (place tx ti),.int .i64 (txt tx tt),.int .i64 pa0,.int .i64 fz,.bool room,.slice Ap' q cp',.slice Aw wl.length cw,.slice Aa al.length ca,.slice A' nw c'] rfl hr6)
       have HFIN:=hI (show ObV K0 X w0 (.slice A1 n1 c1) (.slice A2 n2 c2) y w (Dm w0 vp vl vr) (objI t tx pl m.p (⟨nm,ti,inn,tt,room,⟨Aw,cw,wl⟩,⟨Aa,ca,al⟩,⟨Af,cf,fl⟩,⟨Ap,cp,prl⟩,⟨Ax,cx,xl⟩⟩ : Ob)) (.returned (.agg #[.int .i64 (place tx ti),.int .i64 (txt tx tt),.int .i64 pa0,.int .i64 fz,.bool room,.slice Ap' q cp',.slice Aw wl.length cw,.slice Aa al.length ca,.slice A' nw c'])) w7 by
        have hoth : ∀ b,b ≠ xb→b ≠ rb→w7.heap[b]?=w5.heap[b]?:=fun b h1 h2=>by rw [← hp7,putRow_other _ _ _ _ _ h2,← hw6];exact hset h1
        have hB7 : Below 0 w5 w7:=by rw [← hp7,← hw6];exact putRow_below _ _ _ ((Below.refl 0 w5).setCell (p:=⟨xb,8,none⟩) (Nat.zero_le _) _) (Nat.zero_le _)
        have hge:=HGE.out
        have hdx:=HDY.out xb hge.2.1 hge.2.2
        have hdr:=HDY.out rb hge.1.1 hge.1.2.1
        have hw0 : w0.heap.size≤w.heap.size:=Nat.le_of_lt HM0.out.lt
        have hlo:=HOJ5.out.low
        have hmb:=HMO.out.mb
        have hft:=HMO.out.ft
        have how:=HMO.out.ow
        refine ⟨vp',vl',vr',m',⟨place tx ti,txt tx tt,pa0,fz,room,⟨Ap',cp',fp⟩,⟨Aw,cw,wl⟩,⟨Aa,ca,al⟩,⟨A',c',(wysI t tx m.p xl).2⟩⟩,?_,?_,HMO.out.p,?_,?_,?_,?_,?_,?_⟩
        ·simp only [thE,Sv.v,HFL.out,hnw]
        ·rw [← HPA.out,← HFZ.out,← HFP.out];rfl
        ·rw [← hp7,← hw6]
         exact Mb.less (Mb.putx hdr (.inl (.inr (.inr rfl))) (Nat.le_trans hw0 hge.1.1) _ _ (hmb.setx 8 hdx (.inl (.inr (.inl rfl))) (Nat.le_trans hw0 hge.2.1) _)) (fun b h=>.inl (.inl h))
        ·refine ⟨hB7.os.trans (hft.os.trans hlo.os),hB7.tape.trans (hft.tape.trans hlo.tape),hB7.output.trans (hft.output.trans hlo.output),Nat.le_trans hlo.size (Nat.le_trans hft.size hB7.size),fun b hb hd=>(hoth b (by omega) (by omega)).trans ((hft.block b (Nat.lt_of_lt_of_le hb hlo.size) hd).trans (hlo.block b hb)),fun b hd=>?_⟩
         rcases hft.own b hd with c | c
         ·exact .inl c
         ·exact .inr (Nat.le_trans hlo.size c)
        ·have hO : Ow inE RtI 1 3 (fun b=>w.heap.size≤b∧b < wr.heap.size∧b ≠ xb∧b ≠ rb) wr w.heap.size (.slice Ap' q cp') fp:=⟨HOJ5.out.own,fun g e=>⟨(World.ownsRow.lt HOJ5.out.own g e).1,(World.ownsRow.lt HOJ5.out.own g e).2,fun c=>HOJ5.out.ne.2.2 (c ▸ e),fun c=>HOJ5.out.ne.2.1 (c ▸ e)⟩,fun _ _=>trivial⟩
         obtain ⟨A9,c9,e9,hl⟩:=hO.list stays_i
         injection e9 with e1 e2 e3
         subst e1 e3
         exact Lg.keep stays_i ⟨Nat.le_trans hft.size hB7.size,fun b hb hl=>⟨⟨.inr hb.1,HDY.out b hb.1 hb.2.1⟩,(hoth b hb.2.2.1 hb.2.2.2).trans (hft.block b hl (HDX.out b hb.1))⟩⟩ hl
        all_goals have hkw : Keep K0 (fun b=>(K0 b∨w.heap.size≤b)∧¬ Dm w0 vp' vl' vr' b) w w7:=⟨Nat.le_trans hlo.size (Nat.le_trans hft.size hB7.size),fun b hb hl=>by
         have hb0:=HK0.out b hb
         exact ⟨⟨.inl hb,fun c=>by have:=(hmb.dm c).1;omega⟩,(hoth b (by omega) (by omega)).trans ((hft.block b (Nat.lt_of_lt_of_le hl hlo.size) (fun c=>by have:=(HM0.out.dm c).1;omega)).trans (hlo.block b hl))⟩⟩
        ·exact Lg.keep stays_t hkw HR.out.1
        ·exact Lg.keep stays_t hkw HR.out.2.1
        ·obtain ⟨A9,c9,e9,hl⟩:=how.list stays_w
         injection e9 with e1 e2 e3
         subst e1 e3
         exact Lg.keep stays_w ⟨hB7.size,fun b hb hl=>⟨⟨.inr (Nat.le_trans hlo.size hb.1),hb.2⟩,hoth b (by omega) (by omega)⟩⟩ hl)
       clear hmo hx5 hr5 hx6 hr6 hp7 hnw
       go_wp2_with ((with_reducible refine ret_th 4 rb (.int .i64 (place tx ti)) (.int .i64 (txt tx tt)) (.int .i64 pa0) (.int .i64 fz) (.bool room) (.slice Ap' q cp') (.slice Aw wl.length cw) (.slice Aa al.length ca) (.slice A' nw c') ?_ ?_ ?_ ?_ ?_);exact HX.out;rfl;rfl;rfl;exact HFIN.out)
end Go.Proofs.YteibcfpepdbflaaGreat.BkH
