/- clewref16.expr: what is wrong with an expression, without a panic; nothing: what that says. Conditions: sizes within the reach. -/
import Derived.Test.YteibcfpepdbflaaGreatCkA
import Derived.Test.YteibcfpepdbflaaGreatTxA
import Derived.Test.YteibcfpepdbflaaGreatRtD
import Derived.Test.YteibcfpepdbflaaGreatBindR
open Go.Lib renaming hid → hI
open Go.Proofs.YteibcfpepdbflaaGreat.RgD renaming tk → tK, sA → zA, s0 → zB, s1 → zC
namespace Go.Proofs.YteibcfpepdbflaaGreat.CkB
open Go Go.RowKit BindP BindD BindO BindW BindG BindX BindB BindT BindU TxA RtS RtX RtD CkP CkA
open Byt (str)
structure Kp (V : World) (g : Nat) (U : World) : Prop where
 size : V.heap.size≤U.heap.size
 keep : ∀ b,b < V.heap.size→b ≠ g→U.heap[b]?=V.heap[b]?
theorem Kp.below {V : World} {g : Nat} {U U' : World} (h : Kp V g U) (hb : Below U.heap.size U U') : Kp V g U':=⟨Nat.le_trans h.size hb.size,fun b h1 h2=>(hb.block b (Nat.lt_of_lt_of_le h1 h.size)).trans (h.keep b h1 h2)⟩
theorem Kp.setG {V : World} {g : Nat} {U : World} (h : Kp V g U) (o : Nat) (v : Value) : Kp V g (U.setCell ⟨g,o,none⟩ v):=⟨by simpa [World.setCell] using h.size,fun b h1 h2=>by
 have:=h.keep b h1 h2
 simp [World.setCell,Array.getElem?_modify,Ne.symm h2,this]⟩
theorem Kp.cell {V : World} {g : Nat} {U : World} (h : Kp V g U) {b o : Nat} {v : Value} (h1 : b < V.heap.size) (h2 : b ≠ g) (hc : V.cell? ⟨b,o,none⟩=some v) : U.cell? ⟨b,o,none⟩=some v:=by
 unfold World.cell? at hc ⊢
 rw [h.keep b h1 h2]
 exact hc
theorem Kp.obj {V : World} {g : Nat} {U : World} (h : Kp V g U) {b : Nat} {o : Obj} (h2 : b ≠ g) (hc : V.heap[b]?=some o) : U.heap[b]?=some o:=(h.keep b (Array.getElem?_eq_some_iff.1 hc).1 h2).trans hc
structure Fr (w V : World) (g : Nat) (y0 y1 : Value) (T : TypeId) (U : World) : Prop where
 low : Below w.heap.size w U
 kp : Kp V g U
 box : U.heap[g]?=some (.cells #[y0,y1] T (0,0))
theorem Fr.below {w V : World} {g : Nat} {y0 y1 : Value} {T : TypeId} {U U' : World} (h : Fr w V g y0 y1 T U) (hb : Below U.heap.size U U') : Fr w V g y0 y1 T U':=
 ⟨h.low.trans (hb.mono h.low.size),h.kp.below hb,(hb.block g (Array.getElem?_eq_some_iff.1 h.box).1).trans h.box⟩
theorem Fr.drew {w V : World} {g : Nat} {y0 y1 : Value} {T : TypeId} {U : World} (h : Fr w V g y0 y1 T U) : Fr w V g y0 y1 T U.drew:=h.below (Below.drew (Below.refl _ _))
theorem Fr.set {w V : World} {g : Nat} {y0 y1 : Value} {T : TypeId} {U : World} (h : Fr w V g y0 y1 T U) (hg : w.heap.size≤g) (z0 z1 : Value) : Fr w V g z0 z1 T ((U.setCell ⟨g,0,none⟩ z0).setCell ⟨g,1,none⟩ z1):=
 ⟨set2_below h.low hg,(h.kp.setG 0 z0).setG 1 z1,set2 h.box⟩
theorem Fr.cell {w V : World} {g : Nat} {y0 y1 : Value} {T : TypeId} {U : World} (h : Fr w V g y0 y1 T U) {b o : Nat} {v : Value} (h1 : b < w.heap.size) (hc : w.cell? ⟨b,o,none⟩=some v) : U.cell? ⟨b,o,none⟩=some v:=(h.low.cell (p:=⟨b,o,none⟩) h1).trans hc
structure Cv (w : World) (A1 : Option Addr) (n1 : Nat) (t : List Nm) (nA : Option Addr) (nc : Nat) (fn : List BindO.Fn) : Prop where
 t : Sk.Rd nmE w A1 n1 t
 n1 : n1≤17592186043904
 f : Lg BindO.Fn.e BindO.Fn.R top w nA nc fn
 fl : fn.length≤1048576
theorem Cv.below {w w' : World} {A1 : Option Addr} {n1 : Nat} {t : List Nm} {nA : Option Addr} {nc : Nat} {fn : List BindO.Fn} (h : Cv w A1 n1 t nA nc fn) (hb : Below w.heap.size w w') : Cv w' A1 n1 t nA nc fn:=⟨h.t.below hb,h.n1,Lg.keep BindO.Fn.stays (Keep.below hb) h.f,h.fl⟩
def pars (fn : List BindO.Fn) : List Nat:=fn.map fun f=>f.ps.l.length
set_option maxRecDepth 100000 in
set_option maxHeartbeats 16000000 in
theorem expr_c (t : List Nm) (lo : List S) (A1 A3 nA : Option Addr) (n1 c1 n3 c3 nc : Nat) (fn : List BindO.Fn) (a0 a1 a2 a3 a4 a5 a6 a7 a8 a9 a10 a12 : Value) : ∀ (x : Ex) (w : World),Cv w A1 n1 t nA nc fn→Sq.Rd sv w A3 n3 lo→n3≤17592186043904→RdX top w x→nE x.p≤1048576 →
  Calls Tryz.prog 105 #[.slice A1 n1 c1,.agg #[a0,a1,a2,a3,a4,a5,a6,a7,a8,a9,a10,.slice nA fn.length nc,a12],.slice A3 n3 c3,.agg (exE x).toArray] w (WrV (ckE t (pars fn) lo x.p) w):=by
 intro x
 induction x using Ex.ind with
 | _ k o n s A c ar ih=>
  intro w hcv hlo hn3 hx hn
  have HX:=hI hx.open_
  have HIH:=hI ih
  have HCV:=hI hcv
  have HLO:=hI hlo
  have HN3:=hI hn3
  simp only [Ex.p,nE] at hn
  have har : ar.length≤nEs (exPs ar):=by
   have h1:=sum_len (m:=fun x : Ex=>nE x.p) (fun x=>nE_pos x.p) ar
   rw [← nEs_sum] at h1
   exact h1
  have zar : ar.length≤1048576:=by omega
  have zfn : fn.length≤1048576:=hcv.fl
  have HN:=hI (show nEs (exPs ar)≤1048576 by omega)
  have HP:=hI (show CkX t (pars fn) lo k s ar.length→ckEs t (pars fn) lo (exPs ar)→ckE t (pars fn) lo (Ex.mk k o n s A c ar).p from fun h1 h2=>by
   simp only [Ex.p,ckE]
   rw [exPs_map,List.length_map,← exPs_map]
   exact ⟨h1,h2⟩)
  clear hx ih hn har hcv hlo hn3
  obtain ⟨CX,hCX⟩ : ∃ p,p=CkX t (pars fn) lo k s ar.length:=⟨_,rfl⟩
  have HCX:=hI hCX
  rw [← hCX] at HP
  clear hCX
  show Calls Tryz.prog 105 #[.slice A1 n1 c1,.agg #[a0,a1,a2,a3,a4,a5,a6,a7,a8,a9,a10,.slice nA fn.length nc,a12],.slice A3 n3 c3,.agg #[.int .i64 k,.int .i64 o,.int .i64 n,.string (str s),.slice A ar.length c]] w _
  go_enter Tryz.func105,Tryz.ntmps105
  obtain ⟨V1,hV1⟩ : ∃ W,w.alloc (.cells #[a0,a1,a2,a3,a4,a5,a6,a7,a8,a9,a10,.slice nA fn.length nc,a12] 29)=W:=⟨_,rfl⟩
  obtain ⟨V2,hV2⟩ : ∃ W,V1.alloc (.cells #[.int .i64 k,.int .i64 o,.int .i64 n,.string (str s),.slice A ar.length c] 68)=W:=⟨_,rfl⟩
  obtain ⟨V3,hV3⟩ : ∃ W,V2.alloc (.cells #[.int .i64 0,.string ⟨#[]⟩] 125)=W:=⟨_,rfl⟩
  obtain ⟨m1,s1,b1⟩:=made hV1
  obtain ⟨m2,s2,b2⟩:=made hV2
  obtain ⟨m3,s3,b3⟩:=made hV3
  have HM1:=hI ((b3.block w.heap.size (by omega)).trans ((b2.block w.heap.size (by omega)).trans m1))
  have HM2:=hI ((b3.block V1.heap.size (by omega)).trans m2)
  have HM3:=hI m3
  have HBV:=hI (b1.trans ((b2.trans (b3.mono b2.size)).mono b1.size))
  have HSZ:=hI (show V1.heap.size=w.heap.size + 1∧V2.heap.size=w.heap.size + 2∧V3.heap.size=w.heap.size + 3 by omega)
  clear m1 m2 m3 s1 s2 s3 b1 b2 b3
  obtain ⟨p0,hp0⟩ : ∃ p,w.heap.size=p:=⟨_,rfl⟩
  obtain ⟨p1,hp1⟩ : ∃ p,V1.heap.size=p:=⟨_,rfl⟩
  obtain ⟨p2,hp2⟩ : ∃ p,V2.heap.size=p:=⟨_,rfl⟩
  rw [hp0] at HM1
  rw [hp1] at HM2
  rw [hp2] at HM3
  rw [hp0,hp1,hp2] at HSZ
  have HP0:=hI hp0
  go_upto_region 2 with (go_at_call 100;refine (fine_r _).mono ?_;rintro e w4 ⟨rfl,hb⟩;have HB4:=hI hb;clear hb)
  obtain ⟨V,hV⟩ : ∃ V,w4.alloc (.cells #[.int .i64 0,.string ⟨#[]⟩] 125)=V:=⟨_,rfl⟩
  obtain ⟨mV,sV,bV⟩:=made hV
  rw [hV]
  obtain ⟨g,hg⟩ : ∃ g,w4.heap.size=g:=⟨_,rfl⟩
  rw [hg] at mV ⊢
  have HG:=hI (show p0 < g∧p1 < g∧p2 < g∧w.heap.size≤g∧p0=w.heap.size by have h1:=HB4.out.size;have h2:=HSZ.out;have h3:=HP0.out;have h4:=HBV.out.size;omega)
  have HF0:=hI (show Fr w V g (.int .i64 0) (.string ⟨#[]⟩) 125 V from ⟨HBV.out.trans ((HB4.out.trans (bV.mono HB4.out.size)).mono HBV.out.size),⟨Nat.le_refl _,fun _ _ _=>rfl⟩,mV⟩)
  have hV3V:=HB4.out.trans (bV.mono HB4.out.size)
  have HO0:=hI (show ∀ U,Kp V g U→U.heap[p0]?=some (.cells #[a0,a1,a2,a3,a4,a5,a6,a7,a8,a9,a10,.slice nA fn.length nc,a12] 29 (0,0)) from fun U h=>h.obj (by have:=HG.out;omega) ((hV3V.block _ (Array.getElem?_eq_some_iff.1 HM1.out).1).trans HM1.out))
  have HO1:=hI (show ∀ U,Kp V g U→U.heap[p1]?=some (.cells #[.int .i64 k,.int .i64 o,.int .i64 n,.string (str s),.slice A ar.length c] 68 (0,0)) from fun U h=>h.obj (by have:=HG.out;omega) ((hV3V.block _ (Array.getElem?_eq_some_iff.1 HM2.out).1).trans HM2.out))
  have HO2:=hI (show ∀ U,Kp V g U→U.heap[p2]?=some (.cells #[.int .i64 0,.string ⟨#[]⟩] 125 (0,0)) from fun U h=>h.obj (by have:=HG.out;omega) ((hV3V.block _ (Array.getElem?_eq_some_iff.1 HM3.out).1).trans HM3.out))
  clear mV sV bV hg hV3V hV1 hV2 hV3 hp0 hp1 hp2 hV HM1 HM2 HM3 HB4
  obtain ⟨e0,e1,e2,e3,e4,ef⟩:=cells5 (HO1.out V HF0.out.kp)
  go_upto_block 0 with fail
  go_cut [9] (fun v wx=>v=.pointer (some ⟨g,0,none⟩)∧∃ (er : Int) (s5 : S),Fr w V g (.int .i64 er) (.string (str s5)) 125 wx∧Hid (er=0→CX))
  case first=>
   have HW:=hI HF0.out.low
   by_cases hk3 : k=3
   ·subst hk3
    go_wp2_with (go_at_call 123;refine (either_c t lo true s V (HCV.out.below HW.out).t HCV.out.n1 (HLO.out.below HW.out) HN3.out).mono ?_;rintro e w5 ⟨er,s5,rfl,hp,hb⟩;have HP5:=hI hp;have HF5:=hI (HF0.out.below hb);clear hp hb e0 e1 e2 e3 e4 ef;obtain ⟨f0,f1,ff⟩:=cells2 HF5.out.box)
    go_meet
    exact ⟨rfl,er,s5,HF5.out.set HG.out.2.2.2.1 _ _,hI (fun h=>by rw [HCX.out];exact ⟨fun _=>(HP5.out h).imp id (fun q=>⟨q.1,q.2.imp id And.right⟩),(fun h=>absurd h (by decide)),(fun h=>absurd h (by decide)),(fun h=>absurd h (by decide))⟩)⟩
   have q3 : (k == 3)=false:=beq_eq_false_iff_ne.2 hk3
   by_cases hk7 : k=7
   ·subst hk7
    go_wp2_with (go_at_call 99;refine (of_c t 1 s V (HCV.out.below HW.out).t HCV.out.n1).mono ?_;rintro e w5 ⟨er,s5,rfl,hp,hb⟩;have HP5:=hI hp;have HF5:=hI (HF0.out.below hb);clear hp hb e0 e1 e2 e3 e4 ef;obtain ⟨f0,f1,ff⟩:=cells2 HF5.out.box)
    go_meet
    exact ⟨rfl,er,s5,HF5.out.set HG.out.2.2.2.1 _ _,hI (fun h=>by rw [HCX.out];exact ⟨(fun h=>absurd h (by decide)),(fun _=>HP5.out h),(fun h=>absurd h (by decide)),(fun h=>absurd h (by decide))⟩)⟩
   have q7 : (k == 7)=false:=beq_eq_false_iff_ne.2 hk7
   by_cases hk8 : k=8
   ·subst hk8
    go_wp2_with (go_at_call 99;refine (of_c t 2 s V (HCV.out.below HW.out).t HCV.out.n1).mono ?_;rintro e w5 ⟨er,s5,rfl,hp,hb⟩;have HP5:=hI hp;have HF5:=hI (HF0.out.below hb);clear hp hb e0 e1 e2 e3 e4 ef;obtain ⟨f0,f1,ff⟩:=cells2 HF5.out.box)
    go_meet
    exact ⟨rfl,er,s5,HF5.out.set HG.out.2.2.2.1 _ _,hI (fun h=>by rw [HCX.out];exact ⟨(fun h=>absurd h (by decide)),(fun h=>absurd h (by decide)),(fun _=>HP5.out h),(fun h=>absurd h (by decide))⟩)⟩
   have q8 : (k == 8)=false:=beq_eq_false_iff_ne.2 hk8
   by_cases hk9 : k=9
   ·subst hk9
    go_upto_region 11 with (go_at_call 99;refine (of_c t 6 s V (HCV.out.below HW.out).t HCV.out.n1).mono ?_;rintro e w5 ⟨er,s5,rfl,hp,hb⟩;have HP5:=hI hp;have HF5:=hI (HF0.out.below hb);clear hp hb e0 e1 e2 e3 e4 ef;obtain ⟨f0,f1,ff⟩:=cells2 HF5.out.box)
    have HF6:=hI (HF5.out.set HG.out.2.2.2.1 (.int .i64 er) (.string (str s5)))
    obtain ⟨w6,hw6⟩ : ∃ W6,(w5.setCell ⟨g,0,none⟩ (.int .i64 er)).setCell ⟨g,1,none⟩ (.string (str s5))=W6:=⟨_,rfl⟩
    rw [hw6] at HF6 ⊢
    clear f0 f1 ff hw6 HF5
    obtain ⟨e0,e1,e2,e3,e4,ef⟩:=cells5 (HO1.out w6 HF6.out.kp)
    have HNU:=hI (is_num (t:=t) (k:=6) (s:=s))
    obtain ⟨nu,hnu⟩ : ∃ nu,ofN t 6 s=nu:=⟨_,rfl⟩
    have HOF:=hI (of_r (c:=c1) t 6 s w6 (HCV.out.below HF6.out.low).t HCV.out.n1)
    rw [hnu] at HNU HOF
    clear hnu
    obtain ⟨ee,hee⟩ : ∃ ee,errN t 6 s=ee:=⟨_,rfl⟩
    rw [hee] at HOF
    clear hee
    go_upto_region 12 with (go_at_call 77;refine HOF.out.mono ?_;rintro e w7 ⟨rfl,hb⟩;have HF7:=hI (HF6.out.below hb);clear hb e0 e1 e2 e3 e4 ef)
    obtain ⟨f0,f1,ff⟩:=cells2 HF7.out.box
    obtain ⟨e0,e1,e2,e3,e4,ef⟩:=cells5 (HO1.out w7 HF7.out.kp)
    obtain ⟨x0,x1,x2,x3,x4,x5,x6,x7,x8,x9,x10,x11,x12,xf⟩:=cellz13 (HO0.out w7 HF7.out.kp)
    by_cases he0 : er=0
    ·subst he0
     by_cases hn0 : 0≤nu
     ·have q0 : decide (nu≥0)=true:=decide_eq_true hn0
      obtain ⟨i,hi⟩ : ∃ i : Nat,nu=(i : Int):=⟨nu.toNat,by omega⟩
      subst hi
      by_cases hn1 : i < fn.length
      ·have q1 : decide ((i : Int) < (fn.length : Int))=true:=decide_eq_true (by omega)
       obtain ⟨b,o2,he,hbz,hc⟩:=Lg.at_ BindO.Fn.len (HCV.out.below HF7.out.low).f hn1
       subst he
       obtain ⟨⟨fnm,⟨pA,pc,pl⟩,⟨bA,bc,bl⟩⟩,hy⟩ : ∃ y,fn[i]=y:=⟨_,rfl⟩
       rw [hy] at hc
       have HPL:=hI (show (pars fn)[i]?=some pl.length by unfold pars;rw [List.getElem?_map,List.getElem?_eq_getElem hn1,hy];rfl)
       have c1 : w7.cell? ⟨b,o2 + i * 3 + 1,none⟩=some (.slice pA pl.length pc):=hc 1 _ rfl
       have i0 : (0 : Int)≤(i : Int):=by omega
       have i1 : (i : Int) < (fn.length : Int):=by omega
       clear hc hy hbz
       by_cases hl : pl.length=ar.length
       ·have q2 : ((pl.length : Int) != (ar.length : Int))=false:=by simp [hl]
        have HLE:=hI hl
        clear hl
        go_quiet (fail)
        go_wp2_with fail
        go_meet
        exact ⟨rfl,0,s5,HF7.out.below (Sq.belowN (Below.refl _ _) _),hI (fun _=>by rw [HCX.out];exact ⟨(fun h=>absurd h (by decide)),(fun h=>absurd h (by decide)),(fun h=>absurd h (by decide)),fun _=>⟨HP5.out (by trivial),fun i9 a hi9 ha=>(by have h1:=HNU.out (HP5.out (by trivial));have h2 : i9=i:=(by rw [hi9] at h1;omega);rw [h2,HPL.out] at ha;injection ha with ha;rw [← ha];exact HLE.out)⟩⟩)⟩
       ·have q2 : ((pl.length : Int) != (ar.length : Int))=true:=by simpa using (show ¬ ((pl.length : Int)=(ar.length : Int)) by omega)
        clear hl
        go_quiet (fail)
        go_wp2_with fail
        go_meet
        exact ⟨rfl,7,s,(HF7.out.below (Sq.belowN (Below.refl _ _) _)).set HG.out.2.2.2.1 _ _,hI (fun h=>absurd h (by decide))⟩
      ·have q1 : decide ((i : Int) < (fn.length : Int))=false:=decide_eq_false (by omega)
       have HLE:=hI hn1
       go_quiet (fail)
       go_wp2_with fail
       go_meet
       exact ⟨rfl,0,s5,HF7.out.below (Sq.belowN (Below.refl _ _) _),hI (fun _=>by rw [HCX.out];exact ⟨(fun h=>absurd h (by decide)),(fun h=>absurd h (by decide)),(fun h=>absurd h (by decide)),fun _=>⟨HP5.out (by trivial),fun i9 a hi9 ha=>(by have h1:=HNU.out (HP5.out (by trivial));rw [hi9] at h1;unfold pars at ha;rw [List.getElem?_map,List.getElem?_eq_none (by have:=HLE.out;omega)] at ha;cases ha)⟩⟩)⟩
     ·have q0 : decide (nu≥0)=false:=decide_eq_false hn0
      have HLE:=hI hn0
      go_quiet (fail)
      go_wp2_with fail
      go_meet
      exact ⟨rfl,0,s5,HF7.out.below (Sq.belowN (Below.refl _ _) _),hI (fun _=>by rw [HCX.out];exact ⟨(fun h=>absurd h (by decide)),(fun h=>absurd h (by decide)),(fun h=>absurd h (by decide)),fun _=>⟨HP5.out (by trivial),fun i9 a hi9 ha=>(by have h1:=HNU.out (HP5.out (by trivial));rw [hi9] at h1;have:=HLE.out;omega)⟩⟩)⟩
    ·have qe : (er == 0)=false:=beq_eq_false_iff_ne.2 he0
     have HE0:=hI he0
     clear he0
     go_quiet (fail)
     go_wp2_with fail
     go_meet
     exact ⟨rfl,er,s5,HF7.out.below (Sq.belowN (Below.refl _ _) _),hI (fun h=>absurd h HE0.out)⟩
   have q9 : (k == 9)=false:=beq_eq_false_iff_ne.2 hk9
   have HKN:=hI (And.intro hk3 (And.intro hk7 (And.intro hk8 hk9)))
   clear hk3 hk7 hk8 hk9
   go_wp2_with fail
   go_meet
   exact ⟨rfl,0,[],HF0.out,hI (fun _=>by rw [HCX.out];exact ⟨fun h=>absurd h HKN.out.1,fun h=>absurd h HKN.out.2.1,fun h=>absurd h HKN.out.2.2.1,fun h=>absurd h HKN.out.2.2.2⟩)⟩
  case rest=>
   obtain ⟨rfl,er,s5,hf,HE⟩:=hcut
   have HF:=hI hf
   clear hf HF0 e0 e1 e2 e3 e4 ef
   go_wp2_with fail
   go_loopw [12] (fun iv wr=>∃ (j : Nat) (er : Int) (s5 : S),j≤ar.length∧iv=.int .i64 (j : Int)∧Fr w V g (.int .i64 er) (.string (str s5)) 125 wr∧Hid (er=0→CX∧ckEs t (pars fn) lo (exPs (ar.take j)))) (fun iv _=>ar.length - (intOf iv).toNat)
   case atStart=>exact ⟨0,er,s5,Nat.zero_le _,rfl,HF.out,hI fun h=>⟨HE.out h,by simp [exPs,ckEs]⟩⟩
   case round=>
    obtain ⟨j,er,s5,hj,rfl,hf,HE⟩:=hrel
    have HF:=hI hf
    clear hf
    obtain ⟨e0,e1,e2,e3,e4,ef⟩:=cells5 (HO1.out wr HF.out.kp)
    obtain ⟨f0,f1,ff⟩:=cells2 HF.out.box
    have i0 : (0 : Int)≤(j : Int):=by omega
    by_cases hlt : j < ar.length
    ·have i1 : (j : Int) < (ar.length : Int):=by omega
     by_cases he0 : er=0
     ·subst he0
      obtain ⟨b2,o2,rfl,hb2,hc⟩:=Lg.at_ exE_len (show Lx top wr A c ar from Lg.keep stays_x (Keep.below HF.out.low) HX.out) hlt
      obtain ⟨⟨ek,ep,en,es,eA,ec,el⟩,hy⟩ : ∃ y,ar[j]=y:=⟨_,rfl⟩
      have HNY:=hI (show ckEs t (pars fn) lo (exPs (ar.take (j + 1)))↔ckEs t (pars fn) lo (exPs (ar.take j))∧ckE t (pars fn) lo (Ex.mk ek ep en es eA ec el).p by rw [ckEs_take hlt,hy])
      have hmem : ar[j] ∈ ar:=List.getElem_mem hlt
      rw [hy] at hc hmem
      have HME:=hI (And.intro hmem (show nE (Ex.mk ek ep en es eA ec el).p≤1048576 by
       have h1:=sum_mem (m:=fun x : Ex=>nE x.p) ar _ hmem
       rw [← nEs_sum] at h1
       have:=HN.out
       omega))
      obtain ⟨Sx,hSx⟩ : ∃ S : World→Prop,S=(fun U=>Kp V g U∧∀ j_ u,(exE (Ex.mk ek ep en es eA ec el))[j_]?=some u→U.cell? ⟨b2,o2 + j * 5 + j_,none⟩=some u):=⟨_,rfl⟩
      have HSk:=hI (show ∀ U,Sx U→Kp V g U from fun U h=>by rw [hSx] at h;exact h.1)
      have HSc:=hI (show ∀ U,Sx U→(U.cell? ⟨b2,o2 + j * 5,none⟩=some (.int .i64 ek)∧U.cell? ⟨b2,o2 + j * 5 + 1,none⟩=some (.int .i64 ep)∧U.cell? ⟨b2,o2 + j * 5 + 2,none⟩=some (.int .i64 en)∧U.cell? ⟨b2,o2 + j * 5 + 3,none⟩=some (.string (str es))∧U.cell? ⟨b2,o2 + j * 5 + 4,none⟩=some (.slice eA el.length ec)) from fun U h=>by rw [hSx] at h;exact ⟨h.2 0 _ rfl,h.2 1 _ rfl,h.2 2 _ rfl,h.2 3 _ rfl,h.2 4 _ rfl⟩)
      have HSB:=hI (show ∀ (y0 y1 : Value) U,Fr w V g y0 y1 125 U→(∀ b : Nat,b < wr.heap.size→b ≠ g→U.heap[b]?=wr.heap[b]?)→Sx U from fun y0 y1 U h hk=>by rw [hSx];refine ⟨h.kp,fun j_ u hu=>?_⟩;rw [← hc j_ u hu];unfold World.cell?;rw [hk b2 hb2 ?_];intro hbg;subst hbg;have h9:=hc 4 _ rfl;unfold World.cell? at h9;rw [HF.out.box] at h9;simp at h9)
      clear hc hy hmem hSx
      go_upto_region 17 with fail
      have hS0 : Sx wr.drew:=HSB.out _ _ _ (HF.out.below (Below.drew (Below.refl _ _))) (fun _ _ _=>rfl)
      refine RgD.begin_ [] Sx (by kernel_rfl) hS0 (fun hHeld=>?_)
      refine tK 0 90 (h:=?_)
      simp only [zA,zB,zC]
      refine tK 1 91 (v:=.agg #[a0,a1,a2,a3,a4,a5,a6,a7,a8,a9,a10,.slice nA fn.length nc,a12]) (hy:=by intro w0 hSw;obtain ⟨x0,x1,x2,x3,x4,x5,x6,x7,x8,x9,x10,x11,x12,xf⟩:=cellz13 (HO0.out _ (HSk.out _ hSw));first | (go_simp;done) | (go_simp;with_reducible rfl) | (go_simp;intro hc;exfalso;omega)) (h:=?_)
      simp only [zA,zB,zC]
      refine tK 2 92 (h:=?_)
      simp only [zA,zB,zC]
      refine tK 3 93 (h:=?_)
      simp only [zA,zB,zC]
      refine tK 4 94 (v:=.slice (some ⟨b2,o2,none⟩) ar.length c) (hy:=by intro w0 hSw;obtain ⟨e0,e1,e2,e3,e4,ef⟩:=cells5 (HO1.out _ (HSk.out _ hSw));first | (go_simp;done) | (go_simp;with_reducible rfl) | (go_simp;intro hc;exfalso;omega)) (h:=?_)
      simp only [zA,zB,zC]
      refine tK 5 95 (h:=?_)
      simp only [zA,zB,zC]
      refine tK 6 96 (h:=?_)
      simp only [zA,zB,zC]
      refine tK 7 97 (v:=.agg #[.int .i64 ek,.int .i64 ep,.int .i64 en,.string (str es),.slice eA el.length ec]) (hy:=by intro w0 hSw;obtain ⟨y0,y1,y2,y3,y4⟩:=HSc.out _ hSw;first | (go_simp;done) | (go_simp;with_reducible rfl) | (go_simp;intro hc;exfalso;omega)) (h:=?_)
      simp only [zA,zB,zC]
      refine RgD.one (i:=8) (by kernel_rfl) ?_
      refine RgD.call (i:=8) (t:=98) rfl rfl (by rfl) (by go_simp;exact ⟨rfl,rfl⟩) ?_
      have hF9:=HF.out.below (Below.drew (Below.refl _ wr))
      refine (HIH.out _ HME.out.1 wr.drew (HCV.out.below hF9.low) (HLO.out.below hF9.low) HN3.out (RdX.keep (Keep.below hF9.low) (HX.out.2 _ HME.out.1)) HME.out.2).mono ?_
      rintro r w9 ⟨er9,s9,rfl,hp,hb⟩
      have HP9:=hI hp
      have HF9:=hI (hF9.below hb)
      have HK9:=hI (show ∀ b : Nat,b < wr.heap.size→w9.heap[b]?=wr.heap[b]? from fun b h1=>hb.block b (by simpa using h1))
      have hS9:=HSB.out _ _ _ HF9.out (fun b h1 _=>HK9.out b h1)
      clear hb hp hF9
      refine ⟨_,rfl,hS9,?_⟩
      simp only [zA,zB,zC]
      refine RgD.one (i:=9) (by kernel_rfl) ?_
      clear f0 f1 ff e0 e1 e2 e3 e4 ef
      obtain ⟨f0,f1,ff⟩:=cells2 HF9.out.box
      have HF10:=hI (HF9.out.set HG.out.2.2.2.1 (.int .i64 er9) (.string (str s9)))
      obtain ⟨w10,hw10⟩ : ∃ W,(w9.setCell ⟨g,0,none⟩ (.int .i64 er9)).setCell ⟨g,1,none⟩ (.string (str s9))=W:=⟨_,rfl⟩
      have hS10 : Sx w10:=by
       rw [← hw10]
       refine HSB.out _ _ _ HF10.out (fun b h1 h2=>?_)
       have h3:=HK9.out b h1
       simp [World.setCell,Array.getElem?_modify,Ne.symm h2,h3]
      rw [hw10] at HF10
      refine RgD.storeS (i:=9) (w1:=w10) rfl rfl (by rfl) (by first | (go_simp;done) | (go_simp;exact hw10) | (go_simp;rw [hw10])) hS10 ?_
      refine RgD.done (by kernel_rfl) ?_ _
      clear f0 f1 ff
      go_wp2_with fail
      go_roundw
      case rel=>exact ⟨j + 1,er9,s9,by omega,by go_num,HF10.out,hI (fun h=>⟨(HE.out (by trivial)).1,HNY.out.2 ⟨(HE.out (by trivial)).2,HP9.out h⟩⟩)⟩
      case measure=>simp [intOf];omega
     ·have qe : (er == 0)=false:=beq_eq_false_iff_ne.2 he0
      have HE0:=hI he0
      clear he0
      obtain ⟨r0,r1,rf⟩:=cells2 (HO2.out wr HF.out.kp)
      go_wp2_with fail
      refine ret_c (d:=_) (cs:=#[.int .i64 er,.string (str s5)]) (t':=125) (fr:=(0,0)) (set2 (HO2.out wr HF.out.kp)) rfl rfl Tryz.underlying125 rfl (by kernel_rfl) rfl ?_
      exact ⟨er,s5,rfl,(fun h=>absurd h HE0.out),set2_below HF.out.low (by have:=HSZ.out;have:=HG.out;omega)⟩
    ·obtain rfl : j=ar.length:=by omega
     have HTK:=hI (show ar.take ar.length=ar from List.take_length ..)
     obtain ⟨r0,r1,rf⟩:=cells2 (HO2.out wr HF.out.kp)
     go_wp2_with fail
     refine ret_c (d:=_) (cs:=#[.int .i64 er,.string (str s5)]) (t':=125) (fr:=(0,0)) (set2 (HO2.out wr HF.out.kp)) rfl rfl Tryz.underlying125 rfl (by kernel_rfl) rfl ?_
     exact ⟨er,s5,rfl,(fun h=>by have h2:=HE.out h;rw [HTK.out] at h2;exact HP.out h2.1 h2.2),set2_below HF.out.low (by have:=HSZ.out;have:=HG.out;omega)⟩
end Go.Proofs.YteibcfpepdbflaaGreat.CkB
