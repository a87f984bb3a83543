/- clewref16.object: what is wrong with an object, without a panic; nothing: what that says. Conditions: sizes within the reach. -/
import Derived.Test.YteibcfpepdbflaaGreatCkG
open Go.Lib renaming hid → hI
namespace Go.Proofs.YteibcfpepdbflaaGreat.CkH
open Go Go.RowKit BindP BindD BindO BindW BindG BindX BindB BindT BindU TxA RtS RtX RtY RtD CkP CkA CkB CkC CkE CkF CkG
open Byt (str)
def ObC (t : List Nm) (F : List Nat) (o : Ob) : Prop:=(o.inn=[]∨IsN t 4 o.inn)∧(∀ f ∈ o.fl.l,IsN t 1 f)∧(∀ p ∈ o.pr.l,IsN t 2 p.nm)∧∀ x ∈ o.xt.l,whenC t F x.wh.l
set_option maxRecDepth 100000 in
set_option maxHeartbeats 32000000 in
theorem object_c (t : List Nm) (A1 oA nA : Option Addr) (n1 c1 oc nc : Nat) (ob : List Ob) (fn : List BindO.Fn) (a0 a1 a2 a3 a4 a5 a6 a7 a9 a10 a12 : Value) (i : Nat) (w : World) (hcw : Cw w A1 n1 t oA oc ob nA nc fn) (hi : i < ob.length) :
  Calls Tryz.prog 60 #[.slice A1 n1 c1,.agg #[a0,a1,a2,a3,a4,a5,a6,a7,.slice oA ob.length oc,a9,a10,.slice nA fn.length nc,a12],.int .i64 (i : Int)] w (WrV (ObC t (pars fn) ob[i]) w):=by
 have hzo:=hcw.ol
 have HC:=hI hcw
 obtain ⟨V1,hV1⟩ : ∃ W,w.alloc (.cells #[a0,a1,a2,a3,a4,a5,a6,a7,.slice oA ob.length oc,a9,a10,.slice nA fn.length nc,a12] 29)=W:=⟨_,rfl⟩
 obtain ⟨V2,hV2⟩ : ∃ W,V1.alloc (.cells #[.int .i64 0,.string ⟨#[]⟩] 125)=W:=⟨_,rfl⟩
 obtain ⟨m1,s1,b1⟩:=made hV1
 obtain ⟨m2,s2,b2⟩:=made hV2
 have hb2:=b1.trans (b2.mono b1.size)
 obtain ⟨b,o,he,hbz,hc⟩:=Lg.at_ Ob.len (hcw.below hb2).o hi
 subst he
 have hmem : ob[i] ∈ ob:=List.getElem_mem hi
 have hob:=hcw.o.2 _ hmem
 have hos:=Nat.le_trans (sum_mem (m:=Ob.m) ob _ hmem) hcw.os
 obtain ⟨y,hy⟩ : ∃ y,ob[i]=y:=⟨_,rfl⟩
 rw [hy] at hc hob hos ⊢
 obtain ⟨CX,hCX⟩ : ∃ p,p=ObC t (pars fn) y:=⟨_,rfl⟩
 have HCX:=hI hCX
 rw [← hCX]
 clear hmem hy hCX
 obtain ⟨onm,oti,oin,otx,orm,⟨uA,uc,ul⟩,⟨jA,jc,jl⟩,⟨fA,fc,fl⟩,⟨pA,pc,pl⟩,⟨xA,xc,xl⟩⟩:=y
 have HZ:=hI (show (ul.map fun x=>x.length + 1).sum≤1048576∧(jl.map fun x=>x.length + 1).sum≤1048576∧(fl.map fun x=>x.length + 1).sum≤1048576∧(pl.map Pr.m).sum≤1048576∧(xl.map Xt.m).sum≤1048576 by
  unfold Ob.m at hos
  simp only [] at hos
  omega)
 have zf : fl.length≤1048576:=Nat.le_trans (sum_len (m:=fun x : S=>x.length + 1) (fun _=>by omega) fl) HZ.out.2.2.1
 have zp : pl.length≤1048576:=Nat.le_trans (sum_len (m:=Pr.m) (fun _=>by unfold Pr.m;omega) pl) HZ.out.2.2.2.1
 obtain ⟨rw_,rj,rf_,rp,rx⟩:=hob
 have HRW:=hI (show Lg svE Rt top w uA uc ul∧Lg svE Rt top w jA jc jl∧Lg svE Rt top w fA fc fl∧Lg Pr.e Pr.R top w pA pc pl∧Lg Xt.e Xt.R top w xA xc xl from ⟨rw_,rj,rf_,rp,rx⟩)
 have c0 : V2.cell? ⟨b,o + i * 10,none⟩=some (.string (str onm)):=hc 0 _ rfl
 have c1_ : V2.cell? ⟨b,o + i * 10 + 1,none⟩=some (.string (str oti)):=hc 1 _ rfl
 have c2 : V2.cell? ⟨b,o + i * 10 + 2,none⟩=some (.string (str oin)):=hc 2 _ rfl
 have c3 : V2.cell? ⟨b,o + i * 10 + 3,none⟩=some (.string (str otx)):=hc 3 _ rfl
 have c4 : V2.cell? ⟨b,o + i * 10 + 4,none⟩=some (.bool orm):=hc 4 _ rfl
 have c5 : V2.cell? ⟨b,o + i * 10 + 5,none⟩=some (.slice uA ul.length uc):=hc 5 _ rfl
 have c6 : V2.cell? ⟨b,o + i * 10 + 6,none⟩=some (.slice jA jl.length jc):=hc 6 _ rfl
 have c7 : V2.cell? ⟨b,o + i * 10 + 7,none⟩=some (.slice fA fl.length fc):=hc 7 _ rfl
 have c8 : V2.cell? ⟨b,o + i * 10 + 8,none⟩=some (.slice pA pl.length pc):=hc 8 _ rfl
 have c9 : V2.cell? ⟨b,o + i * 10 + 9,none⟩=some (.slice xA xl.length xc):=hc 9 _ rfl
 have j0 : (0 : Int)≤(i : Int):=by omega
 have j1 : (i : Int) < (ob.length : Int):=by omega
 clear hc rw_ rj rf_ rp rx hos
 obtain ⟨V3,hV3⟩ : ∃ W,V2.alloc (.cells #[.string (str onm),.string (str oti),.string (str oin),.string (str otx),.bool orm,.slice uA ul.length uc,.slice jA jl.length jc,.slice fA fl.length fc,.slice pA pl.length pc,.slice xA xl.length xc] 63)=W:=⟨_,rfl⟩
 obtain ⟨m3,s3,b3⟩:=made hV3
 have HM1:=hI ((b3.block w.heap.size (by omega)).trans ((b2.block w.heap.size (by omega)).trans m1))
 have HM2:=hI ((b3.block V1.heap.size (by omega)).trans m2)
 have HM3:=hI m3
 have HBV:=hI (b1.trans ((b2.trans (b3.mono b2.size)).mono b1.size))
 have HB3:=hI b3
 have HSZ:=hI (show V1.heap.size=w.heap.size + 1∧V2.heap.size=w.heap.size + 2∧V3.heap.size=w.heap.size + 3 by omega)
 obtain ⟨x0,x1,x2,x3,x4,x5,x6,x7,x8,x9,x10,x11,x12,xf⟩:=cellz13 ((b2.block w.heap.size (by omega)).trans m1)
 clear m1 m2 m3 s1 s2 s3 b1 b2 b3 hb2 hbz hcw
 obtain ⟨p0,hp0⟩ : ∃ p,w.heap.size=p:=⟨_,rfl⟩
 obtain ⟨p1,hp1⟩ : ∃ p,V1.heap.size=p:=⟨_,rfl⟩
 obtain ⟨p2,hp2⟩ : ∃ p,V2.heap.size=p:=⟨_,rfl⟩
 rw [hp0] at HM1 x0 x1 x2 x3 x4 x5 x6 x7 x8 x9 x10 x11 x12 xf
 rw [hp1] at HM2
 rw [hp2] at HM3
 rw [hp0,hp1,hp2] at HSZ
 have HP0:=hI hp0
 go_enter Tryz.func60,Tryz.ntmps60
 go_upto_region 3 with (go_at_call 100;refine (fine_r _).mono ?_;rintro e w4 ⟨rfl,hb⟩;have HB4:=hI hb;clear hb)
 clear c0 c1_ c2 c3 c4 c5 c6 c7 c8 c9 x0 x1 x2 x3 x4 x5 x6 x7 x8 x9 x10 x11 x12 xf
 obtain ⟨V,hV⟩ : ∃ V,w4.alloc (.cells #[.int .i64 0,.string ⟨#[]⟩] 125)=V:=⟨_,rfl⟩
 obtain ⟨mV,sV,bV⟩:=made hV
 rw [hV]
 obtain ⟨g,hg⟩ : ∃ g,w4.heap.size=g:=⟨_,rfl⟩
 rw [hg] at mV ⊢
 have HG:=hI (show p0 < g∧p1 < g∧p2 < g∧w.heap.size≤g∧p0=w.heap.size by have h1:=HB4.out.size;have h2:=HSZ.out;have h3:=HP0.out;have h4:=HBV.out.size;omega)
 have HF0:=hI (show Fr w V g (.int .i64 0) (.string ⟨#[]⟩) 125 V from ⟨HBV.out.trans ((HB4.out.trans (bV.mono HB4.out.size)).mono HBV.out.size),⟨Nat.le_refl _,fun _ _ _=>rfl⟩,mV⟩)
 have hV3V:=HB4.out.trans (bV.mono HB4.out.size)
 have HVV:=hI hV3V
 have HO0:=hI (show ∀ U,Kp V g U→U.heap[p0]?=some (.cells #[a0,a1,a2,a3,a4,a5,a6,a7,.slice (some ⟨b,o,none⟩) ob.length oc,a9,a10,.slice nA fn.length nc,a12] 29 (0,0)) from fun U h=>h.obj (by have:=HG.out;omega) ((hV3V.block _ (Array.getElem?_eq_some_iff.1 HM1.out).1).trans HM1.out))
 have HO1:=hI (show ∀ U,Kp V g U→U.heap[p1]?=some (.cells #[.int .i64 0,.string ⟨#[]⟩] 125 (0,0)) from fun U h=>h.obj (by have:=HG.out;omega) ((hV3V.block _ (Array.getElem?_eq_some_iff.1 HM2.out).1).trans HM2.out))
 have HO2:=hI (show ∀ U,Kp V g U→U.heap[p2]?=some (.cells #[.string (str onm),.string (str oti),.string (str oin),.string (str otx),.bool orm,.slice uA ul.length uc,.slice jA jl.length jc,.slice fA fl.length fc,.slice pA pl.length pc,.slice xA xl.length xc] 63 (0,0)) from fun U h=>h.obj (by have:=HG.out;omega) ((hV3V.block _ (Array.getElem?_eq_some_iff.1 HM3.out).1).trans HM3.out))
 have HPL:=hI (show w.heap.size≤p1 by have:=HSZ.out;have:=HG.out;omega)
 clear mV sV bV hg hV3V hV1 hV2 hV3 hp0 hp1 hp2 hV HM1 HM2 HM3 HB4
 obtain ⟨y0,y1,y2,y3,y4,y5,y6,y7,y8,y9,yf⟩:=cellz10 (HO2.out V HF0.out.kp)
 obtain ⟨f0,f1,ff⟩:=cells2 HF0.out.box
 go_upto_if 19 with fail
 go_cut [8] (fun v wx=>v=.pointer (some ⟨g,0,none⟩)∧∃ (er : Int) (s5 : S),Fr w V g (.int .i64 er) (.string (str s5)) 125 wx∧Hid (er=0→(oin=[]∨IsN t 4 oin)))
 case first=>
  by_cases h0 : oin=[]
  ·have qe:=emp_e (s:=oin) (b:=true) (by simpa using h0)
   have H0:=hI h0
   clear h0
   rw [qe,Bool.not_true]
   clear qe
   go_wp2_with fail
   go_meet
   exact ⟨rfl,0,[],HF0.out,hI (fun _=>.inl H0.out)⟩
  ·have qe:=emp_e (s:=oin) (b:=false) (by simpa using h0)
   clear h0
   rw [qe,Bool.not_false]
   clear qe
   go_wp2_with (go_at_call 99;(refine (of_c t 4 oin V (HC.out.below HF0.out.low).cv.t HC.out.cv.n1).mono ?_;rintro e w5 ⟨er6,s6,rfl,hp,hb⟩;have HP5:=hI hp;have HF5:=hI (HF0.out.below hb);clear hp hb y0 y1 y2 y3 y4 y5 y6 y7 y8 y9 yf f0 f1 ff;obtain ⟨f0,f1,ff⟩:=cells2 HF5.out.box))
   go_meet
   exact ⟨rfl,er6,s6,HF5.out.set HG.out.2.2.2.1 _ _,hI (fun h=>.inr (HP5.out h))⟩
 case rest=>
  clear y0 y1 y2 y3 y4 y5 y6 y7 y8 y9 yf f0 f1 ff
  skip
  obtain ⟨rfl,er,s5,hf,HE⟩:=hcut
  have HF:=hI hf
  clear hf
  obtain ⟨wd,hwd⟩ : ∃ W,W=wc:=⟨_,rfl⟩
  rw [← hwd] at HF ⊢
  clear hwd
  obtain ⟨y0,y1,y2,y3,y4,y5,y6,y7,y8,y9,yf⟩:=cellz10 (HO2.out wd HF.out.kp)
  obtain ⟨f0,f1,ff⟩:=cells2 HF.out.box
  obtain ⟨x0,x1,x2,x3,x4,x5,x6,x7,x8,x9,x10,x11,x12,xf⟩:=cellz13 (HO0.out wd HF.out.kp)
  go_upto_region 5 with fail
  go_cut [8,32] (fun v v2 wx=>∃ b5 : Bool,v2=.bool b5∧v=.pointer (some ⟨g,0,none⟩)∧∃ (er : Int) (s5 : S),Fr w V g (.int .i64 er) (.string (str s5)) 125 wx∧Hid (er=0→(oin=[]∨IsN t 4 oin)))
  case first=>
   by_cases he0 : er=0
   ·subst he0
    go_wp2_with (go_at_call 101;refine (turned_c t A1 (some ⟨b,o,none⟩) nA n1 c1 oc nc ob fn a0 a1 a2 a3 a4 a5 a6 a7 a9 a10 a12 i wd (HC.out.below HF.out.low) hi).mono ?_;rintro e w5 ⟨b5,rfl,_,hb⟩;have HF5:=hI (HF.out.below hb);clear hb)
    go_meet
    exact ⟨b5,rfl,rfl,0,s5,HF5.out,hI (fun _=>HE.out (by trivial))⟩
   ·have qe : (er == 0)=false:=beq_eq_false_iff_ne.2 he0
    clear he0
    go_wp2_with fail
    go_meet
    exact ⟨false,rfl,rfl,er,s5,HF.out,HE⟩
  case rest=>
   clear y0 y1 y2 y3 y4 y5 y6 y7 y8 y9 yf f0 f1 ff x0 x1 x2 x3 x4 x5 x6 x7 x8 x9 x10 x11 x12 xf
   obtain ⟨b5,rfl,hcut⟩:=hcut
   obtain ⟨rfl,er,s5,hf,HE⟩:=hcut
   have HF:=hI hf
   clear hf
   obtain ⟨wd,hwd⟩ : ∃ W,W=wc:=⟨_,rfl⟩
   rw [← hwd] at HF ⊢
   clear hwd
   obtain ⟨y0,y1,y2,y3,y4,y5,y6,y7,y8,y9,yf⟩:=cellz10 (HO2.out wd HF.out.kp)
   obtain ⟨f0,f1,ff⟩:=cells2 HF.out.box
   go_upto_if 32 with fail
   go_cut [8] (fun v wx=>v=.pointer (some ⟨g,0,none⟩)∧∃ (er : Int) (s5 : S),Fr w V g (.int .i64 er) (.string (str s5)) 125 wx∧Hid (er=0→(oin=[]∨IsN t 4 oin)))
   case first=>
    cases b5
    ·go_wp2_with fail
     go_meet
     exact ⟨rfl,er,s5,HF.out,HE⟩
    ·go_wp2_with fail
     go_meet
     exact ⟨rfl,18,oin,HF.out.set HG.out.2.2.2.1 _ _,hI (fun h=>absurd h (by decide))⟩
   case rest=>
    clear y0 y1 y2 y3 y4 y5 y6 y7 y8 y9 yf f0 f1 ff
    obtain ⟨rfl,er,s5,hf,HE⟩:=hcut
    have HF:=hI hf
    clear hf
    obtain ⟨wd,hwd⟩ : ∃ W,W=wc:=⟨_,rfl⟩
    rw [← hwd] at HF ⊢
    clear hwd
    obtain ⟨y0,y1,y2,y3,y4,y5,y6,y7,y8,y9,yf⟩:=cellz10 (HO2.out wd HF.out.kp)
    obtain ⟨f0,f1,ff⟩:=cells2 HF.out.box
    go_upto_if 38 with fail
    go_cut [8] (fun v wx=>v=.pointer (some ⟨g,0,none⟩)∧∃ (er : Int) (s5 : S),Fr w V g (.int .i64 er) (.string (str s5)) 125 wx∧Hid (er=0→(oin=[]∨IsN t 4 oin)))
    case first=>
     by_cases he0 : er=0
     ·subst he0
      go_wp2_with (go_at_call 102;(refine (words_c ul uA uc wd (Lg.keep stays_t (Keep.below HF.out.low) HRW.out.1) HZ.out.1).mono ?_;rintro e w5 ⟨er6,s6,rfl,hp,hb⟩;have HP5:=hI hp;have HF5:=hI (HF.out.below hb);clear hp hb y0 y1 y2 y3 y4 y5 y6 y7 y8 y9 yf f0 f1 ff;obtain ⟨f0,f1,ff⟩:=cells2 HF5.out.box))
      go_meet
      exact ⟨rfl,er6,s6,HF5.out.set HG.out.2.2.2.1 _ _,hI (fun _=>HE.out (by trivial))⟩
     ·have qe : (er == 0)=false:=beq_eq_false_iff_ne.2 he0
      clear he0
      go_wp2_with fail
      go_meet
      exact ⟨rfl,er,s5,HF.out,HE⟩
    case rest=>
     clear y0 y1 y2 y3 y4 y5 y6 y7 y8 y9 yf f0 f1 ff
     obtain ⟨rfl,er,s5,hf,HE⟩:=hcut
     have HF:=hI hf
     clear hf
     obtain ⟨wd,hwd⟩ : ∃ W,W=wc:=⟨_,rfl⟩
     rw [← hwd] at HF ⊢
     clear hwd
     obtain ⟨y0,y1,y2,y3,y4,y5,y6,y7,y8,y9,yf⟩:=cellz10 (HO2.out wd HF.out.kp)
     obtain ⟨f0,f1,ff⟩:=cells2 HF.out.box
     go_upto_if 44 with fail
     go_cut [8] (fun v wx=>v=.pointer (some ⟨g,0,none⟩)∧∃ (er : Int) (s5 : S),Fr w V g (.int .i64 er) (.string (str s5)) 125 wx∧Hid (er=0→(oin=[]∨IsN t 4 oin)))
     case first=>
      by_cases he0 : er=0
      ·subst he0
       go_wp2_with (go_at_call 102;(refine (words_c jl jA jc wd (Lg.keep stays_t (Keep.below HF.out.low) HRW.out.2.1) HZ.out.2.1).mono ?_;rintro e w5 ⟨er6,s6,rfl,hp,hb⟩;have HP5:=hI hp;have HF5:=hI (HF.out.below hb);clear hp hb y0 y1 y2 y3 y4 y5 y6 y7 y8 y9 yf f0 f1 ff;obtain ⟨f0,f1,ff⟩:=cells2 HF5.out.box))
       go_meet
       exact ⟨rfl,er6,s6,HF5.out.set HG.out.2.2.2.1 _ _,hI (fun _=>HE.out (by trivial))⟩
      ·have qe : (er == 0)=false:=beq_eq_false_iff_ne.2 he0
       clear he0
       go_wp2_with fail
       go_meet
       exact ⟨rfl,er,s5,HF.out,HE⟩
     case rest=>
      clear y0 y1 y2 y3 y4 y5 y6 y7 y8 y9 yf f0 f1 ff
      obtain ⟨rfl,er,s5,hf,HE⟩:=hcut
      have HF:=hI hf
      clear hf
      obtain ⟨wd,hwd⟩ : ∃ W,W=wc:=⟨_,rfl⟩
      rw [← hwd] at HF ⊢
      clear hwd
      obtain ⟨y0,y1,y2,y3,y4,y5,y6,y7,y8,y9,yf⟩:=cellz10 (HO2.out wd HF.out.kp)
      obtain ⟨f0,f1,ff⟩:=cells2 HF.out.box
      go_upto_block 0 with fail
      go_cut [8] (fun v wx=>v=.pointer (some ⟨g,0,none⟩)∧∃ (er : Int) (s5 : S),Fr w V g (.int .i64 er) (.string (str s5)) 125 wx∧Hid (er=0→(oin=[]∨IsN t 4 oin)∧(∀ f ∈ fl,IsN t 1 f)))
      case first=>
       go_wp2_with fail
       go_loopw [9] (fun iv wr=>∃ (j : Nat) (er : Int) (s5 : S),j≤fl.length∧iv=.int .i64 (j : Int)∧Fr w V g (.int .i64 er) (.string (str s5)) 125 wr∧Hid (er=0→(oin=[]∨IsN t 4 oin)∧(∀ f ∈ (fl.take j),IsN t 1 f))) (fun iv _=>fl.length - (intOf iv).toNat)
       case atStart=>exact ⟨0,er,s5,Nat.zero_le _,rfl,HF.out,hI fun h=>⟨HE.out h,by simp⟩⟩
       case round=>
        clear y0 y1 y2 y3 y4 y5 y6 y7 y8 y9 yf f0 f1 ff
        obtain ⟨j,er,s5,hj,rfl,hf,HE⟩:=hrel
        have HF:=hI hf
        clear hf
        obtain ⟨y0,y1,y2,y3,y4,y5,y6,y7,y8,y9,yf⟩:=cellz10 (HO2.out wr HF.out.kp)
        obtain ⟨f0,f1,ff⟩:=cells2 HF.out.box
        have k0 : (0 : Int)≤(j : Int):=by omega
        by_cases hlt : j < fl.length
        ·have k1 : (j : Int) < (fl.length : Int):=by omega
         by_cases he0 : er=0
         ·subst he0
          obtain ⟨b2,o2,he,_,hc⟩:=Lg.one (fun _=>rfl) (Lg.keep stays_t (Keep.below HF.out.low) HRW.out.2.2.1) hlt
          subst he
          obtain ⟨z,hy⟩ : ∃ y,fl[j]=y:=⟨_,rfl⟩
          rw [hy] at hc
          have HTK:=hI (show fl.take (j + 1)=fl.take j ++ [z] by rw [List.take_succ_eq_append_getElem hlt,hy])
          have d0 : wr.cell? ⟨b2,o2 + j,none⟩=some (.string (str z)):=hc _ rfl
          clear hc hy
          go_wp2_with (go_at_call 99;(refine (of_c t 1 z wr (HC.out.below HF.out.low).cv.t HC.out.cv.n1).mono ?_;rintro e w5 ⟨er6,s6,rfl,hp,hb⟩;have HP5:=hI hp;have HF5:=hI (HF.out.below hb);clear hp hb y0 y1 y2 y3 y4 y5 y6 y7 y8 y9 yf f0 f1 ff;obtain ⟨f0,f1,ff⟩:=cells2 HF5.out.box))
          go_roundw
          case rel=>exact ⟨j + 1,er6,s6,by omega,by go_num,HF5.out.set HG.out.2.2.2.1 _ _,hI (fun h=>⟨(HE.out (by trivial)).1,by rw [HTK.out];intro x hx;rcases List.mem_append.1 hx with hx | hx;exact (HE.out (by trivial)).2 x hx;rw [List.mem_singleton] at hx;subst hx;exact HP5.out h⟩)⟩
          case measure=>simp [intOf];omega
         ·have qe : (er == 0)=false:=beq_eq_false_iff_ne.2 he0
          have HN:=hI he0
          clear he0
          go_wp2_with fail
          go_meet
          exact ⟨rfl,er,s5,HF.out,hI (fun h=>absurd h HN.out)⟩
        ·obtain rfl : j=fl.length:=by omega
         have HTK:=hI (show fl.take fl.length=fl from List.take_length ..)
         go_wp2_with fail
         go_meet
         exact ⟨rfl,er,s5,HF.out,hI (fun h=>by have h2:=HE.out h;rw [HTK.out] at h2;exact h2)⟩
      case rest=>
       clear y0 y1 y2 y3 y4 y5 y6 y7 y8 y9 yf f0 f1 ff
       obtain ⟨rfl,er,s5,hf,HE⟩:=hcut
       have HF:=hI hf
       clear hf
       obtain ⟨wd,hwd⟩ : ∃ W,W=wc:=⟨_,rfl⟩
       rw [← hwd] at HF ⊢
       clear hwd
       obtain ⟨y0,y1,y2,y3,y4,y5,y6,y7,y8,y9,yf⟩:=cellz10 (HO2.out wd HF.out.kp)
       obtain ⟨f0,f1,ff⟩:=cells2 HF.out.box
       go_upto_block 2 with fail
       go_cut [8] (fun v wx=>v=.pointer (some ⟨g,0,none⟩)∧∃ (er : Int) (s5 : S),Fr w V g (.int .i64 er) (.string (str s5)) 125 wx∧Hid (er=0→((oin=[]∨IsN t 4 oin)∧(∀ f ∈ fl,IsN t 1 f))∧(∀ f ∈ pl,IsN t 2 f.nm)))
       case first=>
        go_wp2_with fail
        go_loopw [10] (fun iv wr=>∃ (j : Nat) (er : Int) (s5 : S),j≤pl.length∧iv=.int .i64 (j : Int)∧Fr w V g (.int .i64 er) (.string (str s5)) 125 wr∧Hid (er=0→((oin=[]∨IsN t 4 oin)∧(∀ f ∈ fl,IsN t 1 f))∧(∀ f ∈ (pl.take j),IsN t 2 f.nm))) (fun iv _=>pl.length - (intOf iv).toNat)
        case atStart=>exact ⟨0,er,s5,Nat.zero_le _,rfl,HF.out,hI fun h=>⟨HE.out h,by simp⟩⟩
        case round=>
         clear y0 y1 y2 y3 y4 y5 y6 y7 y8 y9 yf f0 f1 ff
         obtain ⟨j,er,s5,hj,rfl,hf,HE⟩:=hrel
         have HF:=hI hf
         clear hf
         obtain ⟨y0,y1,y2,y3,y4,y5,y6,y7,y8,y9,yf⟩:=cellz10 (HO2.out wr HF.out.kp)
         obtain ⟨f0,f1,ff⟩:=cells2 HF.out.box
         have k0 : (0 : Int)≤(j : Int):=by omega
         by_cases hlt : j < pl.length
         ·have k1 : (j : Int) < (pl.length : Int):=by omega
          by_cases he0 : er=0
          ·subst he0
           obtain ⟨b2,o2,he,_,hc⟩:=Lg.at_ Pr.len (Lg.keep Pr.stays (Keep.below HF.out.low) HRW.out.2.2.2.1) hlt
           subst he
           obtain ⟨z,hy⟩ : ∃ y,pl[j]=y:=⟨_,rfl⟩
           rw [hy] at hc
           have HTK:=hI (show pl.take (j + 1)=pl.take j ++ [z] by rw [List.take_succ_eq_append_getElem hlt,hy])
           have d0 : wr.cell? ⟨b2,o2 + j * 2,none⟩=some (.string (str z.nm)):=hc 0 _ rfl
           clear hc hy
           go_wp2_with (go_at_call 99;(refine (of_c t 2 z.nm wr (HC.out.below HF.out.low).cv.t HC.out.cv.n1).mono ?_;rintro e w5 ⟨er6,s6,rfl,hp,hb⟩;have HP5:=hI hp;have HF5:=hI (HF.out.below hb);clear hp hb y0 y1 y2 y3 y4 y5 y6 y7 y8 y9 yf f0 f1 ff;obtain ⟨f0,f1,ff⟩:=cells2 HF5.out.box))
           go_roundw
           case rel=>exact ⟨j + 1,er6,s6,by omega,by go_num,HF5.out.set HG.out.2.2.2.1 _ _,hI (fun h=>⟨(HE.out (by trivial)).1,by rw [HTK.out];intro x hx;rcases List.mem_append.1 hx with hx | hx;exact (HE.out (by trivial)).2 x hx;rw [List.mem_singleton] at hx;subst hx;exact HP5.out h⟩)⟩
           case measure=>simp [intOf];omega
          ·have qe : (er == 0)=false:=beq_eq_false_iff_ne.2 he0
           have HN:=hI he0
           clear he0
           go_wp2_with fail
           go_meet
           exact ⟨rfl,er,s5,HF.out,hI (fun h=>absurd h HN.out)⟩
         ·obtain rfl : j=pl.length:=by omega
          have HTK:=hI (show pl.take pl.length=pl from List.take_length ..)
          go_wp2_with fail
          go_meet
          exact ⟨rfl,er,s5,HF.out,hI (fun h=>by have h2:=HE.out h;rw [HTK.out] at h2;exact h2)⟩
       case rest=>
        clear y0 y1 y2 y3 y4 y5 y6 y7 y8 y9 yf f0 f1 ff
        obtain ⟨rfl,er,s5,hf,HE⟩:=hcut
        have HF:=hI hf
        clear hf
        obtain ⟨wd,hwd⟩ : ∃ W,W=wc:=⟨_,rfl⟩
        rw [← hwd] at HF ⊢
        clear hwd
        obtain ⟨y0,y1,y2,y3,y4,y5,y6,y7,y8,y9,yf⟩:=cellz10 (HO2.out wd HF.out.kp)
        obtain ⟨f0,f1,ff⟩:=cells2 HF.out.box
        obtain ⟨x0,x1,x2,x3,x4,x5,x6,x7,x8,x9,x10,x11,x12,xf⟩:=cellz13 (HO0.out wd HF.out.kp)
        by_cases he0 : er=0
        ·subst he0
         go_upto_region 21 with (go_at_call 103;refine (exits_c t A1 (some ⟨b,o,none⟩) nA n1 c1 oc nc ob fn a0 a1 a2 a3 a4 a5 a6 a7 a9 a10 a12 xl xA xc wd (HC.out.below HF.out.low) (Lg.keep Xt.stays (Keep.below HF.out.low) HRW.out.2.2.2.2) HZ.out.2.2.2.2).mono ?_;rintro e w5 ⟨er6,s6,rfl,hp,hb⟩;have HP5:=hI hp;have HF5:=hI (HF.out.below hb);clear hp hb y0 y1 y2 y3 y4 y5 y6 y7 y8 y9 yf f0 f1 ff x0 x1 x2 x3 x4 x5 x6 x7 x8 x9 x10 x11 x12 xf;obtain ⟨f0,f1,ff⟩:=cells2 HF5.out.box)
         have HF6:=hI (HF5.out.set HG.out.2.2.2.1 (.int .i64 er6) (.string (str s6)))
         obtain ⟨w6,hw6⟩ : ∃ W6,(w5.setCell ⟨g,0,none⟩ (.int .i64 er6)).setCell ⟨g,1,none⟩ (.string (str s6))=W6:=⟨_,rfl⟩
         rw [hw6] at HF6 ⊢
         clear f0 f1 ff hw6 HF5
         obtain ⟨f0,f1,ff⟩:=cells2 HF6.out.box
         obtain ⟨r0,r1,rf⟩:=cells2 (HO1.out w6 HF6.out.kp)
         obtain ⟨X,hX⟩ : ∃ X,(w6.setCell ⟨p1,0,none⟩ (.int .i64 er6)).setCell ⟨p1,1,none⟩ (.string (str s6))=X:=⟨_,rfl⟩
         have HX:=hI (show X.heap[p1]?=some (.cells #[.int .i64 er6,.string (str s6)] 125 (0,0)) by rw [← hX];exact set2 (HO1.out w6 HF6.out.kp))
         have HXB:=hI (show Below w.heap.size w X by rw [← hX];exact set2_below (HF6.out.low) HPL.out)
         go_wp2_with ((with_reducible refine ret_w 6 p1 (.int .i64 er6) (.string (str s6)) ?_ ?_ ?_ ?_ ?_);exact HX.out;rfl;rfl;rfl;exact ⟨er6,s6,rfl,(fun h=>by rw [HCX.out];have h2:=HE.out (by trivial);exact ⟨h2.1.1,h2.1.2,h2.2,HP5.out h⟩),HXB.out⟩)
        ·have qe : (er == 0)=false:=beq_eq_false_iff_ne.2 he0
         have HN:=hI he0
         clear he0
         obtain ⟨r0,r1,rf⟩:=cells2 (HO1.out wd HF.out.kp)
         obtain ⟨X,hX⟩ : ∃ X,(wd.setCell ⟨p1,0,none⟩ (.int .i64 er)).setCell ⟨p1,1,none⟩ (.string (str s5))=X:=⟨_,rfl⟩
         have HX:=hI (show X.heap[p1]?=some (.cells #[.int .i64 er,.string (str s5)] 125 (0,0)) by rw [← hX];exact set2 (HO1.out wd HF.out.kp))
         have HXB:=hI (show Below w.heap.size w X by rw [← hX];exact set2_below (HF.out.low) HPL.out)
         go_wp2_with ((with_reducible refine ret_w 6 p1 (.int .i64 er) (.string (str s5)) ?_ ?_ ?_ ?_ ?_);exact HX.out;rfl;rfl;rfl;exact ⟨er,s5,rfl,(fun h=>absurd h HN.out),HXB.out⟩)
end Go.Proofs.YteibcfpepdbflaaGreat.CkH
