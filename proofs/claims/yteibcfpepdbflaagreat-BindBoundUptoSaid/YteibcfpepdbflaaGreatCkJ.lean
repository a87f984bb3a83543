/- clewref16.rule: what is wrong with a rule, without a panic; nothing: what that says. Conditions: sizes within the reach. -/
import Derived.Test.YteibcfpepdbflaaGreatCkH
open Go.Lib renaming hid → hI
open Go.Proofs.YteibcfpepdbflaaGreat.RgD renaming tk → tK, sA → zA, s0 → zB, s1 → zC
namespace Go.Proofs.YteibcfpepdbflaaGreat.CkJ
open Go Go.RowKit BindP BindD BindO BindW BindG BindX BindB BindT BindU TxA RtS RtX RtY RtD CkP CkA CkB CkC CkE CkF CkG CkH
open Byt (str)
set_option maxRecDepth 100000 in
set_option maxHeartbeats 32000000 in
theorem rule_c (t : List Nm) (A1 oA nA : Option Addr) (n1 c1 oc nc : Nat) (ob : List Ob) (fn : List BindO.Fn) (a0 a1 a2 a3 a4 a5 a6 a7 a9 a10 a12 : Value) (r : Rl) (w : World) (hcw : Cw w A1 n1 t oA oc ob nA nc fn) (hr : Rl.R top w r) (hz : Rl.m r≤1048576) :
  Calls Tryz.prog 62 #[.slice A1 n1 c1,.agg #[a0,a1,a2,a3,a4,a5,a6,a7,.slice oA ob.length oc,a9,a10,.slice nA fn.length nc,a12],.agg (Rl.e r).toArray] w (WrV (whenC t (pars fn) r.wh.l∧ckB t (pars fn) [] 0 (stPs r.body.l)) w):=by
 have HC:=hI hcw
 obtain ⟨CX,hCX⟩ : ∃ p,p=(whenC t (pars fn) r.wh.l∧ckB t (pars fn) [] 0 (stPs r.body.l)):=⟨_,rfl⟩
 have HCX:=hI hCX
 rw [← hCX]
 clear hCX
 obtain ⟨rvb,rph,rno,rse,⟨wA,cw,wl⟩,⟨bA,bc,bl⟩⟩:=r
 have HRW:=hI (show Lx top w wA cw wl∧Ls top w bA bc bl from hr)
 have HZ:=hI (show nEs (exPs wl)≤1048576∧nB (stPs bl)≤1048576 by unfold Rl.m at hz;simp only at hz;omega)
 have zw : wl.length≤1048576:=by
  have h1:=sum_len (m:=fun x : Ex=>nE x.p) (fun x=>nE_pos x.p) wl
  rw [← nEs_sum] at h1
  have:=HZ.out.1
  omega
 clear hr hz
 show Calls Tryz.prog 62 #[.slice A1 n1 c1,.agg #[a0,a1,a2,a3,a4,a5,a6,a7,.slice oA ob.length oc,a9,a10,.slice nA fn.length nc,a12],.agg #[.string (str rvb),.int .i64 rph,.string (str rno),.string (str rse),.slice wA wl.length cw,.slice bA bl.length bc]] w _
 obtain ⟨V1,hV1⟩ : ∃ W,w.alloc (.cells #[a0,a1,a2,a3,a4,a5,a6,a7,.slice oA ob.length oc,a9,a10,.slice nA fn.length nc,a12] 29)=W:=⟨_,rfl⟩
 obtain ⟨V2,hV2⟩ : ∃ W,V1.alloc (.cells #[.string (str rvb),.int .i64 rph,.string (str rno),.string (str rse),.slice wA wl.length cw,.slice bA bl.length bc] 52)=W:=⟨_,rfl⟩
 obtain ⟨V3,hV3⟩ : ∃ W,V2.alloc (.cells #[.int .i64 0,.string ⟨#[]⟩] 125)=W:=⟨_,rfl⟩
 obtain ⟨m1,s1,b1⟩:=made hV1
 obtain ⟨m2,s2,b2⟩:=made hV2
 obtain ⟨m3,s3,b3⟩:=made hV3
 have HM1:=hI ((b3.block w.heap.size (by omega)).trans ((b2.block w.heap.size (by omega)).trans m1))
 have HM2:=hI ((b3.block V1.heap.size (by omega)).trans m2)
 have HM3:=hI m3
 have HBV:=hI (b1.trans ((b2.trans (b3.mono b2.size)).mono b1.size))
 have HSZ:=hI (show V1.heap.size=w.heap.size + 1∧V2.heap.size=w.heap.size + 2∧V3.heap.size=w.heap.size + 3 by omega)
 obtain ⟨y0,y1,y2,y3,y4,y5,yf⟩:=cells6 ((b3.block V1.heap.size (by omega)).trans m2)
 clear m1 m2 m3 s1 s2 s3 b1 b2 b3 hcw
 obtain ⟨p0,hp0⟩ : ∃ p,w.heap.size=p:=⟨_,rfl⟩
 obtain ⟨p1,hp1⟩ : ∃ p,V1.heap.size=p:=⟨_,rfl⟩
 obtain ⟨p2,hp2⟩ : ∃ p,V2.heap.size=p:=⟨_,rfl⟩
 rw [hp0] at HM1
 rw [hp1] at HM2 y0 y1 y2 y3 y4 y5 yf
 rw [hp2] at HM3
 rw [hp0,hp1,hp2] at HSZ
 have HP0:=hI hp0
 go_enter Tryz.func62,Tryz.ntmps62
 go_upto_region 2 with (go_at_call 99;refine (of_c t 5 rvb _ (HC.out.below HBV.out).cv.t HC.out.cv.n1).mono ?_;rintro e w4 ⟨er,s4,rfl,_,hb⟩;have HB4:=hI hb;clear hb)
 clear y0 y1 y2 y3 y4 y5 yf
 obtain ⟨V,hV⟩ : ∃ V,w4.alloc (.cells #[.int .i64 er,.string (str s4)] 125)=V:=⟨_,rfl⟩
 obtain ⟨mV,sV,bV⟩:=made hV
 rw [hV]
 obtain ⟨g,hg⟩ : ∃ g,w4.heap.size=g:=⟨_,rfl⟩
 rw [hg] at mV ⊢
 have HG:=hI (show p0 < g∧p1 < g∧p2 < g∧w.heap.size≤g∧p0=w.heap.size by have h1:=HB4.out.size;have h2:=HSZ.out;have h3:=HP0.out;have h4:=HBV.out.size;omega)
 have HF:=hI (show Fr w V g (.int .i64 er) (.string (str s4)) 125 V from ⟨HBV.out.trans ((HB4.out.trans (bV.mono HB4.out.size)).mono HBV.out.size),⟨Nat.le_refl _,fun _ _ _=>rfl⟩,mV⟩)
 have hV3V:=HB4.out.trans (bV.mono HB4.out.size)
 have HO0:=hI (show ∀ U,Kp V g U→U.heap[p0]?=some (.cells #[a0,a1,a2,a3,a4,a5,a6,a7,.slice oA ob.length oc,a9,a10,.slice nA fn.length nc,a12] 29 (0,0)) from fun U h=>h.obj (by have:=HG.out;omega) ((hV3V.block _ (Array.getElem?_eq_some_iff.1 HM1.out).1).trans HM1.out))
 have HO2:=hI (show ∀ U,Kp V g U→U.heap[p1]?=some (.cells #[.string (str rvb),.int .i64 rph,.string (str rno),.string (str rse),.slice wA wl.length cw,.slice bA bl.length bc] 52 (0,0)) from fun U h=>h.obj (by have:=HG.out;omega) ((hV3V.block _ (Array.getElem?_eq_some_iff.1 HM2.out).1).trans HM2.out))
 have HO1:=hI (show ∀ U,Kp V g U→U.heap[p2]?=some (.cells #[.int .i64 0,.string ⟨#[]⟩] 125 (0,0)) from fun U h=>h.obj (by have:=HG.out;omega) ((hV3V.block _ (Array.getElem?_eq_some_iff.1 HM3.out).1).trans HM3.out))
 have HPL:=hI (show w.heap.size≤p2 by have:=HSZ.out;have:=HG.out;omega)
 clear mV sV bV hg hV3V hV1 hV2 hV3 hp0 hp1 hp2 hV HM1 HM2 HM3 HB4
 obtain ⟨y0,y1,y2,y3,y4,y5,yf⟩:=cells6 (HO2.out V HF.out.kp)
 obtain ⟨f0,f1,ff⟩:=cells2 HF.out.box
 have HBW0:=hI HF.out.low
 have HE:=hI (show er=0→True from fun _=>trivial)
 obtain ⟨s5,hs5⟩ : ∃ x,s4=x:=⟨_,rfl⟩
 rw [hs5] at HF f1
 clear hs5
 go_cut [7,19] (fun v v2 wx=>∃ b5 : Bool,v2=.bool b5∧v=.pointer (some ⟨g,0,none⟩)∧∃ (er : Int) (s5 : S),Fr w V g (.int .i64 er) (.string (str s5)) 125 wx∧Hid (er=0→True))
 case first=>
  by_cases he0 : er=0
  ·subst he0
   go_wp2_with fail
   go_meet
   exact ⟨_,rfl,rfl,0,s5,HF.out,hI (fun _=>trivial)⟩
  ·have qe : (er == 0)=false:=beq_eq_false_iff_ne.2 he0
   clear he0
   go_wp2_with fail
   go_meet
   exact ⟨false,rfl,rfl,er,s5,HF.out,hI (fun _=>trivial)⟩
 case rest=>
  clear y0 y1 y2 y3 y4 y5 yf f0 f1 ff HE HF
  obtain ⟨b5,rfl,hcut⟩:=hcut
  obtain ⟨rfl,er,s5,hf,HE⟩:=hcut
  have HF:=hI hf
  clear hf
  obtain ⟨wd,hwd⟩ : ∃ W,W=wc:=⟨_,rfl⟩
  rw [← hwd] at HF ⊢
  clear hwd
  obtain ⟨y0,y1,y2,y3,y4,y5,yf⟩:=cells6 (HO2.out wd HF.out.kp)
  obtain ⟨f0,f1,ff⟩:=cells2 HF.out.box
  go_upto_if 19 with fail
  go_cut [7] (fun v wx=>v=.pointer (some ⟨g,0,none⟩)∧∃ (er : Int) (s5 : S),Fr w V g (.int .i64 er) (.string (str s5)) 125 wx∧Hid (er=0→True))
  case first=>
   cases b5
   ·go_wp2_with fail
    go_meet
    exact ⟨rfl,er,s5,HF.out,hI (fun _=>trivial)⟩
   ·skip
    go_wp2_with (go_at_call 99;refine (of_c t 4 rno wd (HC.out.below HF.out.low).cv.t HC.out.cv.n1).mono ?_;rintro e w5 ⟨er6,s6,rfl,hp,hb⟩;have HP5:=hI hp;have HF5:=hI (HF.out.below hb);clear hp hb y0 y1 y2 y3 y4 y5 yf f0 f1 ff;obtain ⟨f0,f1,ff⟩:=cells2 HF5.out.box)
    go_meet
    exact ⟨rfl,er6,s6,HF5.out.set HG.out.2.2.2.1 _ _,hI (fun _=>trivial)⟩
  case rest=>
   clear y0 y1 y2 y3 y4 y5 yf f0 f1 ff HE HF
   obtain ⟨rfl,er,s5,hf,HE⟩:=hcut
   have HF:=hI hf
   clear hf
   obtain ⟨wd,hwd⟩ : ∃ W,W=wc:=⟨_,rfl⟩
   rw [← hwd] at HF ⊢
   clear hwd
   obtain ⟨y0,y1,y2,y3,y4,y5,yf⟩:=cells6 (HO2.out wd HF.out.kp)
   obtain ⟨f0,f1,ff⟩:=cells2 HF.out.box
   go_upto_region 4 with fail
   go_cut [7,31] (fun v v2 wx=>∃ b5 : Bool,v2=.bool b5∧v=.pointer (some ⟨g,0,none⟩)∧∃ (er : Int) (s5 : S),Fr w V g (.int .i64 er) (.string (str s5)) 125 wx∧Hid (er=0→True))
   case first=>
    by_cases he0 : er=0
    ·subst he0
     go_wp2_with fail
     go_meet
     exact ⟨_,rfl,rfl,0,s5,HF.out,hI (fun _=>trivial)⟩
    ·have qe : (er == 0)=false:=beq_eq_false_iff_ne.2 he0
     clear he0
     go_wp2_with fail
     go_meet
     exact ⟨false,rfl,rfl,er,s5,HF.out,hI (fun _=>trivial)⟩
   case rest=>
    clear y0 y1 y2 y3 y4 y5 yf f0 f1 ff HE HF
    obtain ⟨b5,rfl,hcut⟩:=hcut
    obtain ⟨rfl,er,s5,hf,HE⟩:=hcut
    have HF:=hI hf
    clear hf
    obtain ⟨wd,hwd⟩ : ∃ W,W=wc:=⟨_,rfl⟩
    rw [← hwd] at HF ⊢
    clear hwd
    obtain ⟨y0,y1,y2,y3,y4,y5,yf⟩:=cells6 (HO2.out wd HF.out.kp)
    obtain ⟨f0,f1,ff⟩:=cells2 HF.out.box
    go_upto_if 31 with fail
    go_cut [7] (fun v wx=>v=.pointer (some ⟨g,0,none⟩)∧∃ (er : Int) (s5 : S),Fr w V g (.int .i64 er) (.string (str s5)) 125 wx∧Hid (er=0→True))
    case first=>
     cases b5
     ·go_wp2_with fail
      go_meet
      exact ⟨rfl,er,s5,HF.out,hI (fun _=>trivial)⟩
     ·skip
      go_wp2_with (go_at_call 99;refine (of_c t 4 rse wd (HC.out.below HF.out.low).cv.t HC.out.cv.n1).mono ?_;rintro e w5 ⟨er6,s6,rfl,hp,hb⟩;have HP5:=hI hp;have HF5:=hI (HF.out.below hb);clear hp hb y0 y1 y2 y3 y4 y5 yf f0 f1 ff;obtain ⟨f0,f1,ff⟩:=cells2 HF5.out.box)
      go_meet
      exact ⟨rfl,er6,s6,HF5.out.set HG.out.2.2.2.1 _ _,hI (fun _=>trivial)⟩
    case rest=>
     clear y0 y1 y2 y3 y4 y5 yf f0 f1 ff HE HF
     obtain ⟨rfl,er,s5,hf,HE⟩:=hcut
     have HF:=hI hf
     clear hf
     obtain ⟨wd,hwd⟩ : ∃ W,W=wc:=⟨_,rfl⟩
     rw [← hwd] at HF ⊢
     clear hwd
     obtain ⟨y0,y1,y2,y3,y4,y5,yf⟩:=cells6 (HO2.out wd HF.out.kp)
     obtain ⟨f0,f1,ff⟩:=cells2 HF.out.box
     go_upto_region 6 with fail
     go_cut [7,44] (fun v v2 wx=>∃ b5 : Bool,v2=.bool b5∧v=.pointer (some ⟨g,0,none⟩)∧∃ (er : Int) (s5 : S),Fr w V g (.int .i64 er) (.string (str s5)) 125 wx∧Hid ((b5=true→0 < wl.length)∧(b5=false→er=0→wl.length=0)))
     case first=>
      by_cases he0 : er=0
      ·subst he0
       by_cases hw : 0 < wl.length
       ·have q1 : decide ((0 : Int) < (wl.length : Int))=true:=decide_eq_true (by omega)
        have q2 : decide (0 < wl.length)=true:=decide_eq_true hw
        have HW:=hI hw
        clear hw
        go_wp2_with fail
        go_meet
        exact ⟨true,rfl,rfl,0,s5,HF.out,hI ⟨(fun _=>HW.out),(fun h=>by cases h)⟩⟩
       ·have q1 : decide ((0 : Int) < (wl.length : Int))=false:=decide_eq_false (by omega)
        have q2 : decide (0 < wl.length)=false:=decide_eq_false hw
        have HW:=hI (show wl.length=0 by omega)
        clear hw
        go_wp2_with fail
        go_meet
        exact ⟨false,rfl,rfl,0,s5,HF.out,hI ⟨(fun h=>by cases h),(fun _ _=>HW.out)⟩⟩
      ·have qe : (er == 0)=false:=beq_eq_false_iff_ne.2 he0
       have HN:=hI he0
       clear he0
       go_wp2_with fail
       go_meet
       exact ⟨false,rfl,rfl,er,s5,HF.out,hI ⟨(fun h=>by cases h),(fun _ h=>absurd h HN.out)⟩⟩
     case rest=>
      clear y0 y1 y2 y3 y4 y5 yf f0 f1 ff HE HF
      obtain ⟨b5,rfl,hcut⟩:=hcut
      obtain ⟨rfl,er,s5,hf,HE⟩:=hcut
      have HF:=hI hf
      clear hf
      obtain ⟨wd,hwd⟩ : ∃ W,W=wc:=⟨_,rfl⟩
      rw [← hwd] at HF ⊢
      clear hwd
      obtain ⟨y0,y1,y2,y3,y4,y5,yf⟩:=cells6 (HO2.out wd HF.out.kp)
      obtain ⟨f0,f1,ff⟩:=cells2 HF.out.box
      go_upto_if 44 with fail
      go_cut [7] (fun v wx=>v=.pointer (some ⟨g,0,none⟩)∧∃ (er : Int) (s5 : S),Fr w V g (.int .i64 er) (.string (str s5)) 125 wx∧Hid (er=0→whenC t (pars fn) wl))
      case first=>
       cases b5
       ·go_wp2_with fail
        go_meet
        exact ⟨rfl,er,s5,HF.out,hI (fun h x l2 hl=>by have h2:=HE.out.2 (by trivial) h;rw [hl] at h2;simp at h2)⟩
       ·have hw:=HE.out.1 (by trivial)
        obtain ⟨b3,o3,hA,hb3,hc3⟩:=Lg.at_ exE_len HRW.out.1 hw
        subst hA
        obtain ⟨⟨ek,ep,en,es,eA,ec,el⟩,hy⟩ : ∃ y,wl[0]=y:=⟨_,rfl⟩
        have hmem : wl[0] ∈ wl:=List.getElem_mem hw
        rw [hy] at hc3 hmem
        have HXE:=hI (show RdX top w (Ex.mk ek ep en es eA ec el)∧nE (Ex.mk ek ep en es eA ec el).p≤1048576 from ⟨HRW.out.1.2 _ hmem,by
         have h1:=sum_mem (m:=fun x : Ex=>nE x.p) wl _ hmem
         rw [← nEs_sum] at h1
         have:=HZ.out.1
         omega⟩)
        have HHD:=hI (show ∀ x l2,wl=x :: l2→x=Ex.mk ek ep en es eA ec el from fun x l2 h=>by rw [← hy];simp only [h,List.getElem_cons_zero])
        have HSc:=hI (show ∀ U,Kp V g U→(U.cell? ⟨b3,o3,none⟩=some (.int .i64 ek)∧U.cell? ⟨b3,o3 + 1,none⟩=some (.int .i64 ep)∧U.cell? ⟨b3,o3 + 2,none⟩=some (.int .i64 en)∧U.cell? ⟨b3,o3 + 3,none⟩=some (.string (str es))∧U.cell? ⟨b3,o3 + 4,none⟩=some (.slice eA el.length ec)) from fun U hU=>by
         have h9 : ∀ j_ u,(exE (Ex.mk ek ep en es eA ec el))[j_]?=some u→U.cell? ⟨b3,o3 + j_,none⟩=some u:=fun j_ u hu=>hU.cell (Nat.lt_of_lt_of_le hb3 HBW0.out.size) (by have:=HG.out;omega) ((HBW0.out.cell (p:=⟨b3,_,none⟩) hb3).trans (by have h:=hc3 j_ u hu;simpa using h))
         exact ⟨h9 0 _ rfl,h9 1 _ rfl,h9 2 _ rfl,h9 3 _ rfl,h9 4 _ rfl⟩)
        have hw0 : (0 : Int) < (wl.length : Int):=by omega
        have hw1 : 0 < wl.length:=hw
        have hw2 : ¬ wl=[]:=by intro h;rw [h] at hw;simp at hw
        clear hc3 hmem hy hb3 hw
        go_upto_region 7 with fail
        clear f0 f1 ff y0 y1 y2 y3 y4 y5 yf
        have hS0 : Kp V g wd.drew:=HF.out.drew.kp
        refine RgD.begin_ [] (fun U=>Kp V g U) (by kernel_rfl) hS0 (fun hHeld=>?_)
        refine tK 0 45 (h:=?_)
        simp only [zA,zB,zC]
        refine tK 1 46 (v:=.agg #[a0,a1,a2,a3,a4,a5,a6,a7,.slice oA ob.length oc,a9,a10,.slice nA fn.length nc,a12]) (hy:=by intro w0 hSw;obtain ⟨x0,x1,x2,x3,x4,x5,x6,x7,x8,x9,x10,x11,x12,xf⟩:=cellz13 (HO0.out _ hSw);first | (go_simp;done) | (go_simp;with_reducible rfl) | (go_simp;intro hc;exfalso;omega)) (h:=?_)
        simp only [zA,zB,zC]
        refine tK 2 47 (h:=?_)
        simp only [zA,zB,zC]
        refine tK 3 48 (v:=.slice (some ⟨b3,o3,none⟩) wl.length cw) (hy:=by intro w0 hSw;obtain ⟨y0,y1,y2,y3,y4,y5,yf⟩:=cells6 (HO2.out _ hSw);first | (go_simp;done) | (go_simp;with_reducible rfl) | (go_simp;intro hc;exfalso;omega)) (h:=?_)
        simp only [zA,zB,zC]
        refine tK 4 49 (h:=?_)
        simp only [zA,zB,zC]
        refine tK 5 50 (v:=.agg #[.int .i64 ek,.int .i64 ep,.int .i64 en,.string (str es),.slice eA el.length ec]) (hy:=by intro w0 hSw;obtain ⟨z0,z1,z2,z3,z4⟩:=HSc.out _ hSw;first | (go_simp;done) | (go_simp;with_reducible rfl) | (go_simp;intro hc;exfalso;omega)) (h:=?_)
        simp only [zA,zB,zC]
        refine RgD.one (i:=6) (by kernel_rfl) ?_
        refine RgD.call (i:=6) (t:=51) rfl rfl (by rfl) (by go_simp;exact ⟨rfl,rfl⟩) ?_
        have hF9:=HF.out.drew
        refine (expr_c t [] A1 none nA n1 c1 0 0 nc fn a0 a1 a2 a3 a4 a5 a6 a7 (.slice oA ob.length oc) a9 a10 a12 (.mk ek ep en es eA ec el) wd.drew (HC.out.below hF9.low).cv (Sq.Rd.nil _ _) (by omega) (RdX.keep (Keep.below hF9.low) HXE.out.1) HXE.out.2).mono ?_
        rintro r w9 ⟨er9,s9,rfl,hp,hb⟩
        have HP9:=hI hp
        have HF9:=hI (hF9.below hb)
        clear hb hp hF9
        refine ⟨_,rfl,HF9.out.kp,?_⟩
        simp only [zA,zB,zC]
        refine RgD.one (i:=7) (by kernel_rfl) ?_
        obtain ⟨g0,g1,gf⟩:=cells2 HF9.out.box
        have HF10:=hI (HF9.out.set HG.out.2.2.2.1 (.int .i64 er9) (.string (str s9)))
        obtain ⟨w10,hw10⟩ : ∃ W,(w9.setCell ⟨g,0,none⟩ (.int .i64 er9)).setCell ⟨g,1,none⟩ (.string (str s9))=W:=⟨_,rfl⟩
        rw [hw10] at HF10
        refine RgD.storeS (i:=7) (w1:=w10) rfl rfl (by rfl) (by first | (go_simp;done) | (go_simp;exact hw10) | (go_simp;rw [hw10])) HF10.out.kp ?_
        clear g0 g1 gf hw10
        refine RgD.done (by kernel_rfl) ?_ _
        clear hS0
        go_wp2_with fail
        go_meet
        exact ⟨rfl,er9,s9,HF10.out,hI (fun h x l2 hl=>by rw [HHD.out x l2 hl];exact HP9.out h)⟩
      case rest=>
       clear y0 y1 y2 y3 y4 y5 yf f0 f1 ff HE HF
       obtain ⟨rfl,er,s5,hf,HE⟩:=hcut
       have HF:=hI hf
       clear hf
       obtain ⟨wd,hwd⟩ : ∃ W,W=wc:=⟨_,rfl⟩
       rw [← hwd] at HF ⊢
       clear hwd
       obtain ⟨y0,y1,y2,y3,y4,y5,yf⟩:=cells6 (HO2.out wd HF.out.kp)
       obtain ⟨f0,f1,ff⟩:=cells2 HF.out.box
       obtain ⟨x0,x1,x2,x3,x4,x5,x6,x7,x8,x9,x10,x11,x12,xf⟩:=cellz13 (HO0.out wd HF.out.kp)
       by_cases he0 : er=0
       ·subst he0
        go_upto_region 10 with (go_at_call 64;refine (block_c t A1 nA n1 c1 nc fn a0 a1 a2 a3 a4 a5 a6 a7 (.slice oA ob.length oc) a9 a10 a12 7 _ bl (Nat.le_refl _) HZ.out.2 [] 0 none bA 0 0 bc wd (HC.out.below HF.out.low).cv (Sq.Rd.nil _ _) (Lg.keep stays_s (Keep.below HF.out.low) HRW.out.2) (by have:=HZ.out;simp;omega) (by have:=HZ.out;omega)).mono ?_;rintro e w5 ⟨er6,s6,rfl,hp,hb⟩;have HP5:=hI hp;have HF5:=hI (HF.out.below hb);clear hp hb y0 y1 y2 y3 y4 y5 yf f0 f1 ff x0 x1 x2 x3 x4 x5 x6 x7 x8 x9 x10 x11 x12 xf;obtain ⟨f0,f1,ff⟩:=cells2 HF5.out.box)
        have HF6:=hI (HF5.out.set HG.out.2.2.2.1 (.int .i64 er6) (.string (str s6)))
        obtain ⟨w6,hw6⟩ : ∃ W6,(w5.setCell ⟨g,0,none⟩ (.int .i64 er6)).setCell ⟨g,1,none⟩ (.string (str s6))=W6:=⟨_,rfl⟩
        rw [hw6] at HF6 ⊢
        clear f0 f1 ff hw6 HF5
        obtain ⟨f0,f1,ff⟩:=cells2 HF6.out.box
        obtain ⟨r0,r1,rf⟩:=cells2 (HO1.out w6 HF6.out.kp)
        obtain ⟨X,hX⟩ : ∃ X,(w6.setCell ⟨p2,0,none⟩ (.int .i64 er6)).setCell ⟨p2,1,none⟩ (.string (str s6))=X:=⟨_,rfl⟩
        have HX:=hI (show X.heap[p2]?=some (.cells #[.int .i64 er6,.string (str s6)] 125 (0,0)) by rw [← hX];exact set2 (HO1.out w6 HF6.out.kp))
        have HXB:=hI (show Below w.heap.size w X by rw [← hX];exact set2_below (HF6.out.low) HPL.out)
        go_wp2_with ((with_reducible refine ret_w 6 p2 (.int .i64 er6) (.string (str s6)) ?_ ?_ ?_ ?_ ?_);exact HX.out;rfl;rfl;rfl;exact ⟨er6,s6,rfl,(fun h=>by rw [HCX.out];exact ⟨HE.out (by trivial),HP5.out h⟩),HXB.out⟩)
       ·have qe : (er == 0)=false:=beq_eq_false_iff_ne.2 he0
        have HN:=hI he0
        clear he0
        obtain ⟨r0,r1,rf⟩:=cells2 (HO1.out wd HF.out.kp)
        obtain ⟨X,hX⟩ : ∃ X,(wd.setCell ⟨p2,0,none⟩ (.int .i64 er)).setCell ⟨p2,1,none⟩ (.string (str s5))=X:=⟨_,rfl⟩
        have HX:=hI (show X.heap[p2]?=some (.cells #[.int .i64 er,.string (str s5)] 125 (0,0)) by rw [← hX];exact set2 (HO1.out wd HF.out.kp))
        have HXB:=hI (show Below w.heap.size w X by rw [← hX];exact set2_below (HF.out.low) HPL.out)
        go_wp2_with ((with_reducible refine ret_w 6 p2 (.int .i64 er) (.string (str s5)) ?_ ?_ ?_ ?_ ?_);exact HX.out;rfl;rfl;rfl;exact ⟨er,s5,rfl,(fun h=>absurd h HN.out),HXB.out⟩)
end Go.Proofs.YteibcfpepdbflaaGreat.CkJ
