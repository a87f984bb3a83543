/- clewref16.function: what is wrong with a function, without a panic; nothing: what that says. Conditions: sizes within the reach. -/
import Derived.Test.YteibcfpepdbflaaGreatCkF
import Derived.Test.YteibcfpepdbflaaGreatBkD
open Go.Lib renaming hid → hI
namespace Go.Proofs.YteibcfpepdbflaaGreat.CkK
open Go Go.RowKit BindP BindD BindO BindW BindG BindX BindB BindT BindU TxA RtS RtX RtY RtD CkP CkA CkB CkC CkE CkF
open Byt (str)
theorem rd_lg {w : World} {A : Option Addr} {c : Nat} {l : List S} (h : Lg svE Rt top w A c l) : Sq.Rd sv w A l.length l:=by
 refine ⟨rfl,fun hn=>?_⟩
 obtain ⟨b,o,e,hb,_⟩:=Lg.one (fun _=>rfl) h hn
 refine ⟨b,o,e,hb,fun i x hx=>?_⟩
 have hi:=(List.getElem?_eq_some_iff.1 hx).1
 obtain ⟨b2,o2,e2,_,hc⟩:=Lg.one (fun _=>rfl) h hi
 rw [e] at e2
 injection e2 with e2
 injection e2 with e3 e4
 subst e3 e4
 have hx2:=(List.getElem?_eq_some_iff.1 hx).2
 exact hc _ (by rw [hx2];rfl)
set_option maxRecDepth 100000 in
set_option maxHeartbeats 32000000 in
theorem function_c (t : List Nm) (A1 oA nA : Option Addr) (n1 c1 oc nc : Nat) (ob : List Ob) (fn : List BindO.Fn) (a0 a1 a2 a3 a4 a5 a6 a7 a9 a10 a12 : Value) (f : BindO.Fn) (w : World) (hcw : Cw w A1 n1 t oA oc ob nA nc fn) (hr : BindO.Fn.R top w f) (hz : BindO.Fn.m f≤1048576) :
  Calls Tryz.prog 63 #[.slice A1 n1 c1,.agg #[a0,a1,a2,a3,a4,a5,a6,a7,.slice oA ob.length oc,a9,a10,.slice nA fn.length nc,a12],.agg (BindO.Fn.e f).toArray] w (WrV (ckB t (pars fn) f.ps.l 0 (stPs f.body.l)) w):=by
 have HC:=hI hcw
 obtain ⟨CX,hCX⟩ : ∃ p,p=ckB t (pars fn) f.ps.l 0 (stPs f.body.l):=⟨_,rfl⟩
 have HCX:=hI hCX
 rw [← hCX]
 clear hCX
 obtain ⟨fnm,⟨pA,pc,pl⟩,⟨bA,bc,bl⟩⟩:=f
 have HRW:=hI (show Lg svE Rt top w pA pc pl∧Ls top w bA bc bl from hr)
 have HZ:=hI (show (pl.map fun x=>x.length + 1).sum≤1048576∧nB (stPs bl)≤1048576 by unfold BindO.Fn.m at hz;simp only at hz;omega)
 have zp : pl.length≤1048576:=Nat.le_trans (sum_len (m:=fun x : S=>x.length + 1) (fun _=>by omega) pl) HZ.out.1
 have S1 : ∀ (h : Nat) (w0 : World),h≤pc→(Instr.slice 22 (.slice pA pl.length pc) none (some (.int .i64 (h : Int))) none).run Tryz.prog w0=.ok (.slice pA h pc) w0:=fun h w0 hh=>Slic.run_high 22 9 1 Tryz.underlying22 (by kernel_rfl) pA pl.length pc h hh w0
 have HS1:=hI S1
 have HPC:=hI HRW.out.1.1.le
 clear hr hz S1
 show Calls Tryz.prog 63 #[.slice A1 n1 c1,.agg #[a0,a1,a2,a3,a4,a5,a6,a7,.slice oA ob.length oc,a9,a10,.slice nA fn.length nc,a12],.agg #[.string (str fnm),.slice pA pl.length pc,.slice bA bl.length bc]] w _
 obtain ⟨V1,hV1⟩ : ∃ W,w.alloc (.cells #[a0,a1,a2,a3,a4,a5,a6,a7,.slice oA ob.length oc,a9,a10,.slice nA fn.length nc,a12] 29)=W:=⟨_,rfl⟩
 obtain ⟨V2,hV2⟩ : ∃ W,V1.alloc (.cells #[.string (str fnm),.slice pA pl.length pc,.slice bA bl.length bc] 94)=W:=⟨_,rfl⟩
 obtain ⟨V,hV⟩ : ∃ W,V2.alloc (.cells #[.int .i64 0,.string ⟨#[]⟩] 125)=W:=⟨_,rfl⟩
 obtain ⟨m1,s1,b1⟩:=made hV1
 obtain ⟨m2,s2,b2⟩:=made hV2
 obtain ⟨m3,s3,b3⟩:=made hV
 have m1':=(b3.block w.heap.size (by omega)).trans ((b2.block w.heap.size (by omega)).trans m1)
 have m2':=(b3.block V1.heap.size (by omega)).trans m2
 have HO0:=hI (show ∀ U,Below V.heap.size V U→U.heap[w.heap.size]?=some (.cells #[a0,a1,a2,a3,a4,a5,a6,a7,.slice oA ob.length oc,a9,a10,.slice nA fn.length nc,a12] 29 (0,0)) from fun U h=>(h.block _ (Array.getElem?_eq_some_iff.1 m1').1).trans m1')
 have HO2:=hI (show ∀ U,Below V.heap.size V U→U.heap[V1.heap.size]?=some (.cells #[.string (str fnm),.slice pA pl.length pc,.slice bA bl.length bc] 94 (0,0)) from fun U h=>(h.block _ (Array.getElem?_eq_some_iff.1 m2').1).trans m2')
 have HO1:=hI (show ∀ U,Below V.heap.size V U→U.heap[V2.heap.size]?=some (.cells #[.int .i64 0,.string ⟨#[]⟩] 125 (0,0)) from fun U h=>(h.block _ (Array.getElem?_eq_some_iff.1 m3).1).trans m3)
 have HBV:=hI (b1.trans ((b2.trans (b3.mono b2.size)).mono b1.size))
 have HPL:=hI (show w.heap.size≤V2.heap.size by omega)
 obtain ⟨p0,hp0⟩ : ∃ p,w.heap.size=p:=⟨_,rfl⟩
 obtain ⟨p1,hp1⟩ : ∃ p,V1.heap.size=p:=⟨_,rfl⟩
 obtain ⟨p2,hp2⟩ : ∃ p,V2.heap.size=p:=⟨_,rfl⟩
 rw [hp0] at HO0
 rw [hp1] at HO2
 rw [hp2] at HO1 HPL
 clear m1 m2 m3 m1' m2' s1 s2 s3 b1 b2 b3 hcw
 go_enter Tryz.func63,Tryz.ntmps63
 go_wp2_with fail
 clear hV1 hV2 hV hp0 hp1 hp2
 go_loopw [7] (fun iv wr=>∃ j : Nat,j≤pl.length∧iv=.int .i64 (j : Int)∧Below V.heap.size V wr) (fun iv _=>pl.length - (intOf iv).toNat)
 case atStart=>exact ⟨0,Nat.zero_le _,rfl,Below.refl _ _⟩
 case round=>
  obtain ⟨j,hj,rfl,hb⟩:=hrel
  have HB:=hI hb
  have HBW:=hI (HBV.out.trans (hb.mono HBV.out.size))
  clear hb
  have k0 : (0 : Int)≤(j : Int):=by omega
  obtain ⟨e0,e1,e2,ef⟩:=cellz3 (HO2.out wr HB.out)
  by_cases hlt : j < pl.length
  ·obtain ⟨b,o,he,hbz,hc⟩:=Lg.one (fun _=>rfl) (Lg.keep stays_t (Keep.below HBW.out) HRW.out.1) hlt
   subst he
   have hmem : pl[j] ∈ pl:=List.getElem_mem hlt
   obtain ⟨y,hy⟩ : ∃ y,pl[j]=y:=⟨_,rfl⟩
   rw [hy] at hc hmem
   have HY:=hI (show (str y).size≤4194304 from str_len (by have:=sum_mem (m:=fun x : S=>x.length + 1) pl y hmem;have:=HZ.out.1;omega))
   have c0 : wr.cell? ⟨b,o + j,none⟩=some (.string (str y)):=hc _ rfl
   have k1 : (j : Int) < (pl.length : Int):=by omega
   clear hc hy hmem hbz
   have r1 : ∀ w0,(Instr.slice 22 (.slice (some ⟨b,o,none⟩) pl.length pc) none (some (.int .i64 (j : Int))) none).run Tryz.prog w0=.ok (.slice (some ⟨b,o,none⟩) j pc) w0:=fun w0=>HS1.out j w0 (by have:=HPC.out;omega)
   go_upto_region 5 with fail
   go_cut [29] (fun v wx=>∃ b5 : Bool,v=.bool b5∧wx=wr)
   case first=>
    go_wp2_with (first | (go_at_call 55;refine (isName_o (str y) HY.out _).mono ?_;rintro e w1 ⟨q1,rfl,_,rfl⟩;cases q1) | (go_at_call 56;refine (key_o (str y) _).mono ?_;rintro e w1 ⟨q1,rfl,rfl⟩;cases q1))
    all_goals (go_meet;exact ⟨_,rfl,rfl⟩)
   case rest=>
    obtain ⟨b5,rfl,hwc⟩:=hcut
    subst hwc
    obtain ⟨wd,hwd⟩ : ∃ W,W=wc:=⟨_,rfl⟩
    rw [← hwd] at HB HBW c0 e0 e1 e2 ef ⊢
    clear hwd
    cases b5
    case true=>
     obtain ⟨r0,r1,rf⟩:=cells2 (HO1.out wd (HB.out))
     obtain ⟨X,hX⟩ : ∃ X,(wd.setCell ⟨p2,0,none⟩ (.int .i64 9)).setCell ⟨p2,1,none⟩ (.string (str y))=X:=⟨_,rfl⟩
     have HX:=hI (show X.heap[p2]?=some (.cells #[.int .i64 9,.string (str y)] 125 (0,0)) by rw [← hX];exact set2 (HO1.out wd (HB.out)))
     have HXB:=hI (show Below w.heap.size w X by rw [← hX];exact set2_below (HBV.out.trans ((HB.out).mono HBV.out.size)) HPL.out)
     go_wp2_with ((with_reducible refine ret_w 6 p2 (.int .i64 9) (.string (str y)) ?_ ?_ ?_ ?_ ?_);exact HX.out;rfl;rfl;rfl;exact ⟨9,y,rfl,(fun h=>absurd h (by decide)),HXB.out⟩)
    case false=>
     have HF:=hI (find_r (c:=c1) t y wd (HC.out.below HBW.out).cv.t HC.out.cv.n1)
     obtain ⟨q,hq⟩ : ∃ q,hasN t y=q:=⟨_,rfl⟩
     obtain ⟨⟨g0,g1,g2⟩,hg⟩ : ∃ g,getN t y=g:=⟨_,rfl⟩
     rw [hq,hg] at HF
     clear hq hg
     go_upto_region 8 with (go_at_call 54;refine HF.out.mono ?_;rintro e w2 ⟨rfl,hb⟩;have HB2:=hI hb;clear hb)
     obtain ⟨U2,hU2⟩ : ∃ W,w2.alloc (.cells #[.string (str g0),.int .i64 g1,.int .i64 g2] 116)=W:=⟨_,rfl⟩
     rw [hU2]
     have HB3:=hI (HB.out.trans ((HB2.out.trans ((made hU2).2.2.mono HB2.out.size)).mono HB.out.size))
     have HT3:=hI (HBV.out.trans (HB3.out.mono HBV.out.size))
     clear hU2 HB2 c0 e0 e1 e2 ef
     obtain ⟨e0,e1,e2,ef⟩:=cellz3 (HO2.out U2 HB3.out)
     have HRT:=hI (show Sq.Rd sv U2 (some ⟨b,o,none⟩) j (pl.take j) from ((rd_lg HRW.out.1).below HT3.out).high j (by omega))
     cases q
     case true=>
      obtain ⟨r0,r1,rf⟩:=cells2 (HO1.out U2 (HB3.out))
      obtain ⟨X,hX⟩ : ∃ X,(U2.setCell ⟨p2,0,none⟩ (.int .i64 10)).setCell ⟨p2,1,none⟩ (.string (str y))=X:=⟨_,rfl⟩
      have HX:=hI (show X.heap[p2]?=some (.cells #[.int .i64 10,.string (str y)] 125 (0,0)) by rw [← hX];exact set2 (HO1.out U2 (HB3.out)))
      have HXB:=hI (show Below w.heap.size w X by rw [← hX];exact set2_below (HBV.out.trans ((HB3.out).mono HBV.out.size)) HPL.out)
      go_wp2_with ((with_reducible refine ret_w 6 p2 (.int .i64 10) (.string (str y)) ?_ ?_ ?_ ?_ ?_);exact HX.out;rfl;rfl;rfl;exact ⟨10,y,rfl,(fun h=>absurd h (by decide)),HXB.out⟩)
     case false=>
      go_upto_if 46 with (go_at_call 106;refine (has_c (c:=pc) (pl.take j) y U2 HRT.out (by omega)).mono ?_;rintro e w3 ⟨b6,rfl,hw3⟩;subst hw3)
      cases b6
      ·go_wp2_with fail
       go_roundw
       case rel=>exact ⟨j + 1,by omega,by go_num,HB3.out⟩
       case measure=>simp [intOf];omega
      ·skip
       obtain ⟨r0,r1,rf⟩:=cells2 (HO1.out U2 (HB3.out))
       obtain ⟨X,hX⟩ : ∃ X,(U2.setCell ⟨p2,0,none⟩ (.int .i64 10)).setCell ⟨p2,1,none⟩ (.string (str y))=X:=⟨_,rfl⟩
       have HX:=hI (show X.heap[p2]?=some (.cells #[.int .i64 10,.string (str y)] 125 (0,0)) by rw [← hX];exact set2 (HO1.out U2 (HB3.out)))
       have HXB:=hI (show Below w.heap.size w X by rw [← hX];exact set2_below (HBV.out.trans ((HB3.out).mono HBV.out.size)) HPL.out)
       go_wp2_with ((with_reducible refine ret_w 6 p2 (.int .i64 10) (.string (str y)) ?_ ?_ ?_ ?_ ?_);exact HX.out;rfl;rfl;rfl;exact ⟨10,y,rfl,(fun h=>absurd h (by decide)),HXB.out⟩)
  ·have hjm : j=pl.length:=by omega
   obtain ⟨x0,x1,x2,x3,x4,x5,x6,x7,x8,x9,x10,x11,x12,xf⟩:=cellz13 (HO0.out wr HB.out)
   go_wp2_with fail
   refine (block_c t A1 nA n1 c1 nc fn a0 a1 a2 a3 a4 a5 a6 a7 (.slice oA ob.length oc) a9 a10 a12 8 _ bl (Nat.le_refl _) HZ.out.2 pl 0 pA bA pl.length pc bc wr (HC.out.below HBW.out).cv ((rd_lg HRW.out.1).below HBW.out) (Lg.keep stays_s (Keep.below HBW.out) HRW.out.2) (by have:=HZ.out;omega) (by have:=HZ.out;omega)).mono ?_
   rintro e w5 ⟨er6,s6,rfl,hp,hb⟩
   have HP5:=hI hp
   have HB5:=hI (HB.out.trans (hb.mono HB.out.size))
   clear hp hb e0 e1 e2 ef x0 x1 x2 x3 x4 x5 x6 x7 x8 x9 x10 x11 x12 xf
   obtain ⟨r0,r1,rf⟩:=cells2 (HO1.out w5 (HB5.out))
   obtain ⟨X,hX⟩ : ∃ X,(w5.setCell ⟨p2,0,none⟩ (.int .i64 er6)).setCell ⟨p2,1,none⟩ (.string (str s6))=X:=⟨_,rfl⟩
   have HX:=hI (show X.heap[p2]?=some (.cells #[.int .i64 er6,.string (str s6)] 125 (0,0)) by rw [← hX];exact set2 (HO1.out w5 (HB5.out)))
   have HXB:=hI (show Below w.heap.size w X by rw [← hX];exact set2_below (HBV.out.trans ((HB5.out).mono HBV.out.size)) HPL.out)
   go_wp2_with ((with_reducible refine ret_w 6 p2 (.int .i64 er6) (.string (str s6)) ?_ ?_ ?_ ?_ ?_);exact HX.out;rfl;rfl;rfl;exact ⟨er6,s6,rfl,(fun h=>by rw [HCX.out];exact HP5.out h),HXB.out⟩)
end Go.Proofs.YteibcfpepdbflaaGreat.CkK
