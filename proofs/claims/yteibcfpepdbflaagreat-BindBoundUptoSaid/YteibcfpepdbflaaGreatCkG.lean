/- clewref16.exits: what is wrong with exits, without a panic; nothing: what that says. Conditions: sizes within the reach. -/
import Derived.Test.YteibcfpepdbflaaGreatCkF
open Go.Lib renaming hid → hI
open Go.Proofs.YteibcfpepdbflaaGreat.RgD renaming tk → tK, sA → zA, s0 → zB, s1 → zC
namespace Go.Proofs.YteibcfpepdbflaaGreat.CkG
open Go Go.RowKit BindP BindD BindO BindW BindG BindX BindB BindT BindU TxA RtS RtX RtY RtD CkP CkA CkB CkC CkE CkF
open Byt (str)
def whenC (t : List Nm) (F : List Nat) (l : List Ex) : Prop:=∀ x l2,l=x :: l2→ckE t F [] x.p
theorem cell4 {U : World} {b o k : Nat} {x : Xt} (h : ∀ j u,(Xt.e x)[j]?=some u→U.cell? ⟨b,o + k * 4 + j,none⟩=some u) : U.cell? ⟨b,o + k * 4,none⟩=some (.int .i64 x.dir)∧U.cell? ⟨b,o + k * 4 + 1,none⟩=some (.string (str x.to))∧U.cell? ⟨b,o + k * 4 + 2,none⟩=some (.string (str x.els))∧U.cell? ⟨b,o + k * 4 + 3,none⟩=some x.wh.v:=⟨h 0 _ rfl,h 1 _ rfl,h 2 _ rfl,h 3 _ rfl⟩
set_option maxRecDepth 100000 in
set_option maxHeartbeats 16000000 in
theorem exits_c (t : List Nm) (A1 oA nA : Option Addr) (n1 c1 oc nc : Nat) (ob : List Ob) (fn : List BindO.Fn) (a0 a1 a2 a3 a4 a5 a6 a7 a9 a10 a12 : Value) (l : List Xt) (A : Option Addr) (c : Nat) (w : World) (hcw : Cw w A1 n1 t oA oc ob nA nc fn) (hl : Lg Xt.e Xt.R top w A c l) (hz : (l.map Xt.m).sum≤1048576) :
  Calls Tryz.prog 103 #[.slice A1 n1 c1,.agg #[a0,a1,a2,a3,a4,a5,a6,a7,.slice oA ob.length oc,a9,a10,.slice nA fn.length nc,a12],.slice A l.length c] w (WrV (∀ x ∈ l,whenC t (pars fn) x.wh.l) w):=by
 have hn : l.length≤1048576:=Nat.le_trans (sum_len (m:=Xt.m) (fun _=>by unfold Xt.m;omega) l) hz
 obtain ⟨V1,hV1⟩ : ∃ W,w.alloc (.cells #[a0,a1,a2,a3,a4,a5,a6,a7,.slice oA ob.length oc,a9,a10,.slice nA fn.length nc,a12] 29)=W:=⟨_,rfl⟩
 obtain ⟨V,hV⟩ : ∃ W,V1.alloc (.cells #[.int .i64 0,.string ⟨#[]⟩] 125)=W:=⟨_,rfl⟩
 obtain ⟨m1,s1,b1⟩:=made hV1
 obtain ⟨m2,s2,b2⟩:=made hV
 have m1':=(b2.block w.heap.size (by omega)).trans m1
 have HO0:=hI (show ∀ U,Below V.heap.size V U→U.heap[w.heap.size]?=some (.cells #[a0,a1,a2,a3,a4,a5,a6,a7,.slice oA ob.length oc,a9,a10,.slice nA fn.length nc,a12] 29 (0,0)) from fun U h=>(h.block _ (Array.getElem?_eq_some_iff.1 m1').1).trans m1')
 have HO1:=hI (show ∀ U,Below V.heap.size V U→U.heap[V1.heap.size]?=some (.cells #[.int .i64 0,.string ⟨#[]⟩] 125 (0,0)) from fun U h=>(h.block _ (Array.getElem?_eq_some_iff.1 m2).1).trans m2)
 have HBV:=hI (b1.trans (b2.mono b1.size))
 have HPV:=hI (show w.heap.size≤V1.heap.size by omega)
 have HC:=hI hcw
 have HL:=hI hl
 have HZ:=hI hz
 obtain ⟨m,hm⟩ : ∃ m,l.length=m:=⟨_,rfl⟩
 have HM:=hI hm
 rw [hm] at hn ⊢
 obtain ⟨CX,hCX⟩ : ∃ p,p=(∀ x ∈ l,whenC t (pars fn) x.wh.l):=⟨_,rfl⟩
 have HCX:=hI hCX
 rw [← hCX]
 obtain ⟨p0,hp0⟩ : ∃ p,w.heap.size=p:=⟨_,rfl⟩
 obtain ⟨p1,hp1⟩ : ∃ p,V1.heap.size=p:=⟨_,rfl⟩
 rw [hp0] at HO0
 rw [hp1] at HO1 HPV
 clear m1' m1 m2 s1 s2 b1 b2 hcw hl hz hm hCX
 go_enter Tryz.func103,Tryz.ntmps103
 go_wp2_with fail
 clear hV1 hV hp0 hp1
 go_loopw [7] (fun iv wr=>∃ j : Nat,j≤m∧iv=.int .i64 (j : Int)∧Hid (∀ x ∈ l.take j,whenC t (pars fn) x.wh.l)∧Below V.heap.size V wr) (fun iv _=>m - (intOf iv).toNat)
 case atStart=>exact ⟨0,Nat.zero_le _,rfl,hI (by simp),Below.refl _ _⟩
 case round=>
  obtain ⟨j,hj,rfl,HQ,hb⟩:=hrel
  have HB:=hI hb
  have HBW:=hI (HBV.out.trans (hb.mono HBV.out.size))
  clear hb
  have k0 : (0 : Int)≤(j : Int):=by omega
  by_cases hlt : j < m
  ·have hjl : j < l.length:=by rw [HM.out];exact hlt
   obtain ⟨b,o,rfl,hbz,hc⟩:=Lg.at_ Xt.len (Lg.keep Xt.stays (Keep.below HBW.out) HL.out) hjl
   have hmem : l[j] ∈ l:=List.getElem_mem hjl
   obtain ⟨y,hy⟩ : ∃ y,l[j]=y:=⟨_,rfl⟩
   have HTK:=hI (show l.take (j + 1)=l.take j ++ [y] by rw [List.take_succ_eq_append_getElem hjl,hy])
   rw [hy] at hc hmem
   have HC4:=hI (show ∀ U,Below wr.heap.size wr U→_ from fun U hU=>cell4 (x:=y) (fun j_ u hu=>(hU.cell (p:=⟨b,_,none⟩) hbz).trans (hc j_ u hu)))
   have HBZ:=hI hbz
   have HWH:=hI (show Lx top wr y.wh.a y.wh.c y.wh.l∧nEs (exPs y.wh.l)≤1048576 from ⟨Lg.keep stays_x (Keep.below HBW.out) (HL.out.2 _ hmem),by
    have h1:=sum_mem (m:=Xt.m) l _ hmem
    have h2 : nEs (exPs y.wh.l)≤Xt.m y:=by unfold Xt.m;omega
    have:=HZ.out
    omega⟩)
   have hwn : y.wh.l.length≤1048576:=by
    have h1:=sum_len (m:=fun x : Ex=>nE x.p) (fun x=>nE_pos x.p) y.wh.l
    rw [← nEs_sum] at h1
    have:=HWH.out.2
    omega
   have k1 : (j : Int) < (m : Int):=by omega
   clear hc hy hmem hbz
   obtain ⟨wj,hwj⟩ : ∃ W,W=wr:=⟨_,rfl⟩
   go_wp2_with fail
   go_loopw [8] (fun iv wr=>∃ k : Nat,k≤j∧iv=.int .i64 (k : Int)∧Below wj.heap.size wj wr) (fun iv _=>j - (intOf iv).toNat)
   case atStart=>exact ⟨0,Nat.zero_le _,rfl,by rw [hwj];exact Below.refl _ _⟩
   case round=>
    rw [← hwj] at HB HBW HC4 HBZ HWH
    clear hwj
    obtain ⟨k,hk,rfl,hb⟩:=hrel
    have HBK:=hI hb
    clear hb
    obtain ⟨d0,d1,d2,d3⟩:=HC4.out wr HBK.out
    have l0 : (0 : Int)≤(k : Int):=by omega
    by_cases hk2 : k < j
    ·obtain ⟨b2,o2,he,_,hc⟩:=Lg.at_ Xt.len (Lg.keep Xt.stays (Keep.below (HBW.out.trans (HBK.out.mono HBW.out.size))) HL.out) (show k < l.length by rw [HM.out];omega)
     injection he with he
     injection he with he1 he2
     subst he1 he2
     obtain ⟨z,hz⟩ : ∃ z,l[k]'(by rw [HM.out];omega)=z:=⟨_,rfl⟩
     rw [hz] at hc
     have f0:=(cell4 hc).1
     have l1 : (k : Int) < (m : Int):=by omega
     clear hc hz
     by_cases hd : z.dir=y.dir
     ·have q : (z.dir == y.dir)=true:=by simpa using hd
      clear hd
      go_wp2_with fail
      go_quiet (fail)
      obtain ⟨wq,hwq⟩ : ∃ W,wr.drewN nq=W:=⟨_,rfl⟩
      have HBQ:=hI (show Below wj.heap.size wj wq by rw [← hwq];exact Sq.belowN HBK.out _)
      rw [hwq]
      clear hwq d0 d1 d2 d3 f0
      obtain ⟨d0,d1,d2,d3⟩:=HC4.out wq HBQ.out
      obtain ⟨r0,r1,rf⟩:=cells2 (HO1.out wq (HB.out.trans (HBQ.out.mono HB.out.size)))
      obtain ⟨X,hX⟩ : ∃ X,(wq.setCell ⟨p1,0,none⟩ (.int .i64 10)).setCell ⟨p1,1,none⟩ (.string (str y.to))=X:=⟨_,rfl⟩
      have HX:=hI (show X.heap[p1]?=some (.cells #[.int .i64 10,.string (str y.to)] 125 (0,0)) by rw [← hX];exact set2 (HO1.out wq (HB.out.trans (HBQ.out.mono HB.out.size))))
      have HXB:=hI (show Below w.heap.size w X by rw [← hX];exact set2_below (HBW.out.trans (HBQ.out.mono HBW.out.size)) HPV.out)
      go_wp2_with ((with_reducible refine ret_w 6 p1 (.int .i64 10) (.string (str y.to)) ?_ ?_ ?_ ?_ ?_);exact HX.out;rfl;rfl;rfl;exact ⟨10,y.to,rfl,(fun h=>absurd h (by decide)),HXB.out⟩)
     ·have q : (z.dir == y.dir)=false:=by simpa using hd
      clear hd
      skip
      skip
      go_wp2_with fail
      go_quiet (fail)
      go_wp2_with fail
      go_roundw
      case rel=>exact ⟨k + 1,by omega,by go_num,Sq.belowN HBK.out _⟩
      case measure=>simp [intOf];omega
    ·obtain rfl : j=k:=by omega
     have HBQ:=hI (HB.out.trans (HBK.out.mono HB.out.size))
     have HBT:=hI (HBW.out.trans (HBK.out.mono HBW.out.size))
     clear d0 d1 d2 d3
     obtain ⟨wx,hwx⟩ : ∃ W,W=wr:=⟨_,rfl⟩
     rw [← hwx] at HBQ HBT HBK
     rw [← hwx]
     clear hwx
     have HD4:=hI (show ∀ U,Below wx.heap.size wx U→_ from fun U hU=>HC4.out U (HBK.out.trans (hU.mono HBK.out.size)))
     have HBY:=hI (show ∀ U,Below wx.heap.size wx U→Below V.heap.size V U from fun U h=>HBQ.out.trans (h.mono HBQ.out.size))
     have HBZ2:=hI (show ∀ U,Below wx.heap.size wx U→Below w.heap.size w U from fun U h=>HBT.out.trans (h.mono HBT.out.size))
     go_upto_region 9 with fail
     have hS0 : Below wx.heap.size wx wx.drew:=Below.drew (Below.refl _ _)
     refine RgD.begin_ [] (fun U=>Below wx.heap.size wx U) (by kernel_rfl) hS0 (fun hHeld=>?_)
     refine tK 0 38 (h:=?_)
     simp only [zA,zB,zC]
     refine tK 1 39 (v:=.agg #[a0,a1,a2,a3,a4,a5,a6,a7,.slice oA ob.length oc,a9,a10,.slice nA fn.length nc,a12]) (hy:=by intro w0 hSw;obtain ⟨x0,x1,x2,x3,x4,x5,x6,x7,x8,x9,x10,x11,x12,xf⟩:=cellz13 (HO0.out _ (HBY.out _ hSw));first | (go_simp;done) | (go_simp;with_reducible rfl) | (go_simp;intro hc;exfalso;omega)) (h:=?_)
     simp only [zA,zB,zC]
     refine tK 2 40 (h:=?_)
     simp only [zA,zB,zC]
     refine tK 3 41 (h:=?_)
     simp only [zA,zB,zC]
     refine tK 4 42 (h:=?_)
     simp only [zA,zB,zC]
     refine tK 5 43 (h:=?_)
     simp only [zA,zB,zC]
     refine tK 6 44 (v:=.string (str y.to)) (hy:=by intro w0 hSw;obtain ⟨d0,d1,d2,d3⟩:=HD4.out _ hSw;first | (go_simp;done) | (go_simp;with_reducible rfl) | (go_simp;intro hc;exfalso;omega)) (h:=?_)
     simp only [zA,zB,zC]
     refine RgD.two (i:=7) (j:=8) (by kernel_rfl) ?_ ?_
     ·refine RgD.call (i:=7) (t:=45) rfl rfl (by rfl) (by go_simp;exact ⟨rfl,rfl⟩) ?_
      refine (room_c t A1 oA nA n1 c1 oc nc ob fn a0 a1 a2 a3 a4 a5 a6 a7 a9 a10 a12 y.to wx.drew (HC.out.below (HBZ2.out _ (hS0)))).mono ?_
      rintro r w9 ⟨er9,s9,rfl,hp,hb⟩
      have HP9:=hI hp
      have hS9:=(hS0).trans (hb.mono (hS0).size)
      have HS9:=hI hS9
      clear hb hp
      refine ⟨_,rfl,hS9,?_⟩
      simp only [zA,zB,zC]
      refine RgD.one (i:=8) (by kernel_rfl) ?_
      obtain ⟨w10,hw10⟩ : ∃ W,w9.alloc (.cells #[.int .i64 0,.string ⟨#[]⟩] 125)=W:=⟨_,rfl⟩
      obtain ⟨m10,s10,b10⟩:=made hw10
      have hS10:=(HS9.out).trans (b10.mono (HS9.out).size)
      have HS10:=hI hS10
      have HM10:=hI (show w10.heap[w9.heap.size]?=_ from m10)
      have HQ10:=hI (show wx.heap.size≤w9.heap.size from (HS9.out).size)
      refine RgD.eff (i:=8) (t:=9) (v:=.pointer (some ⟨w9.heap.size,0,none⟩)) (w1:=w10) rfl rfl (by rfl) (by first | (go_simp;done) | (go_simp;exact ⟨rfl,hw10⟩) | (go_simp;rw [hw10];rfl) | (go_simp;exact hw10)) hS10 ?_
      simp only [zA,zB,zC]
      clear hw10
      refine RgD.one (i:=9) (by kernel_rfl) ?_
      obtain ⟨g0,g1,gf⟩:=cells2 HM10.out
      have HM11:=hI (set2 (y0:=.int .i64 er9) (y1:=.string (str s9)) HM10.out)
      have HS11:=hI (set2_below (y0:=.int .i64 er9) (y1:=.string (str s9)) (HS10.out) HQ10.out)
      obtain ⟨w11,hw11⟩ : ∃ W,(w10.setCell ⟨w9.heap.size,0,none⟩ (.int .i64 er9)).setCell ⟨w9.heap.size,1,none⟩ (.string (str s9))=W:=⟨_,rfl⟩
      rw [hw11] at HM11 HS11
      refine RgD.storeS (i:=9) (w1:=w11) rfl rfl (by rfl) (by first | (go_simp;done) | (go_simp;exact hw11) | (go_simp;rw [hw11])) HS11.out ?_
      clear g0 g1 gf hw11
      refine RgD.done (by kernel_rfl) ?_ _
      clear hS0
      obtain ⟨g0,g1,gf⟩:=cells2 HM11.out
      obtain ⟨d0,d1,d2,d3⟩:=HD4.out _ HS11.out
      obtain ⟨gb,hgb⟩ : ∃ x,w9.heap.size=x:=⟨_,rfl⟩
      have HQ10:=hI (show wx.heap.size≤gb by rw [← hgb];exact HQ10.out)
      rw [hgb] at HM11 g0 g1 gf
      try rw [hgb]
      clear hgb HM10 HP9 HS9
      by_cases he0 : er9=0
      ·subst he0
       match hwhl : y.wh.l,HWH with
       | [],_=>
        have d3b : w11.cell? ⟨b,o + j * 4 + 3,none⟩=some (.slice y.wh.a 0 y.wh.c):=by rw [d3];unfold Sv.v;rw [hwhl];rfl
        clear d3
        have HWN:=hI hwhl
        clear hwhl
        go_wp2_with fail
        go_roundw
        case rel=>exact ⟨j + 1,by omega,by go_num,hI (by intro x hx;rw [HTK.out] at hx;rcases List.mem_append.1 hx with hx | hx;exact HQ.out x hx;rw [List.mem_singleton] at hx;subst hx;intro x l2 h;rw [HWN.out] at h;cases h),HBY.out _ HS11.out⟩
        case measure=>simp [intOf];omega
       | x :: l2,HWX=>
        clear d0 d1 d2 d3 g0 g1 gf
        obtain ⟨b3,o3,hA,hb3,hc3⟩:=Lg.at_ exE_len HWX.out.1 (show 0 < (x :: l2).length by simp)
        obtain ⟨nn,hnn⟩ : ∃ n,(x :: l2).length=n:=⟨_,rfl⟩
        have hn0 : 0 < nn:=by rw [← hnn];simp
        have hn1 : nn≤1048576:=by rw [← hnn,← hwhl];exact hwn
        have HD3:=hI (show ∀ U,Below wx.heap.size wx U→U.cell? ⟨b,o + j * 4 + 3,none⟩=some (.slice (some ⟨b3,o3,none⟩) nn y.wh.c) from fun U hU=>by rw [(HD4.out U hU).2.2.2];unfold Sv.v;rw [hwhl,hA,hnn])
        have HXE:=hI (show RdX top wj x∧nE x.p≤1048576 from ⟨HWX.out.1.2 _ (by simp),by have h:=HWX.out.2;simp only [exPs,nEs] at h;omega⟩)
        have HWN:=hI hwhl
        obtain ⟨ek,ep,en,es,eA,ec,el⟩:=x
        have HSc:=hI (show ∀ U,Below wx.heap.size wx U→(U.cell? ⟨b3,o3,none⟩=some (.int .i64 ek)∧U.cell? ⟨b3,o3 + 1,none⟩=some (.int .i64 ep)∧U.cell? ⟨b3,o3 + 2,none⟩=some (.int .i64 en)∧U.cell? ⟨b3,o3 + 3,none⟩=some (.string (str es))∧U.cell? ⟨b3,o3 + 4,none⟩=some (.slice eA el.length ec)) from fun U hU=>by
         have hW:=HBK.out.trans (hU.mono HBK.out.size)
         have h9 : ∀ j_ u,(exE (Ex.mk ek ep en es eA ec el))[j_]?=some u→U.cell? ⟨b3,o3 + j_,none⟩=some u:=fun j_ u hu=>(hW.cell (p:=⟨b3,_,none⟩) hb3).trans (by have h:=hc3 j_ u hu;simpa using h)
         exact ⟨h9 0 _ rfl,h9 1 _ rfl,h9 2 _ rfl,h9 3 _ rfl,h9 4 _ rfl⟩)
        clear hA hc3 hb3 hnn hwhl HWX
        obtain ⟨g0,g1,gf⟩:=cells2 HM11.out
        have d3b:=HD3.out _ HS11.out
        have HM10:=hI HM11.out
        go_upto_region 11 with fail
        clear d3b g0 g1 gf
        have hS0 : Below wx.heap.size wx w11.drew:=Below.drew HS11.out
        refine RgD.begin_ [] (fun U=>Below wx.heap.size wx U) (by kernel_rfl) hS0 (fun hHeld=>?_)
        refine tK 0 58 (h:=?_)
        simp only [zA,zB,zC]
        refine tK 1 59 (v:=.agg #[a0,a1,a2,a3,a4,a5,a6,a7,.slice oA ob.length oc,a9,a10,.slice nA fn.length nc,a12]) (hy:=by intro w0 hSw;obtain ⟨x0,x1,x2,x3,x4,x5,x6,x7,x8,x9,x10,x11,x12,xf⟩:=cellz13 (HO0.out _ (HBY.out _ hSw));first | (go_simp;done) | (go_simp;with_reducible rfl) | (go_simp;intro hc;exfalso;omega)) (h:=?_)
        simp only [zA,zB,zC]
        refine tK 2 60 (h:=?_)
        simp only [zA,zB,zC]
        refine tK 3 61 (h:=?_)
        simp only [zA,zB,zC]
        refine tK 4 62 (h:=?_)
        simp only [zA,zB,zC]
        refine tK 5 63 (h:=?_)
        simp only [zA,zB,zC]
        refine tK 6 64 (v:=.slice (some ⟨b3,o3,none⟩) nn y.wh.c) (hy:=by intro w0 hSw;have d3b:=HD3.out _ hSw;first | (go_simp;done) | (go_simp;with_reducible rfl) | (go_simp;intro hc;exfalso;omega)) (h:=?_)
        simp only [zA,zB,zC]
        refine tK 7 65 (h:=?_)
        simp only [zA,zB,zC]
        refine tK 8 66 (v:=.agg #[.int .i64 ek,.int .i64 ep,.int .i64 en,.string (str es),.slice eA el.length ec]) (hy:=by intro w0 hSw;obtain ⟨z0,z1,z2,z3,z4⟩:=HSc.out _ hSw;first | (go_simp;done) | (go_simp;with_reducible rfl) | (go_simp;intro hc;exfalso;omega)) (h:=?_)
        simp only [zA,zB,zC]
        refine RgD.one (i:=9) (by kernel_rfl) ?_
        refine RgD.call (i:=9) (t:=67) rfl rfl (by rfl) (by go_simp;exact ⟨rfl,rfl⟩) ?_
        refine (expr_c t [] A1 none nA n1 c1 0 0 nc fn a0 a1 a2 a3 a4 a5 a6 a7 (.slice oA ob.length oc) a9 a10 a12 (.mk ek ep en es eA ec el) w11.drew (HC.out.below (HBZ2.out _ (hS0))).cv (Sq.Rd.nil _ _) (by omega) (RdX.keep (Keep.below (HBK.out.trans ((hS0).mono HBK.out.size))) HXE.out.1) HXE.out.2).mono ?_
        rintro r w9 ⟨er9,s9,rfl,hp,hb⟩
        have HP9:=hI hp
        have hS9:=(hS0).trans (hb.mono (hS0).size)
        have HS9:=hI hS9
        have HM10:=hI ((hb.block _ (Array.getElem?_eq_some_iff.1 HM10.out).1).trans HM10.out)
        clear hb hp
        refine ⟨_,rfl,hS9,?_⟩
        simp only [zA,zB,zC]
        refine RgD.one (i:=10) (by kernel_rfl) ?_
        obtain ⟨g0,g1,gf⟩:=cells2 HM10.out
        have HM11:=hI (set2 (y0:=.int .i64 er9) (y1:=.string (str s9)) HM10.out)
        have HS11:=hI (set2_below (y0:=.int .i64 er9) (y1:=.string (str s9)) (HS9.out) HQ10.out)
        obtain ⟨w11,hw11⟩ : ∃ W,(w9.setCell ⟨gb,0,none⟩ (.int .i64 er9)).setCell ⟨gb,1,none⟩ (.string (str s9))=W:=⟨_,rfl⟩
        rw [hw11] at HM11 HS11
        refine RgD.storeS (i:=10) (w1:=w11) rfl rfl (by rfl) (by first | (go_simp;done) | (go_simp;exact hw11) | (go_simp;rw [hw11])) HS11.out ?_
        clear g0 g1 gf hw11
        refine RgD.done (by kernel_rfl) ?_ _
        clear hS0
        obtain ⟨g0,g1,gf⟩:=cells2 HM11.out
        by_cases he0 : er9=0
        ·have qe : (er9 != 0)=false:=by simp [he0]
         have HE9:=hI (HP9.out he0)
         clear he0
         go_wp2_with fail
         go_roundw
         case rel=>exact ⟨j + 1,by omega,by go_num,hI (by intro x hx;rw [HTK.out] at hx;rcases List.mem_append.1 hx with hx | hx;exact HQ.out x hx;rw [List.mem_singleton] at hx;subst hx;intro x l2 h;rw [HWN.out] at h;injection h with h1 h2;rw [← h1];exact HE9.out),HBY.out _ HS11.out⟩
         case measure=>simp [intOf];omega
        ·have qf : (er9 != 0)=true:=by simp [he0]
         have HN:=hI he0
         clear he0
         obtain ⟨r0,r1,rf⟩:=cells2 (HO1.out w11 (HBY.out _ HS11.out))
         obtain ⟨X,hX⟩ : ∃ X,(w11.setCell ⟨p1,0,none⟩ (.int .i64 er9)).setCell ⟨p1,1,none⟩ (.string (str s9))=X:=⟨_,rfl⟩
         have HX:=hI (show X.heap[p1]?=some (.cells #[.int .i64 er9,.string (str s9)] 125 (0,0)) by rw [← hX];exact set2 (HO1.out w11 (HBY.out _ HS11.out)))
         have HXB:=hI (show Below w.heap.size w X by rw [← hX];exact set2_below (HBZ2.out _ HS11.out) HPV.out)
         go_wp2_with ((with_reducible refine ret_w 6 p1 (.int .i64 er9) (.string (str s9)) ?_ ?_ ?_ ?_ ?_);exact HX.out;rfl;rfl;rfl;exact ⟨er9,s9,rfl,(fun h=>absurd h HN.out),HXB.out⟩)
      ·have qe : (er9 == 0)=false:=beq_eq_false_iff_ne.2 he0
       have qf : (er9 != 0)=true:=by simp [he0]
       have HN:=hI he0
       clear he0
       obtain ⟨r0,r1,rf⟩:=cells2 (HO1.out w11 (HBY.out _ HS11.out))
       obtain ⟨X,hX⟩ : ∃ X,(w11.setCell ⟨p1,0,none⟩ (.int .i64 er9)).setCell ⟨p1,1,none⟩ (.string (str s9))=X:=⟨_,rfl⟩
       have HX:=hI (show X.heap[p1]?=some (.cells #[.int .i64 er9,.string (str s9)] 125 (0,0)) by rw [← hX];exact set2 (HO1.out w11 (HBY.out _ HS11.out)))
       have HXB:=hI (show Below w.heap.size w X by rw [← hX];exact set2_below (HBZ2.out _ HS11.out) HPV.out)
       go_wp2_with ((with_reducible refine ret_w 6 p1 (.int .i64 er9) (.string (str s9)) ?_ ?_ ?_ ?_ ?_);exact HX.out;rfl;rfl;rfl;exact ⟨er9,s9,rfl,(fun h=>absurd h HN.out),HXB.out⟩)
     ·obtain ⟨w10,hw10⟩ : ∃ W,wx.drew.alloc (.cells #[.int .i64 0,.string ⟨#[]⟩] 125)=W:=⟨_,rfl⟩
      obtain ⟨m10,s10,b10⟩:=made hw10
      have hS10:=(hS0).trans (b10.mono (hS0).size)
      have HS10:=hI hS10
      have HM10:=hI (show w10.heap[wx.heap.size]?=_ from m10)
      have HQ10:=hI (show wx.heap.size≤wx.heap.size from (hS0).size)
      refine RgD.eff (i:=8) (t:=9) (v:=.pointer (some ⟨wx.heap.size,0,none⟩)) (w1:=w10) rfl rfl (by rfl) (by first | (go_simp;done) | (go_simp;exact ⟨rfl,hw10⟩) | (go_simp;rw [hw10];rfl) | (go_simp;exact hw10)) hS10 ?_
      simp only [zA,zB,zC]
      clear hw10
      refine RgD.one (i:=7) (by kernel_rfl) ?_
      refine RgD.call (i:=7) (t:=45) rfl rfl (by rfl) (by go_simp;exact ⟨rfl,rfl⟩) ?_
      refine (room_c t A1 oA nA n1 c1 oc nc ob fn a0 a1 a2 a3 a4 a5 a6 a7 a9 a10 a12 y.to w10 (HC.out.below (HBZ2.out _ (HS10.out)))).mono ?_
      rintro r w9 ⟨er9,s9,rfl,hp,hb⟩
      have HP9:=hI hp
      have hS9:=(HS10.out).trans (hb.mono (HS10.out).size)
      have HS9:=hI hS9
      have HM10:=hI ((hb.block _ (Array.getElem?_eq_some_iff.1 HM10.out).1).trans HM10.out)
      clear hb hp
      refine ⟨_,rfl,hS9,?_⟩
      simp only [zA,zB,zC]
      refine RgD.one (i:=9) (by kernel_rfl) ?_
      obtain ⟨g0,g1,gf⟩:=cells2 HM10.out
      have HM11:=hI (set2 (y0:=.int .i64 er9) (y1:=.string (str s9)) HM10.out)
      have HS11:=hI (set2_below (y0:=.int .i64 er9) (y1:=.string (str s9)) (HS9.out) HQ10.out)
      obtain ⟨w11,hw11⟩ : ∃ W,(w9.setCell ⟨wx.heap.size,0,none⟩ (.int .i64 er9)).setCell ⟨wx.heap.size,1,none⟩ (.string (str s9))=W:=⟨_,rfl⟩
      rw [hw11] at HM11 HS11
      refine RgD.storeS (i:=9) (w1:=w11) rfl rfl (by rfl) (by first | (go_simp;done) | (go_simp;exact hw11) | (go_simp;rw [hw11])) HS11.out ?_
      clear g0 g1 gf hw11
      refine RgD.done (by kernel_rfl) ?_ _
      clear hS0
      obtain ⟨g0,g1,gf⟩:=cells2 HM11.out
      obtain ⟨d0,d1,d2,d3⟩:=HD4.out _ HS11.out
      obtain ⟨gb,hgb⟩ : ∃ x,wx.heap.size=x:=⟨_,rfl⟩
      have HQ10:=hI (show wx.heap.size≤gb by rw [← hgb];exact HQ10.out)
      rw [hgb] at HM11 g0 g1 gf
      try rw [hgb]
      clear hgb HM10 HP9 HS9
      by_cases he0 : er9=0
      ·subst he0
       match hwhl : y.wh.l,HWH with
       | [],_=>
        have d3b : w11.cell? ⟨b,o + j * 4 + 3,none⟩=some (.slice y.wh.a 0 y.wh.c):=by rw [d3];unfold Sv.v;rw [hwhl];rfl
        clear d3
        have HWN:=hI hwhl
        clear hwhl
        go_wp2_with fail
        go_roundw
        case rel=>exact ⟨j + 1,by omega,by go_num,hI (by intro x hx;rw [HTK.out] at hx;rcases List.mem_append.1 hx with hx | hx;exact HQ.out x hx;rw [List.mem_singleton] at hx;subst hx;intro x l2 h;rw [HWN.out] at h;cases h),HBY.out _ HS11.out⟩
        case measure=>simp [intOf];omega
       | x :: l2,HWX=>
        clear d0 d1 d2 d3 g0 g1 gf
        obtain ⟨b3,o3,hA,hb3,hc3⟩:=Lg.at_ exE_len HWX.out.1 (show 0 < (x :: l2).length by simp)
        obtain ⟨nn,hnn⟩ : ∃ n,(x :: l2).length=n:=⟨_,rfl⟩
        have hn0 : 0 < nn:=by rw [← hnn];simp
        have hn1 : nn≤1048576:=by rw [← hnn,← hwhl];exact hwn
        have HD3:=hI (show ∀ U,Below wx.heap.size wx U→U.cell? ⟨b,o + j * 4 + 3,none⟩=some (.slice (some ⟨b3,o3,none⟩) nn y.wh.c) from fun U hU=>by rw [(HD4.out U hU).2.2.2];unfold Sv.v;rw [hwhl,hA,hnn])
        have HXE:=hI (show RdX top wj x∧nE x.p≤1048576 from ⟨HWX.out.1.2 _ (by simp),by have h:=HWX.out.2;simp only [exPs,nEs] at h;omega⟩)
        have HWN:=hI hwhl
        obtain ⟨ek,ep,en,es,eA,ec,el⟩:=x
        have HSc:=hI (show ∀ U,Below wx.heap.size wx U→(U.cell? ⟨b3,o3,none⟩=some (.int .i64 ek)∧U.cell? ⟨b3,o3 + 1,none⟩=some (.int .i64 ep)∧U.cell? ⟨b3,o3 + 2,none⟩=some (.int .i64 en)∧U.cell? ⟨b3,o3 + 3,none⟩=some (.string (str es))∧U.cell? ⟨b3,o3 + 4,none⟩=some (.slice eA el.length ec)) from fun U hU=>by
         have hW:=HBK.out.trans (hU.mono HBK.out.size)
         have h9 : ∀ j_ u,(exE (Ex.mk ek ep en es eA ec el))[j_]?=some u→U.cell? ⟨b3,o3 + j_,none⟩=some u:=fun j_ u hu=>(hW.cell (p:=⟨b3,_,none⟩) hb3).trans (by have h:=hc3 j_ u hu;simpa using h)
         exact ⟨h9 0 _ rfl,h9 1 _ rfl,h9 2 _ rfl,h9 3 _ rfl,h9 4 _ rfl⟩)
        clear hA hc3 hb3 hnn hwhl HWX
        obtain ⟨g0,g1,gf⟩:=cells2 HM11.out
        have d3b:=HD3.out _ HS11.out
        have HM10:=hI HM11.out
        go_upto_region 11 with fail
        clear d3b g0 g1 gf
        have hS0 : Below wx.heap.size wx w11.drew:=Below.drew HS11.out
        refine RgD.begin_ [] (fun U=>Below wx.heap.size wx U) (by kernel_rfl) hS0 (fun hHeld=>?_)
        refine tK 0 58 (h:=?_)
        simp only [zA,zB,zC]
        refine tK 1 59 (v:=.agg #[a0,a1,a2,a3,a4,a5,a6,a7,.slice oA ob.length oc,a9,a10,.slice nA fn.length nc,a12]) (hy:=by intro w0 hSw;obtain ⟨x0,x1,x2,x3,x4,x5,x6,x7,x8,x9,x10,x11,x12,xf⟩:=cellz13 (HO0.out _ (HBY.out _ hSw));first | (go_simp;done) | (go_simp;with_reducible rfl) | (go_simp;intro hc;exfalso;omega)) (h:=?_)
        simp only [zA,zB,zC]
        refine tK 2 60 (h:=?_)
        simp only [zA,zB,zC]
        refine tK 3 61 (h:=?_)
        simp only [zA,zB,zC]
        refine tK 4 62 (h:=?_)
        simp only [zA,zB,zC]
        refine tK 5 63 (h:=?_)
        simp only [zA,zB,zC]
        refine tK 6 64 (v:=.slice (some ⟨b3,o3,none⟩) nn y.wh.c) (hy:=by intro w0 hSw;have d3b:=HD3.out _ hSw;first | (go_simp;done) | (go_simp;with_reducible rfl) | (go_simp;intro hc;exfalso;omega)) (h:=?_)
        simp only [zA,zB,zC]
        refine tK 7 65 (h:=?_)
        simp only [zA,zB,zC]
        refine tK 8 66 (v:=.agg #[.int .i64 ek,.int .i64 ep,.int .i64 en,.string (str es),.slice eA el.length ec]) (hy:=by intro w0 hSw;obtain ⟨z0,z1,z2,z3,z4⟩:=HSc.out _ hSw;first | (go_simp;done) | (go_simp;with_reducible rfl) | (go_simp;intro hc;exfalso;omega)) (h:=?_)
        simp only [zA,zB,zC]
        refine RgD.one (i:=9) (by kernel_rfl) ?_
        refine RgD.call (i:=9) (t:=67) rfl rfl (by rfl) (by go_simp;exact ⟨rfl,rfl⟩) ?_
        refine (expr_c t [] A1 none nA n1 c1 0 0 nc fn a0 a1 a2 a3 a4 a5 a6 a7 (.slice oA ob.length oc) a9 a10 a12 (.mk ek ep en es eA ec el) w11.drew (HC.out.below (HBZ2.out _ (hS0))).cv (Sq.Rd.nil _ _) (by omega) (RdX.keep (Keep.below (HBK.out.trans ((hS0).mono HBK.out.size))) HXE.out.1) HXE.out.2).mono ?_
        rintro r w9 ⟨er9,s9,rfl,hp,hb⟩
        have HP9:=hI hp
        have hS9:=(hS0).trans (hb.mono (hS0).size)
        have HS9:=hI hS9
        have HM10:=hI ((hb.block _ (Array.getElem?_eq_some_iff.1 HM10.out).1).trans HM10.out)
        clear hb hp
        refine ⟨_,rfl,hS9,?_⟩
        simp only [zA,zB,zC]
        refine RgD.one (i:=10) (by kernel_rfl) ?_
        obtain ⟨g0,g1,gf⟩:=cells2 HM10.out
        have HM11:=hI (set2 (y0:=.int .i64 er9) (y1:=.string (str s9)) HM10.out)
        have HS11:=hI (set2_below (y0:=.int .i64 er9) (y1:=.string (str s9)) (HS9.out) HQ10.out)
        obtain ⟨w11,hw11⟩ : ∃ W,(w9.setCell ⟨gb,0,none⟩ (.int .i64 er9)).setCell ⟨gb,1,none⟩ (.string (str s9))=W:=⟨_,rfl⟩
        rw [hw11] at HM11 HS11
        refine RgD.storeS (i:=10) (w1:=w11) rfl rfl (by rfl) (by first | (go_simp;done) | (go_simp;exact hw11) | (go_simp;rw [hw11])) HS11.out ?_
        clear g0 g1 gf hw11
        refine RgD.done (by kernel_rfl) ?_ _
        clear hS0
        obtain ⟨g0,g1,gf⟩:=cells2 HM11.out
        by_cases he0 : er9=0
        ·have qe : (er9 != 0)=false:=by simp [he0]
         have HE9:=hI (HP9.out he0)
         clear he0
         go_wp2_with fail
         go_roundw
         case rel=>exact ⟨j + 1,by omega,by go_num,hI (by intro x hx;rw [HTK.out] at hx;rcases List.mem_append.1 hx with hx | hx;exact HQ.out x hx;rw [List.mem_singleton] at hx;subst hx;intro x l2 h;rw [HWN.out] at h;injection h with h1 h2;rw [← h1];exact HE9.out),HBY.out _ HS11.out⟩
         case measure=>simp [intOf];omega
        ·have qf : (er9 != 0)=true:=by simp [he0]
         have HN:=hI he0
         clear he0
         obtain ⟨r0,r1,rf⟩:=cells2 (HO1.out w11 (HBY.out _ HS11.out))
         obtain ⟨X,hX⟩ : ∃ X,(w11.setCell ⟨p1,0,none⟩ (.int .i64 er9)).setCell ⟨p1,1,none⟩ (.string (str s9))=X:=⟨_,rfl⟩
         have HX:=hI (show X.heap[p1]?=some (.cells #[.int .i64 er9,.string (str s9)] 125 (0,0)) by rw [← hX];exact set2 (HO1.out w11 (HBY.out _ HS11.out)))
         have HXB:=hI (show Below w.heap.size w X by rw [← hX];exact set2_below (HBZ2.out _ HS11.out) HPV.out)
         go_wp2_with ((with_reducible refine ret_w 6 p1 (.int .i64 er9) (.string (str s9)) ?_ ?_ ?_ ?_ ?_);exact HX.out;rfl;rfl;rfl;exact ⟨er9,s9,rfl,(fun h=>absurd h HN.out),HXB.out⟩)
      ·have qe : (er9 == 0)=false:=beq_eq_false_iff_ne.2 he0
       have qf : (er9 != 0)=true:=by simp [he0]
       have HN:=hI he0
       clear he0
       obtain ⟨r0,r1,rf⟩:=cells2 (HO1.out w11 (HBY.out _ HS11.out))
       obtain ⟨X,hX⟩ : ∃ X,(w11.setCell ⟨p1,0,none⟩ (.int .i64 er9)).setCell ⟨p1,1,none⟩ (.string (str s9))=X:=⟨_,rfl⟩
       have HX:=hI (show X.heap[p1]?=some (.cells #[.int .i64 er9,.string (str s9)] 125 (0,0)) by rw [← hX];exact set2 (HO1.out w11 (HBY.out _ HS11.out)))
       have HXB:=hI (show Below w.heap.size w X by rw [← hX];exact set2_below (HBZ2.out _ HS11.out) HPV.out)
       go_wp2_with ((with_reducible refine ret_w 6 p1 (.int .i64 er9) (.string (str s9)) ?_ ?_ ?_ ?_ ?_);exact HX.out;rfl;rfl;rfl;exact ⟨er9,s9,rfl,(fun h=>absurd h HN.out),HXB.out⟩)
  ·obtain rfl : m=j:=by omega
   have HTK:=hI (show l.take m=l from List.take_of_length_le (by rw [HM.out];exact Nat.le_refl _))
   go_wp2_with fail
   refine (fine_r wr).mono ?_
   rintro ee w5 ⟨rfl,hb⟩
   have HB5:=hI (HB.out.trans (hb.mono HB.out.size))
   clear hb
   obtain ⟨r0,r1,rf⟩:=cells2 (HO1.out w5 HB5.out)
   obtain ⟨X,hX⟩ : ∃ X,(w5.setCell ⟨p1,0,none⟩ (.int .i64 0)).setCell ⟨p1,1,none⟩ (.string ⟨#[]⟩)=X:=⟨_,rfl⟩
   have HX:=hI (show X.heap[p1]?=some (.cells #[.int .i64 0,.string ⟨#[]⟩] 125 (0,0)) by rw [← hX];exact set2 (HO1.out w5 HB5.out))
   have HXB:=hI (show Below w.heap.size w X by rw [← hX];exact set2_below (HBV.out.trans (HB5.out.mono HBV.out.size)) HPV.out)
   go_wp2_with ((with_reducible refine ret_w 6 p1 (.int .i64 0) (.string ⟨#[]⟩) ?_ ?_ ?_ ?_ ?_);exact HX.out;rfl;rfl;rfl;exact ⟨0,[],rfl,(fun _=>by have h:=HQ.out;rw [HTK.out] at h;rw [HCX.out];exact h),HXB.out⟩)
end Go.Proofs.YteibcfpepdbflaaGreat.CkG
