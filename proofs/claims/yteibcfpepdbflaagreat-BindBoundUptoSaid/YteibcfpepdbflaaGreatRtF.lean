/- clewref14.object, Right: some truth value, without a panic; true: what a right source says. Conditions: the source is of bulk at most 1048576. -/
import Derived.Test.YteibcfpepdbflaaGreatRtE
open Go.Lib renaming hid → hI
namespace Go.Proofs.YteibcfpepdbflaaGreat.RtF
open Go Go.RowKit BindP BindD BindO BindW BindG BindX BindB BindT RtS RtX RtY RtZ RtB RtC RtD RtE BindU TxA
open Byt (str)
def XtP (x : Xt) : Prop:=1≤x.dir∧x.dir≤12∧x.to ≠ []∧WhenP (exPs x.wh.l)
def ObP (o : Ob) : Prop:=o.nm ≠ []∧NamesP 16 o.fl.l∧PairsP 16 o.pr.l∧o.xt.l.length≤12∧(o.inn=[]∨o.room=false)∧(o.room=false→o.xt.l.length=0)∧∀ x ∈ o.xt.l,XtP x
set_option maxRecDepth 100000 in
set_option maxHeartbeats 8000000 in
theorem object_o (o : Ob) (w : World) (hr : Ob.R top w o) (hz : Ob.m o≤1048576) : Calls Tryz.prog 50 #[.agg (Ob.e o).toArray] w (SomeX (ObP o) w):=by
 obtain ⟨onm,oti,oin,otx,orm,⟨a1,c1_,l1⟩,⟨a2,c2_,l2⟩,⟨a3,c3_,l3⟩,⟨a4,c4_,l4⟩,⟨xA,xc,xl⟩⟩:=o
 have HS:=hI (show ((str onm).size≤4194304∧(str oti).size≤4194304∧(str oin).size≤4194304∧(str otx).size≤4194304)∧((l1.map fun x=>x.length + 1).sum≤1048576∧(l2.map fun x=>x.length + 1).sum≤1048576∧(l3.map fun x=>x.length + 1).sum≤1048576)∧(l4.map Pr.m).sum≤1048576∧(xl.map Xt.m).sum≤1048576 by
  have h:=hz
  have e : Ob.m ⟨onm,oti,oin,otx,orm,⟨a1,c1_,l1⟩,⟨a2,c2_,l2⟩,⟨a3,c3_,l3⟩,⟨a4,c4_,l4⟩,⟨xA,xc,xl⟩⟩=(onm.length + 1) + (oti.length + 1) + (oin.length + 1) + (otx.length + 1) + 1 + ((l1.map fun x=>x.length + 1).sum + 1) + ((l2.map fun x=>x.length + 1).sum + 1) + ((l3.map fun x=>x.length + 1).sum + 1) + ((l4.map Pr.m).sum + 1) + ((xl.map Xt.m).sum + 1):=rfl
  rw [e] at h
  exact ⟨⟨str_len (by omega),str_len (by omega),str_len (by omega),str_len (by omega)⟩,⟨by omega,by omega,by omega⟩,by omega,by omega⟩)
 have hxl : xl.length≤1048576:=Nat.le_trans (sum_len (m:=Xt.m) (fun _=>by unfold Xt.m;omega) xl) HS.out.2.2.2
 obtain ⟨w1,hw1⟩ : ∃ W,w.alloc (.cells #[.string (str onm),.string (str oti),.string (str oin),.string (str otx),.bool orm,.slice a1 l1.length c1_,.slice a2 l2.length c2_,.slice a3 l3.length c3_,.slice a4 l4.length c4_,.slice xA xl.length xc] 63)=W:=⟨_,rfl⟩
 have HBX:=hI (show Bz w #[.string (str onm),.string (str oti),.string (str oin),.string (str otx),.bool orm,.slice a1 l1.length c1_,.slice a2 l2.length c2_,.slice a3 l3.length c3_,.slice a4 l4.length c4_,.slice xA xl.length xc] 63 w1 by rw [← hw1];exact Bz.new _ _ _)
 have HR:=hI (show Ob.R top w1 ⟨onm,oti,oin,otx,orm,⟨a1,c1_,l1⟩,⟨a2,c2_,l2⟩,⟨a3,c3_,l3⟩,⟨a4,c4_,l4⟩,⟨xA,xc,xl⟩⟩ from Ob.stays _ _ _ _ _ (Keep.below HBX.out.low) hr)
 have HRX0:=hI hr.2.2.2.2
 clear hr hz
 show Calls Tryz.prog 50 #[.agg #[.string (str onm),.string (str oti),.string (str oin),.string (str otx),.bool orm,.slice a1 l1.length c1_,.slice a2 l2.length c2_,.slice a3 l3.length c3_,.slice a4 l4.length c4_,.slice xA xl.length xc]] w _
 go_enter Tryz.func50,Tryz.ntmps50
 obtain ⟨x0,x1,x2,x3,x4,x5,x6,x7,x8,x9,xf⟩:=cellz10 HBX.out.box
 go_wp2_with fail
 refine (name14_o _ HS.out.1.1 _).mono ?_
 rintro e w9 ⟨b1,rfl,hp,rfl⟩
 have HP1:=hI hp
 clear hp
 cases b1
 ·go_wp2_with fail
  go_ret
  exact ⟨_,rfl,(fun h=>absurd h (by decide)),HBX.out.low⟩
 go_wp2_with fail
 refine (isText_o _ HS.out.1.2.1 _).mono ?_
 rintro e w9 ⟨b1,rfl,rfl⟩
 cases b1
 ·go_wp2_with fail
  go_ret
  exact ⟨_,rfl,(fun h=>absurd h (by decide)),HBX.out.low⟩
 go_wp2_with fail
 refine (isText_o _ HS.out.1.2.2.2 _).mono ?_
 rintro e w9 ⟨b1,rfl,rfl⟩
 cases b1
 ·go_wp2_with fail
  go_ret
  exact ⟨_,rfl,(fun h=>absurd h (by decide)),HBX.out.low⟩
 go_wp2_with fail
 refine (texts_o l1 a1 c1_ 8 w1 HR.out.1 HS.out.2.1.1).mono ?_
 rintro e w9 ⟨b1,rfl,hp,rfl⟩
 have HPa:=hI hp
 clear hp
 cases b1
 ·go_wp2_with fail
  go_ret
  exact ⟨_,rfl,(fun h=>absurd h (by decide)),HBX.out.low⟩
 go_wp2_with fail
 refine (texts_o l2 a2 c2_ 8 w1 HR.out.2.1 HS.out.2.1.2.1).mono ?_
 rintro e w9 ⟨b1,rfl,hp,rfl⟩
 have HPb:=hI hp
 clear hp
 cases b1
 ·go_wp2_with fail
  go_ret
  exact ⟨_,rfl,(fun h=>absurd h (by decide)),HBX.out.low⟩
 go_wp2_with fail
 refine (names_o l3 a3 c3_ 16 w1 HR.out.2.2.1 HS.out.2.1.2.2).mono ?_
 rintro e w9 ⟨b1,rfl,hp,rfl⟩
 have HP2:=hI hp
 clear hp
 cases b1
 ·go_wp2_with fail
  go_ret
  exact ⟨_,rfl,(fun h=>absurd h (by decide)),HBX.out.low⟩
 go_wp2_with fail
 refine (pairs_o l4 a4 c4_ 16 w1 HR.out.2.2.2.1 HS.out.2.2.1).mono ?_
 rintro e w9 ⟨b1,rfl,hp,rfl⟩
 have HP3:=hI hp
 clear hp
 cases b1
 ·go_wp2_with fail
  go_ret
  exact ⟨_,rfl,(fun h=>absurd h (by decide)),HBX.out.low⟩
 by_cases h12 : 12 < xl.length
 ·have q : decide ((12 : Int) < (xl.length : Int))=true:=decide_eq_true (by omega)
  clear h12
  go_wp2_with fail
  go_ret
  exact ⟨_,rfl,(fun h=>absurd h (by decide)),HBX.out.low⟩
 have qh12 : decide ((12 : Int) < (xl.length : Int))=false:=decide_eq_false (by omega)
 have Hh12:=hI h12
 clear h12
 by_cases he : oin=[]
 ·have qe:=emp_q (s:=oin) (b:=true) (by simpa using he)
  have HE:=hI he
  clear he
  have HRW:=hI (show Lg Xt.e Xt.R top w xA xc xl from HRX0.out)
  cases orm with
  | true=>
   go_wp2_with fail
   go_loopw [3] (fun iv wr=>∃ j : Nat,j≤xl.length∧iv=.int .i64 (j : Int)∧Hid (∀ x ∈ xl.take j,XtP x)∧Bz w #[.string (str onm),.string (str oti),.string (str oin),.string (str otx),.bool true,.slice a1 l1.length c1_,.slice a2 l2.length c2_,.slice a3 l3.length c3_,.slice a4 l4.length c4_,.slice xA xl.length xc] 63 wr) (fun iv _=>xl.length - (intOf iv).toNat)
   case atStart=>exact ⟨0,Nat.zero_le _,rfl,hI (by simp),HBX.out⟩
   case round=>
    clear x0 x1 x2 x3 x4 x5 x6 x7 x8 x9 xf
    obtain ⟨j,hj,rfl,HT,hz⟩:=hrel
    have HZ:=hI hz
    have HB:=hI hz.low
    obtain ⟨x0,x1,x2,x3,x4,x5,x6,x7,x8,x9,xf⟩:=cellz10 hz.box
    clear hz
    by_cases hlt : j < xl.length
    ·have HXR:=hI (show Lg Xt.e Xt.R top wr xA xc xl from Lg.keep Xt.stays (Keep.below HB.out) HRW.out)
     obtain ⟨b2,o2,rfl,hb2,hc⟩:=Lg.at_ Xt.len HXR.out hlt
     have hmem : xl[j] ∈ xl:=List.getElem_mem hlt
     obtain ⟨⟨xd,xto,xel,⟨hA,hc_,hl⟩⟩,hy⟩ : ∃ y,xl[j]=y:=⟨_,rfl⟩
     have HTK:=hI (show xl.take (j + 1)=xl.take j ++ [⟨xd,xto,xel,⟨hA,hc_,hl⟩⟩] by rw [List.take_succ_eq_append_getElem hlt,hy])
     rw [hy] at hc hmem
     have HRX:=hI (show Lx top wr hA hc_ hl from HXR.out.2 _ hmem)
     have HXS:=hI (show (str xto).size≤4194304∧(str xel).size≤4194304∧nEs (exPs hl)≤1048576 by
      have h1:=sum_mem (m:=Xt.m) xl _ hmem
      have h2:=HS.out.2.2.2
      have e : Xt.m ⟨xd,xto,xel,⟨hA,hc_,hl⟩⟩=1 + (xto.length + 1) + (xel.length + 1) + (nEs (exPs hl) + 1):=rfl
      rw [e] at h1
      exact ⟨str_len (by omega),str_len (by omega),by omega⟩)
     have d0 : wr.cell? ⟨b2,o2 + j * 4,none⟩=some (.int .i64 xd):=hc 0 _ rfl
     have d1 : wr.cell? ⟨b2,o2 + j * 4 + 1,none⟩=some (.string (str xto)):=hc 1 _ rfl
     have d2 : wr.cell? ⟨b2,o2 + j * 4 + 2,none⟩=some (.string (str xel)):=hc 2 _ rfl
     have d3 : wr.cell? ⟨b2,o2 + j * 4 + 3,none⟩=some (.slice hA hl.length hc_):=hc 3 _ rfl
     have k2 : (0 : Int)≤(j : Int):=by omega
     have k3 : (j : Int) < (xl.length : Int):=by omega
     obtain ⟨wb,hwb⟩ : ∃ W1,wr.alloc (.cells #[.int .i64 xd,.string (str xto),.string (str xel),.slice hA hl.length hc_] 106)=W1:=⟨_,rfl⟩
     obtain ⟨mb,sb,bb⟩:=made hwb
     have HZB:=hI (HZ.out.on bb)
     have HRY:=hI (Lg.below stays_x bb HRX.out)
     obtain ⟨pd,hpd⟩ : ∃ q,wr.heap.size=q:=⟨_,rfl⟩
     rw [hpd] at mb
     obtain ⟨y0,y1,y2,y3,yf⟩:=cellz4 mb
     clear hc hmem hy mb sb bb
     by_cases hd1 : xd < 1
     ·have q : decide (xd < (1 : Int))=true:=decide_eq_true (by omega)
      clear hd1
      go_wp2_with fail
      go_ret
      exact ⟨_,rfl,(fun h=>absurd h (by decide)),HZB.out.low⟩
     have qhd1 : decide (xd < (1 : Int))=false:=decide_eq_false (by omega)
     have Hhd1:=hI hd1
     clear hd1
     by_cases hd2 : 12 < xd
     ·have q : decide ((12 : Int) < xd)=true:=decide_eq_true (by omega)
      clear hd2
      go_wp2_with fail
      go_ret
      exact ⟨_,rfl,(fun h=>absurd h (by decide)),HZB.out.low⟩
     have qhd2 : decide ((12 : Int) < xd)=false:=decide_eq_false (by omega)
     have Hhd2:=hI hd2
     clear hd2
     go_wp2_with fail
     refine (name14_o _ HXS.out.1 _).mono ?_
     rintro e w9 ⟨b1,rfl,hp,rfl⟩
     have HPt:=hI hp
     clear hp
     cases b1
     ·go_wp2_with fail
      go_ret
      exact ⟨_,rfl,(fun h=>absurd h (by decide)),HZB.out.low⟩
     go_wp2_with fail
     refine (isText_o _ HXS.out.2.1 _).mono ?_
     rintro e w9 ⟨b1,rfl,rfl⟩
     cases b1
     ·go_wp2_with fail
      go_ret
      exact ⟨_,rfl,(fun h=>absurd h (by decide)),HZB.out.low⟩
     go_wp2_with fail
     refine (when_o hl hA hc_ wb HRY.out HXS.out.2.2).mono ?_
     rintro e w9 ⟨b1,rfl,hp,hb⟩
     have HPw:=hI hp
     have HZC:=hI (HZB.out.on hb)
     clear hp hb x0 x1 x2 x3 x4 x5 x6 x7 x8 x9 xf y0 y1 y2 y3 yf
     cases b1
     ·go_wp2_with fail
      go_ret
      exact ⟨_,rfl,(fun h=>absurd h (by decide)),HZC.out.low⟩
     go_wp2_with fail
     go_roundw
     case rel=>exact ⟨j + 1,by omega,by go_num,hI (by
      intro s hs
      rw [HTK.out] at hs
      rcases List.mem_append.1 hs with hs | hs
      ·exact HT.out s hs
      ·rw [List.mem_singleton] at hs;rw [hs];exact ⟨by have:=Hhd1.out;simp only [];omega,by have:=Hhd2.out;simp only [];omega,pos_ne (HPt.out (by trivial)),HPw.out (by trivial)⟩),HZC.out⟩
     case measure=>simp [intOf];omega
    ·obtain rfl : j=xl.length:=by omega
     have HTK:=hI (show xl.take xl.length=xl from List.take_length ..)
     go_wp2_with fail
     go_ret
     exact ⟨_,rfl,(fun _=>⟨pos_ne (HP1.out (by trivial)),HP2.out (by trivial),HP3.out (by trivial),by have:=Hh12.out;simp only [];omega,.inl HE.out,(fun h=>absurd (show true=false from h) (by decide)),by have h:=HT.out;rw [HTK.out] at h;exact h⟩),HB.out⟩
  | false=>
   by_cases hx0 : 0 < xl.length
   ·have q : decide (0 < xl.length)=true:=decide_eq_true hx0
    have q9 : decide ((0 : Int) < (xl.length : Int))=true:=decide_eq_true (by omega)
    clear hx0
    go_wp2_with fail
    go_ret
    exact ⟨_,rfl,(fun h=>absurd h (by decide)),HBX.out.low⟩
   have qx : decide (0 < xl.length)=false:=decide_eq_false hx0
   have qx2 : decide ((0 : Int) < (xl.length : Int))=false:=decide_eq_false (by omega)
   have HX0:=hI hx0
   clear hx0
   go_wp2_with fail
   go_loopw [3] (fun iv wr=>∃ j : Nat,j≤xl.length∧iv=.int .i64 (j : Int)∧Hid (∀ x ∈ xl.take j,XtP x)∧Bz w #[.string (str onm),.string (str oti),.string (str oin),.string (str otx),.bool false,.slice a1 l1.length c1_,.slice a2 l2.length c2_,.slice a3 l3.length c3_,.slice a4 l4.length c4_,.slice xA xl.length xc] 63 wr) (fun iv _=>xl.length - (intOf iv).toNat)
   case atStart=>exact ⟨0,Nat.zero_le _,rfl,hI (by simp),HBX.out⟩
   case round=>
    clear x0 x1 x2 x3 x4 x5 x6 x7 x8 x9 xf
    obtain ⟨j,hj,rfl,HT,hz⟩:=hrel
    have HZ:=hI hz
    have HB:=hI hz.low
    obtain ⟨x0,x1,x2,x3,x4,x5,x6,x7,x8,x9,xf⟩:=cellz10 hz.box
    clear hz
    by_cases hlt : j < xl.length
    ·have HXR:=hI (show Lg Xt.e Xt.R top wr xA xc xl from Lg.keep Xt.stays (Keep.below HB.out) HRW.out)
     obtain ⟨b2,o2,rfl,hb2,hc⟩:=Lg.at_ Xt.len HXR.out hlt
     have hmem : xl[j] ∈ xl:=List.getElem_mem hlt
     obtain ⟨⟨xd,xto,xel,⟨hA,hc_,hl⟩⟩,hy⟩ : ∃ y,xl[j]=y:=⟨_,rfl⟩
     have HTK:=hI (show xl.take (j + 1)=xl.take j ++ [⟨xd,xto,xel,⟨hA,hc_,hl⟩⟩] by rw [List.take_succ_eq_append_getElem hlt,hy])
     rw [hy] at hc hmem
     have HRX:=hI (show Lx top wr hA hc_ hl from HXR.out.2 _ hmem)
     have HXS:=hI (show (str xto).size≤4194304∧(str xel).size≤4194304∧nEs (exPs hl)≤1048576 by
      have h1:=sum_mem (m:=Xt.m) xl _ hmem
      have h2:=HS.out.2.2.2
      have e : Xt.m ⟨xd,xto,xel,⟨hA,hc_,hl⟩⟩=1 + (xto.length + 1) + (xel.length + 1) + (nEs (exPs hl) + 1):=rfl
      rw [e] at h1
      exact ⟨str_len (by omega),str_len (by omega),by omega⟩)
     have d0 : wr.cell? ⟨b2,o2 + j * 4,none⟩=some (.int .i64 xd):=hc 0 _ rfl
     have d1 : wr.cell? ⟨b2,o2 + j * 4 + 1,none⟩=some (.string (str xto)):=hc 1 _ rfl
     have d2 : wr.cell? ⟨b2,o2 + j * 4 + 2,none⟩=some (.string (str xel)):=hc 2 _ rfl
     have d3 : wr.cell? ⟨b2,o2 + j * 4 + 3,none⟩=some (.slice hA hl.length hc_):=hc 3 _ rfl
     have k2 : (0 : Int)≤(j : Int):=by omega
     have k3 : (j : Int) < (xl.length : Int):=by omega
     obtain ⟨wb,hwb⟩ : ∃ W1,wr.alloc (.cells #[.int .i64 xd,.string (str xto),.string (str xel),.slice hA hl.length hc_] 106)=W1:=⟨_,rfl⟩
     obtain ⟨mb,sb,bb⟩:=made hwb
     have HZB:=hI (HZ.out.on bb)
     have HRY:=hI (Lg.below stays_x bb HRX.out)
     obtain ⟨pd,hpd⟩ : ∃ q,wr.heap.size=q:=⟨_,rfl⟩
     rw [hpd] at mb
     obtain ⟨y0,y1,y2,y3,yf⟩:=cellz4 mb
     clear hc hmem hy mb sb bb
     by_cases hd1 : xd < 1
     ·have q : decide (xd < (1 : Int))=true:=decide_eq_true (by omega)
      clear hd1
      go_wp2_with fail
      go_ret
      exact ⟨_,rfl,(fun h=>absurd h (by decide)),HZB.out.low⟩
     have qhd1 : decide (xd < (1 : Int))=false:=decide_eq_false (by omega)
     have Hhd1:=hI hd1
     clear hd1
     by_cases hd2 : 12 < xd
     ·have q : decide ((12 : Int) < xd)=true:=decide_eq_true (by omega)
      clear hd2
      go_wp2_with fail
      go_ret
      exact ⟨_,rfl,(fun h=>absurd h (by decide)),HZB.out.low⟩
     have qhd2 : decide ((12 : Int) < xd)=false:=decide_eq_false (by omega)
     have Hhd2:=hI hd2
     clear hd2
     go_wp2_with fail
     refine (name14_o _ HXS.out.1 _).mono ?_
     rintro e w9 ⟨b1,rfl,hp,rfl⟩
     have HPt:=hI hp
     clear hp
     cases b1
     ·go_wp2_with fail
      go_ret
      exact ⟨_,rfl,(fun h=>absurd h (by decide)),HZB.out.low⟩
     go_wp2_with fail
     refine (isText_o _ HXS.out.2.1 _).mono ?_
     rintro e w9 ⟨b1,rfl,rfl⟩
     cases b1
     ·go_wp2_with fail
      go_ret
      exact ⟨_,rfl,(fun h=>absurd h (by decide)),HZB.out.low⟩
     go_wp2_with fail
     refine (when_o hl hA hc_ wb HRY.out HXS.out.2.2).mono ?_
     rintro e w9 ⟨b1,rfl,hp,hb⟩
     have HPw:=hI hp
     have HZC:=hI (HZB.out.on hb)
     clear hp hb x0 x1 x2 x3 x4 x5 x6 x7 x8 x9 xf y0 y1 y2 y3 yf
     cases b1
     ·go_wp2_with fail
      go_ret
      exact ⟨_,rfl,(fun h=>absurd h (by decide)),HZC.out.low⟩
     go_wp2_with fail
     go_roundw
     case rel=>exact ⟨j + 1,by omega,by go_num,hI (by
      intro s hs
      rw [HTK.out] at hs
      rcases List.mem_append.1 hs with hs | hs
      ·exact HT.out s hs
      ·rw [List.mem_singleton] at hs;rw [hs];exact ⟨by have:=Hhd1.out;simp only [];omega,by have:=Hhd2.out;simp only [];omega,pos_ne (HPt.out (by trivial)),HPw.out (by trivial)⟩),HZC.out⟩
     case measure=>simp [intOf];omega
    ·obtain rfl : j=xl.length:=by omega
     have HTK:=hI (show xl.take xl.length=xl from List.take_length ..)
     go_wp2_with fail
     go_ret
     exact ⟨_,rfl,(fun _=>⟨pos_ne (HP1.out (by trivial)),HP2.out (by trivial),HP3.out (by trivial),by have:=Hh12.out;simp only [];omega,.inl HE.out,(fun _=>by have:=HX0.out;simp only [];omega),by have h:=HT.out;rw [HTK.out] at h;exact h⟩),HB.out⟩
 ·have qe:=emp_q (s:=oin) (b:=false) (by simpa using he)
  clear he
  cases orm with
  | true=>
   go_wp2_with fail
   go_ret
   exact ⟨_,rfl,(fun h=>absurd h (by decide)),HBX.out.low⟩
  | false=>
   go_wp2_with fail
   refine (name14_o _ HS.out.1.2.2.1 _).mono ?_
   rintro e w9 ⟨b1,rfl,hp,rfl⟩
   have HPi:=hI hp
   clear hp
   cases b1
   ·go_wp2_with fail
    go_ret
    exact ⟨_,rfl,(fun h=>absurd h (by decide)),HBX.out.low⟩
   have HRW:=hI (show Lg Xt.e Xt.R top w xA xc xl from HRX0.out)
   by_cases hx0 : 0 < xl.length
   ·have q : decide (0 < xl.length)=true:=decide_eq_true hx0
    have q9 : decide ((0 : Int) < (xl.length : Int))=true:=decide_eq_true (by omega)
    clear hx0
    go_wp2_with fail
    go_ret
    exact ⟨_,rfl,(fun h=>absurd h (by decide)),HBX.out.low⟩
   have qx : decide (0 < xl.length)=false:=decide_eq_false hx0
   have qx2 : decide ((0 : Int) < (xl.length : Int))=false:=decide_eq_false (by omega)
   have HX0:=hI hx0
   clear hx0
   go_wp2_with fail
   go_loopw [3] (fun iv wr=>∃ j : Nat,j≤xl.length∧iv=.int .i64 (j : Int)∧Hid (∀ x ∈ xl.take j,XtP x)∧Bz w #[.string (str onm),.string (str oti),.string (str oin),.string (str otx),.bool false,.slice a1 l1.length c1_,.slice a2 l2.length c2_,.slice a3 l3.length c3_,.slice a4 l4.length c4_,.slice xA xl.length xc] 63 wr) (fun iv _=>xl.length - (intOf iv).toNat)
   case atStart=>exact ⟨0,Nat.zero_le _,rfl,hI (by simp),HBX.out⟩
   case round=>
    clear x0 x1 x2 x3 x4 x5 x6 x7 x8 x9 xf
    obtain ⟨j,hj,rfl,HT,hz⟩:=hrel
    have HZ:=hI hz
    have HB:=hI hz.low
    obtain ⟨x0,x1,x2,x3,x4,x5,x6,x7,x8,x9,xf⟩:=cellz10 hz.box
    clear hz
    by_cases hlt : j < xl.length
    ·have HXR:=hI (show Lg Xt.e Xt.R top wr xA xc xl from Lg.keep Xt.stays (Keep.below HB.out) HRW.out)
     obtain ⟨b2,o2,rfl,hb2,hc⟩:=Lg.at_ Xt.len HXR.out hlt
     have hmem : xl[j] ∈ xl:=List.getElem_mem hlt
     obtain ⟨⟨xd,xto,xel,⟨hA,hc_,hl⟩⟩,hy⟩ : ∃ y,xl[j]=y:=⟨_,rfl⟩
     have HTK:=hI (show xl.take (j + 1)=xl.take j ++ [⟨xd,xto,xel,⟨hA,hc_,hl⟩⟩] by rw [List.take_succ_eq_append_getElem hlt,hy])
     rw [hy] at hc hmem
     have HRX:=hI (show Lx top wr hA hc_ hl from HXR.out.2 _ hmem)
     have HXS:=hI (show (str xto).size≤4194304∧(str xel).size≤4194304∧nEs (exPs hl)≤1048576 by
      have h1:=sum_mem (m:=Xt.m) xl _ hmem
      have h2:=HS.out.2.2.2
      have e : Xt.m ⟨xd,xto,xel,⟨hA,hc_,hl⟩⟩=1 + (xto.length + 1) + (xel.length + 1) + (nEs (exPs hl) + 1):=rfl
      rw [e] at h1
      exact ⟨str_len (by omega),str_len (by omega),by omega⟩)
     have d0 : wr.cell? ⟨b2,o2 + j * 4,none⟩=some (.int .i64 xd):=hc 0 _ rfl
     have d1 : wr.cell? ⟨b2,o2 + j * 4 + 1,none⟩=some (.string (str xto)):=hc 1 _ rfl
     have d2 : wr.cell? ⟨b2,o2 + j * 4 + 2,none⟩=some (.string (str xel)):=hc 2 _ rfl
     have d3 : wr.cell? ⟨b2,o2 + j * 4 + 3,none⟩=some (.slice hA hl.length hc_):=hc 3 _ rfl
     have k2 : (0 : Int)≤(j : Int):=by omega
     have k3 : (j : Int) < (xl.length : Int):=by omega
     obtain ⟨wb,hwb⟩ : ∃ W1,wr.alloc (.cells #[.int .i64 xd,.string (str xto),.string (str xel),.slice hA hl.length hc_] 106)=W1:=⟨_,rfl⟩
     obtain ⟨mb,sb,bb⟩:=made hwb
     have HZB:=hI (HZ.out.on bb)
     have HRY:=hI (Lg.below stays_x bb HRX.out)
     obtain ⟨pd,hpd⟩ : ∃ q,wr.heap.size=q:=⟨_,rfl⟩
     rw [hpd] at mb
     obtain ⟨y0,y1,y2,y3,yf⟩:=cellz4 mb
     clear hc hmem hy mb sb bb
     by_cases hd1 : xd < 1
     ·have q : decide (xd < (1 : Int))=true:=decide_eq_true (by omega)
      clear hd1
      go_wp2_with fail
      go_ret
      exact ⟨_,rfl,(fun h=>absurd h (by decide)),HZB.out.low⟩
     have qhd1 : decide (xd < (1 : Int))=false:=decide_eq_false (by omega)
     have Hhd1:=hI hd1
     clear hd1
     by_cases hd2 : 12 < xd
     ·have q : decide ((12 : Int) < xd)=true:=decide_eq_true (by omega)
      clear hd2
      go_wp2_with fail
      go_ret
      exact ⟨_,rfl,(fun h=>absurd h (by decide)),HZB.out.low⟩
     have qhd2 : decide ((12 : Int) < xd)=false:=decide_eq_false (by omega)
     have Hhd2:=hI hd2
     clear hd2
     go_wp2_with fail
     refine (name14_o _ HXS.out.1 _).mono ?_
     rintro e w9 ⟨b1,rfl,hp,rfl⟩
     have HPt:=hI hp
     clear hp
     cases b1
     ·go_wp2_with fail
      go_ret
      exact ⟨_,rfl,(fun h=>absurd h (by decide)),HZB.out.low⟩
     go_wp2_with fail
     refine (isText_o _ HXS.out.2.1 _).mono ?_
     rintro e w9 ⟨b1,rfl,rfl⟩
     cases b1
     ·go_wp2_with fail
      go_ret
      exact ⟨_,rfl,(fun h=>absurd h (by decide)),HZB.out.low⟩
     go_wp2_with fail
     refine (when_o hl hA hc_ wb HRY.out HXS.out.2.2).mono ?_
     rintro e w9 ⟨b1,rfl,hp,hb⟩
     have HPw:=hI hp
     have HZC:=hI (HZB.out.on hb)
     clear hp hb x0 x1 x2 x3 x4 x5 x6 x7 x8 x9 xf y0 y1 y2 y3 yf
     cases b1
     ·go_wp2_with fail
      go_ret
      exact ⟨_,rfl,(fun h=>absurd h (by decide)),HZC.out.low⟩
     go_wp2_with fail
     go_roundw
     case rel=>exact ⟨j + 1,by omega,by go_num,hI (by
      intro s hs
      rw [HTK.out] at hs
      rcases List.mem_append.1 hs with hs | hs
      ·exact HT.out s hs
      ·rw [List.mem_singleton] at hs;rw [hs];exact ⟨by have:=Hhd1.out;simp only [];omega,by have:=Hhd2.out;simp only [];omega,pos_ne (HPt.out (by trivial)),HPw.out (by trivial)⟩),HZC.out⟩
     case measure=>simp [intOf];omega
    ·obtain rfl : j=xl.length:=by omega
     have HTK:=hI (show xl.take xl.length=xl from List.take_length ..)
     go_wp2_with fail
     go_ret
     exact ⟨_,rfl,(fun _=>⟨pos_ne (HP1.out (by trivial)),HP2.out (by trivial),HP3.out (by trivial),by have:=Hh12.out;simp only [];omega,.inr rfl,(fun _=>by have:=HX0.out;simp only [];omega),by have h:=HT.out;rw [HTK.out] at h;exact h⟩),HB.out⟩
def SoP (s : So) : Prop:=s.st ≠ []∧NamesP 16 s.fl.l∧PairsP 16 s.pr.l∧PairsP 64 s.gl.l∧s.ob.l.length≤126∧s.vb.l.length≤64∧s.ru.l.length≤512∧FuncsP 64 8 s.fn.l∧FuncsP 16 0 s.dm.l∧(∀ o ∈ s.ob.l,ObP o)∧(∀ v ∈ s.vb.l,v.nm ≠ [])∧(∀ r ∈ s.ru.l,RlP r)∧0≤s.re∧s.re≤32767∧0≤s.mx∧s.mx≤32767
set_option maxRecDepth 100000 in
set_option maxHeartbeats 8000000 in
theorem right_s (t : So) (w : World) (hr : So.R top w t) (hz : So.m t≤1048576) : Calls Tryz.prog 14 #[.agg (So.e t).toArray] w (SomeX (SoP t) w):=by
 obtain ⟨ti,by_,st,re,mx,⟨fA,fc,fl⟩,⟨pA,pc,pr⟩,⟨gA,gc,gl⟩,⟨oA,oc,ob⟩,⟨vA,vc,vb⟩,⟨rA,rc,ru⟩,⟨nA,nc,fn⟩,⟨dA,dc,dm⟩⟩:=t
 have HS:=hI (show ((str ti).size≤4194304∧(str by_).size≤4194304∧(str st).size≤4194304)∧(fl.map fun x=>x.length + 1).sum≤1048576∧(pr.map Pr.m).sum≤1048576∧(gl.map Pr.m).sum≤1048576∧(ob.map Ob.m).sum≤1048576∧(vb.map Vb.m).sum≤1048576∧(ru.map Rl.m).sum≤1048576∧(fn.map BindO.Fn.m).sum≤1048576∧(dm.map BindO.Fn.m).sum≤1048576 by
  have h:=hz
  have e : So.m ⟨ti,by_,st,re,mx,⟨fA,fc,fl⟩,⟨pA,pc,pr⟩,⟨gA,gc,gl⟩,⟨oA,oc,ob⟩,⟨vA,vc,vb⟩,⟨rA,rc,ru⟩,⟨nA,nc,fn⟩,⟨dA,dc,dm⟩⟩=(ti.length + 1) + (by_.length + 1) + (st.length + 1) + 1 + 1 + ((fl.map fun x=>x.length + 1).sum + 1) + ((pr.map Pr.m).sum + 1) + ((gl.map Pr.m).sum + 1) + ((ob.map Ob.m).sum + 1) + ((vb.map Vb.m).sum + 1) + ((ru.map Rl.m).sum + 1) + ((fn.map BindO.Fn.m).sum + 1) + ((dm.map BindO.Fn.m).sum + 1):=rfl
  rw [e] at h
  exact ⟨⟨str_len (by omega),str_len (by omega),str_len (by omega)⟩,by omega,by omega,by omega,by omega,by omega,by omega,by omega,by omega⟩)
 have hob : ob.length≤1048576:=Nat.le_trans (sum_len (m:=Ob.m) (fun _=>by unfold Ob.m;omega) ob) HS.out.2.2.2.2.1
 have hvb : vb.length≤1048576:=Nat.le_trans (sum_len (m:=Vb.m) (fun _=>by unfold Vb.m;omega) vb) HS.out.2.2.2.2.2.1
 have hru : ru.length≤1048576:=Nat.le_trans (sum_len (m:=Rl.m) (fun _=>by unfold Rl.m;omega) ru) HS.out.2.2.2.2.2.2.1
 obtain ⟨w1,hw1⟩ : ∃ W,w.alloc (.cells #[.string (str ti),.string (str by_),.string (str st),.int .i64 re,.int .i64 mx,.slice fA fl.length fc,.slice pA pr.length pc,.slice gA gl.length gc,.slice oA ob.length oc,.slice vA vb.length vc,.slice rA ru.length rc,.slice nA fn.length nc,.slice dA dm.length dc] 29)=W:=⟨_,rfl⟩
 have HBX:=hI (show Bz w #[.string (str ti),.string (str by_),.string (str st),.int .i64 re,.int .i64 mx,.slice fA fl.length fc,.slice pA pr.length pc,.slice gA gl.length gc,.slice oA ob.length oc,.slice vA vb.length vc,.slice rA ru.length rc,.slice nA fn.length nc,.slice dA dm.length dc] 29 w1 by rw [← hw1];exact Bz.new _ _ _)
 have HR0:=hI hr
 have HR:=hI (show So.R top w1 ⟨ti,by_,st,re,mx,⟨fA,fc,fl⟩,⟨pA,pc,pr⟩,⟨gA,gc,gl⟩,⟨oA,oc,ob⟩,⟨vA,vc,vb⟩,⟨rA,rc,ru⟩,⟨nA,nc,fn⟩,⟨dA,dc,dm⟩⟩ from So.stays _ _ _ _ _ (Keep.below HBX.out.low) hr)
 clear hr hz
 show Calls Tryz.prog 14 #[.agg #[.string (str ti),.string (str by_),.string (str st),.int .i64 re,.int .i64 mx,.slice fA fl.length fc,.slice pA pr.length pc,.slice gA gl.length gc,.slice oA ob.length oc,.slice vA vb.length vc,.slice rA ru.length rc,.slice nA fn.length nc,.slice dA dm.length dc]] w _
 go_enter Tryz.func14,Tryz.ntmps14
 obtain ⟨x0,x1,x2,x3,x4,x5,x6,x7,x8,x9,x10,x11,x12,xf⟩:=cellz13 HBX.out.box
 go_wp2_with fail
 refine (isText_o _ HS.out.1.1 _).mono ?_
 rintro e w9 ⟨b1,rfl,rfl⟩
 cases b1
 ·go_wp2_with fail
  go_ret
  exact ⟨_,rfl,(fun h=>absurd h (by decide)),HBX.out.low⟩
 go_wp2_with fail
 refine (isText_o _ HS.out.1.2.1 _).mono ?_
 rintro e w9 ⟨b1,rfl,rfl⟩
 cases b1
 ·go_wp2_with fail
  go_ret
  exact ⟨_,rfl,(fun h=>absurd h (by decide)),HBX.out.low⟩
 go_wp2_with fail
 refine (name14_o _ HS.out.1.2.2 _).mono ?_
 rintro e w9 ⟨b1,rfl,hp,rfl⟩
 have HP1:=hI hp
 clear hp
 cases b1
 ·go_wp2_with fail
  go_ret
  exact ⟨_,rfl,(fun h=>absurd h (by decide)),HBX.out.low⟩
 by_cases hr1 : re < 0
 ·have q : decide (re < (0 : Int))=true:=decide_eq_true (by omega)
  clear hr1
  go_wp2_with fail
  go_ret
  exact ⟨_,rfl,(fun h=>absurd h (by decide)),HBX.out.low⟩
 have qhr1 : decide (re < (0 : Int))=false:=decide_eq_false (by omega)
 have Hhr1:=hI hr1
 clear hr1
 by_cases hr2 : 32767 < re
 ·have q : decide ((32767 : Int) < re)=true:=decide_eq_true (by omega)
  clear hr2
  go_wp2_with fail
  go_ret
  exact ⟨_,rfl,(fun h=>absurd h (by decide)),HBX.out.low⟩
 have qhr2 : decide ((32767 : Int) < re)=false:=decide_eq_false (by omega)
 have Hhr2:=hI hr2
 clear hr2
 by_cases hr3 : mx < 0
 ·have q : decide (mx < (0 : Int))=true:=decide_eq_true (by omega)
  clear hr3
  go_wp2_with fail
  go_ret
  exact ⟨_,rfl,(fun h=>absurd h (by decide)),HBX.out.low⟩
 have qhr3 : decide (mx < (0 : Int))=false:=decide_eq_false (by omega)
 have Hhr3:=hI hr3
 clear hr3
 by_cases hr4 : 32767 < mx
 ·have q : decide ((32767 : Int) < mx)=true:=decide_eq_true (by omega)
  clear hr4
  go_wp2_with fail
  go_ret
  exact ⟨_,rfl,(fun h=>absurd h (by decide)),HBX.out.low⟩
 have qhr4 : decide ((32767 : Int) < mx)=false:=decide_eq_false (by omega)
 have Hhr4:=hI hr4
 clear hr4
 go_wp2_with fail
 refine (names_o fl fA fc 16 w1 HR.out.1 HS.out.2.1).mono ?_
 rintro e w9 ⟨b1,rfl,hp,rfl⟩
 have HP2:=hI hp
 clear hp
 cases b1
 ·go_wp2_with fail
  go_ret
  exact ⟨_,rfl,(fun h=>absurd h (by decide)),HBX.out.low⟩
 go_wp2_with fail
 refine (pairs_o pr pA pc 16 w1 HR.out.2.1 HS.out.2.2.1).mono ?_
 rintro e w9 ⟨b1,rfl,hp,rfl⟩
 have HP3:=hI hp
 clear hp
 cases b1
 ·go_wp2_with fail
  go_ret
  exact ⟨_,rfl,(fun h=>absurd h (by decide)),HBX.out.low⟩
 go_wp2_with fail
 refine (pairs_o gl gA gc 64 w1 HR.out.2.2.1 HS.out.2.2.2.1).mono ?_
 rintro e w9 ⟨b1,rfl,hp,rfl⟩
 have HP4:=hI hp
 clear hp
 cases b1
 ·go_wp2_with fail
  go_ret
  exact ⟨_,rfl,(fun h=>absurd h (by decide)),HBX.out.low⟩
 by_cases hb1 : 126 < ob.length
 ·have q : decide ((126 : Int) < (ob.length : Int))=true:=decide_eq_true (by omega)
  clear hb1
  go_wp2_with fail
  go_ret
  exact ⟨_,rfl,(fun h=>absurd h (by decide)),HBX.out.low⟩
 have qhb1 : decide ((126 : Int) < (ob.length : Int))=false:=decide_eq_false (by omega)
 have Hhb1:=hI hb1
 clear hb1
 by_cases hb2 : 64 < vb.length
 ·have q : decide ((64 : Int) < (vb.length : Int))=true:=decide_eq_true (by omega)
  clear hb2
  go_wp2_with fail
  go_ret
  exact ⟨_,rfl,(fun h=>absurd h (by decide)),HBX.out.low⟩
 have qhb2 : decide ((64 : Int) < (vb.length : Int))=false:=decide_eq_false (by omega)
 have Hhb2:=hI hb2
 clear hb2
 by_cases hb3 : 512 < ru.length
 ·have q : decide ((512 : Int) < (ru.length : Int))=true:=decide_eq_true (by omega)
  clear hb3
  go_wp2_with fail
  go_ret
  exact ⟨_,rfl,(fun h=>absurd h (by decide)),HBX.out.low⟩
 have qhb3 : decide ((512 : Int) < (ru.length : Int))=false:=decide_eq_false (by omega)
 have Hhb3:=hI hb3
 clear hb3
 go_wp2_with fail
 refine (funcs_o fn nA nc 64 8 w1 HR.out.2.2.2.2.2.2.1 HS.out.2.2.2.2.2.2.2.1).mono ?_
 rintro e w2 ⟨b1,rfl,hp,hb⟩
 have HP5:=hI hp
 have HB2:=hI (HBX.out.on hb)
 clear hp hb hw1 x0 x1 x2 x3 x4 x5 x6 x7 x8 x9 x10 x11 x12 xf
 obtain ⟨x0,x1,x2,x3,x4,x5,x6,x7,x8,x9,x10,x11,x12,xf⟩:=cellz13 HB2.out.box
 cases b1
 ·go_wp2_with fail
  go_ret
  exact ⟨_,rfl,(fun h=>absurd h (by decide)),HB2.out.low⟩
 go_wp2_with fail
 refine (funcs_o dm dA dc 16 0 w2 (Lg.keep BindO.Fn.stays (Keep.below HB2.out.low) HR0.out.2.2.2.2.2.2.2) HS.out.2.2.2.2.2.2.2.2).mono ?_
 rintro e w3 ⟨b1,rfl,hp,hb⟩
 have HP6:=hI hp
 have HB3:=hI (HB2.out.on hb)
 clear hp hb x0 x1 x2 x3 x4 x5 x6 x7 x8 x9 x10 x11 x12 xf
 obtain ⟨x0,x1,x2,x3,x4,x5,x6,x7,x8,x9,x10,x11,x12,xf⟩:=cellz13 HB3.out.box
 cases b1
 ·go_wp2_with fail
  go_ret
  exact ⟨_,rfl,(fun h=>absurd h (by decide)),HB3.out.low⟩
 go_wp2_with fail
 go_loopw [3] (fun iv wr=>∃ j : Nat,j≤ob.length∧iv=.int .i64 (j : Int)∧Hid (∀ x ∈ ob.take j,ObP x)∧Bz w #[.string (str ti),.string (str by_),.string (str st),.int .i64 re,.int .i64 mx,.slice fA fl.length fc,.slice pA pr.length pc,.slice gA gl.length gc,.slice oA ob.length oc,.slice vA vb.length vc,.slice rA ru.length rc,.slice nA fn.length nc,.slice dA dm.length dc] 29 wr) (fun iv _=>ob.length - (intOf iv).toNat)
 case atStart=>exact ⟨0,Nat.zero_le _,rfl,hI (by simp),HB3.out⟩
 case round=>
  clear x0 x1 x2 x3 x4 x5 x6 x7 x8 x9 x10 x11 x12 xf
  obtain ⟨j,hj,rfl,HT,hz⟩:=hrel
  have HB4:=hI hz
  obtain ⟨x0,x1,x2,x3,x4,x5,x6,x7,x8,x9,x10,x11,x12,xf⟩:=cellz13 hz.box
  clear hz
  by_cases hlt : j < ob.length
  ·have HLS:=hI (show Lg Ob.e Ob.R top wr oA _ ob from Lg.keep Ob.stays (Keep.below HB4.out.low) HR0.out.2.2.2.1)
   obtain ⟨b2,o2,rfl,hb2,hc⟩:=Lg.at_ Ob.len HLS.out hlt
   have hmem : ob[j] ∈ ob:=List.getElem_mem hlt
   have hsz:=Nat.le_trans (sum_mem (m:=Ob.m) ob _ hmem) HS.out.2.2.2.2.1
   have HTK:=hI (show ob.take (j + 1)=ob.take j ++ [ob[j]] from List.take_succ_eq_append_getElem hlt)
   have HRX:=hI (HLS.out.2 _ hmem)
   have HSZ:=hI hsz
   obtain ⟨el,hel⟩ : ∃ y,ob[j]=y:=⟨_,rfl⟩
   rw [hel] at hc HTK HRX HSZ
   clear hmem hsz hel
   have HC:=hI (object_o el wr HRX.out HSZ.out)
   obtain ⟨onm,oti,oin,otx,orm,⟨a1,c1_,l1⟩,⟨a2,c2_,l2⟩,⟨a3,c3_,l3⟩,⟨a4,c4_,l4⟩,⟨xA,xc,xl⟩⟩:=el
   have d0 : wr.cell? ⟨b2,o2 + j * 10,none⟩=some (.string (str onm)):=hc 0 _ rfl
   have d1 : wr.cell? ⟨b2,o2 + j * 10 + 1,none⟩=some (.string (str oti)):=hc 1 _ rfl
   have d2 : wr.cell? ⟨b2,o2 + j * 10 + 2,none⟩=some (.string (str oin)):=hc 2 _ rfl
   have d3 : wr.cell? ⟨b2,o2 + j * 10 + 3,none⟩=some (.string (str otx)):=hc 3 _ rfl
   have d4 : wr.cell? ⟨b2,o2 + j * 10 + 4,none⟩=some (.bool orm):=hc 4 _ rfl
   have d5 : wr.cell? ⟨b2,o2 + j * 10 + 5,none⟩=some (.slice a1 l1.length c1_):=hc 5 _ rfl
   have d6 : wr.cell? ⟨b2,o2 + j * 10 + 6,none⟩=some (.slice a2 l2.length c2_):=hc 6 _ rfl
   have d7 : wr.cell? ⟨b2,o2 + j * 10 + 7,none⟩=some (.slice a3 l3.length c3_):=hc 7 _ rfl
   have d8 : wr.cell? ⟨b2,o2 + j * 10 + 8,none⟩=some (.slice a4 l4.length c4_):=hc 8 _ rfl
   have d9 : wr.cell? ⟨b2,o2 + j * 10 + 9,none⟩=some (.slice xA xl.length xc):=hc 9 _ rfl
   have k2 : (0 : Int)≤(j : Int):=by omega
   have k3 : (j : Int) < (ob.length : Int):=by omega
   clear hc
   go_wp2_with fail
   refine HC.out.mono ?_
   rintro e w9 ⟨b1,rfl,hp,hb⟩
   have HPX:=hI hp
   have HBC:=hI (HB4.out.on hb)
   clear hp hb x0 x1 x2 x3 x4 x5 x6 x7 x8 x9 x10 x11 x12 xf d0 d1 d2 d3 d4 d5 d6 d7 d8 d9
   cases b1
   ·go_wp2_with fail
    go_ret
    exact ⟨_,rfl,(fun h=>absurd h (by decide)),HBC.out.low⟩
   go_wp2_with fail
   go_roundw
   case rel=>exact ⟨j + 1,by omega,by go_num,hI (by
    intro s hs
    rw [HTK.out] at hs
    rcases List.mem_append.1 hs with hs | hs
    ·exact HT.out s hs
    ·rw [List.mem_singleton] at hs;rw [hs];exact HPX.out (by trivial)),HBC.out⟩
   case measure=>simp [intOf];omega
  ·obtain rfl : j=ob.length:=by omega
   have HOB:=hI (show ∀ x ∈ ob,ObP x by have h:=HT.out;rw [List.take_length] at h;exact h)
   clear HT
   go_wp2_with fail
   go_loopw [4] (fun iv wr=>∃ j : Nat,j≤vb.length∧iv=.int .i64 (j : Int)∧Hid (∀ x ∈ vb.take j,(fun v : Vb=>v.nm ≠ []) x)∧Bz w #[.string (str ti),.string (str by_),.string (str st),.int .i64 re,.int .i64 mx,.slice fA fl.length fc,.slice pA pr.length pc,.slice gA gl.length gc,.slice oA ob.length oc,.slice vA vb.length vc,.slice rA ru.length rc,.slice nA fn.length nc,.slice dA dm.length dc] 29 wr) (fun iv _=>vb.length - (intOf iv).toNat)
   case atStart=>exact ⟨0,Nat.zero_le _,rfl,hI (by simp),HB4.out⟩
   case round=>
    clear x0 x1 x2 x3 x4 x5 x6 x7 x8 x9 x10 x11 x12 xf
    obtain ⟨j,hj,rfl,HT,hz⟩:=hrel
    have HB5:=hI hz
    obtain ⟨x0,x1,x2,x3,x4,x5,x6,x7,x8,x9,x10,x11,x12,xf⟩:=cellz13 hz.box
    clear hz
    by_cases hlt : j < vb.length
    ·have HLS:=hI (show Lg Vb.e Vb.R top wr vA _ vb from Lg.keep Vb.stays (Keep.below HB5.out.low) HR0.out.2.2.2.2.1)
     obtain ⟨b2,o2,rfl,hb2,hc⟩:=Lg.at_ Vb.len HLS.out hlt
     have hmem : vb[j] ∈ vb:=List.getElem_mem hlt
     have hsz:=Nat.le_trans (sum_mem (m:=Vb.m) vb _ hmem) HS.out.2.2.2.2.2.1
     have HTK:=hI (show vb.take (j + 1)=vb.take j ++ [vb[j]] from List.take_succ_eq_append_getElem hlt)
     have HRX:=hI (HLS.out.2 _ hmem)
     have HSZ:=hI hsz
     obtain ⟨el,hel⟩ : ∃ y,vb[j]=y:=⟨_,rfl⟩
     rw [hel] at hc HTK HRX HSZ
     clear hmem hsz hel
     have HC:=hI (verb_o el wr HRX.out HSZ.out)
     obtain ⟨vn,vm,⟨lA,lc,ll⟩⟩:=el
     have d0 : wr.cell? ⟨b2,o2 + j * 3,none⟩=some (.string (str vn)):=hc 0 _ rfl
     have d1 : wr.cell? ⟨b2,o2 + j * 3 + 1,none⟩=some (.bool vm):=hc 1 _ rfl
     have d2 : wr.cell? ⟨b2,o2 + j * 3 + 2,none⟩=some (.slice lA ll.length lc):=hc 2 _ rfl
     have k2 : (0 : Int)≤(j : Int):=by omega
     have k3 : (j : Int) < (vb.length : Int):=by omega
     clear hc
     go_wp2_with fail
     refine HC.out.mono ?_
     rintro e w9 ⟨b1,rfl,hp,hb⟩
     have HPX:=hI hp
     have HBC:=hI (HB5.out.on hb)
     clear hp hb x0 x1 x2 x3 x4 x5 x6 x7 x8 x9 x10 x11 x12 xf d0 d1 d2
     cases b1
     ·go_wp2_with fail
      go_ret
      exact ⟨_,rfl,(fun h=>absurd h (by decide)),HBC.out.low⟩
     go_wp2_with fail
     go_roundw
     case rel=>exact ⟨j + 1,by omega,by go_num,hI (by
      intro s hs
      rw [HTK.out] at hs
      rcases List.mem_append.1 hs with hs | hs
      ·exact HT.out s hs
      ·rw [List.mem_singleton] at hs;rw [hs];exact HPX.out (by trivial)),HBC.out⟩
     case measure=>simp [intOf];omega
    ·obtain rfl : j=vb.length:=by omega
     have HVB:=hI (show ∀ x ∈ vb,(fun v : Vb=>v.nm ≠ []) x by have h:=HT.out;rw [List.take_length] at h;exact h)
     clear HT
     go_wp2_with fail
     go_loopw [5] (fun iv wr=>∃ j : Nat,j≤ru.length∧iv=.int .i64 (j : Int)∧Hid (∀ x ∈ ru.take j,RlP x)∧Bz w #[.string (str ti),.string (str by_),.string (str st),.int .i64 re,.int .i64 mx,.slice fA fl.length fc,.slice pA pr.length pc,.slice gA gl.length gc,.slice oA ob.length oc,.slice vA vb.length vc,.slice rA ru.length rc,.slice nA fn.length nc,.slice dA dm.length dc] 29 wr) (fun iv _=>ru.length - (intOf iv).toNat)
     case atStart=>exact ⟨0,Nat.zero_le _,rfl,hI (by simp),HB5.out⟩
     case round=>
      clear x0 x1 x2 x3 x4 x5 x6 x7 x8 x9 x10 x11 x12 xf
      obtain ⟨j,hj,rfl,HT,hz⟩:=hrel
      have HB6:=hI hz
      obtain ⟨x0,x1,x2,x3,x4,x5,x6,x7,x8,x9,x10,x11,x12,xf⟩:=cellz13 hz.box
      clear hz
      by_cases hlt : j < ru.length
      ·have HLS:=hI (show Lg Rl.e Rl.R top wr rA _ ru from Lg.keep Rl.stays (Keep.below HB6.out.low) HR0.out.2.2.2.2.2.1)
       obtain ⟨b2,o2,rfl,hb2,hc⟩:=Lg.at_ Rl.len HLS.out hlt
       have hmem : ru[j] ∈ ru:=List.getElem_mem hlt
       have hsz:=Nat.le_trans (sum_mem (m:=Rl.m) ru _ hmem) HS.out.2.2.2.2.2.2.1
       have HTK:=hI (show ru.take (j + 1)=ru.take j ++ [ru[j]] from List.take_succ_eq_append_getElem hlt)
       have HRX:=hI (HLS.out.2 _ hmem)
       have HSZ:=hI hsz
       obtain ⟨el,hel⟩ : ∃ y,ru[j]=y:=⟨_,rfl⟩
       rw [hel] at hc HTK HRX HSZ
       clear hmem hsz hel
       have HC:=hI (rule_o el wr HRX.out HSZ.out)
       obtain ⟨rvb,rph,rno,rse,⟨wA,wc,wl⟩,⟨bA,bc,bl⟩⟩:=el
       have d0 : wr.cell? ⟨b2,o2 + j * 6,none⟩=some (.string (str rvb)):=hc 0 _ rfl
       have d1 : wr.cell? ⟨b2,o2 + j * 6 + 1,none⟩=some (.int .i64 rph):=hc 1 _ rfl
       have d2 : wr.cell? ⟨b2,o2 + j * 6 + 2,none⟩=some (.string (str rno)):=hc 2 _ rfl
       have d3 : wr.cell? ⟨b2,o2 + j * 6 + 3,none⟩=some (.string (str rse)):=hc 3 _ rfl
       have d4 : wr.cell? ⟨b2,o2 + j * 6 + 4,none⟩=some (.slice wA wl.length wc):=hc 4 _ rfl
       have d5 : wr.cell? ⟨b2,o2 + j * 6 + 5,none⟩=some (.slice bA bl.length bc):=hc 5 _ rfl
       have k2 : (0 : Int)≤(j : Int):=by omega
       have k3 : (j : Int) < (ru.length : Int):=by omega
       clear hc
       go_wp2_with fail
       refine HC.out.mono ?_
       rintro e w9 ⟨b1,rfl,hp,hb⟩
       have HPX:=hI hp
       have HBC:=hI (HB6.out.on hb)
       clear hp hb x0 x1 x2 x3 x4 x5 x6 x7 x8 x9 x10 x11 x12 xf d0 d1 d2 d3 d4 d5
       cases b1
       ·go_wp2_with fail
        go_ret
        exact ⟨_,rfl,(fun h=>absurd h (by decide)),HBC.out.low⟩
       go_wp2_with fail
       go_roundw
       case rel=>exact ⟨j + 1,by omega,by go_num,hI (by
        intro s hs
        rw [HTK.out] at hs
        rcases List.mem_append.1 hs with hs | hs
        ·exact HT.out s hs
        ·rw [List.mem_singleton] at hs;rw [hs];exact HPX.out (by trivial)),HBC.out⟩
       case measure=>simp [intOf];omega
      ·obtain rfl : j=ru.length:=by omega
       have HRU:=hI (show ∀ x ∈ ru,RlP x by have h:=HT.out;rw [List.take_length] at h;exact h)
       clear HT
       go_wp2_with fail
       go_ret
       exact ⟨_,rfl,(fun _=>⟨pos_ne (HP1.out (by trivial)),HP2.out (by trivial),HP3.out (by trivial),HP4.out (by trivial),by have:=Hhb1.out;simp only [];omega,by have:=Hhb2.out;simp only [];omega,by have:=Hhb3.out;simp only [];omega,HP5.out (by trivial),HP6.out (by trivial),HOB.out,HVB.out,HRU.out,by have:=Hhr1.out;simp only [];omega,by have:=Hhr2.out;simp only [];omega,by have:=Hhr3.out;simp only [];omega,by have:=Hhr4.out;simp only [];omega⟩),HB6.out.low⟩
end Go.Proofs.YteibcfpepdbflaaGreat.RtF
