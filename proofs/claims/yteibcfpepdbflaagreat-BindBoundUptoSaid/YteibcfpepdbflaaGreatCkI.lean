/- clewref16.line, verb: what is wrong, without a panic. Conditions: sizes within the reach. -/
import Derived.Test.YteibcfpepdbflaaGreatCkF
open Go.Lib renaming hid → hI
open Go.Proofs.YteibcfpepdbflaaGreat.RgD renaming tk → tK, sA → zA, s0 → zB, s1 → zC
namespace Go.Proofs.YteibcfpepdbflaaGreat.CkI
open Go Go.RowKit BindP BindD BindO BindW BindG BindX BindB BindT BindU TxA RtS RtX RtY RtD CkP CkA CkB CkC CkE CkF
open Byt (str)
theorem cell2 {U : World} {b o k : Nat} {x : Sw} (h : ∀ j u,(Sw.e x)[j]?=some u→U.cell? ⟨b,o + k * 2 + j,none⟩=some u) : U.cell? ⟨b,o + k * 2,none⟩=some (.int .i64 x.ki)∧U.cell? ⟨b,o + k * 2 + 1,none⟩=some (.slice x.ws.a x.ws.l.length x.ws.c):=⟨h 0 _ rfl,h 1 _ rfl⟩
set_option maxRecDepth 100000 in
set_option maxHeartbeats 16000000 in
theorem line_c (nm : S) (l : List Sw) (A : Option Addr) (c : Nat) (w : World) (hl : Lg Sw.e Sw.R top w A c l) (hz : (l.map Sw.m).sum≤1048576) :
  Calls Tryz.prog 104 #[.string (str nm),.slice A l.length c] w (WrV True w):=by
 have hn : l.length≤1048576:=Nat.le_trans (sum_len (m:=Sw.m) (fun _=>by unfold Sw.m;omega) l) hz
 obtain ⟨m,hm⟩ : ∃ m,l.length=m:=⟨_,rfl⟩
 have HM:=hI hm
 have HZ:=hI hz
 rw [hm] at hn ⊢
 obtain ⟨V,hV⟩ : ∃ W,w.alloc (.cells #[.int .i64 0,.string ⟨#[]⟩] 125)=W:=⟨_,rfl⟩
 obtain ⟨m1,s1,b1⟩:=made hV
 have HO:=hI (show ∀ U,Below V.heap.size V U→U.heap[w.heap.size]?=some (.cells #[.int .i64 0,.string ⟨#[]⟩] 125 (0,0)) from fun U h=>(h.block _ (Array.getElem?_eq_some_iff.1 m1).1).trans m1)
 have HBV:=hI b1
 have HL:=hI (show Lg Sw.e Sw.R top V A c l from Lg.keep Sw.stays (Keep.below b1) hl)
 obtain ⟨p1,hp1⟩ : ∃ p,w.heap.size=p:=⟨_,rfl⟩
 have HP:=hI (Nat.le_of_eq hp1)
 rw [hp1] at HO
 clear m1 s1 b1 hl hm hz
 go_enter Tryz.func104,Tryz.ntmps104
 by_cases hm0 : m=0
 ·subst hm0
  obtain ⟨r0,r1,rf⟩:=cells2 (HO.out V (Below.refl _ _))
  obtain ⟨X,hX⟩ : ∃ X,(V.setCell ⟨p1,0,none⟩ (.int .i64 2)).setCell ⟨p1,1,none⟩ (.string (str nm))=X:=⟨_,rfl⟩
  have HX:=hI (show X.heap[p1]?=some (.cells #[.int .i64 2,.string (str nm)] 125 (0,0)) by rw [← hX];exact set2 (HO.out V (Below.refl _ _)))
  have HXB:=hI (show Below w.heap.size w X by rw [← hX];exact set2_below (HBV.out) HP.out)
  go_wp2_with ((with_reducible refine ret_w 4 p1 (.int .i64 2) (.string (str nm)) ?_ ?_ ?_ ?_ ?_);exact HX.out;rfl;rfl;rfl;exact ⟨2,nm,rfl,(fun h=>absurd h (by decide)),HXB.out⟩)
 have q0 : ((m : Int) == 0)=false:=beq_eq_false_iff_ne.2 (by omega)
 go_wp2_with fail
 clear hV hp1
 go_loop [5,6,7,8] (fun v5 v6 v7 iv=>∃ (j a b c3 : Nat),j≤m∧a≤j∧b≤j∧c3≤j∧v5=.int .i64 (a : Int)∧v6=.int .i64 (b : Int)∧v7=.int .i64 (c3 : Int)∧iv=.int .i64 (j : Int)) (fun _ _ _ iv=>m - (intOf iv).toNat)
 case atStart=>exact ⟨0,0,0,0,Nat.zero_le _,Nat.le_refl _,Nat.le_refl _,Nat.le_refl _,rfl,rfl,rfl,rfl⟩
 case round=>
  obtain ⟨j,a,b_,c3,hj,ha,hb_,hc3,rfl,rfl,rfl,rfl⟩:=hrel
  have k0 : (0 : Int)≤(j : Int):=by omega
  by_cases hlt : j < m
  ·have hjl : j < l.length:=by rw [HM.out];exact hlt
   obtain ⟨b,o,rfl,_,hc⟩:=Lg.at_ Sw.len HL.out hjl
   obtain ⟨y,hy⟩ : ∃ y,l[j]=y:=⟨_,rfl⟩
   rw [hy] at hc
   obtain ⟨d0,d1⟩:=cell2 hc
   have k1 : (j : Int) < (m : Int):=by omega
   obtain ⟨ki,⟨wA_,wc_,wl_⟩⟩:=y
   simp only at d0 d1
   clear hc hy hjl
   by_cases h1 : ki=1
   ·subst h1
    by_cases hw : wl_.length=0
    ·have qw : ((wl_.length : Int) == 0)=true:=by rw [hw];rfl
     clear hw
     obtain ⟨r0,r1,rf⟩:=cells2 (HO.out V (Below.refl _ _))
     obtain ⟨X,hX⟩ : ∃ X,(V.setCell ⟨p1,0,none⟩ (.int .i64 2)).setCell ⟨p1,1,none⟩ (.string (str nm))=X:=⟨_,rfl⟩
     have HX:=hI (show X.heap[p1]?=some (.cells #[.int .i64 2,.string (str nm)] 125 (0,0)) by rw [← hX];exact set2 (HO.out V (Below.refl _ _)))
     have HXB:=hI (show Below w.heap.size w X by rw [← hX];exact set2_below (HBV.out) HP.out)
     go_wp2_with ((with_reducible refine ret_w 4 p1 (.int .i64 2) (.string (str nm)) ?_ ?_ ?_ ?_ ?_);exact HX.out;rfl;rfl;rfl;exact ⟨2,nm,rfl,(fun h=>absurd h (by decide)),HXB.out⟩)
    ·have qw : ((wl_.length : Int) == 0)=false:=beq_eq_false_iff_ne.2 (by omega)
     clear hw
     go_wp2_with fail
     go_round
     case rel=>exact ⟨j + 1,a + 0,b_ + 0,c3 + 0,by omega,by omega,by omega,by omega,by go_num,by go_num,by go_num,by go_num⟩
     case measure=>simp [intOf];omega
   have q1 : (ki == 1)=false:=beq_eq_false_iff_ne.2 h1
   by_cases h2 : ki=2
   ·subst h2
    go_wp2_with fail
    go_round
    case rel=>exact ⟨j + 1,a + 1,b_ + 0,c3 + 0,by omega,by omega,by omega,by omega,by go_num,by go_num,by go_num,by go_num⟩
    case measure=>simp [intOf];omega
   have q2 : (ki == 2)=false:=beq_eq_false_iff_ne.2 h2
   by_cases h3 : ki=3
   ·subst h3
    go_wp2_with fail
    go_round
    case rel=>exact ⟨j + 1,a + 1,b_ + 0,c3 + 0,by omega,by omega,by omega,by omega,by go_num,by go_num,by go_num,by go_num⟩
    case measure=>simp [intOf];omega
   have q3 : (ki == 3)=false:=beq_eq_false_iff_ne.2 h3
   by_cases h4 : ki=4
   ·subst h4
    go_wp2_with fail
    go_round
    case rel=>exact ⟨j + 1,a + 0,b_ + 1,c3 + 0,by omega,by omega,by omega,by omega,by go_num,by go_num,by go_num,by go_num⟩
    case measure=>simp [intOf];omega
   have q4 : (ki == 4)=false:=beq_eq_false_iff_ne.2 h4
   by_cases h5 : ki=5
   ·subst h5
    go_wp2_with fail
    go_round
    case rel=>exact ⟨j + 1,a + 0,b_ + 0,c3 + 1,by omega,by omega,by omega,by omega,by go_num,by go_num,by go_num,by go_num⟩
    case measure=>simp [intOf];omega
   have q5 : (ki == 5)=false:=beq_eq_false_iff_ne.2 h5
   clear h1 h2 h3 h4 h5
   go_wp2_with fail
   go_round
   case rel=>exact ⟨j + 1,a + 0,b_ + 0,c3 + 0,by omega,by omega,by omega,by omega,by go_num,by go_num,by go_num,by go_num⟩
   case measure=>simp [intOf];omega
  ·have hjm : j=m:=by omega
   skip
   go_wp2_with fail
   go_loopw [9] (fun iv wr=>∃ k : Nat,k≤m∧iv=.int .i64 (k : Int)∧Below V.heap.size V wr) (fun iv _=>m - (intOf iv).toNat)
   case atStart=>exact ⟨0,Nat.zero_le _,rfl,Below.refl _ _⟩
   case round=>
    obtain ⟨k,hk,rfl,hb⟩:=hrel
    have HB:=hI hb
    clear hb
    have l0 : (0 : Int)≤(k : Int):=by omega
    by_cases hlk : k < m
    ·have hkl : k < l.length:=by rw [HM.out];exact hlk
     obtain ⟨b,o,he,hbz,hc⟩:=Lg.at_ Sw.len (Lg.keep Sw.stays (Keep.below HB.out) HL.out) hkl
     subst he
     have hmem : l[k] ∈ l:=List.getElem_mem hkl
     have hrd:=(Lg.keep Sw.stays (Keep.below HB.out) HL.out).2 _ hmem
     have hms:=sum_mem (m:=Sw.m) l _ hmem
     obtain ⟨y,hy⟩ : ∃ y,l[k]=y:=⟨_,rfl⟩
     rw [hy] at hc hrd hms
     obtain ⟨d0,d1⟩:=cell2 hc
     have l1 : (k : Int) < (m : Int):=by omega
     obtain ⟨ki,⟨wA_,wc_,wl_⟩⟩:=y
     simp only at d0 d1
     have hms2 : (wl_.map fun x=>x.length + 1).sum≤Sw.m ⟨ki,⟨wA_,wc_,wl_⟩⟩:=by unfold Sw.m;simp only [];omega
     have HRD:=hI (show Lg svE Rt top wr wA_ wc_ wl_∧(wl_.map fun x=>x.length + 1).sum≤1048576 from ⟨hrd,by have:=HZ.out;omega⟩)
     clear hc hy hkl hmem hrd hms hms2 hbz
     go_wp2_with fail
     refine (words_c wl_ wA_ wc_ wr HRD.out.1 HRD.out.2).mono ?_
     rintro e w5 ⟨er5,s5,rfl,_,hb⟩
     obtain ⟨V5,hV5⟩ : ∃ W,w5.alloc (.cells #[.int .i64 er5,.string (str s5)] 125)=W:=⟨_,rfl⟩
     obtain ⟨m5,z5,b5⟩:=made hV5
     have HB5:=hI (HB.out.trans ((hb.trans (b5.mono hb.size)).mono HB.out.size))
     obtain ⟨g0,g1,gf⟩:=cells2 m5
     clear hb m5 z5 b5 d0 d1
     by_cases he0 : er5=0
     ·have qe : (er5 != 0)=false:=by simp [he0]
      clear he0
      go_wp2_with fail
      go_roundw
      case rel=>exact ⟨k + 1,by omega,by go_num,HB5.out⟩
      case measure=>simp [intOf];omega
     ·have qe : (er5 != 0)=true:=by simp [he0]
      have HN:=hI he0
      clear he0
      obtain ⟨r0,r1,rf⟩:=cells2 (HO.out V5 HB5.out)
      obtain ⟨X,hX⟩ : ∃ X,(V5.setCell ⟨p1,0,none⟩ (.int .i64 er5)).setCell ⟨p1,1,none⟩ (.string (str s5))=X:=⟨_,rfl⟩
      have HX:=hI (show X.heap[p1]?=some (.cells #[.int .i64 er5,.string (str s5)] 125 (0,0)) by rw [← hX];exact set2 (HO.out V5 HB5.out))
      have HXB:=hI (show Below w.heap.size w X by rw [← hX];exact set2_below (HBV.out.trans (HB5.out.mono HBV.out.size)) HP.out)
      go_wp2_with ((with_reducible refine ret_w 4 p1 (.int .i64 er5) (.string (str s5)) ?_ ?_ ?_ ?_ ?_);exact HX.out;rfl;rfl;rfl;exact ⟨er5,s5,rfl,(fun h=>absurd h HN.out),HXB.out⟩)
    ·have hkm : k=m:=by omega
     have h0l : 0 < l.length:=by rw [HM.out];omega
     obtain ⟨b,o,he,hbz,hc⟩:=Lg.at_ Sw.len (Lg.keep Sw.stays (Keep.below HB.out) HL.out) h0l
     subst he
     obtain ⟨y,hy⟩ : ∃ y,l[0]=y:=⟨_,rfl⟩
     rw [hy] at hc
     have d0 : wr.cell? ⟨b,o,none⟩=some (.int .i64 y.ki):=by have h:=hc 0 _ rfl;simpa using h
     have m0 : (0 : Int) < (m : Int):=by omega
     obtain ⟨ki,hki⟩ : ∃ x,y.ki=x:=⟨_,rfl⟩
     rw [hki] at d0
     clear hc hy hbz hki h0l
     by_cases hk1 : ki=1
     ·have qk : (ki != 1)=false:=by simp [hk1]
      clear hk1
      by_cases hqa : 2 < a
      ·have qa1 : decide ((2 : Int) < (a : Int))=true:=decide_eq_true (by omega)
       have qa2 : decide (2 < a)=true:=decide_eq_true hqa
       obtain ⟨r0,r1,rf⟩:=cells2 (HO.out wr HB.out)
       obtain ⟨X,hX⟩ : ∃ X,(wr.setCell ⟨p1,0,none⟩ (.int .i64 18)).setCell ⟨p1,1,none⟩ (.string (str nm))=X:=⟨_,rfl⟩
       have HX:=hI (show X.heap[p1]?=some (.cells #[.int .i64 18,.string (str nm)] 125 (0,0)) by rw [← hX];exact set2 (HO.out wr HB.out))
       have HXB:=hI (show Below w.heap.size w X by rw [← hX];exact set2_below (HBV.out.trans (HB.out.mono HBV.out.size)) HP.out)
       go_wp2_with ((with_reducible refine ret_w 4 p1 (.int .i64 18) (.string (str nm)) ?_ ?_ ?_ ?_ ?_);exact HX.out;rfl;rfl;rfl;exact ⟨18,nm,rfl,(fun h=>absurd h (by decide)),HXB.out⟩)
      have qa1 : decide ((2 : Int) < (a : Int))=false:=decide_eq_false (by omega)
      have qa2 : decide (2 < a)=false:=decide_eq_false hqa
      by_cases hqb : 1 < b_
      ·have qb1 : decide ((1 : Int) < (b_ : Int))=true:=decide_eq_true (by omega)
       have qb2 : decide (1 < b_)=true:=decide_eq_true hqb
       obtain ⟨r0,r1,rf⟩:=cells2 (HO.out wr HB.out)
       obtain ⟨X,hX⟩ : ∃ X,(wr.setCell ⟨p1,0,none⟩ (.int .i64 18)).setCell ⟨p1,1,none⟩ (.string (str nm))=X:=⟨_,rfl⟩
       have HX:=hI (show X.heap[p1]?=some (.cells #[.int .i64 18,.string (str nm)] 125 (0,0)) by rw [← hX];exact set2 (HO.out wr HB.out))
       have HXB:=hI (show Below w.heap.size w X by rw [← hX];exact set2_below (HBV.out.trans (HB.out.mono HBV.out.size)) HP.out)
       go_wp2_with ((with_reducible refine ret_w 4 p1 (.int .i64 18) (.string (str nm)) ?_ ?_ ?_ ?_ ?_);exact HX.out;rfl;rfl;rfl;exact ⟨18,nm,rfl,(fun h=>absurd h (by decide)),HXB.out⟩)
      have qb1 : decide ((1 : Int) < (b_ : Int))=false:=decide_eq_false (by omega)
      have qb2 : decide (1 < b_)=false:=decide_eq_false hqb
      by_cases hqc : 1 < c3
      ·have qc1 : decide ((1 : Int) < (c3 : Int))=true:=decide_eq_true (by omega)
       have qc2 : decide (1 < c3)=true:=decide_eq_true hqc
       obtain ⟨r0,r1,rf⟩:=cells2 (HO.out wr HB.out)
       obtain ⟨X,hX⟩ : ∃ X,(wr.setCell ⟨p1,0,none⟩ (.int .i64 18)).setCell ⟨p1,1,none⟩ (.string (str nm))=X:=⟨_,rfl⟩
       have HX:=hI (show X.heap[p1]?=some (.cells #[.int .i64 18,.string (str nm)] 125 (0,0)) by rw [← hX];exact set2 (HO.out wr HB.out))
       have HXB:=hI (show Below w.heap.size w X by rw [← hX];exact set2_below (HBV.out.trans (HB.out.mono HBV.out.size)) HP.out)
       go_wp2_with ((with_reducible refine ret_w 4 p1 (.int .i64 18) (.string (str nm)) ?_ ?_ ?_ ?_ ?_);exact HX.out;rfl;rfl;rfl;exact ⟨18,nm,rfl,(fun h=>absurd h (by decide)),HXB.out⟩)
      have qc1 : decide ((1 : Int) < (c3 : Int))=false:=decide_eq_false (by omega)
      have qc2 : decide (1 < c3)=false:=decide_eq_false hqc
      go_wp2_with fail
      refine (fine_r wr).mono ?_
      rintro ee w5 ⟨rfl,hb⟩
      have HB5:=hI (HB.out.trans (hb.mono HB.out.size))
      clear hb
      obtain ⟨r0,r1,rf⟩:=cells2 (HO.out w5 HB5.out)
      obtain ⟨X,hX⟩ : ∃ X,(w5.setCell ⟨p1,0,none⟩ (.int .i64 0)).setCell ⟨p1,1,none⟩ (.string ⟨#[]⟩)=X:=⟨_,rfl⟩
      have HX:=hI (show X.heap[p1]?=some (.cells #[.int .i64 0,.string ⟨#[]⟩] 125 (0,0)) by rw [← hX];exact set2 (HO.out w5 HB5.out))
      have HXB:=hI (show Below w.heap.size w X by rw [← hX];exact set2_below (HBV.out.trans (HB5.out.mono HBV.out.size)) HP.out)
      go_wp2_with ((with_reducible refine ret_w 4 p1 (.int .i64 0) (.string ⟨#[]⟩) ?_ ?_ ?_ ?_ ?_);exact HX.out;rfl;rfl;rfl;exact ⟨0,[],rfl,(fun _=>trivial),HXB.out⟩)
     have qk : (ki != 1)=true:=by simp [hk1]
     by_cases hk5 : ki=5
     ·have qk5 : (ki != 5)=false:=by simp [hk5]
      clear hk5 hk1
      by_cases hqa : 2 < a
      ·have qa1 : decide ((2 : Int) < (a : Int))=true:=decide_eq_true (by omega)
       have qa2 : decide (2 < a)=true:=decide_eq_true hqa
       obtain ⟨r0,r1,rf⟩:=cells2 (HO.out wr HB.out)
       obtain ⟨X,hX⟩ : ∃ X,(wr.setCell ⟨p1,0,none⟩ (.int .i64 18)).setCell ⟨p1,1,none⟩ (.string (str nm))=X:=⟨_,rfl⟩
       have HX:=hI (show X.heap[p1]?=some (.cells #[.int .i64 18,.string (str nm)] 125 (0,0)) by rw [← hX];exact set2 (HO.out wr HB.out))
       have HXB:=hI (show Below w.heap.size w X by rw [← hX];exact set2_below (HBV.out.trans (HB.out.mono HBV.out.size)) HP.out)
       go_wp2_with ((with_reducible refine ret_w 4 p1 (.int .i64 18) (.string (str nm)) ?_ ?_ ?_ ?_ ?_);exact HX.out;rfl;rfl;rfl;exact ⟨18,nm,rfl,(fun h=>absurd h (by decide)),HXB.out⟩)
      have qa1 : decide ((2 : Int) < (a : Int))=false:=decide_eq_false (by omega)
      have qa2 : decide (2 < a)=false:=decide_eq_false hqa
      by_cases hqb : 1 < b_
      ·have qb1 : decide ((1 : Int) < (b_ : Int))=true:=decide_eq_true (by omega)
       have qb2 : decide (1 < b_)=true:=decide_eq_true hqb
       obtain ⟨r0,r1,rf⟩:=cells2 (HO.out wr HB.out)
       obtain ⟨X,hX⟩ : ∃ X,(wr.setCell ⟨p1,0,none⟩ (.int .i64 18)).setCell ⟨p1,1,none⟩ (.string (str nm))=X:=⟨_,rfl⟩
       have HX:=hI (show X.heap[p1]?=some (.cells #[.int .i64 18,.string (str nm)] 125 (0,0)) by rw [← hX];exact set2 (HO.out wr HB.out))
       have HXB:=hI (show Below w.heap.size w X by rw [← hX];exact set2_below (HBV.out.trans (HB.out.mono HBV.out.size)) HP.out)
       go_wp2_with ((with_reducible refine ret_w 4 p1 (.int .i64 18) (.string (str nm)) ?_ ?_ ?_ ?_ ?_);exact HX.out;rfl;rfl;rfl;exact ⟨18,nm,rfl,(fun h=>absurd h (by decide)),HXB.out⟩)
      have qb1 : decide ((1 : Int) < (b_ : Int))=false:=decide_eq_false (by omega)
      have qb2 : decide (1 < b_)=false:=decide_eq_false hqb
      by_cases hqc : 1 < c3
      ·have qc1 : decide ((1 : Int) < (c3 : Int))=true:=decide_eq_true (by omega)
       have qc2 : decide (1 < c3)=true:=decide_eq_true hqc
       obtain ⟨r0,r1,rf⟩:=cells2 (HO.out wr HB.out)
       obtain ⟨X,hX⟩ : ∃ X,(wr.setCell ⟨p1,0,none⟩ (.int .i64 18)).setCell ⟨p1,1,none⟩ (.string (str nm))=X:=⟨_,rfl⟩
       have HX:=hI (show X.heap[p1]?=some (.cells #[.int .i64 18,.string (str nm)] 125 (0,0)) by rw [← hX];exact set2 (HO.out wr HB.out))
       have HXB:=hI (show Below w.heap.size w X by rw [← hX];exact set2_below (HBV.out.trans (HB.out.mono HBV.out.size)) HP.out)
       go_wp2_with ((with_reducible refine ret_w 4 p1 (.int .i64 18) (.string (str nm)) ?_ ?_ ?_ ?_ ?_);exact HX.out;rfl;rfl;rfl;exact ⟨18,nm,rfl,(fun h=>absurd h (by decide)),HXB.out⟩)
      have qc1 : decide ((1 : Int) < (c3 : Int))=false:=decide_eq_false (by omega)
      have qc2 : decide (1 < c3)=false:=decide_eq_false hqc
      go_wp2_with fail
      refine (fine_r wr).mono ?_
      rintro ee w5 ⟨rfl,hb⟩
      have HB5:=hI (HB.out.trans (hb.mono HB.out.size))
      clear hb
      obtain ⟨r0,r1,rf⟩:=cells2 (HO.out w5 HB5.out)
      obtain ⟨X,hX⟩ : ∃ X,(w5.setCell ⟨p1,0,none⟩ (.int .i64 0)).setCell ⟨p1,1,none⟩ (.string ⟨#[]⟩)=X:=⟨_,rfl⟩
      have HX:=hI (show X.heap[p1]?=some (.cells #[.int .i64 0,.string ⟨#[]⟩] 125 (0,0)) by rw [← hX];exact set2 (HO.out w5 HB5.out))
      have HXB:=hI (show Below w.heap.size w X by rw [← hX];exact set2_below (HBV.out.trans (HB5.out.mono HBV.out.size)) HP.out)
      go_wp2_with ((with_reducible refine ret_w 4 p1 (.int .i64 0) (.string ⟨#[]⟩) ?_ ?_ ?_ ?_ ?_);exact HX.out;rfl;rfl;rfl;exact ⟨0,[],rfl,(fun _=>trivial),HXB.out⟩)
     have qk5 : (ki != 5)=true:=by simp [hk5]
     clear hk5 hk1
     obtain ⟨r0,r1,rf⟩:=cells2 (HO.out wr HB.out)
     obtain ⟨X,hX⟩ : ∃ X,(wr.setCell ⟨p1,0,none⟩ (.int .i64 18)).setCell ⟨p1,1,none⟩ (.string (str nm))=X:=⟨_,rfl⟩
     have HX:=hI (show X.heap[p1]?=some (.cells #[.int .i64 18,.string (str nm)] 125 (0,0)) by rw [← hX];exact set2 (HO.out wr HB.out))
     have HXB:=hI (show Below w.heap.size w X by rw [← hX];exact set2_below (HBV.out.trans (HB.out.mono HBV.out.size)) HP.out)
     go_wp2_with ((with_reducible refine ret_w 4 p1 (.int .i64 18) (.string (str nm)) ?_ ?_ ?_ ?_ ?_);exact HX.out;rfl;rfl;rfl;exact ⟨18,nm,rfl,(fun h=>absurd h (by decide)),HXB.out⟩)
set_option maxRecDepth 100000 in
set_option maxHeartbeats 16000000 in
theorem verb_c (v : Vb) (w : World) (hr : Vb.R top w v) (hz : Vb.m v≤1048576) :
  Calls Tryz.prog 61 #[.agg (Vb.e v).toArray] w (WrV True w):=by
 obtain ⟨vnm,vme,⟨lA,lc,ll⟩⟩:=v
 have hz2 : (ll.map Ln.m).sum≤1048576:=by unfold Vb.m at hz;simp only at hz;omega
 have hl : Lg Ln.e Ln.R top w lA lc ll:=hr
 have hn : ll.length≤1048576:=Nat.le_trans (sum_len (m:=Ln.m) (fun _=>by unfold Ln.m;omega) ll) hz2
 show Calls Tryz.prog 61 #[.agg #[.string (str vnm),.bool vme,.slice lA ll.length lc]] w _
 obtain ⟨m,hm⟩ : ∃ m,ll.length=m:=⟨_,rfl⟩
 have HM:=hI hm
 have HZ:=hI hz2
 have HL:=hI hl
 rw [hm] at hn ⊢
 obtain ⟨V1,hV1⟩ : ∃ W,w.alloc (.cells #[.string (str vnm),.bool vme,.slice lA m lc] 85)=W:=⟨_,rfl⟩
 obtain ⟨V,hV⟩ : ∃ W,V1.alloc (.cells #[.int .i64 0,.string ⟨#[]⟩] 125)=W:=⟨_,rfl⟩
 obtain ⟨m1,s1,b1⟩:=made hV1
 obtain ⟨m2,s2,b2⟩:=made hV
 have m1':=(b2.block w.heap.size (by omega)).trans m1
 have HO0:=hI (show ∀ U,Below V.heap.size V U→U.heap[w.heap.size]?=some (.cells #[.string (str vnm),.bool vme,.slice lA m lc] 85 (0,0)) from fun U h=>(h.block _ (Array.getElem?_eq_some_iff.1 m1').1).trans m1')
 have HO1:=hI (show ∀ U,Below V.heap.size V U→U.heap[V1.heap.size]?=some (.cells #[.int .i64 0,.string ⟨#[]⟩] 125 (0,0)) from fun U h=>(h.block _ (Array.getElem?_eq_some_iff.1 m2).1).trans m2)
 have HBV:=hI (b1.trans (b2.mono b1.size))
 have HPV:=hI (show w.heap.size≤V1.heap.size by omega)
 obtain ⟨p0,hp0⟩ : ∃ p,w.heap.size=p:=⟨_,rfl⟩
 obtain ⟨p1,hp1⟩ : ∃ p,V1.heap.size=p:=⟨_,rfl⟩
 rw [hp0] at HO0
 rw [hp1] at HO1 HPV
 clear m1' m1 m2 s1 s2 b1 b2 hl hr hz hz2 hm
 obtain ⟨e0,e1,e2,ef⟩:=cellz3 (HO0.out V (Below.refl _ _))
 go_enter Tryz.func61,Tryz.ntmps61
 by_cases hm0 : m=0
 ·subst hm0
  obtain ⟨r0,r1,rf⟩:=cells2 (HO1.out V (Below.refl _ _))
  obtain ⟨X,hX⟩ : ∃ X,(V.setCell ⟨p1,0,none⟩ (.int .i64 2)).setCell ⟨p1,1,none⟩ (.string (str vnm))=X:=⟨_,rfl⟩
  have HX:=hI (show X.heap[p1]?=some (.cells #[.int .i64 2,.string (str vnm)] 125 (0,0)) by rw [← hX];exact set2 (HO1.out V (Below.refl _ _)))
  have HXB:=hI (show Below w.heap.size w X by rw [← hX];exact set2_below (HBV.out) HPV.out)
  go_wp2_with ((with_reducible refine ret_w 2 p1 (.int .i64 2) (.string (str vnm)) ?_ ?_ ?_ ?_ ?_);exact HX.out;rfl;rfl;rfl;exact ⟨2,vnm,rfl,(fun h=>absurd h (by decide)),HXB.out⟩)
 have q0 : ((m : Int) == 0)=false:=beq_eq_false_iff_ne.2 (by omega)
 go_wp2_with fail
 clear hV1 hV hp0 hp1 e0 e1 e2 ef
 go_loopw [3] (fun iv wr=>∃ j : Nat,j≤m∧iv=.int .i64 (j : Int)∧Below V.heap.size V wr) (fun iv _=>m - (intOf iv).toNat)
 case atStart=>exact ⟨0,Nat.zero_le _,rfl,Below.refl _ _⟩
 case round=>
  obtain ⟨j,hj,rfl,hb⟩:=hrel
  have HB:=hI hb
  have HBW:=hI (HBV.out.trans (hb.mono HBV.out.size))
  clear hb
  obtain ⟨e0,e1,e2,ef⟩:=cellz3 (HO0.out wr HB.out)
  have k0 : (0 : Int)≤(j : Int):=by omega
  by_cases hlt : j < m
  ·have hjl : j < ll.length:=by rw [HM.out];exact hlt
   obtain ⟨b,o,he,hbz,hc⟩:=Lg.one (fun _=>rfl) (Lg.keep Ln.stays (Keep.below HBW.out) HL.out) hjl
   subst he
   have hmem : ll[j] ∈ ll:=List.getElem_mem hjl
   have hrd:=HL.out.2 _ hmem
   have hms:=sum_mem (m:=Ln.m) ll _ hmem
   obtain ⟨y,hy⟩ : ∃ y,ll[j]=y:=⟨_,rfl⟩
   rw [hy] at hc hrd hms
   have h2 : (y.l.map Sw.m).sum≤Ln.m y:=by unfold Ln.m;omega
   have HRD:=hI (show Lg Sw.e Sw.R top w y.a y.c y.l∧(y.l.map Sw.m).sum≤1048576 from ⟨hrd,by have:=HZ.out;omega⟩)
   have HD:=hI (show ∀ U,Below wr.heap.size wr U→U.cell? ⟨b,o + j,none⟩=some (.slice y.a y.l.length y.c) from fun U hU=>(hU.cell (p:=⟨b,_,none⟩) hbz).trans (hc _ rfl))
   have k1 : (j : Int) < (m : Int):=by omega
   clear hc hy hmem hrd hms h2 hbz hjl
   have HBY:=hI (show ∀ U,Below wr.heap.size wr U→Below V.heap.size V U from fun U h=>HB.out.trans (h.mono HB.out.size))
   have HBZ:=hI (show ∀ U,Below wr.heap.size wr U→Below w.heap.size w U from fun U h=>HBW.out.trans (h.mono HBW.out.size))
   go_upto_region 6 with fail
   clear e0 e1 e2 ef
   have hS0 : Below wr.heap.size wr wr.drew:=Below.drew (Below.refl _ _)
   refine RgD.begin_ [] (fun U=>Below wr.heap.size wr U) (by kernel_rfl) hS0 (fun hHeld=>?_)
   refine tK 0 19 (h:=?_)
   simp only [zA,zB,zC]
   refine tK 1 20 (v:=.string (str vnm)) (hy:=by intro w0 hSw;obtain ⟨e0,e1,e2,ef⟩:=cellz3 (HO0.out _ (HBY.out _ hSw));first | (go_simp;done) | (go_simp;with_reducible rfl) | (go_simp;intro hc;exfalso;omega)) (h:=?_)
   simp only [zA,zB,zC]
   refine tK 2 21 (h:=?_)
   simp only [zA,zB,zC]
   refine tK 3 22 (v:=.slice (some ⟨b,o,none⟩) m lc) (hy:=by intro w0 hSw;obtain ⟨e0,e1,e2,ef⟩:=cellz3 (HO0.out _ (HBY.out _ hSw));first | (go_simp;done) | (go_simp;with_reducible rfl) | (go_simp;intro hc;exfalso;omega)) (h:=?_)
   simp only [zA,zB,zC]
   refine tK 4 23 (h:=?_)
   simp only [zA,zB,zC]
   refine tK 5 24 (h:=?_)
   simp only [zA,zB,zC]
   refine tK 6 25 (v:=.slice y.a y.l.length y.c) (hy:=by intro w0 hSw;have d0:=HD.out _ hSw;first | (go_simp;done) | (go_simp;with_reducible rfl) | (go_simp;intro hc;exfalso;omega)) (h:=?_)
   simp only [zA,zB,zC]
   refine RgD.two (i:=7) (j:=8) (by kernel_rfl) ?_ ?_
   ·refine RgD.call (i:=7) (t:=26) rfl rfl (by rfl) (by go_simp;exact ⟨rfl,rfl⟩) ?_
    refine (line_c vnm y.l y.a y.c wr.drew (Lg.keep Sw.stays (Keep.below (HBZ.out _ (hS0))) HRD.out.1) HRD.out.2).mono ?_
    rintro r w9 ⟨er9,s9,rfl,hp,hb⟩
    have HP9:=hI hp
    have hS9:=(hS0).trans (hb.mono (hS0).size)
    have HS9:=hI hS9
    clear hb hp
    refine ⟨_,rfl,hS9,?_⟩
    simp only [zA,zB,zC]
    refine RgD.one (i:=8) (by kernel_rfl) ?_
    obtain ⟨w10,hw10⟩ : ∃ W,w9.alloc (.cells #[.int .i64 0,.string ⟨#[]⟩] 125)=W:=⟨_,rfl⟩
    obtain ⟨m10,s10,b10⟩:=made hw10
    have hS10:=(HS9.out).trans (b10.mono (HS9.out).size)
    have HS10:=hI hS10
    have HM10:=hI (show w10.heap[w9.heap.size]?=_ from m10)
    have HQ10:=hI (show wr.heap.size≤w9.heap.size from (HS9.out).size)
    refine RgD.eff (i:=8) (t:=4) (v:=.pointer (some ⟨w9.heap.size,0,none⟩)) (w1:=w10) rfl rfl (by rfl) (by first | (go_simp;done) | (go_simp;exact ⟨rfl,hw10⟩) | (go_simp;rw [hw10];rfl) | (go_simp;exact hw10)) hS10 ?_
    simp only [zA,zB,zC]
    clear hw10
    refine RgD.one (i:=9) (by kernel_rfl) ?_
    obtain ⟨g0,g1,gf⟩:=cells2 HM10.out
    have HM11:=hI (set2 (y0:=.int .i64 er9) (y1:=.string (str s9)) HM10.out)
    have HS11:=hI (set2_below (y0:=.int .i64 er9) (y1:=.string (str s9)) (HS10.out) HQ10.out)
    obtain ⟨w11,hw11⟩ : ∃ W,(w10.setCell ⟨w9.heap.size,0,none⟩ (.int .i64 er9)).setCell ⟨w9.heap.size,1,none⟩ (.string (str s9))=W:=⟨_,rfl⟩
    rw [hw11] at HM11 HS11
    refine RgD.storeS (i:=9) (w1:=w11) rfl rfl (by rfl) (by first | (go_simp;done) | (go_simp;exact hw11) | (go_simp;rw [hw11])) HS11.out ?_
    clear g0 g1 gf hw11
    refine RgD.done (by kernel_rfl) ?_ _
    clear hS0
    obtain ⟨g0,g1,gf⟩:=cells2 HM11.out
    by_cases he0 : er9=0
    ·have qe : (er9 != 0)=false:=by simp [he0]
     clear he0
     go_wp2_with fail
     go_roundw
     case rel=>exact ⟨j + 1,by omega,by go_num,HBY.out _ HS11.out⟩
     case measure=>simp [intOf];omega
    ·have qe : (er9 != 0)=true:=by simp [he0]
     have HN:=hI he0
     clear he0
     obtain ⟨r0,r1,rf⟩:=cells2 (HO1.out w11 (HBY.out _ HS11.out))
     obtain ⟨X,hX⟩ : ∃ X,(w11.setCell ⟨p1,0,none⟩ (.int .i64 er9)).setCell ⟨p1,1,none⟩ (.string (str s9))=X:=⟨_,rfl⟩
     have HX:=hI (show X.heap[p1]?=some (.cells #[.int .i64 er9,.string (str s9)] 125 (0,0)) by rw [← hX];exact set2 (HO1.out w11 (HBY.out _ HS11.out)))
     have HXB:=hI (show Below w.heap.size w X by rw [← hX];exact set2_below (HBZ.out _ HS11.out) HPV.out)
     go_wp2_with ((with_reducible refine ret_w 2 p1 (.int .i64 er9) (.string (str s9)) ?_ ?_ ?_ ?_ ?_);exact HX.out;rfl;rfl;rfl;exact ⟨er9,s9,rfl,(fun h=>absurd h HN.out),HXB.out⟩)
   ·obtain ⟨w10,hw10⟩ : ∃ W,wr.drew.alloc (.cells #[.int .i64 0,.string ⟨#[]⟩] 125)=W:=⟨_,rfl⟩
    obtain ⟨m10,s10,b10⟩:=made hw10
    have hS10:=(hS0).trans (b10.mono (hS0).size)
    have HS10:=hI hS10
    have HM10:=hI (show w10.heap[wr.heap.size]?=_ from m10)
    have HQ10:=hI (show wr.heap.size≤wr.heap.size from (hS0).size)
    refine RgD.eff (i:=8) (t:=4) (v:=.pointer (some ⟨wr.heap.size,0,none⟩)) (w1:=w10) rfl rfl (by rfl) (by first | (go_simp;done) | (go_simp;exact ⟨rfl,hw10⟩) | (go_simp;rw [hw10];rfl) | (go_simp;exact hw10)) hS10 ?_
    simp only [zA,zB,zC]
    clear hw10
    refine RgD.one (i:=7) (by kernel_rfl) ?_
    refine RgD.call (i:=7) (t:=26) rfl rfl (by rfl) (by go_simp;exact ⟨rfl,rfl⟩) ?_
    refine (line_c vnm y.l y.a y.c w10 (Lg.keep Sw.stays (Keep.below (HBZ.out _ (HS10.out))) HRD.out.1) HRD.out.2).mono ?_
    rintro r w9 ⟨er9,s9,rfl,hp,hb⟩
    have HP9:=hI hp
    have hS9:=(HS10.out).trans (hb.mono (HS10.out).size)
    have HS9:=hI hS9
    have HM10:=hI ((hb.block _ (Array.getElem?_eq_some_iff.1 HM10.out).1).trans HM10.out)
    clear hb hp
    refine ⟨_,rfl,hS9,?_⟩
    simp only [zA,zB,zC]
    refine RgD.one (i:=9) (by kernel_rfl) ?_
    obtain ⟨g0,g1,gf⟩:=cells2 HM10.out
    have HM11:=hI (set2 (y0:=.int .i64 er9) (y1:=.string (str s9)) HM10.out)
    have HS11:=hI (set2_below (y0:=.int .i64 er9) (y1:=.string (str s9)) (HS9.out) HQ10.out)
    obtain ⟨w11,hw11⟩ : ∃ W,(w9.setCell ⟨wr.heap.size,0,none⟩ (.int .i64 er9)).setCell ⟨wr.heap.size,1,none⟩ (.string (str s9))=W:=⟨_,rfl⟩
    rw [hw11] at HM11 HS11
    refine RgD.storeS (i:=9) (w1:=w11) rfl rfl (by rfl) (by first | (go_simp;done) | (go_simp;exact hw11) | (go_simp;rw [hw11])) HS11.out ?_
    clear g0 g1 gf hw11
    refine RgD.done (by kernel_rfl) ?_ _
    clear hS0
    obtain ⟨g0,g1,gf⟩:=cells2 HM11.out
    by_cases he0 : er9=0
    ·have qe : (er9 != 0)=false:=by simp [he0]
     clear he0
     go_wp2_with fail
     go_roundw
     case rel=>exact ⟨j + 1,by omega,by go_num,HBY.out _ HS11.out⟩
     case measure=>simp [intOf];omega
    ·have qe : (er9 != 0)=true:=by simp [he0]
     have HN:=hI he0
     clear he0
     obtain ⟨r0,r1,rf⟩:=cells2 (HO1.out w11 (HBY.out _ HS11.out))
     obtain ⟨X,hX⟩ : ∃ X,(w11.setCell ⟨p1,0,none⟩ (.int .i64 er9)).setCell ⟨p1,1,none⟩ (.string (str s9))=X:=⟨_,rfl⟩
     have HX:=hI (show X.heap[p1]?=some (.cells #[.int .i64 er9,.string (str s9)] 125 (0,0)) by rw [← hX];exact set2 (HO1.out w11 (HBY.out _ HS11.out)))
     have HXB:=hI (show Below w.heap.size w X by rw [← hX];exact set2_below (HBZ.out _ HS11.out) HPV.out)
     go_wp2_with ((with_reducible refine ret_w 2 p1 (.int .i64 er9) (.string (str s9)) ?_ ?_ ?_ ?_ ?_);exact HX.out;rfl;rfl;rfl;exact ⟨er9,s9,rfl,(fun h=>absurd h HN.out),HXB.out⟩)
  ·have hjm : j=m:=by omega
   go_wp2_with fail
   refine (fine_r wr).mono ?_
   rintro ee w5 ⟨rfl,hb⟩
   have HB5:=hI (HB.out.trans (hb.mono HB.out.size))
   clear hb
   obtain ⟨r0,r1,rf⟩:=cells2 (HO1.out w5 HB5.out)
   obtain ⟨X,hX⟩ : ∃ X,(w5.setCell ⟨p1,0,none⟩ (.int .i64 0)).setCell ⟨p1,1,none⟩ (.string ⟨#[]⟩)=X:=⟨_,rfl⟩
   have HX:=hI (show X.heap[p1]?=some (.cells #[.int .i64 0,.string ⟨#[]⟩] 125 (0,0)) by rw [← hX];exact set2 (HO1.out w5 HB5.out))
   have HXB:=hI (show Below w.heap.size w X by rw [← hX];exact set2_below (HBV.out.trans (HB5.out.mono HBV.out.size)) HPV.out)
   go_wp2_with ((with_reducible refine ret_w 2 p1 (.int .i64 0) (.string ⟨#[]⟩) ?_ ?_ ?_ ?_ ?_);exact HX.out;rfl;rfl;rfl;exact ⟨0,[],rfl,(fun _=>trivial),HXB.out⟩)
end Go.Proofs.YteibcfpepdbflaaGreat.CkI
