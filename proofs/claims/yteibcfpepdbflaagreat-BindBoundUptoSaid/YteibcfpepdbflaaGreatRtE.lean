/- clewref14.when, funcs, rule, verb, object: some truth value, without a panic; true: what they say. Conditions: sizes within the reach. -/
import Derived.Test.YteibcfpepdbflaaGreatRtD
import Derived.Test.YteibcfpepdbflaaGreatTxA
open Go.Lib renaming hid → hI
namespace Go.Proofs.YteibcfpepdbflaaGreat.RtE
open Go Go.RowKit BindP BindD BindO BindW BindG BindX BindB BindT RtS RtX RtY RtZ RtB RtC RtD BindU TxA
open Byt (str)
def WhenP (l : List Pe) : Prop:=l=[]∨∃ a,l=[a]∧headK l ≠ 2∧headK l ≠ 13∧RightE a∧dE 65 a≤31
set_option maxRecDepth 100000 in
set_option maxHeartbeats 4000000 in
theorem when_o (l : List Ex) (A : Option Addr) (c : Nat) (w : World) (hl : Lx top w A c l) (hz : nEs (exPs l)≤1048576) :
  Calls Tryz.prog 95 #[.slice A l.length c] w (SomeX (WhenP (exPs l)) w):=by
 match l,hl,hz with
 | [],hl,hz=>
  have HP:=hI (show WhenP (exPs []) from .inl rfl)
  clear hl hz
  show Calls Tryz.prog 95 #[.slice A 0 c] w _
  go_enter Tryz.func95,Tryz.ntmps95
  go_wp2_with fail
  go_ret
  exact ⟨_,rfl,(fun _=>HP.out),Below.refl _ _⟩
 | [x],hl,hz=>
  obtain ⟨b,o,rfl,hb,hc⟩:=Lg.at_ exE_len hl (show 0 < [x].length by simp)
  have hx:=hl.2 x (by simp)
  have hn : nE x.p≤1048576:=by simpa [exPs,nEs] using hz
  have HD:=hI (fun u (hu : Below w.heap.size w u)=>depth_o x u (hx.keep (Keep.below hu)) hn)
  have HC:=hI (fun u (hu : Below w.heap.size w u)=>rightE_o x u (hx.keep (Keep.below hu)) hn)
  obtain ⟨dq,hdq⟩ : ∃ q,dE 65 x.p=q:=⟨_,rfl⟩
  have HDQ:=hI hdq
  rw [hdq] at HD
  have HW:=hI (show headK (exPs [x]) ≠ 2→headK (exPs [x]) ≠ 13→RightE x.p→dE 65 x.p≤31→WhenP (exPs [x]) from fun h1 h2 h3 h4=>.inr ⟨x.p,by simp [exPs],h1,h2,h3,h4⟩)
  obtain ⟨k,p,n,s,B,cb,ar⟩:=x
  have c0 : w.cell? ⟨b,o,none⟩=some (.int .i64 k):=by have h:=hc 0 _ rfl;simpa using h
  have c1 : w.cell? ⟨b,o + 1,none⟩=some (.int .i64 p):=by have h:=hc 1 _ rfl;simpa using h
  have c2 : w.cell? ⟨b,o + 2,none⟩=some (.int .i64 n):=by have h:=hc 2 _ rfl;simpa using h
  have c3 : w.cell? ⟨b,o + 3,none⟩=some (.string (str s)):=by have h:=hc 3 _ rfl;simpa [sv] using h
  have c4 : w.cell? ⟨b,o + 4,none⟩=some (.slice B ar.length cb):=by have h:=hc 4 _ rfl;simpa using h
  have HK:=hI (show headK (exPs [Ex.mk k p n s B cb ar])=k from rfl)
  have HCC:=hI (show ∀ u,Below w.heap.size w u→u.cell? ⟨b,o,none⟩=some (.int .i64 k)∧u.cell? ⟨b,o + 1,none⟩=some (.int .i64 p)∧u.cell? ⟨b,o + 2,none⟩=some (.int .i64 n)∧u.cell? ⟨b,o + 3,none⟩=some (.string (str s))∧u.cell? ⟨b,o + 4,none⟩=some (.slice B ar.length cb) from fun u hu=>
   ⟨(hu.cell (p:=⟨b,o,none⟩) hb).trans c0,(hu.cell (p:=⟨b,o + 1,none⟩) hb).trans c1,(hu.cell (p:=⟨b,o + 2,none⟩) hb).trans c2,(hu.cell (p:=⟨b,o + 3,none⟩) hb).trans c3,(hu.cell (p:=⟨b,o + 4,none⟩) hb).trans c4⟩)
  clear hl hz hc hx hn hdq
  show Calls Tryz.prog 95 #[.slice (some ⟨b,o,none⟩) 1 c] w _
  go_enter Tryz.func95,Tryz.ntmps95
  by_cases h2 : k=2
  ·have q : (k != 2)=false:=by rw [h2];rfl
   clear h2
   go_wp2_with fail
   go_ret
   exact ⟨_,rfl,(fun h=>absurd h (by decide)),Below.refl _ _⟩
  have q2 : (k != 2)=true:=by simp [h2]
  have H2:=hI h2
  clear h2
  by_cases h13 : k=13
  ·have q : (k != 13)=false:=by rw [h13];rfl
   clear h13
   go_wp2_with fail
   go_ret
   exact ⟨_,rfl,(fun h=>absurd h (by decide)),Below.refl _ _⟩
  have q13 : (k != 13)=true:=by simp [h13]
  have H13:=hI h13
  clear h13
  go_wp2_with fail
  refine (HC.out w (Below.refl _ _)).mono ?_
  rintro e w2 ⟨b1,rfl,hp,hb2⟩
  have HP:=hI hp
  have HB2:=hI hb2
  clear hp hb2 c0 c1 c2 c3 c4
  cases b1
  ·go_wp2_with fail
   go_ret
   exact ⟨_,rfl,(fun h=>absurd h (by decide)),HB2.out⟩
  ·obtain ⟨c0,c1,c2,c3,c4⟩:=HCC.out _ HB2.out
   go_wp2_with fail
   refine (HD.out w2 HB2.out).mono ?_
   rintro e w3 ⟨rfl,hb3⟩
   have HB3:=hI (HB2.out.trans (hb3.mono HB2.out.size))
   clear hb3 c0 c1 c2 c3 c4
   by_cases h31 : dq≤31
   ·have q : decide ((dq : Int)≤31)=true:=decide_eq_true (by omega)
    have H31:=hI h31
    clear h31
    go_wp2_with fail
    go_ret
    exact ⟨_,rfl,(fun _=>HW.out (by rw [HK.out];exact H2.out) (by rw [HK.out];exact H13.out) (HP.out (by trivial)) (by rw [HDQ.out];exact H31.out)),HB3.out⟩
   ·have q : decide ((dq : Int)≤31)=false:=decide_eq_false (by omega)
    clear h31
    go_wp2_with fail
    go_ret
    exact ⟨_,rfl,(fun h=>absurd h (by decide)),HB3.out⟩
 | x :: y :: l,hl,hz=>
  have hn : (x :: y :: l).length≤1048576:=by
   have h1:=sum_len (m:=fun x : Ex=>nE x.p) (fun x=>nE_pos x.p) (x :: y :: l)
   rw [← nEs_sum] at h1
   omega
  obtain ⟨m,hm⟩ : ∃ m,(x :: y :: l).length=m:=⟨_,rfl⟩
  have h2 : 2≤m:=by rw [← hm];simp
  rw [hm] at hn ⊢
  have q0 : ((m : Int) == 0)=false:=beq_eq_false_iff_ne.2 (by omega)
  have q1 : ((m : Int) == 1)=false:=beq_eq_false_iff_ne.2 (by omega)
  clear hl hz hm h2
  go_enter Tryz.func95,Tryz.ntmps95
  go_wp2_with fail
  go_ret
  exact ⟨_,rfl,(fun h=>absurd h (by decide)),Below.refl _ _⟩
def FnP (params : Int) (f : BindO.Fn) : Prop:=f.nm ≠ []∧NamesP params f.ps.l∧RightB (stPs f.body.l)
def FuncsP (most params : Int) (l : List BindO.Fn) : Prop:=(l.length : Int)≤most∧∀ f ∈ l,FnP params f
set_option maxRecDepth 100000 in
set_option maxHeartbeats 4000000 in
theorem funcs_o (l : List BindO.Fn) (A : Option Addr) (c : Nat) (most params : Int) (w : World) (hl : Lg BindO.Fn.e BindO.Fn.R top w A c l) (hz : (l.map BindO.Fn.m).sum≤1048576) :
  Calls Tryz.prog 49 #[.slice A l.length c,.int .i64 most,.int .i64 params] w (SomeX (FuncsP most params l) w):=by
 have hn : l.length≤1048576:=Nat.le_trans (sum_len (m:=BindO.Fn.m) (fun _=>by unfold BindO.Fn.m;omega) l) hz
 obtain ⟨m,hm⟩ : ∃ m,l.length=m:=⟨_,rfl⟩
 have HM:=hI hm
 have HL:=hI hl
 have HZ:=hI hz
 rw [hm] at hn ⊢
 clear hm hl hz
 by_cases h1 : (m : Int)≤most
 ·have q : decide (most < (m : Int))=false:=decide_eq_false (by omega)
  have H1:=hI h1
  clear h1
  go_enter Tryz.func49,Tryz.ntmps49
  go_wp2_with fail
  go_loopw [7] (fun iv wr=>∃ j : Nat,j≤m∧iv=.int .i64 (j : Int)∧Hid (∀ s ∈ l.take j,FnP params s)∧Below w.heap.size w wr) (fun iv _=>m - (intOf iv).toNat)
  case atStart=>exact ⟨0,Nat.zero_le _,rfl,hI (by simp),Below.refl _ _⟩
  case round=>
   obtain ⟨j,hj,rfl,HT,hb⟩:=hrel
   have HB:=hI hb
   clear hb
   by_cases hlt : j < m
   ·have hjl : j < l.length:=by rw [HM.out];exact hlt
    obtain ⟨b,o,rfl,hb,hc⟩:=Lg.at_ BindO.Fn.len (Lg.keep BindO.Fn.stays (Keep.below HB.out) HL.out) hjl
    have hmem : l[j] ∈ l:=List.getElem_mem hjl
    obtain ⟨⟨fnm,⟨pA,pc,pl⟩,⟨bA,bc,bl⟩⟩,hy⟩ : ∃ y,l[j]=y:=⟨_,rfl⟩
    have HTK:=hI (show l.take (j + 1)=l.take j ++ [⟨fnm,⟨pA,pc,pl⟩,⟨bA,bc,bl⟩⟩] by rw [List.take_succ_eq_append_getElem hjl,hy])
    rw [hy] at hc hmem
    have HRD:=hI (show BindO.Fn.R top wr ⟨fnm,⟨pA,pc,pl⟩,⟨bA,bc,bl⟩⟩ from BindO.Fn.stays _ _ _ _ _ (Keep.below HB.out) (HL.out.2 _ hmem))
    have HS:=hI (show fnm.length≤1048576∧(pl.map fun x=>x.length + 1).sum≤1048576∧nB (stPs bl)≤1048576 by
     have h1:=sum_mem (m:=BindO.Fn.m) l _ hmem
     have h2:=HZ.out
     have h3 : fnm.length≤BindO.Fn.m ⟨fnm,⟨pA,pc,pl⟩,⟨bA,bc,bl⟩⟩∧(pl.map fun x=>x.length + 1).sum≤BindO.Fn.m ⟨fnm,⟨pA,pc,pl⟩,⟨bA,bc,bl⟩⟩∧nB (stPs bl)≤BindO.Fn.m ⟨fnm,⟨pA,pc,pl⟩,⟨bA,bc,bl⟩⟩:=by
      unfold BindO.Fn.m;simp only [];omega
     omega)
    have c0 : wr.cell? ⟨b,o + j * 3,none⟩=some (.string (str fnm)):=hc 0 _ rfl
    have c1 : wr.cell? ⟨b,o + j * 3 + 1,none⟩=some (.slice pA pl.length pc):=hc 1 _ rfl
    have c2 : wr.cell? ⟨b,o + j * 3 + 2,none⟩=some (.slice bA bl.length bc):=hc 2 _ rfl
    have k0 : (0 : Int)≤(j : Int):=by omega
    have k1 : (j : Int) < (m : Int):=by omega
    clear hc hmem hy hjl
    go_wp2_with fail
    refine (name14_o _ (Nat.le_trans (str_len HS.out.1) (by omega)) _).mono ?_
    rintro e w1 ⟨b1,rfl,hp,rfl⟩
    have HP1:=hI hp
    clear hp
    cases b1
    ·go_wp2_with fail
     go_ret
     exact ⟨_,rfl,(fun h=>absurd h (by decide)),HB.out⟩
    go_wp2_with fail
    refine (names_o pl pA pc params wr HRD.out.1 HS.out.2.1).mono ?_
    rintro e w1 ⟨b1,rfl,hp,rfl⟩
    have HP2:=hI hp
    clear hp
    cases b1
    ·go_wp2_with fail
     go_ret
     exact ⟨_,rfl,(fun h=>absurd h (by decide)),HB.out⟩
    go_wp2_with fail
    refine (rightB_o bl bA bc wr HRD.out.2 HS.out.2.2).mono ?_
    rintro e w1 ⟨b1,rfl,hp,hb1⟩
    have HP3:=hI hp
    have HB3:=hI (HB.out.trans (hb1.mono HB.out.size))
    clear hp hb1 c0 c1 c2
    cases b1
    ·go_wp2_with fail
     go_ret
     exact ⟨_,rfl,(fun h=>absurd h (by decide)),HB3.out⟩
    go_wp2_with fail
    go_roundw
    case rel=>exact ⟨j + 1,by omega,by go_num,hI (by
     intro s hs
     rw [HTK.out] at hs
     rcases List.mem_append.1 hs with hs | hs
     ·exact HT.out s hs
     ·rw [List.mem_singleton] at hs;rw [hs];exact ⟨pos_ne (HP1.out (by trivial)),HP2.out (by trivial),HP3.out (by trivial)⟩),HB3.out⟩
    case measure=>simp [intOf];omega
   ·obtain rfl : m=j:=by omega
    have HTK:=hI (show l.take m=l from List.take_of_length_le (by rw [HM.out];exact Nat.le_refl _))
    go_wp2_with fail
    go_ret
    exact ⟨_,rfl,(fun _=>⟨by rw [HM.out];exact H1.out,by have h:=HT.out;rw [HTK.out] at h;exact h⟩),HB.out⟩
 ·have q : decide (most < (m : Int))=true:=decide_eq_true (by omega)
  clear h1
  go_enter Tryz.func49,Tryz.ntmps49
  go_wp2_with fail
  go_ret
  exact ⟨_,rfl,(fun h=>absurd h (by decide)),Below.refl _ _⟩
def RlP (r : Rl) : Prop:=r.vb ≠ []∧1≤r.ph∧r.ph≤3∧WhenP (exPs r.wh.l)∧RightB (stPs r.body.l)
set_option maxRecDepth 100000 in
set_option maxHeartbeats 4000000 in
theorem rule_o (r : Rl) (w : World) (hr : Rl.R top w r) (hz : Rl.m r≤1048576) : Calls Tryz.prog 52 #[.agg (Rl.e r).toArray] w (SomeX (RlP r) w):=by
 obtain ⟨rvb,rph,rno,rse,⟨wA,wc,wl⟩,⟨bA,bc,bl⟩⟩:=r
 have HR:=hI hr
 have HS:=hI (show (str rvb).size≤4194304∧(str rno).size≤4194304∧(str rse).size≤4194304∧nEs (exPs wl)≤1048576∧nB (stPs bl)≤1048576 by
  unfold Rl.m at hz
  simp only [] at hz
  exact ⟨str_len (by omega),str_len (by omega),str_len (by omega),by omega,by omega⟩)
 clear hr hz
 show Calls Tryz.prog 52 #[.agg #[.string (str rvb),.int .i64 rph,.string (str rno),.string (str rse),.slice wA wl.length wc,.slice bA bl.length bc]] w _
 go_enter Tryz.func52,Tryz.ntmps52
 obtain ⟨w1,hw1⟩ : ∃ W,w.alloc (.cells #[.string (str rvb),.int .i64 rph,.string (str rno),.string (str rse),.slice wA wl.length wc,.slice bA bl.length bc] 52)=W:=⟨_,rfl⟩
 have HBX:=hI (show Bz w #[.string (str rvb),.int .i64 rph,.string (str rno),.string (str rse),.slice wA wl.length wc,.slice bA bl.length bc] 52 w1 by rw [← hw1];exact Bz.new _ _ _)
 obtain ⟨x0,x1,x2,x3,x4,x5,xf⟩:=cells6 HBX.out.box
 go_wp2_with fail
 refine (name14_o _ HS.out.1 _).mono ?_
 rintro e w1 ⟨b1,rfl,hp,rfl⟩
 have HP1:=hI hp
 clear hp
 cases b1
 ·go_wp2_with fail
  go_ret
  exact ⟨_,rfl,(fun h=>absurd h (by decide)),HBX.out.low⟩
 by_cases hp1 : 1≤rph
 ·have qa : decide ((1 : Int)≤rph)=true:=decide_eq_true hp1
  by_cases hp2 : rph≤3
  ·have qb : decide (rph≤(3 : Int))=true:=decide_eq_true hp2
   have HPH:=hI (And.intro hp1 hp2)
   clear hp1 hp2
   by_cases he0 : rno=[]
   ·have qe0:=emp_e (s:=rno) (b:=true) (by simpa using he0)
    clear he0
    by_cases he1 : rse=[]
    ·have qe1:=emp_e (s:=rse) (b:=true) (by simpa using he1)
     clear he1
     go_wp2_with fail
     refine (when_o wl wA wc w1 (Lg.keep stays_x (Keep.below HBX.out.low) HR.out.1) HS.out.2.2.2.1).mono ?_
     rintro e w2 ⟨b1,rfl,hp,hb⟩
     have HP4:=hI hp
     have HB2:=hI (HBX.out.on hb)
     clear hp hb x0 x1 x2 x3 x4 x5 xf hw1
     obtain ⟨x0,x1,x2,x3,x4,x5,xf⟩:=cells6 HB2.out.box
     cases b1
     ·go_wp2_with fail
      go_ret
      exact ⟨_,rfl,(fun h=>absurd h (by decide)),HB2.out.low⟩
     go_wp2_with fail
     refine (rightB_o bl bA bc w2 (Lg.keep stays_s (Keep.below HB2.out.low) HR.out.2) HS.out.2.2.2.2).mono ?_
     rintro e w3 ⟨b1,rfl,hp,hb⟩
     have HP5:=hI hp
     have HB3:=hI (HB2.out.on hb)
     clear hp hb
     cases b1
     ·go_wp2_with fail
      go_ret
      exact ⟨_,rfl,(fun h=>absurd h (by decide)),HB3.out.low⟩
     ·go_wp2_with fail
      go_ret
      exact ⟨_,rfl,(fun _=>⟨pos_ne (HP1.out (by trivial)),HPH.out.1,HPH.out.2,HP4.out (by trivial),HP5.out (by trivial)⟩),HB3.out.low⟩
    ·have qe1:=emp_e (s:=rse) (b:=false) (by simpa using he1)
     clear he1
     go_wp2_with fail
     refine (name14_o _ HS.out.2.2.1 _).mono ?_
     rintro e w1 ⟨b1,rfl,hp,rfl⟩
     have HN1:=hI hp
     clear hp
     cases b1
     ·go_wp2_with fail
      go_ret
      exact ⟨_,rfl,(fun h=>absurd h (by decide)),HBX.out.low⟩
     go_wp2_with fail
     refine (when_o wl wA wc w1 (Lg.keep stays_x (Keep.below HBX.out.low) HR.out.1) HS.out.2.2.2.1).mono ?_
     rintro e w2 ⟨b1,rfl,hp,hb⟩
     have HP4:=hI hp
     have HB2:=hI (HBX.out.on hb)
     clear hp hb x0 x1 x2 x3 x4 x5 xf hw1
     obtain ⟨x0,x1,x2,x3,x4,x5,xf⟩:=cells6 HB2.out.box
     cases b1
     ·go_wp2_with fail
      go_ret
      exact ⟨_,rfl,(fun h=>absurd h (by decide)),HB2.out.low⟩
     go_wp2_with fail
     refine (rightB_o bl bA bc w2 (Lg.keep stays_s (Keep.below HB2.out.low) HR.out.2) HS.out.2.2.2.2).mono ?_
     rintro e w3 ⟨b1,rfl,hp,hb⟩
     have HP5:=hI hp
     have HB3:=hI (HB2.out.on hb)
     clear hp hb
     cases b1
     ·go_wp2_with fail
      go_ret
      exact ⟨_,rfl,(fun h=>absurd h (by decide)),HB3.out.low⟩
     ·go_wp2_with fail
      go_ret
      exact ⟨_,rfl,(fun _=>⟨pos_ne (HP1.out (by trivial)),HPH.out.1,HPH.out.2,HP4.out (by trivial),HP5.out (by trivial)⟩),HB3.out.low⟩
   ·have qe0:=emp_e (s:=rno) (b:=false) (by simpa using he0)
    clear he0
    go_wp2_with fail
    refine (name14_o _ HS.out.2.1 _).mono ?_
    rintro e w1 ⟨b1,rfl,hp,rfl⟩
    have HN0:=hI hp
    clear hp
    cases b1
    ·go_wp2_with fail
     go_ret
     exact ⟨_,rfl,(fun h=>absurd h (by decide)),HBX.out.low⟩
    by_cases he1 : rse=[]
    ·have qe1:=emp_e (s:=rse) (b:=true) (by simpa using he1)
     clear he1
     go_wp2_with fail
     refine (when_o wl wA wc w1 (Lg.keep stays_x (Keep.below HBX.out.low) HR.out.1) HS.out.2.2.2.1).mono ?_
     rintro e w2 ⟨b1,rfl,hp,hb⟩
     have HP4:=hI hp
     have HB2:=hI (HBX.out.on hb)
     clear hp hb x0 x1 x2 x3 x4 x5 xf hw1
     obtain ⟨x0,x1,x2,x3,x4,x5,xf⟩:=cells6 HB2.out.box
     cases b1
     ·go_wp2_with fail
      go_ret
      exact ⟨_,rfl,(fun h=>absurd h (by decide)),HB2.out.low⟩
     go_wp2_with fail
     refine (rightB_o bl bA bc w2 (Lg.keep stays_s (Keep.below HB2.out.low) HR.out.2) HS.out.2.2.2.2).mono ?_
     rintro e w3 ⟨b1,rfl,hp,hb⟩
     have HP5:=hI hp
     have HB3:=hI (HB2.out.on hb)
     clear hp hb
     cases b1
     ·go_wp2_with fail
      go_ret
      exact ⟨_,rfl,(fun h=>absurd h (by decide)),HB3.out.low⟩
     ·go_wp2_with fail
      go_ret
      exact ⟨_,rfl,(fun _=>⟨pos_ne (HP1.out (by trivial)),HPH.out.1,HPH.out.2,HP4.out (by trivial),HP5.out (by trivial)⟩),HB3.out.low⟩
    ·have qe1:=emp_e (s:=rse) (b:=false) (by simpa using he1)
     clear he1
     go_wp2_with fail
     refine (name14_o _ HS.out.2.2.1 _).mono ?_
     rintro e w1 ⟨b1,rfl,hp,rfl⟩
     have HN1:=hI hp
     clear hp
     cases b1
     ·go_wp2_with fail
      go_ret
      exact ⟨_,rfl,(fun h=>absurd h (by decide)),HBX.out.low⟩
     go_wp2_with fail
     refine (when_o wl wA wc w1 (Lg.keep stays_x (Keep.below HBX.out.low) HR.out.1) HS.out.2.2.2.1).mono ?_
     rintro e w2 ⟨b1,rfl,hp,hb⟩
     have HP4:=hI hp
     have HB2:=hI (HBX.out.on hb)
     clear hp hb x0 x1 x2 x3 x4 x5 xf hw1
     obtain ⟨x0,x1,x2,x3,x4,x5,xf⟩:=cells6 HB2.out.box
     cases b1
     ·go_wp2_with fail
      go_ret
      exact ⟨_,rfl,(fun h=>absurd h (by decide)),HB2.out.low⟩
     go_wp2_with fail
     refine (rightB_o bl bA bc w2 (Lg.keep stays_s (Keep.below HB2.out.low) HR.out.2) HS.out.2.2.2.2).mono ?_
     rintro e w3 ⟨b1,rfl,hp,hb⟩
     have HP5:=hI hp
     have HB3:=hI (HB2.out.on hb)
     clear hp hb
     cases b1
     ·go_wp2_with fail
      go_ret
      exact ⟨_,rfl,(fun h=>absurd h (by decide)),HB3.out.low⟩
     ·go_wp2_with fail
      go_ret
      exact ⟨_,rfl,(fun _=>⟨pos_ne (HP1.out (by trivial)),HPH.out.1,HPH.out.2,HP4.out (by trivial),HP5.out (by trivial)⟩),HB3.out.low⟩
  ·have qb : decide (rph≤(3 : Int))=false:=decide_eq_false hp2
   clear hp1 hp2
   go_wp2_with fail
   go_ret
   exact ⟨_,rfl,(fun h=>absurd h (by decide)),HBX.out.low⟩
 ·have qa : decide ((1 : Int)≤rph)=false:=decide_eq_false hp1
  clear hp1
  go_wp2_with fail
  go_ret
  exact ⟨_,rfl,(fun h=>absurd h (by decide)),HBX.out.low⟩
set_option maxRecDepth 100000 in
set_option maxHeartbeats 4000000 in
theorem verb_o (v : Vb) (w : World) (hr : Vb.R top w v) (hz : Vb.m v≤1048576) : Calls Tryz.prog 51 #[.agg (Vb.e v).toArray] w (SomeX (v.nm ≠ []) w):=by
 obtain ⟨vn,vm,⟨lA,lc,ll⟩⟩:=v
 have HS:=hI (show (str vn).size≤4194304∧(ll.map Ln.m).sum≤1048576 by
  unfold Vb.m at hz
  simp only [] at hz
  exact ⟨str_len (by omega),by omega⟩)
 have hll : ll.length≤1048576:=Nat.le_trans (sum_len (m:=Ln.m) (fun _=>by unfold Ln.m;omega) ll) HS.out.2
 obtain ⟨w1,hw1⟩ : ∃ W,w.alloc (.cells #[.string (str vn),.bool vm,.slice lA ll.length lc] 85)=W:=⟨_,rfl⟩
 have HBX:=hI (show Bz w #[.string (str vn),.bool vm,.slice lA ll.length lc] 85 w1 by rw [← hw1];exact Bz.new _ _ _)
 have HR:=hI (show Lg Ln.e Ln.R top w1 lA lc ll from Lg.keep Ln.stays (Keep.below HBX.out.low) hr)
 clear hr hz
 show Calls Tryz.prog 51 #[.agg #[.string (str vn),.bool vm,.slice lA ll.length lc]] w _
 go_enter Tryz.func51,Tryz.ntmps51
 obtain ⟨x0,x1,x2,xf⟩:=cellz3 HBX.out.box
 go_wp2_with fail
 refine (name14_o _ HS.out.1 _).mono ?_
 rintro e w2 ⟨b1,rfl,hp,rfl⟩
 have HP:=hI hp
 clear hp
 cases b1
 ·go_wp2_with fail
  go_ret
  exact ⟨_,rfl,(fun h=>absurd h (by decide)),HBX.out.low⟩
 by_cases h1 : ll.length < 1
 ·have q : decide ((ll.length : Int) < 1)=true:=decide_eq_true (by omega)
  clear h1
  go_wp2_with fail
  go_ret
  exact ⟨_,rfl,(fun h=>absurd h (by decide)),HBX.out.low⟩
 have q1 : decide ((ll.length : Int) < 1)=false:=decide_eq_false (by omega)
 by_cases h8 : 8 < ll.length
 ·have q : decide ((8 : Int) < (ll.length : Int))=true:=decide_eq_true (by omega)
  clear h1 h8
  go_wp2_with fail
  go_ret
  exact ⟨_,rfl,(fun h=>absurd h (by decide)),HBX.out.low⟩
 have q8 : decide ((8 : Int) < (ll.length : Int))=false:=decide_eq_false (by omega)
 clear h1 h8
 go_wp2_with fail
 go_loop [3] (fun iv=>∃ j : Nat,j≤ll.length∧iv=.int .i64 (j : Int)) (fun iv=>ll.length - (intOf iv).toNat)
 case atStart=>exact ⟨0,Nat.zero_le _,rfl⟩
 case round=>
  obtain ⟨j,hj,rfl⟩:=hrel
  by_cases hlt : j < ll.length
  ·obtain ⟨b,o,rfl,hb,hc⟩:=Lg.one Ln.len HR.out hlt
   have hmem : ll[j] ∈ ll:=List.getElem_mem hlt
   obtain ⟨⟨sA,sc,sl⟩,hy⟩ : ∃ y,ll[j]=y:=⟨_,rfl⟩
   rw [hy] at hc hmem
   have HRL:=hI (show Lg Sw.e Sw.R top w1 sA sc sl from HR.out.2 _ hmem)
   have hsm : (sl.map Sw.m).sum≤1048576:=by
    have h1:=sum_mem (m:=Ln.m) ll _ hmem
    have h2:=HS.out.2
    have h3 : (sl.map Sw.m).sum≤Ln.m ⟨sA,sc,sl⟩:=by unfold Ln.m;simp only [];omega
    omega
   have hsl : sl.length≤1048576:=Nat.le_trans (sum_len (m:=Sw.m) (fun _=>by unfold Sw.m;omega) sl) hsm
   have HSM:=hI hsm
   have c0 : w1.cell? ⟨b,o + j,none⟩=some (.slice sA sl.length sc):=hc _ rfl
   have k0 : (0 : Int)≤(j : Int):=by omega
   have k1 : (j : Int) < (ll.length : Int):=by omega
   clear hc hmem hy hsm
   by_cases h1 : sl.length < 1
   ·have q : decide ((sl.length : Int) < 1)=true:=decide_eq_true (by omega)
    clear h1
    go_wp2_with fail
    go_ret
    exact ⟨_,rfl,(fun h=>absurd h (by decide)),HBX.out.low⟩
   have p1 : decide ((sl.length : Int) < 1)=false:=decide_eq_false (by omega)
   by_cases h8 : 8 < sl.length
   ·have q : decide ((8 : Int) < (sl.length : Int))=true:=decide_eq_true (by omega)
    clear h1 h8
    go_wp2_with fail
    go_ret
    exact ⟨_,rfl,(fun h=>absurd h (by decide)),HBX.out.low⟩
   have p8 : decide ((8 : Int) < (sl.length : Int))=false:=decide_eq_false (by omega)
   clear h1 h8
   go_wp2_with fail
   go_loop [5] (fun iv=>∃ i : Nat,i≤sl.length∧iv=.int .i64 (i : Int)) (fun iv=>sl.length - (intOf iv).toNat)
   case atStart=>exact ⟨0,Nat.zero_le _,rfl⟩
   case round=>
    obtain ⟨i,hi,rfl⟩:=hrel
    by_cases hlt2 : i < sl.length
    ·obtain ⟨b2,o2,rfl,hb2,hc⟩:=Lg.at_ Sw.len HRL.out hlt2
     have hmem : sl[i] ∈ sl:=List.getElem_mem hlt2
     obtain ⟨⟨ki,⟨tA,tc,tl⟩⟩,hy⟩ : ∃ y,sl[i]=y:=⟨_,rfl⟩
     rw [hy] at hc hmem
     have HRT:=hI (show Lg svE Rt top w1 tA tc tl from HRL.out.2 _ hmem)
     have htm : (tl.map fun x=>x.length + 1).sum≤1048576:=by
      have h1:=sum_mem (m:=Sw.m) sl _ hmem
      have h2:=HSM.out
      have h3 : (tl.map fun x=>x.length + 1).sum≤Sw.m ⟨ki,⟨tA,tc,tl⟩⟩:=by unfold Sw.m;simp only [];omega
      omega
     have HTM:=hI htm
     have d0 : w1.cell? ⟨b2,o2 + i * 2,none⟩=some (.int .i64 ki):=hc 0 _ rfl
     have d1 : w1.cell? ⟨b2,o2 + i * 2 + 1,none⟩=some (.slice tA tl.length tc):=hc 1 _ rfl
     have k2 : (0 : Int)≤(i : Int):=by omega
     have k3 : (i : Int) < (sl.length : Int):=by omega
     clear hc hmem hy htm
     obtain ⟨a1,ha1⟩ : ∃ a,(ki == 1)=a:=⟨_,rfl⟩
     by_cases g1 : ki < 1
     ·have q : decide (ki < 1)=true:=decide_eq_true g1
      go_wp2_with fail
      go_ret
      exact ⟨_,rfl,(fun h=>absurd h (by decide)),HBX.out.low⟩
     have g1q : decide (ki < 1)=false:=decide_eq_false g1
     by_cases g5 : 5 < ki
     ·have q : decide (5 < ki)=true:=decide_eq_true g5
      go_wp2_with fail
      go_ret
      exact ⟨_,rfl,(fun h=>absurd h (by decide)),HBX.out.low⟩
     have g5q : decide (5 < ki)=false:=decide_eq_false g5
     clear g1 g5
     go_wp2_with fail
     refine (texts_o tl tA tc 4 w1 HRT.out HTM.out).mono ?_
     rintro e w2 ⟨b1,rfl,_,rfl⟩
     cases b1
     ·go_wp2_with fail
      go_ret
      exact ⟨_,rfl,(fun h=>absurd h (by decide)),HBX.out.low⟩
     obtain ⟨a2,ha2⟩ : ∃ a,decide (0 < tl.length)=a:=⟨_,rfl⟩
     cases a1 <;> cases a2
     all_goals
      go_wp2_with fail
      first
       | (go_round
          case rel=>exact ⟨i + 1,by omega,by go_num⟩
          case measure=>simp [intOf];omega)
       | (go_ret;exact ⟨_,rfl,(fun h=>absurd h (by decide)),HBX.out.low⟩)
    ·obtain rfl : i=sl.length:=by omega
     go_wp2_with fail
     go_round
     case rel=>exact ⟨j + 1,by omega,by go_num⟩
     case measure=>simp [intOf];omega
  ·obtain rfl : j=ll.length:=by omega
   go_wp2_with fail
   go_ret
   exact ⟨_,rfl,(fun _=>pos_ne (HP.out (by trivial))),HBX.out.low⟩
end Go.Proofs.YteibcfpepdbflaaGreat.RtE
