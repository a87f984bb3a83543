/- clewref14.names, texts, pairs, when, funcs, rule: some truth value, without a panic; true: what they say. Conditions: sizes within the reach. -/
import Derived.Test.YteibcfpepdbflaaGreatRtB
open Go.Lib renaming hid → hI
namespace Go.Proofs.YteibcfpepdbflaaGreat.RtC
open Go Go.RowKit BindP BindD BindO BindW BindG BindX BindB BindT RtS RtX RtY RtZ RtB BindU
open Byt (str)
def headK : List Pe→Int
 | .mk k _ _ _ _ :: _=>k
 | []=>0
def SelfOk (k n : Int) (s : S) (ar : List Pe) (m nb ne : Nat) : Prop:=n=0∧k ≠ 23∧(∃ nm,ShOk k n s m nb ne nm∧(nm=true→s ≠ []))∧(k=19→headK ar=9)
mutual
def sOk : Ps→Prop
 | .mk k n s ar b e=>SelfOk k n s ar ar.length b.length e.length∧(∀ a ∈ ar,xOk (k == 1) a)∧(bOk b∧b.length≤256)∧(bOk e∧e.length≤256)
def bOk : List Ps→Prop
 | []=>True
 | a :: l=>sOk a∧bOk l
end
theorem bOk_snoc : ∀ (l : List Ps) (a : Ps),bOk (l ++ [a])↔bOk l∧sOk a
 | [],a=>by simp [bOk]
 | x :: l,a=>by simp only [List.cons_append,bOk,bOk_snoc l a,and_assoc]
theorem bOk_take {l : List St} {i : Nat} (h : i < l.length) : bOk (stPs (l.take (i + 1)))↔bOk (stPs (l.take i))∧sOk l[i].p:=by
 rw [List.take_succ_eq_append_getElem h,stPs_app]
 exact bOk_snoc _ _
theorem len19 {n : Int} {s : S} {m nb ne : Nat} {nm : Bool} (h : ShOk 19 n s m nb ne nm) : m=1:=by
 cases h with
 | named h=>omega
 | one _=>rfl
 | none h=>omega
def BkP (l : List Ps) : Prop:=bOk l∧l.length≤256
set_option maxRecDepth 100000 in
set_option maxHeartbeats 16000000 in
theorem rightBlock_o : ∀ (N : Nat) (l : List St),nB (stPs l)≤N→∀ (A : Option Addr) (c : Nat) (w : World),Ls top w A c l→nB (stPs l)≤1048576 →
  Calls Tryz.prog 120 #[.slice A l.length c] w (SomeX (BkP (stPs l)) w):=by
 intro N
 induction N using Nat.strongRecOn with
 | _ N ihN=>
  intro l hlN A c w hsl hnB
  have hl : l.length≤1048576:=by
   have h1:=sum_len (m:=fun x : St=>nS x.p) (fun x=>by cases x;unfold St.p nS;omega) l
   rw [← nB_sum] at h1
   omega
  have HIH:=hI (show ∀ l' : List St,nB (stPs l') < N→_ from fun l' h=>ihN _ h l' (Nat.le_refl _))
  obtain ⟨m,hm⟩ : ∃ m,l.length=m:=⟨_,rfl⟩
  have HM:=hI hm
  have HSL:=hI hsl
  have HSZ:=hI (And.intro hlN hnB)
  rw [hm] at hl ⊢
  clear hm ihN hsl hlN hnB
  go_enter Tryz.func120,Tryz.ntmps120
  go_wp2_with fail
  go_loopw [11] (fun iv wr=>∃ j : Nat,j≤m∧iv=.int .i64 (j : Int)∧Hid (bOk (stPs (l.take j)))∧Below w.heap.size w wr) (fun iv _=>m - (intOf iv).toNat)
  case atStart=>exact ⟨0,Nat.zero_le _,rfl,hI (by simp [stPs,bOk]),Below.refl _ _⟩
  case round=>
   obtain ⟨wh,rfl⟩ : ∃ W,W=wr:=⟨_,rfl⟩
   obtain ⟨j,hj,rfl,HBO,hb⟩:=hrel
   have HB:=hI hb
   clear hb
   by_cases hlt : j < m
   ·have hjl : j < l.length:=by rw [HM.out];exact hlt
    obtain ⟨b1,o1,rfl,hb1,hc⟩:=Lg.at_ stE_len (Lg.keep stays_s (Keep.below HB.out) HSL.out) hjl
    have htk:=take_nB hjl
    have hbt:=bOk_take hjl
    obtain ⟨⟨k,n,s,Ca,ca,ar,Cb,cb,bo,Ce,ce,el⟩,hy⟩ : ∃ y,l[j]=y:=⟨_,rfl⟩
    have HP:=hI ((HSL.out.2 _ (hy ▸ List.getElem_mem hjl)).open_)
    rw [hy] at hc htk hbt
    unfold St.p nS at htk
    have HBT:=hI hbt
    have hz:=HSZ.out
    have HZ:=hI (show (str s).size≤4194304∧nEs (exPs ar)≤1048576∧(nB (stPs bo) < N∧nB (stPs bo)≤1048576)∧(nB (stPs el) < N∧nB (stPs el)≤1048576) by
     refine ⟨?_,by omega,by omega,by omega⟩
     show (s.toArray).size≤_
     simp
     omega)
    have har : ar.length≤nEs (exPs ar):=by
     have h1:=sum_len (m:=fun x : Ex=>nE x.p) (fun x=>nE_pos x.p) ar
     rw [← nEs_sum] at h1
     exact h1
    have zar : ar.length≤1048576:=by omega
    have c0 : wh.cell? ⟨b1,o1 + j * 6,none⟩=some (.int .i64 k):=hc 0 _ rfl
    have c1 : wh.cell? ⟨b1,o1 + j * 6 + 1,none⟩=some (.int .i64 n):=hc 1 _ rfl
    have c2 : wh.cell? ⟨b1,o1 + j * 6 + 2,none⟩=some (.string (str s)):=hc 2 _ rfl
    have c3 : wh.cell? ⟨b1,o1 + j * 6 + 3,none⟩=some (.slice Ca ar.length ca):=hc 3 _ rfl
    have c4 : wh.cell? ⟨b1,o1 + j * 6 + 4,none⟩=some (.slice Cb bo.length cb):=hc 4 _ rfl
    have c5 : wh.cell? ⟨b1,o1 + j * 6 + 5,none⟩=some (.slice Ce el.length ce):=hc 5 _ rfl
    have k0 : (0 : Int)≤(j : Int):=by omega
    have k1 : (j : Int) < (m : Int):=by omega
    obtain ⟨wa,hwa⟩ : ∃ W1,wh.alloc (.cells #[.int .i64 k,.int .i64 n,.string (str s),.slice Ca ar.length ca,.slice Cb bo.length cb,.slice Ce el.length ce] 65)=W1:=⟨_,rfl⟩
    have HXA:=hI (show Bz wh #[.int .i64 k,.int .i64 n,.string (str s),.slice Ca ar.length ca,.slice Cb bo.length cb,.slice Ce el.length ce] 65 wa by rw [← hwa];exact Bz.new _ _ _)
    obtain ⟨pb,hpb⟩ : ∃ q,wh.heap.size=q:=⟨_,rfl⟩
    obtain ⟨x0,x1,x2,x3,x4,x5,xf⟩:=cells6 HXA.out.box
    have HPB:=hI hpb
    rw [hpb] at x0 x1 x2 x3 x4 x5 xf
    clear hc htk hbt hz har hy hjl
    go_wp2_with fail
    refine (shape_o k n s Ca Cb Ce ar.length bo.length el.length ca cb ce wa).mono ?_
    rintro e w2 ⟨b,nm,rfl,hsh,hb⟩
    have HSH:=hI hsh
    have HX2:=hI (HXA.out.on hb)
    clear hb hsh c0 c1 c2 c3 c4 c5 x0 x1 x2 x3 x4 x5 xf hwa
    obtain ⟨x0,x1,x2,x3,x4,x5,xf⟩:=cells6 HX2.out.box
    rw [HPB.out] at x0 x1 x2 x3 x4 x5 xf
    go_upto_region 5 with fail
    go_cut [53] (fun v wx=>∃ q : Bool,v=.bool q∧Hid (q=false→SelfOk k n s (exPs ar) ar.length bo.length el.length)∧Bz wh #[.int .i64 k,.int .i64 n,.string (str s),.slice Ca ar.length ca,.slice Cb bo.length cb,.slice Ce el.length ce] 65 wx)
    case first=>
     cases b
     ·go_wp2_with fail
      go_meet
      exact ⟨_,rfl,hI (fun h=>absurd h (by decide)),HX2.out⟩
     by_cases hn : n=0
     ·subst hn
      by_cases hk : k=23
      ·have qk : (k == 23)=true:=by rw [hk];rfl
       clear hk
       go_wp2_with fail
       go_meet
       exact ⟨_,rfl,hI (fun h=>absurd h (by decide)),HX2.out⟩
      ·have qk : (k == 23)=false:=beq_eq_false_iff_ne.2 hk
       have HK:=hI hk
       clear hk
       by_cases hk9 : k=19
       ·subst hk9
        have hm1:=len19 (HSH.out (by trivial))
        have z01 : (0 : Int) < (ar.length : Int):=by omega
        obtain ⟨b2,o2,hA,hb2,hc⟩:=Lg.at_ exE_len (show Lx top w2 Ca ca ar from Lg.keep stays_x (Keep.below (HB.out.trans (HX2.out.low.mono HB.out.size))) HP.out.1) (show 0 < ar.length by omega)
        subst hA
        obtain ⟨⟨ek,ep,en,es,eA,ec,er⟩,hy⟩ : ∃ y,ar[0]=y:=⟨_,rfl⟩
        rw [hy] at hc
        have d0 : w2.cell? ⟨b2,o2,none⟩=some (.int .i64 ek):=by have h:=hc 0 _ rfl;simpa using h
        have HH:=hI (show headK (exPs ar)=ek by
         cases ar with
         | nil=>simp at hm1
         | cons a l=>
          simp only [List.getElem_cons_zero] at hy
          subst hy
          rfl)
        clear hc hy hm1
        by_cases he9 : ek=9
        ·have qe : (ek != 9)=false:=by rw [he9];rfl
         have HE:=hI he9
         clear he9
         cases nm
         ·go_wp2_with fail
          go_meet
          exact ⟨_,rfl,hI (fun _=>⟨rfl,HK.out,⟨_,HSH.out (by trivial),(fun h=>absurd h (by decide))⟩,fun _=>HH.out.trans HE.out⟩),HX2.out⟩
         ·go_wp2_with (go_at_call 129;refine (name10_o _ HZ.out.1 _).mono ?_;rintro e w3 ⟨b2,rfl,hq,rfl⟩;have HQ:=hI hq;clear hq;cases b2)
          all_goals go_meet
          all_goals first | (refine ⟨_,rfl,hI (fun _=>?_),HX2.out⟩;have h:=pos_ne (HQ.out (by trivial));exact ⟨rfl,HK.out,⟨_,HSH.out (by trivial),fun _=>h⟩,fun _=>HH.out.trans HE.out⟩) | exact ⟨_,rfl,hI (fun h=>absurd h (by decide)),HX2.out⟩
        ·have qe : (ek != 9)=true:=by simp [he9]
         clear he9
         cases nm
         ·go_wp2_with fail
          go_meet
          exact ⟨_,rfl,hI (fun h=>absurd h (by decide)),HX2.out⟩
         ·go_wp2_with (go_at_call 129;refine (name10_o _ HZ.out.1 _).mono ?_;rintro e w3 ⟨b2,rfl,hq,rfl⟩;have HQ:=hI hq;clear hq;cases b2)
          all_goals go_meet
          all_goals exact ⟨_,rfl,hI (fun h=>absurd h (by decide)),HX2.out⟩
       ·have qk9 : (k == 19)=false:=beq_eq_false_iff_ne.2 hk9
        have HK9:=hI hk9
        clear hk9
        cases nm
        ·go_wp2_with fail
         go_meet
         exact ⟨_,rfl,hI (fun _=>⟨rfl,HK.out,⟨_,HSH.out (by trivial),(fun h=>absurd h (by decide))⟩,fun h=>absurd h HK9.out⟩),HX2.out⟩
        ·go_wp2_with (go_at_call 129;refine (name10_o _ HZ.out.1 _).mono ?_;rintro e w3 ⟨b2,rfl,hq,rfl⟩;have HQ:=hI hq;clear hq;cases b2)
         all_goals go_meet
         all_goals first | (refine ⟨_,rfl,hI (fun _=>?_),HX2.out⟩;have h:=pos_ne (HQ.out (by trivial));exact ⟨rfl,HK.out,⟨_,HSH.out (by trivial),fun _=>h⟩,fun h=>absurd h HK9.out⟩) | exact ⟨_,rfl,hI (fun h=>absurd h (by decide)),HX2.out⟩
     ·have qn : (n != 0)=true:=by simp [hn]
      clear hn
      go_wp2_with fail
      go_meet
      exact ⟨_,rfl,hI (fun h=>absurd h (by decide)),HX2.out⟩
    case rest=>
     obtain ⟨q,rfl,HSF,hz⟩:=hcut
     have HX3:=hI hz
     clear hz x0 x1 x2 x3 x4 x5 xf HX2 HSH
     obtain ⟨x0,x1,x2,x3,x4,x5,xf⟩:=cells6 HX3.out.box
     rw [HPB.out] at x0 x1 x2 x3 x4 x5 xf
     have HBW:=hI (HB.out.trans (HX3.out.low.mono HB.out.size))
     cases q
     ·go_wp2_with fail
      go_loopw [57] (fun iv wr=>∃ i : Nat,i≤ar.length∧iv=.int .i64 (i : Int)∧Hid (∀ a ∈ exPs (ar.take i),xOk (k == 1) a)∧Bz wh #[.int .i64 k,.int .i64 n,.string (str s),.slice Ca ar.length ca,.slice Cb bo.length cb,.slice Ce el.length ce] 65 wr) (fun iv _=>ar.length - (intOf iv).toNat)
      case atStart=>exact ⟨0,Nat.zero_le _,rfl,hI (by simp [exPs]),HX3.out⟩
      case round=>
       clear x0 x1 x2 x3 x4 x5 xf
       obtain ⟨i,hi,rfl,HXO,hz⟩:=hrel
       have HX4:=hI hz
       have HBY:=hI (HB.out.trans (hz.low.mono HB.out.size))
       clear hz
       obtain ⟨x0,x1,x2,x3,x4,x5,xf⟩:=cells6 HX4.out.box
       rw [HPB.out] at x0 x1 x2 x3 x4 x5 xf
       by_cases hlt2 : i < ar.length
       ·obtain ⟨b2,o2,rfl,hb2,hc⟩:=Lg.at_ exE_len (show Lx top wr Ca ca ar from Lg.keep stays_x (Keep.below HBY.out) HP.out.1) hlt2
        have hmem : ar[i] ∈ ar:=List.getElem_mem hlt2
        obtain ⟨⟨ek,ep,en,es,eA,ec,er⟩,hy⟩ : ∃ y,ar[i]=y:=⟨_,rfl⟩
        have HNY:=hI (show exPs (ar.take (i + 1))=exPs (ar.take i) ++ [(Ex.mk ek ep en es eA ec er).p] by
         rw [List.take_succ_eq_append_getElem hlt2,exPs_map,List.map_append,← exPs_map,hy];rfl)
        rw [hy] at hc hmem
        have HME:=hI (And.intro (HP.out.1.2 _ hmem) (show nE (Ex.mk ek ep en es eA ec er).p≤1048576 by
         have h1:=sum_mem (m:=fun x : Ex=>nE x.p) ar _ hmem
         rw [← nEs_sum] at h1
         have:=HZ.out.2.1
         omega))
        have d0 : wr.cell? ⟨b2,o2 + i * 5,none⟩=some (.int .i64 ek):=hc 0 _ rfl
        have d1 : wr.cell? ⟨b2,o2 + i * 5 + 1,none⟩=some (.int .i64 ep):=hc 1 _ rfl
        have d2 : wr.cell? ⟨b2,o2 + i * 5 + 2,none⟩=some (.int .i64 en):=hc 2 _ rfl
        have d3 : wr.cell? ⟨b2,o2 + i * 5 + 3,none⟩=some (.string (str es)):=hc 3 _ rfl
        have d4 : wr.cell? ⟨b2,o2 + i * 5 + 4,none⟩=some (.slice eA er.length ec):=hc 4 _ rfl
        have k2 : (0 : Int)≤(i : Int):=by omega
        have k3 : (i : Int) < (ar.length : Int):=by omega
        obtain ⟨wb,hwb⟩ : ∃ W1,wr.alloc (.cells #[.int .i64 ek,.int .i64 ep,.int .i64 en,.string (str es),.slice eA er.length ec] 68)=W1:=⟨_,rfl⟩
        obtain ⟨mb,sb,bb⟩:=made hwb
        have HX5:=hI (HX4.out.on bb)
        have HBB:=hI (HBY.out.trans (bb.mono HBY.out.size))
        obtain ⟨pd,hpd⟩ : ∃ q,wr.heap.size=q:=⟨_,rfl⟩
        rw [hpd] at mb
        obtain ⟨y0,y1,y2,y3,y4,yf⟩:=cells5 mb
        clear hc hy hmem mb sb bb x0 x1 x2 x3 x4 x5 xf
        obtain ⟨x0,x1,x2,x3,x4,x5,xf⟩:=cells6 HX5.out.box
        rw [HPB.out] at x0 x1 x2 x3 x4 x5 xf
        go_wp2_with fail
        refine (right_o _ (k == 1) wb (RdX.keep (Keep.below HBB.out) HME.out.1) HME.out.2).mono ?_
        rintro e w4 ⟨q4,rfl,hp4,hb4⟩
        have HP4:=hI hp4
        have HX6:=hI (HX5.out.on hb4)
        clear hp4 hb4 x0 x1 x2 x3 x4 x5 xf y0 y1 y2 y3 y4 yf
        cases q4
        ·go_wp2_with fail
         go_ret
         exact ⟨_,rfl,(fun h=>absurd h (by decide)),HB.out.trans (HX6.out.low.mono HB.out.size)⟩
        ·go_wp2_with fail
         go_roundw
         case rel=>exact ⟨i + 1,by omega,by go_num,hI (by
          intro a ha
          rw [HNY.out] at ha
          rcases List.mem_append.1 ha with ha | ha
          ·exact HXO.out a ha
          ·rw [List.mem_singleton] at ha;rw [ha];exact HP4.out (by trivial)),HX6.out⟩
         case measure=>simp [intOf];omega
       ·obtain rfl : i=ar.length:=by omega
        have HXA:=hI (show ∀ a ∈ exPs ar,xOk (k == 1) a by have h:=HXO.out;rw [List.take_length] at h;exact h)
        go_wp2_with fail
        refine (HIH.out bo HZ.out.2.2.1.1 Cb cb wr (Lg.keep stays_s (Keep.below HBY.out) HP.out.2.1) HZ.out.2.2.1.2).mono ?_
        rintro e w4 ⟨q4,rfl,hp4,hb4⟩
        have HP4:=hI hp4
        have HX6:=hI (HX4.out.on hb4)
        have HB6:=hI (HBY.out.trans (hb4.mono HBY.out.size))
        clear hp4 hb4 x0 x1 x2 x3 x4 x5 xf
        obtain ⟨x0,x1,x2,x3,x4,x5,xf⟩:=cells6 HX6.out.box
        rw [HPB.out] at x0 x1 x2 x3 x4 x5 xf
        cases q4
        ·go_wp2_with fail
         go_ret
         exact ⟨_,rfl,(fun h=>absurd h (by decide)),HB6.out⟩
        ·go_wp2_with fail
         refine (HIH.out el HZ.out.2.2.2.1 Ce ce w4 (Lg.keep stays_s (Keep.below HB6.out) HP.out.2.2) HZ.out.2.2.2.2).mono ?_
         rintro e w5 ⟨q5,rfl,hp5,hb5⟩
         have HP5:=hI hp5
         have HB7:=hI (HB6.out.trans (hb5.mono HB6.out.size))
         clear hp5 hb5 x0 x1 x2 x3 x4 x5 xf
         cases q5
         ·go_wp2_with fail
          go_ret
          exact ⟨_,rfl,(fun h=>absurd h (by decide)),HB7.out⟩
         ·go_wp2_with fail
          go_roundw
          case rel=>exact ⟨j + 1,by omega,by go_num,hI (HBT.out.2 ⟨HBO.out,by
           have h1:=HSF.out (by trivial)
           simp only [St.p,sOk]
           rw [stPs_map bo,List.length_map,← stPs_map,stPs_map el,List.length_map,← stPs_map,exPs_map,List.length_map,← exPs_map]
           refine ⟨h1,HXA.out,?_,?_⟩
           ·have h:=HP4.out (by trivial);unfold BkP at h;rw [stPs_map,List.length_map,← stPs_map] at h;exact h
           ·have h:=HP5.out (by trivial);unfold BkP at h;rw [stPs_map,List.length_map,← stPs_map] at h;exact h⟩),HB7.out⟩
          case measure=>simp [intOf];omega
     ·go_wp2_with fail
      go_ret
      exact ⟨_,rfl,(fun h=>absurd h (by decide)),HBW.out⟩
   ·obtain rfl : m=j:=by omega
    have HTK:=hI (show bOk (stPs l) by have h:=HBO.out;rw [List.take_of_length_le (by rw [HM.out];exact Nat.le_refl _)] at h;exact h)
    by_cases h256 : m≤256
    ·have q : decide ((m : Int)≤256)=true:=decide_eq_true (by omega)
     have H2:=hI h256
     clear h256
     go_wp2_with fail
     go_ret
     exact ⟨_,rfl,(fun _=>⟨HTK.out,by rw [stPs_map,List.length_map,HM.out];exact H2.out⟩),HB.out⟩
    ·have q : decide ((m : Int)≤256)=false:=decide_eq_false (by omega)
     clear h256
     go_wp2_with fail
     go_ret
     exact ⟨_,rfl,(fun h=>absurd h (by decide)),HB.out⟩
def RightB (l : List Ps) : Prop:=dB 65 l≤32∧BkP l
set_option maxRecDepth 100000 in
theorem rightB_o (l : List St) (A : Option Addr) (c : Nat) (w : World) (hsl : Ls top w A c l) (hn : nB (stPs l)≤1048576) : Calls Tryz.prog 93 #[.slice A l.length c] w (SomeX (RightB (stPs l)) w):=by
 have HD:=hI (depthBlock_o l A c w hsl hn)
 have HC:=hI (fun u (hu : Below w.heap.size w u)=>rightBlock_o _ l (Nat.le_refl _) A c u (Lg.keep stays_s (Keep.below hu) hsl) hn)
 obtain ⟨dq,hdq⟩ : ∃ q,dB 65 (stPs l)=q:=⟨_,rfl⟩
 have HDQ:=hI hdq
 rw [hdq] at HD
 have HRE:=hI (show dq≤32→BkP (stPs l)→RightB (stPs l) from fun h1 h2=>⟨by rw [HDQ.out];exact h1,h2⟩)
 clear hsl hn hdq
 go_enter Tryz.func93,Tryz.ntmps93
 go_wp2_with fail
 refine HD.out.mono ?_
 rintro e w2 ⟨rfl,hb⟩
 have HB2:=hI hb
 clear hb
 by_cases h32 : dq≤32
 ·have q : decide ((dq : Int)≤32)=true:=decide_eq_true (by omega)
  have H32:=hI h32
  clear h32
  go_wp2_with fail
  refine (HC.out w2 HB2.out).mono ?_
  rintro e w3 ⟨b,rfl,hp,hb⟩
  have HP:=hI hp
  have HB3:=hI (HB2.out.trans (hb.mono HB2.out.size))
  clear hp hb
  go_wp2_with fail
  go_ret
  exact ⟨_,rfl,(fun h=>HRE.out H32.out (HP.out h)),HB3.out⟩
 ·have q : decide ((dq : Int)≤32)=false:=decide_eq_false (by omega)
  clear h32
  go_wp2_with fail
  go_ret
  exact ⟨_,rfl,(fun h=>by cases h),HB2.out⟩
end Go.Proofs.YteibcfpepdbflaaGreat.RtC
namespace Go.Proofs.YteibcfpepdbflaaGreat.BoD
open Go Go.RowKit BindP RtY RtZ RtC
open Byt (str)
structure Tn where
 gl : Nat
 tx : Nat
 pr : Nat
 da : Nat
 fl : Int
 fu : List Int
 pa : List Int
def parP (Q : Tn) (f : Int) (m : Nat) : Prop:=∃ i k : Nat,f=(i : Int)∧Q.fu[i]?=some (k : Int)∧Q.pa[k]?=some (m : Int)
inductive KB (Q : Tn) (L : Nat) : Bool→Int→Int→Int→Nat→Prop
 | num {sd n} : -32768≤n→n≤32767→KB Q L sd 1 0 n 0
 | glob {sd n} : 0≤n→n < (Q.gl : Int)→KB Q L sd 14 0 n 0
 | loc {sd n} : 0≤n→n < (L : Int)→KB Q L sd 15 0 n 0
 | text {n} : 0≤n→n < (Q.tx : Int)→KB Q L true 19 0 n 0
 | neg {sd} : KB Q L sd 4 0 0 1
 | not {sd} : KB Q L sd 5 0 0 1
 | random {sd} : KB Q L sd 11 0 0 1
 | title : KB Q L true 13 0 0 1
 | bin {sd o} : 1≤o→o≤14→KB Q L sd 6 o 0 2
 | has {sd n} : 0≤n→n < Q.fl→KB Q L sd 16 0 n 1
 | prop {sd n} : 0≤n→n < (Q.pr : Int)→KB Q L sd 17 0 n 1
 | call {sd n m} : parP Q n m→KB Q L sd 18 0 n m
 | tree {sd o} : 1≤o→o≤3→KB Q L sd 10 o 0 1
 | self {sd o} : 1≤o→o≤6→KB Q L sd 12 o 0 0
mutual
def xBd (Q : Tn) (L : Nat) : Bool→Pe→Prop
 | sd,.mk k o n s ar=>s=[]∧KB Q L sd k o n ar.length∧xsBd Q L ar
def xsBd (Q : Tn) (L : Nat) : List Pe→Prop
 | []=>True
 | a :: l=>xBd Q L false a∧xsBd Q L l
end
theorem xsBd_mem {Q : Tn} {L : Nat} : ∀ (l : List Pe),xsBd Q L l→∀ a ∈ l,xBd Q L false a
 | [],_,_,h=>by cases h
 | a :: l,h,b,hb=>by
  unfold xsBd at h
  rcases List.mem_cons.1 hb with rfl | hb
  ·exact h.1
  ·exact xsBd_mem l h.2 b hb
def ThB (Q : Tn) (L : Nat) (k n : Int) : Prop:=(k=2∨k=3→0≤n∧n < (L : Int))∧(k=11→0≤n∧n + 1 < (L : Int))∧(k=23→0≤n∧n < (Q.gl : Int))∧(k=4→0≤n∧n < (Q.pr : Int))∧(k=5∨k=6→0≤n∧n < Q.fl)∧(k=17∨k=18→0≤n∧n < (Q.da : Int))
mutual
def sBd (Q : Tn) (L : Nat) : Ps→Prop
 | .mk k n s ar b e=>s=[]∧(∃ nm,ShOk k n s ar.length b.length e.length nm)∧ThB Q L k n∧(k=19→headK ar=18)∧(∀ a ∈ ar,xBd Q L (k == 1) a)∧(bBd Q L b∧b.length≤256)∧(bBd Q L e∧e.length≤256)
def bBd (Q : Tn) (L : Nat) : List Ps→Prop
 | []=>True
 | a :: l=>sBd Q L a∧bBd Q L l
end
end Go.Proofs.YteibcfpepdbflaaGreat.BoD
namespace Go.Proofs.YteibcfpepdbflaaGreat.RtD
open Go Go.RowKit BindP BindD BindO BindW BindG BindX BindB BindT RtS RtX RtY RtZ RtB RtC BindU
open Byt (str)
def NamesP (most : Int) (l : List S) : Prop:=(l.length : Int)≤most∧∀ s ∈ l,s ≠ []
theorem str_len {s : S} {n : Nat} (h : s.length≤n) : (str s).size≤n:=by show (s.toArray).size≤n;simp;exact h
theorem Lg.one {α : Type} {enc : α→List Value} {R : (Nat→Prop)→World→α→Prop} {K : Nat→Prop} {w : World} {A : Option Addr} {c : Nat} {l : List α} (hk : ∀ x,(enc x).length=1) (h : Lg enc R K w A c l) {i : Nat} (hi : i < l.length) :
  ∃ b o,A=some ⟨b,o,none⟩∧b < w.heap.size∧∀ u,(enc l[i])[0]?=some u→w.cell? ⟨b,o + i,none⟩=some u:=by
 obtain ⟨b,o,e,hb,hc⟩:=Lg.at_ hk h hi
 exact ⟨b,o,e,hb,fun u hu=>by have h:=hc 0 u hu;simpa using h⟩
set_option maxRecDepth 100000 in
set_option maxHeartbeats 2000000 in
theorem names_o (l : List S) (A : Option Addr) (c : Nat) (most : Int) (w : World) (hl : Lg svE Rt top w A c l) (hz : (l.map fun x=>x.length + 1).sum≤1048576) :
  Calls Tryz.prog 47 #[.slice A l.length c,.int .i64 most] w (SomeQ (NamesP most l) w):=by
 have hn : l.length≤1048576:=Nat.le_trans (sum_len (m:=fun x : S=>x.length + 1) (fun _=>by omega) l) hz
 obtain ⟨m,hm⟩ : ∃ m,l.length=m:=⟨_,rfl⟩
 have HM:=hI hm
 have HL:=hI hl
 have HZ:=hI hz
 rw [hm] at hn ⊢
 clear hm hl hz
 by_cases h1 : (m : Int)≤most
 ·have q : decide (most < (m : Int))=false:=decide_eq_false (by omega)
  have H1:=hI h1
  clear h1
  go_enter Tryz.func47,Tryz.ntmps47
  go_wp2_with fail
  go_loop [5] (fun iv=>∃ j : Nat,j≤m∧iv=.int .i64 (j : Int)∧Hid (∀ s ∈ l.take j,s ≠ [])) (fun iv=>m - (intOf iv).toNat)
  case atStart=>exact ⟨0,Nat.zero_le _,rfl,hI (by simp)⟩
  case round=>
   obtain ⟨j,hj,rfl,HT⟩:=hrel
   by_cases hlt : j < m
   ·have hjl : j < l.length:=by rw [HM.out];exact hlt
    obtain ⟨b,o,rfl,hb,hc⟩:=Lg.one (fun _=>rfl) HL.out hjl
    have hmem : l[j] ∈ l:=List.getElem_mem hjl
    obtain ⟨y,hy⟩ : ∃ y,l[j]=y:=⟨_,rfl⟩
    have HTK:=hI (show l.take (j + 1)=l.take j ++ [y] by rw [List.take_succ_eq_append_getElem hjl,hy])
    rw [hy] at hc hmem
    have hys : y.length≤1048576:=by
     have h1:=sum_mem (m:=fun x : S=>x.length + 1) l _ hmem
     have:=HZ.out
     omega
    have HYS:=hI hys
    have c0 : w.cell? ⟨b,o + j,none⟩=some (.string (str y)):=hc _ rfl
    have k0 : (0 : Int)≤(j : Int):=by omega
    have k1 : (j : Int) < (m : Int):=by omega
    clear hc hmem hy hys hjl
    go_wp2_with (go_at_call 46;refine (name14_o _ (Nat.le_trans (str_len HYS.out) (by omega)) _).mono ?_;rintro e w1 ⟨b1,rfl,hp,rfl⟩;have HP:=hI hp;clear hp;cases b1)
    all_goals first
     | (go_round
        case rel=>exact ⟨j + 1,by omega,by go_num,hI (by
         intro s hs
         rw [HTK.out] at hs
         rcases List.mem_append.1 hs with hs | hs
         ·exact HT.out s hs
         ·rw [List.mem_singleton] at hs;rw [hs];exact pos_ne (HP.out (by trivial)))⟩
        case measure=>simp [intOf];omega)
     | (go_ret;exact ⟨_,rfl,(fun h=>absurd h (by decide)),rfl⟩)
   ·obtain rfl : m=j:=by omega
    have HTK:=hI (show l.take m=l from List.take_of_length_le (by rw [HM.out];exact Nat.le_refl _))
    go_wp2_with fail
    go_ret
    exact ⟨_,rfl,(fun _=>⟨by rw [HM.out];exact H1.out,by have h:=HT.out;rw [HTK.out] at h;exact h⟩),rfl⟩
 ·have q : decide (most < (m : Int))=true:=decide_eq_true (by omega)
  clear h1
  go_enter Tryz.func47,Tryz.ntmps47
  go_wp2_with fail
  go_ret
  exact ⟨_,rfl,(fun h=>absurd h (by decide)),rfl⟩
set_option maxRecDepth 100000 in
set_option maxHeartbeats 2000000 in
theorem texts_o (l : List S) (A : Option Addr) (c : Nat) (most : Int) (w : World) (hl : Lg svE Rt top w A c l) (hz : (l.map fun x=>x.length + 1).sum≤1048576) :
  Calls Tryz.prog 94 #[.slice A l.length c,.int .i64 most] w (SomeQ ((l.length : Int)≤most) w):=by
 have hn : l.length≤1048576:=Nat.le_trans (sum_len (m:=fun x : S=>x.length + 1) (fun _=>by omega) l) hz
 obtain ⟨m,hm⟩ : ∃ m,l.length=m:=⟨_,rfl⟩
 have HM:=hI hm
 have HL:=hI hl
 have HZ:=hI hz
 rw [hm] at hn ⊢
 clear hm hl hz
 by_cases h1 : (m : Int)≤most
 ·have q : decide (most < (m : Int))=false:=decide_eq_false (by omega)
  have H1:=hI h1
  clear h1
  go_enter Tryz.func94,Tryz.ntmps94
  go_wp2_with fail
  go_loop [5] (fun iv=>∃ j : Nat,j≤m∧iv=.int .i64 (j : Int)) (fun iv=>m - (intOf iv).toNat)
  case atStart=>exact ⟨0,Nat.zero_le _,rfl⟩
  case round=>
   obtain ⟨j,hj,rfl⟩:=hrel
   by_cases hlt : j < m
   ·have hjl : j < l.length:=by rw [HM.out];exact hlt
    obtain ⟨b,o,rfl,hb,hc⟩:=Lg.one (fun _=>rfl) HL.out hjl
    have hmem : l[j] ∈ l:=List.getElem_mem hjl
    obtain ⟨y,hy⟩ : ∃ y,l[j]=y:=⟨_,rfl⟩
    rw [hy] at hc hmem
    have hys : y.length≤1048576:=by
     have h1:=sum_mem (m:=fun x : S=>x.length + 1) l _ hmem
     have:=HZ.out
     omega
    have HYS:=hI hys
    have c0 : w.cell? ⟨b,o + j,none⟩=some (.string (str y)):=hc _ rfl
    have k0 : (0 : Int)≤(j : Int):=by omega
    have k1 : (j : Int) < (m : Int):=by omega
    clear hc hmem hy hys hjl
    go_wp2_with (go_at_call 45;refine (isText_o _ (Nat.le_trans (str_len HYS.out) (by omega)) _).mono ?_;rintro e w1 ⟨b1,rfl,rfl⟩;cases b1)
    all_goals first
     | (go_round
        case rel=>exact ⟨j + 1,by omega,by go_num⟩
        case measure=>simp [intOf];omega)
     | (go_ret;exact ⟨_,rfl,(fun h=>absurd h (by decide)),rfl⟩)
   ·obtain rfl : m=j:=by omega
    go_wp2_with fail
    go_ret
    exact ⟨_,rfl,(fun _=>H1.out),rfl⟩
 ·have q : decide (most < (m : Int))=true:=decide_eq_true (by omega)
  clear h1
  go_enter Tryz.func94,Tryz.ntmps94
  go_wp2_with fail
  go_ret
  exact ⟨_,rfl,(fun h=>absurd h (by decide)),rfl⟩
def PairsP (most : Int) (l : List Pr) : Prop:=(l.length : Int)≤most∧∀ p ∈ l,p.nm ≠ []
set_option maxRecDepth 100000 in
set_option maxHeartbeats 2000000 in
theorem pairs_o (l : List Pr) (A : Option Addr) (c : Nat) (most : Int) (w : World) (hl : Lg Pr.e Pr.R top w A c l) (hz : (l.map Pr.m).sum≤1048576) :
  Calls Tryz.prog 48 #[.slice A l.length c,.int .i64 most] w (SomeQ (PairsP most l) w):=by
 have hn : l.length≤1048576:=Nat.le_trans (sum_len (m:=Pr.m) (fun _=>by unfold Pr.m;omega) l) hz
 obtain ⟨m,hm⟩ : ∃ m,l.length=m:=⟨_,rfl⟩
 have HM:=hI hm
 have HL:=hI hl
 have HZ:=hI hz
 rw [hm] at hn ⊢
 clear hm hl hz
 by_cases h1 : (m : Int)≤most
 ·have q : decide (most < (m : Int))=false:=decide_eq_false (by omega)
  have H1:=hI h1
  clear h1
  go_enter Tryz.func48,Tryz.ntmps48
  go_wp2_with fail
  go_loop [5] (fun iv=>∃ j : Nat,j≤m∧iv=.int .i64 (j : Int)∧Hid (∀ s ∈ l.take j,s.nm ≠ [])) (fun iv=>m - (intOf iv).toNat)
  case atStart=>exact ⟨0,Nat.zero_le _,rfl,hI (by simp)⟩
  case round=>
   obtain ⟨j,hj,rfl,HT⟩:=hrel
   by_cases hlt : j < m
   ·have hjl : j < l.length:=by rw [HM.out];exact hlt
    obtain ⟨b,o,rfl,hb,hc⟩:=Lg.at_ Pr.len HL.out hjl
    have hmem : l[j] ∈ l:=List.getElem_mem hjl
    obtain ⟨⟨y,z⟩,hy⟩ : ∃ y,l[j]=y:=⟨_,rfl⟩
    have HTK:=hI (show l.take (j + 1)=l.take j ++ [⟨y,z⟩] by rw [List.take_succ_eq_append_getElem hjl,hy])
    rw [hy] at hc hmem
    have hys : y.length≤1048576:=by
     have h1:=sum_mem (m:=Pr.m) l _ hmem
     unfold Pr.m at h1
     simp only [] at h1
     have:=HZ.out
     unfold Pr.m at this
     omega
    have HYS:=hI hys
    have c0 : w.cell? ⟨b,o + j * 2,none⟩=some (.string (str y)):=hc 0 _ rfl
    have c1 : w.cell? ⟨b,o + j * 2 + 1,none⟩=some (.int .i64 z):=hc 1 _ rfl
    have k0 : (0 : Int)≤(j : Int):=by omega
    have k1 : (j : Int) < (m : Int):=by omega
    clear hc hmem hy hys hjl
    go_wp2_with (go_at_call 46;refine (name14_o _ (Nat.le_trans (str_len HYS.out) (by omega)) _).mono ?_;rintro e w1 ⟨b1,rfl,hp,rfl⟩;have HP:=hI hp;clear hp;cases b1)
    all_goals first
     | (go_round
        case rel=>exact ⟨j + 1,by omega,by go_num,hI (by
         intro s hs
         rw [HTK.out] at hs
         rcases List.mem_append.1 hs with hs | hs
         ·exact HT.out s hs
         ·rw [List.mem_singleton] at hs;rw [hs];exact pos_ne (HP.out (by trivial)))⟩
        case measure=>simp [intOf];omega)
     | (go_ret;exact ⟨_,rfl,(fun h=>absurd h (by decide)),rfl⟩)
   ·obtain rfl : m=j:=by omega
    have HTK:=hI (show l.take m=l from List.take_of_length_le (by rw [HM.out];exact Nat.le_refl _))
    go_wp2_with fail
    go_ret
    exact ⟨_,rfl,(fun _=>⟨by rw [HM.out];exact H1.out,by have h:=HT.out;rw [HTK.out] at h;exact h⟩),rfl⟩
 ·have q : decide (most < (m : Int))=true:=decide_eq_true (by omega)
  clear h1
  go_enter Tryz.func48,Tryz.ntmps48
  go_wp2_with fail
  go_ret
  exact ⟨_,rfl,(fun h=>absurd h (by decide)),rfl⟩
end Go.Proofs.YteibcfpepdbflaaGreat.RtD
