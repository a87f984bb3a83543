/- clewref10.greater, deepBlock, DepthBlock: how deep statements are, up to so many. Conditions: sizes within the reach. -/
import Derived.Test.YteibcfpepdbflaaGreatRtZ
open Go.Lib renaming hid → hI
open Go.Proofs.YteibcfpepdbflaaGreat.RgD renaming tk → tK, sA → zA, s0 → zB, s1 → zC
namespace Go.Proofs.YteibcfpepdbflaaGreat.RtB
open Go Go.RowKit BindP BindD BindO BindW BindG BindX BindB BindT RtS RtX RtY RtZ BindU
open Byt (str)
theorem greater_o (a b : Nat) (w : World) : Calls Tryz.prog 114 #[.int .i64 (a : Int),.int .i64 (b : Int)] w fun e w'=>e=.returned (.int .i64 ((max a b : Nat) : Int))∧w=w':=by
 by_cases h : b < a
 ·have q : decide (b < a)=true:=decide_eq_true h
  have HM:=hI (show max a b=a by omega)
  clear h
  go_enter Tryz.func114,Tryz.ntmps114
  go_wp2_with fail
  go_ret
  exact ⟨by rw [HM.out];rfl,rfl⟩
 ·have q : decide (b < a)=false:=decide_eq_false h
  have HM:=hI (show max a b=b by omega)
  clear h
  go_enter Tryz.func114,Tryz.ntmps114
  go_wp2_with fail
  go_ret
  exact ⟨by rw [HM.out];rfl,rfl⟩
mutual
def dS : Nat→Ps→Nat
 | m,.mk _ _ _ ar b e=>max (dEs m ar) (max (dB m b) (dB m e))
def dB : Nat→List Ps→Nat
 | _,[]=>0
 | most,a :: l=>(if 1 < most then max (dS (most - 1) a) (dL (most - 1) l) else 0) + 1
def dL : Nat→List Ps→Nat
 | _,[]=>0
 | m,a :: l=>max (dS m a) (dL m l)
end
theorem dB_dL (m : Nat) (l : List Ps) (h1 : 1 < m) (h2 : l ≠ []) : dB m l=dL (m - 1) l + 1:=by
 cases l with
 | nil=>exact absurd rfl h2
 | cons a l=>rw [dB,if_pos h1,dL]
theorem dL_snoc (m : Nat) : ∀ (l : List Ps) (a : Ps),dL m (l ++ [a])=max (dL m l) (dS m a)
 | [],a=>by simp [dL]
 | x :: l,a=>by simp only [List.cons_append,dL,dL_snoc m l a,Nat.max_assoc]
theorem dEs_take {m : Nat} {ar : List Ex} {i : Nat} (h : i < ar.length) : dEs m (exPs (ar.take (i + 1)))=max (dEs m (exPs (ar.take i))) (dE m ar[i].p):=by
 rw [List.take_succ_eq_append_getElem h,exPs_map,List.map_append,← exPs_map]
 exact dEs_snoc _ _ _
theorem dL_take {m : Nat} {l : List St} {i : Nat} (h : i < l.length) : dL m (stPs (l.take (i + 1)))=max (dL m (stPs (l.take i))) (dS m l[i].p):=by
 rw [List.take_succ_eq_append_getElem h,stPs_app]
 exact dL_snoc _ _ _
mutual
theorem dS_le : ∀ (m : Nat) (p : Ps),1≤m→dS m p≤m
 | m,.mk _ _ _ ar b e,h=>by
  have h1:=dEs_le m ar h
  have h2:=dB_le m b h
  have h3:=dB_le m e h
  unfold dS
  omega
theorem dB_le : ∀ (m : Nat) (l : List Ps),1≤m→dB m l≤m
 | m,[],_=>by simp [dB]
 | m,a :: l,h=>by
  unfold dB
  split
  ·have h1:=dS_le (m - 1) a (by omega)
   have h2:=dL_le (m - 1) l (by omega)
   omega
  ·omega
theorem dL_le : ∀ (m : Nat) (l : List Ps),1≤m→dL m l≤m
 | m,[],_=>by simp [dL]
 | m,a :: l,h=>by
  have h1:=dS_le m a h
  have h2:=dL_le m l h
  unfold dL
  omega
end
set_option maxRecDepth 100000 in
set_option maxHeartbeats 16000000 in
theorem deepBlock_o : ∀ (N : Nat) (l : List St),nB (stPs l)≤N→∀ (most : Nat) (A : Option Addr) (c : Nat) (w : World),1≤most→most≤65→Ls top w A c l→nB (stPs l)≤1048576 →
  Calls Tryz.prog 89 #[.slice A l.length c,.int .i64 (most : Int)] w (DepV (dB most (stPs l)) w):=by
 intro N
 induction N using Nat.strongRecOn with
 | _ N ihN=>
  intro l hlN most A c w hm1 hm2 hsl hnB
  have hl : l.length≤1048576:=by
   have h1:=sum_len (m:=fun x : St=>nS x.p) (fun x=>by cases x;unfold St.p nS;omega) l
   rw [← nB_sum] at h1
   omega
  have HIH:=hI (show ∀ l' : List St,nB (stPs l') < N→_ from fun l' h=>ihN _ h l' (Nat.le_refl _))
  obtain ⟨m,hm⟩ : ∃ m,l.length=m:=⟨_,rfl⟩
  have HM:=hI hm
  have HSL:=hI hsl
  have HSZ:=hI (And.intro hlN hnB)
  rw [hm] at hl ⊢
  by_cases h0 : m=0
  ·have HD:=hI (show dB most (stPs l)=0 by
    have : l=[]:=List.length_eq_zero_iff.1 (by omega)
    rw [this];simp [stPs,dB])
   have q : ((m : Int) == 0)=true:=by rw [h0];rfl
   clear hm ihN hsl hlN hnB h0
   go_enter Tryz.func89,Tryz.ntmps89
   go_wp2_with fail
   go_ret
   exact ⟨by rw [HD.out];rfl,Below.refl _ _⟩
  have q : ((m : Int) == 0)=false:=beq_eq_false_iff_ne.2 (by omega)
  by_cases h1 : 1 < most
  ·have HD:=hI (dB_dL most (stPs l) h1 (fun e=>h0 (by have:=congrArg List.length e;rw [stPs_map,List.length_map,List.length_nil] at this;omega)))
   obtain ⟨mo,hmo⟩ : ∃ mo,most - 1=mo:=⟨_,rfl⟩
   rw [hmo] at HD
   have hmo1 : 1≤mo:=by omega
   have hmo2 : mo≤64:=by omega
   have t0 : decide ((1 : Int) < (most : Int))=true:=decide_eq_true (by omega)
   have b0 : (1 : Int)≤(most : Int):=by omega
   have b65 : (most : Int)≤65:=by omega
   have HE1:=hI (show (most : Int) - 1=(mo : Int) by omega)
   clear hmo hm ihN hsl hlN hnB h0
   go_enter Tryz.func89,Tryz.ntmps89
   go_wp2_with fail
   go_loopw [5,17] (fun nv iv wr=>∃ j : Nat,j≤m∧iv=.int .i64 (j : Int)∧nv=.int .i64 ((dL mo (stPs (l.take j)) : Nat) : Int)∧Below w.heap.size w wr) (fun _ iv _=>m - (intOf iv).toNat)
   case atStart=>exact ⟨0,Nat.zero_le _,rfl,by simp [stPs,dL],Below.refl _ _⟩
   case round=>
    obtain ⟨j,hj,rfl,rfl,hb⟩:=hrel
    have HB:=hI hb
    clear hb
    have hq1:=dL_le mo (stPs (l.take j)) hmo1
    by_cases hlt : j < m
    ·have hjl : j < l.length:=by rw [HM.out];exact hlt
     obtain ⟨b1,o1,rfl,hb1,hc⟩:=Lg.at_ stE_len (Lg.keep stays_s (Keep.below HB.out) HSL.out) hjl
     have htk:=take_nB hjl
     have hdl:=dL_take (m:=mo) hjl
     obtain ⟨⟨k,n,s,Ca,ca,ar,Cb,cb,bo,Ce,ce,el⟩,hy⟩ : ∃ y,l[j]=y:=⟨_,rfl⟩
     have HP:=hI ((HSL.out.2 _ (hy ▸ List.getElem_mem hjl)).open_)
     rw [hy] at hc htk hdl
     unfold St.p nS at htk
     unfold St.p dS at hdl
     have hz:=HSZ.out
     have HZ:=hI (show nEs (exPs ar)≤1048576∧(nB (stPs bo) < N∧nB (stPs bo)≤1048576)∧(nB (stPs el) < N∧nB (stPs el)≤1048576) by omega)
     have har : ar.length≤nEs (exPs ar):=by
      have h1:=sum_len (m:=fun x : Ex=>nE x.p) (fun x=>nE_pos x.p) ar
      rw [← nEs_sum] at h1
      exact h1
     have zar : ar.length≤1048576:=by omega
     obtain ⟨q1,hq1e⟩ : ∃ q,dL mo (stPs (l.take j))=q:=⟨_,rfl⟩
     rw [hq1e] at hq1 hdl ⊢
     have HDL:=hI hdl
     have c0 : wr.cell? ⟨b1,o1 + j * 6,none⟩=some (.int .i64 k):=hc 0 _ rfl
     have c1 : wr.cell? ⟨b1,o1 + j * 6 + 1,none⟩=some (.int .i64 n):=hc 1 _ rfl
     have c2 : wr.cell? ⟨b1,o1 + j * 6 + 2,none⟩=some (.string (str s)):=hc 2 _ rfl
     have c3 : wr.cell? ⟨b1,o1 + j * 6 + 3,none⟩=some (.slice Ca ar.length ca):=hc 3 _ rfl
     have c4 : wr.cell? ⟨b1,o1 + j * 6 + 4,none⟩=some (.slice Cb bo.length cb):=hc 4 _ rfl
     have c5 : wr.cell? ⟨b1,o1 + j * 6 + 5,none⟩=some (.slice Ce el.length ce):=hc 5 _ rfl
     have k0 : (0 : Int)≤(j : Int):=by omega
     have k1 : (j : Int) < (m : Int):=by omega
     have z1 : (0 : Int)≤(q1 : Int):=by omega
     obtain ⟨wa,hwa⟩ : ∃ W1,wr.alloc (.cells #[.int .i64 k,.int .i64 n,.string (str s),.slice Ca ar.length ca,.slice Cb bo.length cb,.slice Ce el.length ce] 65)=W1:=⟨_,rfl⟩
     obtain ⟨ma,sa,ba⟩:=made hwa
     obtain ⟨pb,hpb⟩ : ∃ q,wr.heap.size=q:=⟨_,rfl⟩
     rw [hpb] at ma
     have HXA:=hI (show wa.heap[pb]?=some (.cells #[.int .i64 k,.int .i64 n,.string (str s),.slice Ca ar.length ca,.slice Cb bo.length cb,.slice Ce el.length ce] 65 (0,0)) from ma)
     have HBA:=hI (HB.out.trans (ba.mono HB.out.size))
     obtain ⟨x0,x1,x2,x3,x4,x5,xf⟩:=cells6 ma
     clear hc htk hdl hz har hy hjl ma sa ba hq1e
     go_wp2_with fail
     clear c0 c1 c2 c3 c4 c5 x0 x1 x2 x3 x4 x5 xf hwa
     go_loopw [5,24] (fun nv iv wr=>∃ i : Nat,i≤ar.length∧iv=.int .i64 (i : Int)∧nv=.int .i64 ((max q1 (dEs mo (exPs (ar.take i))) : Nat) : Int)∧Below wa.heap.size wa wr) (fun _ iv _=>ar.length - (intOf iv).toNat)
     case atStart=>exact ⟨0,Nat.zero_le _,rfl,by simp [exPs,dEs],Below.refl _ _⟩
     case round=>
      obtain ⟨i,hi,rfl,rfl,hb⟩:=hrel
      have HBI:=hI hb
      have HBW:=hI (HBA.out.trans (hb.mono HBA.out.size))
      clear hb
      have hd1:=dEs_le mo (exPs (ar.take i)) hmo1
      by_cases hlt2 : i < ar.length
      ·obtain ⟨b2,o2,rfl,hb2,hc⟩:=Lg.at_ exE_len (show Lx top wr Ca ca ar from Lg.keep stays_x (Keep.below HBW.out) HP.out.1) hlt2
       have hst:=dEs_take (m:=mo) hlt2
       have hmem : ar[i] ∈ ar:=List.getElem_mem hlt2
       obtain ⟨⟨ek,ep,en,es,eA,ec,er⟩,hy⟩ : ∃ y,ar[i]=y:=⟨_,rfl⟩
       rw [hy] at hc hmem hst
       have HME:=hI (And.intro (HP.out.1.2 _ hmem) (show nE (Ex.mk ek ep en es eA ec er).p≤1048576 by
        have h1:=sum_mem (m:=fun x : Ex=>nE x.p) ar _ hmem
        rw [← nEs_sum] at h1
        have:=HZ.out.1
        omega))
       have hd2:=dE_le mo (Ex.mk ek ep en es eA ec er).p hmo1
       obtain ⟨q2,hq2⟩ : ∃ q,dEs mo (exPs (ar.take i))=q:=⟨_,rfl⟩
       obtain ⟨q3,hq3⟩ : ∃ q,dE mo (Ex.mk ek ep en es eA ec er).p=q:=⟨_,rfl⟩
       rw [hq2] at hd1 hst ⊢
       rw [hq3] at hd2 hst
       have HQ3:=hI hq3
       have HMX:=hI (show max q1 (dEs mo (exPs (ar.take (i + 1))))=max (max q1 q2) q3 by rw [hst,Nat.max_assoc])
       have d0 : wr.cell? ⟨b2,o2 + i * 5,none⟩=some (.int .i64 ek):=hc 0 _ rfl
       have d1 : wr.cell? ⟨b2,o2 + i * 5 + 1,none⟩=some (.int .i64 ep):=hc 1 _ rfl
       have d2 : wr.cell? ⟨b2,o2 + i * 5 + 2,none⟩=some (.int .i64 en):=hc 2 _ rfl
       have d3 : wr.cell? ⟨b2,o2 + i * 5 + 3,none⟩=some (.string (str es)):=hc 3 _ rfl
       have d4 : wr.cell? ⟨b2,o2 + i * 5 + 4,none⟩=some (.slice eA er.length ec):=hc 4 _ rfl
       have k2 : (0 : Int)≤(i : Int):=by omega
       have k3 : (i : Int) < (ar.length : Int):=by omega
       obtain ⟨wb,hwb⟩ : ∃ W1,wr.alloc (.cells #[.int .i64 ek,.int .i64 ep,.int .i64 en,.string (str es),.slice eA er.length ec] 68)=W1:=⟨_,rfl⟩
       obtain ⟨mb,sb,bb⟩:=made hwb
       have HBB:=hI (HBW.out.trans (bb.mono HBW.out.size))
       have HBC:=hI (HBI.out.trans (bb.mono HBI.out.size))
       obtain ⟨pd,hpd⟩ : ∃ q,wr.heap.size=q:=⟨_,rfl⟩
       rw [hpd] at mb
       obtain ⟨y0,y1,y2,y3,y4,yf⟩:=cells5 mb
       clear hc hy hmem hst hq2 hq3 mb sb bb
       go_wp2_with fail
       rw [HE1.out]
       refine (deep_o _ mo wb hmo1 (by omega) (RdX.keep (Keep.below HBB.out) HME.out.1) HME.out.2).mono ?_
       rintro e w2 ⟨rfl,hb⟩
       rw [HQ3.out]
       have HB2:=hI (HBC.out.trans (hb.mono HBC.out.size))
       clear hb y0 y1 y2 y3 y4 yf
       go_wp2_with (go_at_call 114;refine (greater_o (max q1 q2) q3 _).mono ?_;rintro e w3 ⟨rfl,rfl⟩)
       go_roundw
       case rel=>exact ⟨i + 1,by omega,by go_num,by rw [HMX.out];simp only [Nat.max_assoc],HB2.out⟩
       case measure=>simp [intOf];omega
      ·obtain rfl : i=ar.length:=by omega
       have HTK:=hI (show dEs mo (exPs (ar.take ar.length))=dEs mo (exPs ar) by rw [List.take_length])
       obtain ⟨q2,hq2⟩ : ∃ q,dEs mo (exPs (ar.take ar.length))=q:=⟨_,rfl⟩
       rw [hq2] at HTK hd1 ⊢
       have hd3:=dB_le mo (stPs bo) hmo1
       have hd4:=dB_le mo (stPs el) hmo1
       obtain ⟨q3,hq3⟩ : ∃ q,dB mo (stPs bo)=q:=⟨_,rfl⟩
       obtain ⟨q4,hq4⟩ : ∃ q,dB mo (stPs el)=q:=⟨_,rfl⟩
       rw [hq3] at hd3
       rw [hq4] at hd4
       have HQ3:=hI hq3
       have HQ4:=hI hq4
       have HMX:=hI (show dL mo (stPs (l.take (j + 1)))=max (max q1 q2) (max q3 q4) by rw [HDL.out,HQ3.out,HQ4.out,← HTK.out,Nat.max_assoc])
       have HXR:=hI ((HBI.out.block _ (Array.getElem?_eq_some_iff.1 HXA.out).1).trans HXA.out)
       clear hq2 hq3 hq4
       obtain ⟨Sx,hSx⟩ : ∃ Sx : World→Prop,(fun U : World=>U.heap[pb]?=some (.cells #[.int .i64 k,.int .i64 n,.string (str s),.slice Ca ar.length ca,.slice Cb bo.length cb,.slice Ce el.length ce] 65 (0,0)))=Sx:=⟨_,rfl⟩
       have HSB:=hI (show ∀ U,Below wr.heap.size wr U→Sx U from fun U hU=>by rw [← hSx];exact (hU.block _ (Array.getElem?_eq_some_iff.1 HXR.out).1).trans HXR.out)
       have HSy:=hI (show ∀ U,Sx U→U.heap[pb]?=some (.cells #[.int .i64 k,.int .i64 n,.string (str s),.slice Ca ar.length ca,.slice Cb bo.length cb,.slice Ce el.length ce] 65 (0,0)) from fun U h=>by rw [← hSx] at h;exact h)
       have HWR:=hI (show IntKind.i64.wrap (mo : Int)=(mo : Int) from IntWalk.i64_in _ (by omega))
       have hS0 : Sx wr.drew:=HSB.out _ (Below.drew (Below.refl _ _))
       clear hSx
       go_upto_region 13 with fail
       refine RgD.begin_ [] Sx (by kernel_rfl) hS0 (fun hHeld=>?_)
       refine tK 0 35 (h:=?_)
       simp only [zA,zB,zC]
       refine tK 1 36 (h:=?_)
       simp only [zA,zB,zC]
       refine tK 2 37 (v:=.slice Cb bo.length cb) (hy:=by intro w0 hSw;obtain ⟨z0,z1_,z2,z3,z4,z5,zf⟩:=cells6 (HSy.out _ hSw);first | (go_simp;done) | (go_simp;with_reducible rfl) | (go_simp;intro hc;exfalso;omega)) (h:=?_)
       simp only [zA,zB,zC]
       refine tK 3 38 (h:=?_)
       simp only [zA,zB,zC]
       refine tK 4 39 (v:=.int .i64 (mo : Int)) (hy:=by intro w0 hSw;have he1:=HE1.out;have hw:=HWR.out;first | (go_simp;done) | (go_simp;with_reducible rfl) | (go_simp;intro hc;exfalso;omega)) (h:=?_)
       simp only [zA,zB,zC]
       refine tK 6 41 (h:=?_)
       simp only [zA,zB,zC]
       refine tK 7 42 (v:=.slice Ce el.length ce) (hy:=by intro w0 hSw;obtain ⟨z0,z1_,z2,z3,z4,z5,zf⟩:=cells6 (HSy.out _ hSw);first | (go_simp;done) | (go_simp;with_reducible rfl) | (go_simp;intro hc;exfalso;omega)) (h:=?_)
       simp only [zA,zB,zC]
       refine tK 8 43 (h:=?_)
       simp only [zA,zB,zC]
       refine tK 9 44 (v:=.int .i64 (mo : Int)) (hy:=by intro w0 hSw;have he1:=HE1.out;have hw:=HWR.out;first | (go_simp;done) | (go_simp;with_reducible rfl) | (go_simp;intro hc;exfalso;omega)) (h:=?_)
       simp only [zA,zB,zC]
       refine RgD.one (i:=5) (by kernel_rfl) ?_
       refine RgD.call (i:=5) (t:=40) rfl rfl (by rfl) (by go_simp;exact ⟨rfl,rfl⟩) ?_
       refine (HIH.out bo HZ.out.2.1.1 mo Cb cb wr.drew hmo1 (by omega) (Lg.keep stays_s (Keep.below (HBW.out.trans ((Below.drew (Below.refl wr.heap.size wr)).mono HBW.out.size))) HP.out.2.1) HZ.out.2.1.2).mono ?_
       rintro r v1 ⟨rfl,hb1⟩
       rw [HQ3.out]
       have hB1:=(Below.drew (Below.refl wr.heap.size wr)).trans (hb1.mono (Below.drew (Below.refl wr.heap.size wr)).size)
       have gS1:=HSB.out _ hB1
       refine ⟨_,rfl,gS1,?_⟩
       simp only [zA,zB,zC]
       refine RgD.one (i:=10) (by kernel_rfl) ?_
       refine RgD.call (i:=10) (t:=45) rfl rfl (by rfl) (by go_simp;exact ⟨rfl,rfl⟩) ?_
       refine (HIH.out el HZ.out.2.2.1 mo Ce ce v1 hmo1 (by omega) (Lg.keep stays_s (Keep.below (HBW.out.trans (hB1.mono HBW.out.size))) HP.out.2.2) HZ.out.2.2.2).mono ?_
       rintro r v2 ⟨rfl,hb2⟩
       rw [HQ4.out]
       have hB2:=hB1.trans (hb2.mono hB1.size)
       have gS2:=HSB.out _ hB2
       refine ⟨_,rfl,gS2,?_⟩
       simp only [zA,zB,zC]
       refine RgD.one (i:=11) (by kernel_rfl) ?_
       refine RgD.call (i:=11) (t:=46) rfl rfl (by rfl) (by go_simp;exact ⟨rfl,rfl⟩) ?_
       refine (greater_o q3 q4 v2).mono ?_
       rintro r v ⟨rfl,rfl⟩
       refine ⟨_,rfl,gS2,?_⟩
       simp only [zA,zB,zC]
       refine RgD.one (i:=12) (by kernel_rfl) ?_
       refine RgD.call (i:=12) (t:=47) rfl rfl (by rfl) (by go_simp;exact ⟨rfl,rfl⟩) ?_
       refine (greater_o (max q1 q2) (max q3 q4) v2).mono ?_
       rintro r v ⟨rfl,rfl⟩
       refine ⟨_,rfl,gS2,?_⟩
       simp only [zA,zB,zC]
       refine tK 13 5 (h:=?_)
       simp only [zA,zB,zC]
       refine RgD.done (by kernel_rfl) ?_ _
       have HBE:=hI (HBW.out.trans (hB2.mono HBW.out.size))
       clear gS1 gS2 hS0 hB1 hB2 hb1 hb2
       go_wp2_with fail
       go_roundw
       case rel=>exact ⟨j + 1,by omega,by go_num,by rw [HMX.out];simp only [Nat.max_assoc],HBE.out⟩
       case measure=>simp [intOf];omega
    ·obtain rfl : m=j:=by omega
     have HTK:=hI (show dL mo (stPs (l.take m))=dL mo (stPs l) by rw [List.take_of_length_le (by rw [HM.out];exact Nat.le_refl _)])
     obtain ⟨q1,hq1e⟩ : ∃ q,dL mo (stPs (l.take m))=q:=⟨_,rfl⟩
     rw [hq1e] at hq1 HTK ⊢
     have HDD:=hI (HD.out.trans (show dL mo (stPs l) + 1=q1 + 1 by rw [HTK.out]))
     have z1 : (0 : Int)≤(q1 : Int):=by omega
     have z2 : (q1 : Int)≤65:=by omega
     clear hq1e
     go_wp2_with fail
     go_ret
     exact ⟨by rw [HDD.out];go_num,HB.out⟩
  ·have HD:=hI (show dB most (stPs l)=1 by
    cases l with
    | nil=>exact absurd hm.symm h0
    | cons a l=>simp only [stPs];unfold dB;rw [if_neg h1])
   have t0 : decide ((1 : Int) < (most : Int))=false:=decide_eq_false (by omega)
   clear hm ihN hsl hlN hnB h0 h1
   go_enter Tryz.func89,Tryz.ntmps89
   go_wp2_with fail
   go_ret
   exact ⟨by rw [HD.out];rfl,Below.refl _ _⟩
theorem depthBlock_o (l : List St) (A : Option Addr) (c : Nat) (w : World) (hsl : Ls top w A c l) (hn : nB (stPs l)≤1048576) : Calls Tryz.prog 43 #[.slice A l.length c] w (DepV (dB 65 (stPs l)) w):=by
 have HC:=hI (deepBlock_o _ l (Nat.le_refl _) 65 A c w (by omega) (by omega) hsl hn)
 clear hsl hn
 go_enter Tryz.func43,Tryz.ntmps43
 go_wp2_with fail
 refine HC.out.mono ?_
 rintro e w2 ⟨rfl,hb⟩
 have HB:=hI hb
 clear hb
 go_wp2_with fail
 go_ret
 exact ⟨rfl,HB.out⟩
end Go.Proofs.YteibcfpepdbflaaGreat.RtB
