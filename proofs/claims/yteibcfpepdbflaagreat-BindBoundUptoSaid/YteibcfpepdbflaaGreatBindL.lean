/- The reference's Locals: how many locals statements make. Conditions: sizes within the reach. -/
import Derived.Test.YteibcfpepdbflaaGreatBindV
open Go.Lib renaming hid → hI
open Go.Proofs.YteibcfpepdbflaaGreat.RgD renaming tk → tK, sA → zA, s0 → zB, s1 → zC
namespace Go.Proofs.YteibcfpepdbflaaGreat.BindL
open Go Go.RowKit BindP BindD BindO BindW BindN BindG BindX BindB BindS BindK BindT BindV
open Byt (str)
def LocC (l : List St) : Prop:=∀ (A : Option Addr) (c : Nat) (w : World),Ls top w A c l→Calls Tryz.prog 36 #[.slice A l.length c] w fun e w'=>e=.returned (.int .i64 (locs (stPs l) : Int))∧Below w.heap.size w w'
theorem locs_app : ∀ (l1 l2 : List Ps),locs (l1 ++ l2)=locs l1 + locs l2
 | [],l2=>by simp [locs]
 | a :: l1,l2=>by simp only [List.cons_append,locs,locs_app l1 l2,Nat.add_assoc]
theorem locs_take {l : List St} {j : Nat} (h : j < l.length) : locs (stPs (l.take (j + 1)))=locs (stPs (l.take j)) + locs1 l[j].p:=by
 rw [List.take_succ_eq_append_getElem h,stPs_app,locs_app]
 simp only [stPs,locs,Nat.add_zero]
set_option maxRecDepth 100000 in
set_option maxHeartbeats 8000000 in
theorem locals_r : ∀ (N : Nat) (l : List St),nB (stPs l)≤N→nB (stPs l)≤1048576→LocC l:=by
 intro N
 induction N using Nat.strongRecOn with
 | _ N ihN=>
  intro l hlN hnB A c w hl
  have HL:=hI hl
  have HIH:=hI (show ∀ l' : List St,nB (stPs l') < N∧nB (stPs l')≤1048576→LocC l' from fun l' h=>ihN _ h.1 l' (Nat.le_refl _) h.2)
  have hll : l.length≤1048576:=by
   have h1:=sum_len (m:=fun x : St=>nS x.p) (fun x=>by cases x;unfold St.p nS;omega) l
   rw [← nB_sum] at h1
   omega
  have HTOT:=hI (show ∀ j,locs (stPs (l.take j))≤2 * nB (stPs l) from fun j=>by
   have h1:=locs_le.2 (stPs (l.take j))
   have e : l=l.take j ++ l.drop j:=(List.take_append_drop _ _).symm
   have h2 : nB (stPs l)=nB (stPs (l.take j)) + nB (stPs (l.drop j)):=by rw [← nB_app,← stPs_app,← e]
   omega)
  obtain ⟨m,hm⟩ : ∃ m,l.length=m:=⟨_,rfl⟩
  have HM:=hI hm
  have HNN:=hI (And.intro hlN hnB)
  rw [hm] at hll ⊢
  clear hm ihN hlN hl hnB
  go_enter Tryz.func36,Tryz.ntmps36
  go_wp2_with fail
  go_loopw [3,4] (fun nv iv wr=>∃ (j z : Nat),j≤m∧nv=.int .i64 (z : Int)∧iv=.int .i64 (j : Int)∧Hid (locs (stPs (l.take j))=z)∧Below w.heap.size w wr) (fun _ iv _=>m - (intOf iv).toNat)
  case atStart=>exact ⟨0,0,Nat.zero_le _,rfl,rfl,hI (by simp [stPs,locs]),Below.refl _ _⟩
  case round=>
   obtain ⟨j,n0,hj,rfl,rfl,HQ,hb⟩:=hrel
   have HB:=hI hb
   clear hb
   by_cases hlt : j < m
   ·have hjl : j < l.length:=by rw [HM.out];exact hlt
    obtain ⟨b_,o_,rfl,hbl,hc⟩:=Lg.at_ stE_len HL.out hjl
    obtain ⟨⟨k,n,s,Aa,ca,ar,Ab,cb,b,Ae,ce,e⟩,hy⟩ : ∃ y,l[j]=y:=⟨_,rfl⟩
    have hmem : l[j] ∈ l:=List.getElem_mem hjl
    have htk:=take_nB hjl
    have hlk:=locs_take hjl
    have hbd:=HTOT.out (j + 1)
    rw [hy] at hc hmem htk hlk
    have HOP:=hI ((HL.out.2 _ hmem).open_)
    have hcell : ∀ U,Below w.heap.size w U→∀ p,U.cell? ⟨b_,p,none⟩=w.cell? ⟨b_,p,none⟩:=fun U hU p=>hU.cell (p:=⟨b_,p,none⟩) hbl
    have hSB : ∀ U,Below w.heap.size w U→U.cell? ⟨b_,o_ + j * 6 + 4,none⟩=some (.slice Ab b.length cb)∧U.cell? ⟨b_,o_ + j * 6 + 5,none⟩=some (.slice Ae e.length ce):=fun U hU=>⟨(hcell U hU _).trans (hc 4 _ rfl),(hcell U hU _).trans (hc 5 _ rfl)⟩
    have c0 : wr.cell? ⟨b_,o_ + j * 6,none⟩=some (.int .i64 k):=(hcell wr HB.out _).trans (hc 0 _ rfl)
    have k0 : (0 : Int)≤(j : Int):=by omega
    have k1 : (j : Int) < (m : Int):=by omega
    unfold St.p nS at htk
    unfold St.p locs1 at hlk
    have hnn:=HNN.out
    have HZ:=hI (show (nB (stPs b) < N∧nB (stPs b)≤1048576)∧(nB (stPs e) < N∧nB (stPs e)≤1048576) by omega)
    obtain ⟨lb,hlb⟩ : ∃ x,locs (stPs b)=x:=⟨_,rfl⟩
    obtain ⟨le,hle⟩ : ∃ x,locs (stPs e)=x:=⟨_,rfl⟩
    have HLB:=hI (And.intro hlb hle)
    have hq:=HQ.out
    have HNX:=hI hlk
    rw [hlk,hq,hlb,hle] at hbd
    have hbd2 : n0 + (mine k + (lb + le))≤2097152:=by omega
    clear hc hy hmem htk hlk hcell hjl hlb hle hq hnn hbd
    by_cases h2 : k=2
    ·subst h2
     obtain ⟨z,hz⟩ : ∃ z,n0 + (mine 2 + (lb + le))=z:=⟨_,rfl⟩
     have hm2 : mine 2=1:=rfl
     have hz2 : z=n0 + 1 + (lb + le):=by omega
     have hz3 : z≤2097152:=by omega
     subst hz2
     go_upto_region 9 with fail
     clear c0
     have zw1 : IntKind.i64.wrap ((lb : Int) + (le : Int))=(lb : Int) + (le : Int):=by rw [IntKind.wrap_i64];omega
     have zw2 : IntKind.i64.wrap ( ((n0 : Int) + 1) + ((lb : Int) + (le : Int)))= ((n0 : Int) + 1) + ((lb : Int) + (le : Int)):=by rw [IntKind.wrap_i64];omega
     have hS0 : wr.drew.cell? ⟨b_,o_ + j * 6 + 4,none⟩=some (.slice Ab b.length cb)∧wr.drew.cell? ⟨b_,o_ + j * 6 + 5,none⟩=some (.slice Ae e.length ce):=hSB _ (Below.drew HB.out)
     refine RgD.begin_ [] (fun U=>U.cell? ⟨b_,o_ + j * 6 + 4,none⟩=some (.slice Ab b.length cb)∧U.cell? ⟨b_,o_ + j * 6 + 5,none⟩=some (.slice Ae e.length ce)) (by kernel_rfl) hS0 (fun hHeld=>?_)
     refine tK 0 27 (v:=.int .i64 ((n0 : Int) + 1)) (h:=?_)
     simp only [zA,zB,zC]
     refine tK 1 28 (h:=?_)
     simp only [zA,zB,zC]
     refine tK 2 29 (h:=?_)
     simp only [zA,zB,zC]
     refine tK 3 30 (h:=?_)
     simp only [zA,zB,zC]
     refine tK 4 31 (h:=?_)
     simp only [zA,zB,zC]
     refine tK 5 32 (v:=.slice Ab b.length cb) (hy:=by intro w0 hSw;have z4:=hSw.1;first | (go_simp;done) | (go_simp;with_reducible rfl) | (go_simp;intro hc;exfalso;omega)) (h:=?_)
     simp only [zA,zB,zC]
     refine tK 7 34 (h:=?_)
     simp only [zA,zB,zC]
     refine tK 8 35 (h:=?_)
     simp only [zA,zB,zC]
     refine tK 9 36 (h:=?_)
     simp only [zA,zB,zC]
     refine tK 10 37 (h:=?_)
     simp only [zA,zB,zC]
     refine tK 11 38 (v:=.slice Ae e.length ce) (hy:=by intro w0 hSw;have z5:=hSw.2;first | (go_simp;done) | (go_simp;with_reducible rfl) | (go_simp;intro hc;exfalso;omega)) (h:=?_)
     simp only [zA,zB,zC]
     refine RgD.one (i:=6) (by kernel_rfl) ?_
     refine RgD.call (i:=6) (t:=33) rfl rfl (by rfl) (by go_simp;exact ⟨rfl,rfl⟩) ?_
     refine (HIH.out b HZ.out.1 Ab cb wr.drew (Lg.keep stays_s (Keep.below (Below.drew HB.out)) HOP.out.2.1)).mono ?_
     rintro r w2 ⟨rfl,hb⟩
     rw [HLB.out.1]
     have HB2:=hI ((Below.drew HB.out).trans (hb.mono HB.out.size))
     have gS2:=hSB _ HB2.out
     clear hb
     refine ⟨_,rfl,gS2,?_⟩
     simp only [zA,zB,zC]
     refine RgD.one (i:=12) (by kernel_rfl) ?_
     refine RgD.call (i:=12) (t:=39) rfl rfl (by rfl) (by go_simp;exact ⟨rfl,rfl⟩) ?_
     refine (HIH.out e HZ.out.2 Ae ce w2 (Lg.keep stays_s (Keep.below HB2.out) HOP.out.2.2)).mono ?_
     rintro r w3 ⟨rfl,hb⟩
     rw [HLB.out.2]
     have HB3:=hI (HB2.out.trans (hb.mono HB2.out.size))
     have gS3:=hSB _ HB3.out
     clear hb
     refine ⟨_,rfl,gS3,?_⟩
     simp only [zA,zB,zC]
     refine tK 13 40 (v:=.int .i64 ((lb : Int) + (le : Int))) (h:=?_)
     simp only [zA,zB,zC]
     refine tK 14 41 (v:=.int .i64 (((n0 + 1 + (lb + le) : Nat)) : Int)) (h:=?_)
     simp only [zA,zB,zC]
     refine tK 15 3 (v:=.int .i64 (((n0 + 1 + (lb + le) : Nat)) : Int)) (h:=?_)
     simp only [zA,zB,zC]
     refine RgD.done (by kernel_rfl) ?_ _
     clear gS2 gS3 hSB hS0
     go_wp2_with fail
     go_roundw
     case rel=>exact ⟨j + 1,n0 + 1 + (lb + le),by omega,rfl,by go_num,hI (by have h0:=HNX.out;have h1:=HQ.out;have h2:=HLB.out;omega),HB3.out⟩
     case measure=>simp [intOf];omega
    by_cases h11 : k=11
    ·subst h11
     obtain ⟨z,hz⟩ : ∃ z,n0 + (mine 11 + (lb + le))=z:=⟨_,rfl⟩
     have hm2 : mine 11=2:=rfl
     have hz2 : z=n0 + 2 + (lb + le):=by omega
     have hz3 : z≤2097152:=by omega
     subst hz2
     go_upto_region 9 with fail
     clear c0
     have zw1 : IntKind.i64.wrap ((lb : Int) + (le : Int))=(lb : Int) + (le : Int):=by rw [IntKind.wrap_i64];omega
     have zw2 : IntKind.i64.wrap ( ((n0 : Int) + 2) + ((lb : Int) + (le : Int)))= ((n0 : Int) + 2) + ((lb : Int) + (le : Int)):=by rw [IntKind.wrap_i64];omega
     have hS0 : wr.drew.cell? ⟨b_,o_ + j * 6 + 4,none⟩=some (.slice Ab b.length cb)∧wr.drew.cell? ⟨b_,o_ + j * 6 + 5,none⟩=some (.slice Ae e.length ce):=hSB _ (Below.drew HB.out)
     refine RgD.begin_ [] (fun U=>U.cell? ⟨b_,o_ + j * 6 + 4,none⟩=some (.slice Ab b.length cb)∧U.cell? ⟨b_,o_ + j * 6 + 5,none⟩=some (.slice Ae e.length ce)) (by kernel_rfl) hS0 (fun hHeld=>?_)
     refine tK 0 27 (v:=.int .i64 ((n0 : Int) + 2)) (h:=?_)
     simp only [zA,zB,zC]
     refine tK 1 28 (h:=?_)
     simp only [zA,zB,zC]
     refine tK 2 29 (h:=?_)
     simp only [zA,zB,zC]
     refine tK 3 30 (h:=?_)
     simp only [zA,zB,zC]
     refine tK 4 31 (h:=?_)
     simp only [zA,zB,zC]
     refine tK 5 32 (v:=.slice Ab b.length cb) (hy:=by intro w0 hSw;have z4:=hSw.1;first | (go_simp;done) | (go_simp;with_reducible rfl) | (go_simp;intro hc;exfalso;omega)) (h:=?_)
     simp only [zA,zB,zC]
     refine tK 7 34 (h:=?_)
     simp only [zA,zB,zC]
     refine tK 8 35 (h:=?_)
     simp only [zA,zB,zC]
     refine tK 9 36 (h:=?_)
     simp only [zA,zB,zC]
     refine tK 10 37 (h:=?_)
     simp only [zA,zB,zC]
     refine tK 11 38 (v:=.slice Ae e.length ce) (hy:=by intro w0 hSw;have z5:=hSw.2;first | (go_simp;done) | (go_simp;with_reducible rfl) | (go_simp;intro hc;exfalso;omega)) (h:=?_)
     simp only [zA,zB,zC]
     refine RgD.one (i:=6) (by kernel_rfl) ?_
     refine RgD.call (i:=6) (t:=33) rfl rfl (by rfl) (by go_simp;exact ⟨rfl,rfl⟩) ?_
     refine (HIH.out b HZ.out.1 Ab cb wr.drew (Lg.keep stays_s (Keep.below (Below.drew HB.out)) HOP.out.2.1)).mono ?_
     rintro r w2 ⟨rfl,hb⟩
     rw [HLB.out.1]
     have HB2:=hI ((Below.drew HB.out).trans (hb.mono HB.out.size))
     have gS2:=hSB _ HB2.out
     clear hb
     refine ⟨_,rfl,gS2,?_⟩
     simp only [zA,zB,zC]
     refine RgD.one (i:=12) (by kernel_rfl) ?_
     refine RgD.call (i:=12) (t:=39) rfl rfl (by rfl) (by go_simp;exact ⟨rfl,rfl⟩) ?_
     refine (HIH.out e HZ.out.2 Ae ce w2 (Lg.keep stays_s (Keep.below HB2.out) HOP.out.2.2)).mono ?_
     rintro r w3 ⟨rfl,hb⟩
     rw [HLB.out.2]
     have HB3:=hI (HB2.out.trans (hb.mono HB2.out.size))
     have gS3:=hSB _ HB3.out
     clear hb
     refine ⟨_,rfl,gS3,?_⟩
     simp only [zA,zB,zC]
     refine tK 13 40 (v:=.int .i64 ((lb : Int) + (le : Int))) (h:=?_)
     simp only [zA,zB,zC]
     refine tK 14 41 (v:=.int .i64 (((n0 + 2 + (lb + le) : Nat)) : Int)) (h:=?_)
     simp only [zA,zB,zC]
     refine tK 15 3 (v:=.int .i64 (((n0 + 2 + (lb + le) : Nat)) : Int)) (h:=?_)
     simp only [zA,zB,zC]
     refine RgD.done (by kernel_rfl) ?_ _
     clear gS2 gS3 hSB hS0
     go_wp2_with fail
     go_roundw
     case rel=>exact ⟨j + 1,n0 + 2 + (lb + le),by omega,rfl,by go_num,hI (by have h0:=HNX.out;have h1:=HQ.out;have h2:=HLB.out;omega),HB3.out⟩
     case measure=>simp [intOf];omega
    obtain ⟨z,hz⟩ : ∃ z,n0 + (mine k + (lb + le))=z:=⟨_,rfl⟩
    have hm2 : mine k=0:=by unfold mine;rw [if_neg h2,if_neg h11]
    have hz2 : z=n0 + (lb + le):=by omega
    have hz3 : z≤2097152:=by omega
    subst hz2
    go_upto_region 9 with fail
    clear c0
    have zw1 : IntKind.i64.wrap ((lb : Int) + (le : Int))=(lb : Int) + (le : Int):=by rw [IntKind.wrap_i64];omega
    have zw2 : IntKind.i64.wrap ( (n0 : Int) + ((lb : Int) + (le : Int)))= (n0 : Int) + ((lb : Int) + (le : Int)):=by rw [IntKind.wrap_i64];omega
    have hS0 : wr.drew.cell? ⟨b_,o_ + j * 6 + 4,none⟩=some (.slice Ab b.length cb)∧wr.drew.cell? ⟨b_,o_ + j * 6 + 5,none⟩=some (.slice Ae e.length ce):=hSB _ (Below.drew HB.out)
    refine RgD.begin_ [] (fun U=>U.cell? ⟨b_,o_ + j * 6 + 4,none⟩=some (.slice Ab b.length cb)∧U.cell? ⟨b_,o_ + j * 6 + 5,none⟩=some (.slice Ae e.length ce)) (by kernel_rfl) hS0 (fun hHeld=>?_)
    refine tK 0 27 (v:=.int .i64 (n0 : Int)) (h:=?_)
    simp only [zA,zB,zC]
    refine tK 1 28 (h:=?_)
    simp only [zA,zB,zC]
    refine tK 2 29 (h:=?_)
    simp only [zA,zB,zC]
    refine tK 3 30 (h:=?_)
    simp only [zA,zB,zC]
    refine tK 4 31 (h:=?_)
    simp only [zA,zB,zC]
    refine tK 5 32 (v:=.slice Ab b.length cb) (hy:=by intro w0 hSw;have z4:=hSw.1;first | (go_simp;done) | (go_simp;with_reducible rfl) | (go_simp;intro hc;exfalso;omega)) (h:=?_)
    simp only [zA,zB,zC]
    refine tK 7 34 (h:=?_)
    simp only [zA,zB,zC]
    refine tK 8 35 (h:=?_)
    simp only [zA,zB,zC]
    refine tK 9 36 (h:=?_)
    simp only [zA,zB,zC]
    refine tK 10 37 (h:=?_)
    simp only [zA,zB,zC]
    refine tK 11 38 (v:=.slice Ae e.length ce) (hy:=by intro w0 hSw;have z5:=hSw.2;first | (go_simp;done) | (go_simp;with_reducible rfl) | (go_simp;intro hc;exfalso;omega)) (h:=?_)
    simp only [zA,zB,zC]
    refine RgD.one (i:=6) (by kernel_rfl) ?_
    refine RgD.call (i:=6) (t:=33) rfl rfl (by rfl) (by go_simp;exact ⟨rfl,rfl⟩) ?_
    refine (HIH.out b HZ.out.1 Ab cb wr.drew (Lg.keep stays_s (Keep.below (Below.drew HB.out)) HOP.out.2.1)).mono ?_
    rintro r w2 ⟨rfl,hb⟩
    rw [HLB.out.1]
    have HB2:=hI ((Below.drew HB.out).trans (hb.mono HB.out.size))
    have gS2:=hSB _ HB2.out
    clear hb
    refine ⟨_,rfl,gS2,?_⟩
    simp only [zA,zB,zC]
    refine RgD.one (i:=12) (by kernel_rfl) ?_
    refine RgD.call (i:=12) (t:=39) rfl rfl (by rfl) (by go_simp;exact ⟨rfl,rfl⟩) ?_
    refine (HIH.out e HZ.out.2 Ae ce w2 (Lg.keep stays_s (Keep.below HB2.out) HOP.out.2.2)).mono ?_
    rintro r w3 ⟨rfl,hb⟩
    rw [HLB.out.2]
    have HB3:=hI (HB2.out.trans (hb.mono HB2.out.size))
    have gS3:=hSB _ HB3.out
    clear hb
    refine ⟨_,rfl,gS3,?_⟩
    simp only [zA,zB,zC]
    refine tK 13 40 (v:=.int .i64 ((lb : Int) + (le : Int))) (h:=?_)
    simp only [zA,zB,zC]
    refine tK 14 41 (v:=.int .i64 (((n0 + (lb + le) : Nat)) : Int)) (h:=?_)
    simp only [zA,zB,zC]
    refine tK 15 3 (v:=.int .i64 (((n0 + (lb + le) : Nat)) : Int)) (h:=?_)
    simp only [zA,zB,zC]
    refine RgD.done (by kernel_rfl) ?_ _
    clear gS2 gS3 hSB hS0
    go_wp2_with fail
    go_roundw
    case rel=>exact ⟨j + 1,n0 + (lb + le),by omega,rfl,by go_num,hI (by have h0:=HNX.out;have h1:=HQ.out;have h2:=HLB.out;omega),HB3.out⟩
    case measure=>simp [intOf];omega
   ·obtain rfl : m=j:=by omega
    have HTK:=hI (show l.take m=l from List.take_of_length_le (by rw [HM.out];exact Nat.le_refl _))
    go_wp2_with fail
    go_ret
    have h:=HQ.out
    rw [HTK.out] at h
    exact ⟨by rw [h] <;> rfl,HB.out⟩
end Go.Proofs.YteibcfpepdbflaaGreat.BindL
