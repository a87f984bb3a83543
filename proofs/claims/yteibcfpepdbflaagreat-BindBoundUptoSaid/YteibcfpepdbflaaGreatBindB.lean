/- The binder's named: what a statement's name is as a number, and its kind in books. Conditions: the names rise; lengths within the reach. -/
import Derived.Test.YteibcfpepdbflaaGreatBindX
open Go.Lib renaming hid → hI
open Go.Proofs.YteibcfpepdbflaaGreat.RgD renaming tk → tK, sA → zA, s0 → zB, s1 → zC
namespace Go.Proofs.YteibcfpepdbflaaGreat.BindB
open Go Go.RowKit BindP BindD BindO BindW BindN BindG BindX
open Byt (str)
theorem cells6 {w : World} {g : Nat} {x0 x1 x2 x3 x4 x5 : Value} {t : TypeId} (h : w.heap[g]?=some (.cells #[x0,x1,x2,x3,x4,x5] t (0,0))) : w.cell? ⟨g,0,none⟩=some x0∧w.cell? ⟨g,1,none⟩=some x1∧w.cell? ⟨g,2,none⟩=some x2∧w.cell? ⟨g,3,none⟩=some x3∧w.cell? ⟨g,4,none⟩=some x4∧w.cell? ⟨g,5,none⟩=some x5∧∀ o,w.frozen? ⟨g,o,none⟩=false:=by
 refine ⟨by simp [World.cell?,h],by simp [World.cell?,h],by simp [World.cell?,h],by simp [World.cell?,h],by simp [World.cell?,h],by simp [World.cell?,h],fun o=>by simp [World.frozen?,h]⟩
set_option maxRecDepth 100000 in
set_option maxHeartbeats 8000000 in
theorem named_w (t : List Nm) (hu : Up t) (tx lo : List S) (A1 A2 A3 : Option Addr) (n1 c1 n2 c2 n3 c3 Bb : Nat) (w : World) (henv : Env w A1 n1 t A2 n2 tx A3 n3 lo)
  (hbox : w.heap[Bb]?=some (.cells #[.slice A1 n1 c1,.slice A2 n2 c2,.slice A3 n3 c3] 135 (0,0))) (k n : Int) (s : S) (A : Option Addr) (c : Nat) (ar : List Ex) (B : Option Addr) (cb : Nat) (b : List St) (E : Option Addr) (ce : Nat) (e : List St) :
  Calls Tryz.prog 108 #[.pointer (some ⟨Bb,0,none⟩),.agg #[.int .i64 k,.int .i64 n,.string (str s),.slice A ar.length c,.slice B b.length cb,.slice E e.length ce]] w fun r w'=>r=.returned (.tuple #[.int .i64 (kd lo k s),.int .i64 (nm t lo k n s)])∧Below w.heap.size w w':=by
 have hbl : Bb < w.heap.size:=by
  rcases Nat.lt_or_ge Bb w.heap.size with h | h
  ·exact h
  ·simp [Array.getElem?_eq_none h] at hbox
 obtain ⟨w1,hw1⟩ : ∃ W,w.alloc (.cells #[.int .i64 k,.int .i64 n,.string (str s),.slice A ar.length c,.slice B b.length cb,.slice E e.length ce] 65)=W:=⟨_,rfl⟩
 obtain ⟨m1,s1,b1⟩:=made hw1
 have h1:=(b1.block _ hbl).trans hbox
 have HEN:=hI (henv.below b1)
 have HB1:=hI b1
 have HU:=hI hu
 have HLN:=hI (show n3=lo.length from henv.l.len)
 obtain ⟨S,hS⟩ : ∃ S : World→Prop,(fun U : World=>U.heap[Bb]?=some (.cells #[.slice A1 n1 c1,.slice A2 n2 c2,.slice A3 n3 c3] 135 (0,0))∧U.heap[w.heap.size]?=some (.cells #[.int .i64 k,.int .i64 n,.string (str s),.slice A ar.length c,.slice B b.length cb,.slice E e.length ce] 65 (0,0)))=S:=⟨_,rfl⟩
 have HSB:=hI (show ∀ U,Below w1.heap.size w1 U→S U from fun U hU=>by rw [← hS];exact ⟨(hU.block _ (by omega)).trans h1,(hU.block _ (by omega)).trans m1⟩)
 have HSa:=hI (show ∀ U,S U→U.heap[Bb]?=some (.cells #[.slice A1 n1 c1,.slice A2 n2 c2,.slice A3 n3 c3] 135 (0,0)) from fun U h=>by rw [← hS] at h;exact h.1)
 have HSe:=hI (show ∀ U,S U→U.heap[w.heap.size]?=some (.cells #[.int .i64 k,.int .i64 n,.string (str s),.slice A ar.length c,.slice B b.length cb,.slice E e.length ce] 65 (0,0)) from fun U h=>by rw [← hS] at h;exact h.2)
 have hS0 : S w1.drew:=HSB.out _ (Below.drew (Below.refl _ _))
 obtain ⟨x0,x1,x2,x3,x4,x5,xf⟩:=cells6 m1
 clear hS h1 henv hbox m1 s1 b1 hu hbl
 go_enter Tryz.func108,Tryz.ntmps108
 by_cases h2 : k=2
 ·subst h2
  go_upto_region 4 with fail
  clear x0 x1 x2 x3 x4 x5 xf
  refine RgD.begin_ [] S (by kernel_rfl) hS0 (fun hHeld=>?_)
  refine tK 0 12 (h:=?_)
  simp only [zA,zB,zC]
  refine tK 1 13 (v:=.int .i64 2) (hy:=by intro w0 hSw;obtain ⟨z0,z1,z2,z3,z4,z5,zf⟩:=cells6 (HSe.out _ hSw);first | (go_simp;done) | (go_simp;with_reducible rfl) | (go_simp;intro hc;exfalso;omega)) (h:=?_)
  simp only [zA,zB,zC]
  refine tK 2 14 (h:=?_)
  simp only [zA,zB,zC]
  refine tK 3 15 (h:=?_)
  simp only [zA,zB,zC]
  refine tK 4 16 (h:=?_)
  simp only [zA,zB,zC]
  refine tK 5 17 (v:=.slice A3 n3 c3) (hy:=by intro w0 hSw;obtain ⟨z0,z1,z2,zf⟩:=cells3 (HSa.out _ hSw);first | (go_simp;done) | (go_simp;with_reducible rfl) | (go_simp;intro hc;exfalso;omega)) (h:=?_)
  simp only [zA,zB,zC]
  refine tK 6 18 (h:=?_)
  simp only [zA,zB,zC]
  refine tK 7 4 (h:=?_)
  simp only [zA,zB,zC]
  refine tK 8 5 (h:=?_)
  simp only [zA,zB,zC]
  refine RgD.done (by kernel_rfl) ?_ _
  go_wp2_with fail
  go_ret2
  exact ⟨by rw [HLN.out];rfl,Below.drew HB1.out⟩
 by_cases h11 : k=11
 ·subst h11
  go_upto_region 4 with fail
  clear x0 x1 x2 x3 x4 x5 xf
  refine RgD.begin_ [] S (by kernel_rfl) hS0 (fun hHeld=>?_)
  refine tK 0 12 (h:=?_)
  simp only [zA,zB,zC]
  refine tK 1 13 (v:=.int .i64 11) (hy:=by intro w0 hSw;obtain ⟨z0,z1,z2,z3,z4,z5,zf⟩:=cells6 (HSe.out _ hSw);first | (go_simp;done) | (go_simp;with_reducible rfl) | (go_simp;intro hc;exfalso;omega)) (h:=?_)
  simp only [zA,zB,zC]
  refine tK 2 14 (h:=?_)
  simp only [zA,zB,zC]
  refine tK 3 15 (h:=?_)
  simp only [zA,zB,zC]
  refine tK 4 16 (h:=?_)
  simp only [zA,zB,zC]
  refine tK 5 17 (v:=.slice A3 n3 c3) (hy:=by intro w0 hSw;obtain ⟨z0,z1,z2,zf⟩:=cells3 (HSa.out _ hSw);first | (go_simp;done) | (go_simp;with_reducible rfl) | (go_simp;intro hc;exfalso;omega)) (h:=?_)
  simp only [zA,zB,zC]
  refine tK 6 18 (h:=?_)
  simp only [zA,zB,zC]
  refine tK 7 4 (h:=?_)
  simp only [zA,zB,zC]
  refine tK 8 5 (h:=?_)
  simp only [zA,zB,zC]
  refine RgD.done (by kernel_rfl) ?_ _
  go_wp2_with fail
  go_ret2
  exact ⟨by rw [HLN.out];rfl,Below.drew HB1.out⟩
 by_cases h3 : k=3
 ·subst h3
  obtain ⟨pl,hpl⟩ : ∃ pl,place lo s=pl:=⟨_,rfl⟩
  have HPL:=hI hpl
  clear hpl
  go_upto_region 6 with fail
  clear x0 x1 x2 x3 x4 x5 xf
  refine RgD.begin_ [] S (by kernel_rfl) hS0 (fun hHeld=>?_)
  refine tK 0 21 (h:=?_)
  simp only [zA,zB,zC]
  refine tK 1 22 (h:=?_)
  simp only [zA,zB,zC]
  refine tK 2 23 (h:=?_)
  simp only [zA,zB,zC]
  refine tK 3 24 (v:=.slice A3 n3 c3) (hy:=by intro w0 hSw;obtain ⟨z0,z1,z2,zf⟩:=cells3 (HSa.out _ hSw);first | (go_simp;done) | (go_simp;with_reducible rfl) | (go_simp;intro hc;exfalso;omega)) (h:=?_)
  simp only [zA,zB,zC]
  refine tK 4 25 (h:=?_)
  simp only [zA,zB,zC]
  refine tK 5 26 (v:=.string (str s)) (hy:=by intro w0 hSw;obtain ⟨z0,z1,z2,z3,z4,z5,zf⟩:=cells6 (HSe.out _ hSw);first | (go_simp;done) | (go_simp;with_reducible rfl) | (go_simp;intro hc;exfalso;omega)) (h:=?_)
  simp only [zA,zB,zC]
  refine RgD.one (i:=6) (by kernel_rfl) ?_
  refine RgD.call (i:=6) (t:=27) rfl rfl (by rfl) (by go_simp;exact ⟨rfl,rfl⟩) ?_
  refine (place_i lo s w1.drew HEN.out.l HEN.out.n3).mono ?_
  rintro r w2 ⟨rfl,rfl⟩;rw [HPL.out]
  have HB2:=hI (Below.drew HB1.out)
  refine ⟨_,rfl,hS0,?_⟩
  simp only [zA,zB,zC]
  refine tK 7 6 (h:=?_)
  simp only [zA,zB,zC]
  refine RgD.done (by kernel_rfl) ?_ _
  obtain ⟨x0,x1,x2,x3,x4,x5,xf⟩:=cells6 (HSe.out _ hS0)
  by_cases hp : 0≤pl
  ·have hp2 : decide (0≤pl)=true:=decide_eq_true hp
   have HK:=hI (show kd lo 3 s=3∧nm t lo 3 n s=pl by unfold kd nm;rw [HPL.out,if_pos hp,if_pos hp];exact ⟨rfl,rfl⟩)
   go_wp2_with fail
   go_ret2
   exact ⟨by rw [HK.out.1,HK.out.2] <;> rfl,HB2.out⟩
  ·have hp2 : decide (0≤pl)=false:=decide_eq_false hp
   have HK:=hI (show kd lo 3 s=23∧nm t lo 3 n s=ofN t 3 s by unfold kd nm;rw [HPL.out,if_neg hp,if_neg hp];exact ⟨rfl,rfl⟩)
   go_upto_region 9 with fail
   clear x0 x1 x2 x3 x4 x5 xf
   refine RgD.begin_ [] S (by kernel_rfl) (HSB.out _ (Below.drew (Below.drew (Below.refl _ _)))) (fun hHeld=>?_)
   refine tK 0 33 (h:=?_)
   simp only [zA,zB,zC]
   refine tK 1 34 (h:=?_)
   simp only [zA,zB,zC]
   refine tK 2 35 (h:=?_)
   simp only [zA,zB,zC]
   refine tK 3 36 (v:=.slice A1 n1 c1) (hy:=by intro w0 hSw;obtain ⟨z0,z1,z2,zf⟩:=cells3 (HSa.out _ hSw);first | (go_simp;done) | (go_simp;with_reducible rfl) | (go_simp;intro hc;exfalso;omega)) (h:=?_)
   simp only [zA,zB,zC]
   refine tK 4 37 (h:=?_)
   simp only [zA,zB,zC]
   refine tK 5 38 (v:=.string (str s)) (hy:=by intro w0 hSw;obtain ⟨z0,z1,z2,z3,z4,z5,zf⟩:=cells6 (HSe.out _ hSw);first | (go_simp;done) | (go_simp;with_reducible rfl) | (go_simp;intro hc;exfalso;omega)) (h:=?_)
   simp only [zA,zB,zC]
   refine RgD.one (i:=6) (by kernel_rfl) ?_
   refine RgD.call (i:=6) (t:=39) rfl rfl (by rfl) (by go_simp;exact ⟨rfl,rfl⟩) ?_
   refine (number_w t HU.out 3 s w1.drew.drew HEN.out.t HEN.out.n1).mono ?_
   rintro r w2 ⟨rfl,hb⟩
   have HB2:=hI ((Below.drew (Below.drew HB1.out)).trans (hb.mono HB1.out.size))
   have hS2:=HSB.out _ ((Below.drew (Below.drew (Below.refl _ _))).trans hb)
   clear hb
   refine ⟨_,rfl,hS2,?_⟩
   simp only [zA,zB,zC]
   refine tK 7 4 (h:=?_)
   simp only [zA,zB,zC]
   refine tK 8 5 (h:=?_)
   simp only [zA,zB,zC]
   refine RgD.done (by kernel_rfl) ?_ _
   go_wp2_with fail
   go_ret2
   exact ⟨by rw [HK.out.1,HK.out.2] <;> rfl,HB2.out⟩
 by_cases h4 : k=4
 ·subst h4
  go_upto_region 11 with fail
  clear x0 x1 x2 x3 x4 x5 xf
  refine RgD.begin_ [] S (by kernel_rfl) hS0 (fun hHeld=>?_)
  refine tK 0 42 (h:=?_)
  simp only [zA,zB,zC]
  refine tK 1 43 (v:=.int .i64 4) (hy:=by intro w0 hSw;obtain ⟨z0,z1,z2,z3,z4,z5,zf⟩:=cells6 (HSe.out _ hSw);first | (go_simp;done) | (go_simp;with_reducible rfl) | (go_simp;intro hc;exfalso;omega)) (h:=?_)
  simp only [zA,zB,zC]
  refine tK 2 44 (h:=?_)
  simp only [zA,zB,zC]
  refine tK 3 45 (h:=?_)
  simp only [zA,zB,zC]
  refine tK 4 46 (h:=?_)
  simp only [zA,zB,zC]
  refine tK 5 47 (v:=.slice A1 n1 c1) (hy:=by intro w0 hSw;obtain ⟨z0,z1,z2,zf⟩:=cells3 (HSa.out _ hSw);first | (go_simp;done) | (go_simp;with_reducible rfl) | (go_simp;intro hc;exfalso;omega)) (h:=?_)
  simp only [zA,zB,zC]
  refine tK 6 48 (h:=?_)
  simp only [zA,zB,zC]
  refine tK 7 49 (v:=.string (str s)) (hy:=by intro w0 hSw;obtain ⟨z0,z1,z2,z3,z4,z5,zf⟩:=cells6 (HSe.out _ hSw);first | (go_simp;done) | (go_simp;with_reducible rfl) | (go_simp;intro hc;exfalso;omega)) (h:=?_)
  simp only [zA,zB,zC]
  refine RgD.one (i:=8) (by kernel_rfl) ?_
  refine RgD.call (i:=8) (t:=50) rfl rfl (by rfl) (by go_simp;exact ⟨rfl,rfl⟩) ?_
  refine (number_w t HU.out 2 s w1.drew HEN.out.t HEN.out.n1).mono ?_
  rintro r w2 ⟨rfl,hb⟩
  have HB2:=hI ((Below.drew HB1.out).trans (hb.mono HB1.out.size))
  have hS2:=HSB.out _ ((Below.drew (Below.refl _ _)).trans hb)
  clear hb
  refine ⟨_,rfl,hS2,?_⟩
  simp only [zA,zB,zC]
  refine tK 9 4 (h:=?_)
  simp only [zA,zB,zC]
  refine tK 10 5 (h:=?_)
  simp only [zA,zB,zC]
  refine RgD.done (by kernel_rfl) ?_ _
  go_wp2_with fail
  go_ret2
  exact ⟨by unfold kd nm;rfl,HB2.out⟩
 by_cases h5 : k=5
 ·subst h5
  go_upto_region 14 with fail
  clear x0 x1 x2 x3 x4 x5 xf
  refine RgD.begin_ [] S (by kernel_rfl) hS0 (fun hHeld=>?_)
  refine tK 0 54 (h:=?_)
  simp only [zA,zB,zC]
  refine tK 1 55 (v:=.int .i64 5) (hy:=by intro w0 hSw;obtain ⟨z0,z1,z2,z3,z4,z5,zf⟩:=cells6 (HSe.out _ hSw);first | (go_simp;done) | (go_simp;with_reducible rfl) | (go_simp;intro hc;exfalso;omega)) (h:=?_)
  simp only [zA,zB,zC]
  refine tK 2 56 (h:=?_)
  simp only [zA,zB,zC]
  refine tK 3 57 (h:=?_)
  simp only [zA,zB,zC]
  refine tK 4 58 (h:=?_)
  simp only [zA,zB,zC]
  refine tK 5 59 (v:=.slice A1 n1 c1) (hy:=by intro w0 hSw;obtain ⟨z0,z1,z2,zf⟩:=cells3 (HSa.out _ hSw);first | (go_simp;done) | (go_simp;with_reducible rfl) | (go_simp;intro hc;exfalso;omega)) (h:=?_)
  simp only [zA,zB,zC]
  refine tK 6 60 (h:=?_)
  simp only [zA,zB,zC]
  refine tK 7 61 (v:=.string (str s)) (hy:=by intro w0 hSw;obtain ⟨z0,z1,z2,z3,z4,z5,zf⟩:=cells6 (HSe.out _ hSw);first | (go_simp;done) | (go_simp;with_reducible rfl) | (go_simp;intro hc;exfalso;omega)) (h:=?_)
  simp only [zA,zB,zC]
  refine RgD.one (i:=8) (by kernel_rfl) ?_
  refine RgD.call (i:=8) (t:=62) rfl rfl (by rfl) (by go_simp;exact ⟨rfl,rfl⟩) ?_
  refine (number_w t HU.out 1 s w1.drew HEN.out.t HEN.out.n1).mono ?_
  rintro r w2 ⟨rfl,hb⟩
  have HB2:=hI ((Below.drew HB1.out).trans (hb.mono HB1.out.size))
  have hS2:=HSB.out _ ((Below.drew (Below.refl _ _)).trans hb)
  clear hb
  refine ⟨_,rfl,hS2,?_⟩
  simp only [zA,zB,zC]
  refine tK 9 4 (h:=?_)
  simp only [zA,zB,zC]
  refine tK 10 5 (h:=?_)
  simp only [zA,zB,zC]
  refine RgD.done (by kernel_rfl) ?_ _
  go_wp2_with fail
  go_ret2
  exact ⟨by unfold kd nm;rfl,HB2.out⟩
 by_cases h6 : k=6
 ·subst h6
  go_upto_region 14 with fail
  clear x0 x1 x2 x3 x4 x5 xf
  refine RgD.begin_ [] S (by kernel_rfl) hS0 (fun hHeld=>?_)
  refine tK 0 54 (h:=?_)
  simp only [zA,zB,zC]
  refine tK 1 55 (v:=.int .i64 6) (hy:=by intro w0 hSw;obtain ⟨z0,z1,z2,z3,z4,z5,zf⟩:=cells6 (HSe.out _ hSw);first | (go_simp;done) | (go_simp;with_reducible rfl) | (go_simp;intro hc;exfalso;omega)) (h:=?_)
  simp only [zA,zB,zC]
  refine tK 2 56 (h:=?_)
  simp only [zA,zB,zC]
  refine tK 3 57 (h:=?_)
  simp only [zA,zB,zC]
  refine tK 4 58 (h:=?_)
  simp only [zA,zB,zC]
  refine tK 5 59 (v:=.slice A1 n1 c1) (hy:=by intro w0 hSw;obtain ⟨z0,z1,z2,zf⟩:=cells3 (HSa.out _ hSw);first | (go_simp;done) | (go_simp;with_reducible rfl) | (go_simp;intro hc;exfalso;omega)) (h:=?_)
  simp only [zA,zB,zC]
  refine tK 6 60 (h:=?_)
  simp only [zA,zB,zC]
  refine tK 7 61 (v:=.string (str s)) (hy:=by intro w0 hSw;obtain ⟨z0,z1,z2,z3,z4,z5,zf⟩:=cells6 (HSe.out _ hSw);first | (go_simp;done) | (go_simp;with_reducible rfl) | (go_simp;intro hc;exfalso;omega)) (h:=?_)
  simp only [zA,zB,zC]
  refine RgD.one (i:=8) (by kernel_rfl) ?_
  refine RgD.call (i:=8) (t:=62) rfl rfl (by rfl) (by go_simp;exact ⟨rfl,rfl⟩) ?_
  refine (number_w t HU.out 1 s w1.drew HEN.out.t HEN.out.n1).mono ?_
  rintro r w2 ⟨rfl,hb⟩
  have HB2:=hI ((Below.drew HB1.out).trans (hb.mono HB1.out.size))
  have hS2:=HSB.out _ ((Below.drew (Below.refl _ _)).trans hb)
  clear hb
  refine ⟨_,rfl,hS2,?_⟩
  simp only [zA,zB,zC]
  refine tK 9 4 (h:=?_)
  simp only [zA,zB,zC]
  refine tK 10 5 (h:=?_)
  simp only [zA,zB,zC]
  refine RgD.done (by kernel_rfl) ?_ _
  go_wp2_with fail
  go_ret2
  exact ⟨by unfold kd nm;rfl,HB2.out⟩
 by_cases h17 : k=17
 ·subst h17
  go_upto_region 17 with fail
  clear x0 x1 x2 x3 x4 x5 xf
  refine RgD.begin_ [] S (by kernel_rfl) hS0 (fun hHeld=>?_)
  refine tK 0 66 (h:=?_)
  simp only [zA,zB,zC]
  refine tK 1 67 (v:=.int .i64 17) (hy:=by intro w0 hSw;obtain ⟨z0,z1,z2,z3,z4,z5,zf⟩:=cells6 (HSe.out _ hSw);first | (go_simp;done) | (go_simp;with_reducible rfl) | (go_simp;intro hc;exfalso;omega)) (h:=?_)
  simp only [zA,zB,zC]
  refine tK 2 68 (h:=?_)
  simp only [zA,zB,zC]
  refine tK 3 69 (h:=?_)
  simp only [zA,zB,zC]
  refine tK 4 70 (h:=?_)
  simp only [zA,zB,zC]
  refine tK 5 71 (v:=.slice A1 n1 c1) (hy:=by intro w0 hSw;obtain ⟨z0,z1,z2,zf⟩:=cells3 (HSa.out _ hSw);first | (go_simp;done) | (go_simp;with_reducible rfl) | (go_simp;intro hc;exfalso;omega)) (h:=?_)
  simp only [zA,zB,zC]
  refine tK 6 72 (h:=?_)
  simp only [zA,zB,zC]
  refine tK 7 73 (v:=.string (str s)) (hy:=by intro w0 hSw;obtain ⟨z0,z1,z2,z3,z4,z5,zf⟩:=cells6 (HSe.out _ hSw);first | (go_simp;done) | (go_simp;with_reducible rfl) | (go_simp;intro hc;exfalso;omega)) (h:=?_)
  simp only [zA,zB,zC]
  refine RgD.one (i:=8) (by kernel_rfl) ?_
  refine RgD.call (i:=8) (t:=74) rfl rfl (by rfl) (by go_simp;exact ⟨rfl,rfl⟩) ?_
  refine (number_w t HU.out 7 s w1.drew HEN.out.t HEN.out.n1).mono ?_
  rintro r w2 ⟨rfl,hb⟩
  have HB2:=hI ((Below.drew HB1.out).trans (hb.mono HB1.out.size))
  have hS2:=HSB.out _ ((Below.drew (Below.refl _ _)).trans hb)
  clear hb
  refine ⟨_,rfl,hS2,?_⟩
  simp only [zA,zB,zC]
  refine tK 9 4 (h:=?_)
  simp only [zA,zB,zC]
  refine tK 10 5 (h:=?_)
  simp only [zA,zB,zC]
  refine RgD.done (by kernel_rfl) ?_ _
  go_wp2_with fail
  go_ret2
  exact ⟨by unfold kd nm;rfl,HB2.out⟩
 by_cases h18 : k=18
 ·subst h18
  go_upto_region 17 with fail
  clear x0 x1 x2 x3 x4 x5 xf
  refine RgD.begin_ [] S (by kernel_rfl) hS0 (fun hHeld=>?_)
  refine tK 0 66 (h:=?_)
  simp only [zA,zB,zC]
  refine tK 1 67 (v:=.int .i64 18) (hy:=by intro w0 hSw;obtain ⟨z0,z1,z2,z3,z4,z5,zf⟩:=cells6 (HSe.out _ hSw);first | (go_simp;done) | (go_simp;with_reducible rfl) | (go_simp;intro hc;exfalso;omega)) (h:=?_)
  simp only [zA,zB,zC]
  refine tK 2 68 (h:=?_)
  simp only [zA,zB,zC]
  refine tK 3 69 (h:=?_)
  simp only [zA,zB,zC]
  refine tK 4 70 (h:=?_)
  simp only [zA,zB,zC]
  refine tK 5 71 (v:=.slice A1 n1 c1) (hy:=by intro w0 hSw;obtain ⟨z0,z1,z2,zf⟩:=cells3 (HSa.out _ hSw);first | (go_simp;done) | (go_simp;with_reducible rfl) | (go_simp;intro hc;exfalso;omega)) (h:=?_)
  simp only [zA,zB,zC]
  refine tK 6 72 (h:=?_)
  simp only [zA,zB,zC]
  refine tK 7 73 (v:=.string (str s)) (hy:=by intro w0 hSw;obtain ⟨z0,z1,z2,z3,z4,z5,zf⟩:=cells6 (HSe.out _ hSw);first | (go_simp;done) | (go_simp;with_reducible rfl) | (go_simp;intro hc;exfalso;omega)) (h:=?_)
  simp only [zA,zB,zC]
  refine RgD.one (i:=8) (by kernel_rfl) ?_
  refine RgD.call (i:=8) (t:=74) rfl rfl (by rfl) (by go_simp;exact ⟨rfl,rfl⟩) ?_
  refine (number_w t HU.out 7 s w1.drew HEN.out.t HEN.out.n1).mono ?_
  rintro r w2 ⟨rfl,hb⟩
  have HB2:=hI ((Below.drew HB1.out).trans (hb.mono HB1.out.size))
  have hS2:=HSB.out _ ((Below.drew (Below.refl _ _)).trans hb)
  clear hb
  refine ⟨_,rfl,hS2,?_⟩
  simp only [zA,zB,zC]
  refine tK 9 4 (h:=?_)
  simp only [zA,zB,zC]
  refine tK 10 5 (h:=?_)
  simp only [zA,zB,zC]
  refine RgD.done (by kernel_rfl) ?_ _
  go_wp2_with fail
  go_ret2
  exact ⟨by unfold kd nm;rfl,HB2.out⟩
 have HK:=hI (show kd lo k s=k∧nm t lo k n s=n by
  unfold kd nm
  rw [if_neg h3,if_neg h2,if_neg h11,if_neg h3,if_neg h4,if_neg h5,if_neg h6,if_neg h17,if_neg h18]
  exact ⟨rfl,rfl⟩)
 go_upto_region 18 with fail
 clear x0 x1 x2 x3 x4 x5 xf
 refine RgD.begin_ [] S (by kernel_rfl) hS0 (fun hHeld=>?_)
 refine tK 0 75 (h:=?_)
 simp only [zA,zB,zC]
 refine tK 1 76 (v:=.int .i64 k) (hy:=by intro w0 hSw;obtain ⟨z0,z1,z2,z3,z4,z5,zf⟩:=cells6 (HSe.out _ hSw);first | (go_simp;done) | (go_simp;with_reducible rfl) | (go_simp;intro hc;exfalso;omega)) (h:=?_)
 simp only [zA,zB,zC]
 refine tK 2 77 (h:=?_)
 simp only [zA,zB,zC]
 refine tK 3 78 (v:=.int .i64 n) (hy:=by intro w0 hSw;obtain ⟨z0,z1,z2,z3,z4,z5,zf⟩:=cells6 (HSe.out _ hSw);first | (go_simp;done) | (go_simp;with_reducible rfl) | (go_simp;intro hc;exfalso;omega)) (h:=?_)
 simp only [zA,zB,zC]
 refine tK 4 4 (h:=?_)
 simp only [zA,zB,zC]
 refine tK 5 5 (h:=?_)
 simp only [zA,zB,zC]
 refine RgD.done (by kernel_rfl) ?_ _
 go_wp2_with fail
 go_ret2
 exact ⟨by rw [HK.out.1,HK.out.2] <;> rfl,Below.drew HB1.out⟩
end Go.Proofs.YteibcfpepdbflaaGreat.BindB
