/- clewref10.Same, sameArgs: expressions that are the same as plain trees. Conditions: sizes within the reach. -/
import Derived.Test.YteibcfpepdbflaaBindW
import Derived.Outline
import Derived.Deep.DeepCutAuto
import Derived.IntWalk
import Derived.Deep.QuietTactic
import Derived.BigQuiet
import Derived.Test.YteibcfpepdbflaaBindR
import Derived.Test.YteibcfpepdbflaaBindX
namespace Go.Proofs.Yteibcfpepdbflaa.BindE
open Go Go.RowKit BindP BindD BindO BindW
open Byt (str)

set_option maxRecDepth 100000 in
theorem sameTexts_t {A B : Option Addr} {n ca cb : Nat} (l : List S) (w : World) (ha : Sq.Rd sv w A n l) (hb : Sq.Rd sv w B n l) (hn : n ≤ 17592186043904) :
    Calls Try.prog 9 #[.slice A n ca, .slice B n cb] w fun e w' => e = .returned (.bool true) ∧ Below w.heap.size w w' := by
  have HA := Lib.hid ha
  have HB := Lib.hid hb
  clear ha hb
  go_enter Try.func9, Try.ntmps9
  go_wp2_with fail
  go_loopw [5] (fun iv wr => ∃ j : Nat, j ≤ n ∧ iv = .int .i64 (j : Int) ∧ Below w.heap.size w wr) (fun iv _ => n - (intOf iv).toNat)
  case atStart => exact ⟨0, Nat.zero_le _, rfl, Below.refl _ _⟩
  case round =>
    obtain ⟨j, hj, rfl, hbl⟩ := hrel
    have HBL := Lib.hid hbl
    clear hbl
    by_cases hlt : j < n
    · obtain ⟨b1, o1, rfl, hb1, hl1, hc1⟩ := (HA.out.below HBL.out).at_ hlt
      obtain ⟨b2, o2, rfl, hb2, hl2, hc2⟩ := (HB.out.below HBL.out).at_ hlt
      obtain ⟨y, hy⟩ : ∃ y, l[j] = y := ⟨_, rfl⟩
      rw [hy] at hc1 hc2
      unfold sv at hc1 hc2
      have q := eq_q (rfl : y = y)
      have k0 : (0 : Int) ≤ (j : Int) := by omega
      have k1 : (j : Int) < (n : Int) := by omega
      clear hy hl1 hl2
      go_wp2_with fail
      go_quiet (fail)
      go_wp2_with fail
      go_roundw
      case rel => exact ⟨j + 1, by omega, by go_num, Sq.belowN HBL.out _⟩
      case measure => simp [intOf]; omega
    · obtain rfl : n = j := by omega
      go_wp2_with fail
      go_ret
      exact ⟨rfl, HBL.out⟩
end Go.Proofs.Yteibcfpepdbflaa.BindE
namespace Go.Proofs.Yteibcfpepdbflaa.BindF
open Go Go.RowKit BindP BindD BindO BindW BindN BindG BindX
open Byt (str)

def SameC (x : Ex) : Prop := ∀ (y : Ex) (w : World), RdX top w x → RdX top w y → x.p = y.p → nE x.p ≤ 1048576 → Calls Try.prog 15 #[.agg (exE x).toArray, .agg (exE y).toArray] w fun e w' => e = .returned (.bool true) ∧ Below w.heap.size w w'
set_option maxRecDepth 100000 in
set_option maxHeartbeats 4000000 in
theorem args_t (ar : List Ex) (ih : ∀ x ∈ ar, SameC x) (br : List Ex) (w : World) (A B : Option Addr) (ca cb : Nat) (ha : Lx top w A ca ar) (hb : Lx top w B cb br) (he : exPs ar = exPs br) (hn : nEs (exPs ar) ≤ 1048576) :
    Calls Try.prog 38 #[.slice A ar.length ca, .slice B br.length cb] w fun e w' => e = .returned (.bool true) ∧ Below w.heap.size w w' := by
  have hlen : ar.length = br.length := by
    have := congrArg List.length he
    rw [exPs_map, exPs_map, List.length_map, List.length_map] at this
    exact this
  have hl : ar.length ≤ 1048576 := by
    have h1 := sum_len (m := fun x : Ex => nE x.p) (fun x => nE_pos x.p) ar
    rw [← nEs_sum] at h1
    omega
  obtain ⟨n, hn2⟩ : ∃ n, ar.length = n := ⟨_, rfl⟩
  have hn3 : br.length = n := by rw [← hlen]; exact hn2
  have HNN := Lib.hid (And.intro hn2 hn3)
  have HA := Lib.hid ha
  have HB := Lib.hid hb
  have HIH := Lib.hid ih
  have HE := Lib.hid he
  have HN := Lib.hid hn
  rw [hn2] at hl ⊢
  rw [hn3]
  clear ha hb ih he hn hlen hn2 hn3
  go_enter Try.func38, Try.ntmps38
  go_wp2_with fail
  go_loopw [5] (fun iv wr => ∃ j : Nat, j ≤ n ∧ iv = .int .i64 (j : Int) ∧ Below w.heap.size w wr) (fun iv _ => n - (intOf iv).toNat)
  case atStart => exact ⟨0, Nat.zero_le _, rfl, Below.refl _ _⟩
  case round =>
    obtain ⟨j, hj, rfl, hbl⟩ := hrel
    have HBL := Lib.hid hbl
    clear hbl
    by_cases hlt : j < n
    · have h1 : j < ar.length := by rw [HNN.out.1]; exact hlt
      have h2 : j < br.length := by rw [HNN.out.2]; exact hlt
      obtain ⟨b1, o1, rfl, hb1, hc1⟩ := Lg.at_ exE_len HA.out h1
      obtain ⟨b2, o2, rfl, hb2, hc2⟩ := Lg.at_ exE_len HB.out h2
      obtain ⟨⟨k1, p1, q1, s1, C1, c1, r1⟩, hy1⟩ : ∃ y, ar[j] = y := ⟨_, rfl⟩
      obtain ⟨⟨k2, p2, q2, s2, C2, c2, r2⟩, hy2⟩ : ∃ y, br[j] = y := ⟨_, rfl⟩
      have HM1 := Lib.hid (show Ex.mk k1 p1 q1 s1 C1 c1 r1 ∈ ar from hy1 ▸ List.getElem_mem h1)
      have HM2 := Lib.hid (show Ex.mk k2 p2 q2 s2 C2 c2 r2 ∈ br from hy2 ▸ List.getElem_mem h2)
      have HR1 := Lib.hid (HA.out.2 _ HM1.out)
      have HR2 := Lib.hid (HB.out.2 _ HM2.out)
      have HEQ := Lib.hid (show (Ex.mk k1 p1 q1 s1 C1 c1 r1).p = (Ex.mk k2 p2 q2 s2 C2 c2 r2).p by
        have h := congrArg (fun l : List Pe => l[j]?) HE.out
        simp only [exPs_map, List.getElem?_map, List.getElem?_eq_getElem h1, List.getElem?_eq_getElem h2, hy1, hy2, Option.map_some, Option.some.injEq] at h
        exact h)
      have HN1 := Lib.hid (show nE (Ex.mk k1 p1 q1 s1 C1 c1 r1).p ≤ 1048576 by
        have h := sum_mem (m := fun x : Ex => nE x.p) ar _ HM1.out
        rw [← nEs_sum] at h
        have := HN.out
        omega)
      rw [hy1] at hc1
      rw [hy2] at hc2
      have hcell1 : ∀ U, Below w.heap.size w U → ∀ p, U.cell? ⟨b1, p, none⟩ = w.cell? ⟨b1, p, none⟩ := fun U hU p => hU.cell (p := ⟨b1, p, none⟩) hb1
      have hcell2 : ∀ U, Below w.heap.size w U → ∀ p, U.cell? ⟨b2, p, none⟩ = w.cell? ⟨b2, p, none⟩ := fun U hU p => hU.cell (p := ⟨b2, p, none⟩) hb2
      have hSB : ∀ U, Below w.heap.size w U → (U.cell? ⟨b1, o1 + j * 5, none⟩ = some (.int .i64 k1) ∧ U.cell? ⟨b1, o1 + j * 5 + 1, none⟩ = some (.int .i64 p1) ∧ U.cell? ⟨b1, o1 + j * 5 + 2, none⟩ = some (.int .i64 q1) ∧ U.cell? ⟨b1, o1 + j * 5 + 3, none⟩ = some (.string (str s1)) ∧ U.cell? ⟨b1, o1 + j * 5 + 4, none⟩ = some (.slice C1 r1.length c1)) ∧ (U.cell? ⟨b2, o2 + j * 5, none⟩ = some (.int .i64 k2) ∧ U.cell? ⟨b2, o2 + j * 5 + 1, none⟩ = some (.int .i64 p2) ∧ U.cell? ⟨b2, o2 + j * 5 + 2, none⟩ = some (.int .i64 q2) ∧ U.cell? ⟨b2, o2 + j * 5 + 3, none⟩ = some (.string (str s2)) ∧ U.cell? ⟨b2, o2 + j * 5 + 4, none⟩ = some (.slice C2 r2.length c2)) := fun U hU =>
        ⟨⟨(hcell1 U hU _).trans (hc1 0 _ rfl), (hcell1 U hU _).trans (hc1 1 _ rfl), (hcell1 U hU _).trans (hc1 2 _ rfl), (hcell1 U hU _).trans (hc1 3 _ rfl), (hcell1 U hU _).trans (hc1 4 _ rfl)⟩,
         ⟨(hcell2 U hU _).trans (hc2 0 _ rfl), (hcell2 U hU _).trans (hc2 1 _ rfl), (hcell2 U hU _).trans (hc2 2 _ rfl), (hcell2 U hU _).trans (hc2 3 _ rfl), (hcell2 U hU _).trans (hc2 4 _ rfl)⟩⟩
      have hS0 := hSB wr.drew (Below.drew HBL.out)
      have i0 : (0 : Int) ≤ (j : Int) := by omega
      have i1 : (j : Int) < (n : Int) := by omega
      clear hc1 hc2 hcell1 hcell2 hy1 hy2 h1 h2
      go_upto_region 6 with fail
      refine RgD.begin_ [] (fun U : World => (U.cell? ⟨b1, o1 + j * 5, none⟩ = some (.int .i64 k1) ∧ U.cell? ⟨b1, o1 + j * 5 + 1, none⟩ = some (.int .i64 p1) ∧ U.cell? ⟨b1, o1 + j * 5 + 2, none⟩ = some (.int .i64 q1) ∧ U.cell? ⟨b1, o1 + j * 5 + 3, none⟩ = some (.string (str s1)) ∧ U.cell? ⟨b1, o1 + j * 5 + 4, none⟩ = some (.slice C1 r1.length c1)) ∧ (U.cell? ⟨b2, o2 + j * 5, none⟩ = some (.int .i64 k2) ∧ U.cell? ⟨b2, o2 + j * 5 + 1, none⟩ = some (.int .i64 p2) ∧ U.cell? ⟨b2, o2 + j * 5 + 2, none⟩ = some (.int .i64 q2) ∧ U.cell? ⟨b2, o2 + j * 5 + 3, none⟩ = some (.string (str s2)) ∧ U.cell? ⟨b2, o2 + j * 5 + 4, none⟩ = some (.slice C2 r2.length c2))) (by kernel_rfl) hS0 (fun hHeld => ?_)
      refine RgD.take (i := 0) (t := 17) rfl rfl (by kernel_rfl) (by kernel_rfl) (by kernel_rfl) (by kernel_rfl) (fun _ _ _ h => h) (by rfl) (by intro w0 hSw; first | (go_simp; done) | (go_simp; with_reducible rfl) | (go_simp; intro hc; exfalso; omega)) (by assumption) ?_
      simp only [List.setIfInBounds_toArray, List.set_cons_zero, List.set_cons_succ]
      refine RgD.take (i := 1) (t := 18) rfl rfl (by kernel_rfl) (by kernel_rfl) (by kernel_rfl) (by kernel_rfl) (fun _ _ _ h => h) (by rfl) (by intro w0 hSw; first | (go_simp; done) | (go_simp; with_reducible rfl) | (go_simp; intro hc; exfalso; omega)) (by assumption) ?_
      simp only [List.setIfInBounds_toArray, List.set_cons_zero, List.set_cons_succ]
      refine RgD.take (i := 2) (t := 19) rfl rfl (by kernel_rfl) (by kernel_rfl) (by kernel_rfl) (by kernel_rfl) (fun _ _ _ h => h) (by rfl) (by intro w0 hSw; first | (go_simp; done) | (go_simp; with_reducible rfl) | (go_simp; intro hc; exfalso; omega)) (by assumption) ?_
      simp only [List.setIfInBounds_toArray, List.set_cons_zero, List.set_cons_succ]
      refine RgD.take (i := 3) (t := 20) (v := .agg #[.int .i64 k1, .int .i64 p1, .int .i64 q1, .string (str s1), .slice C1 r1.length c1]) rfl rfl (by kernel_rfl) (by kernel_rfl) (by kernel_rfl) (by kernel_rfl) (fun _ _ _ h => h) (by rfl) (by intro w0 hSw; obtain ⟨⟨z0, z1, z2, z3, z4⟩, _⟩ := hSw; first | (go_simp; done) | (go_simp; with_reducible rfl) | (go_simp; intro hc; exfalso; omega)) (by assumption) ?_
      simp only [List.setIfInBounds_toArray, List.set_cons_zero, List.set_cons_succ]
      refine RgD.take (i := 4) (t := 21) rfl rfl (by kernel_rfl) (by kernel_rfl) (by kernel_rfl) (by kernel_rfl) (fun _ _ _ h => h) (by rfl) (by intro w0 hSw; first | (go_simp; done) | (go_simp; with_reducible rfl) | (go_simp; intro hc; exfalso; omega)) (by assumption) ?_
      simp only [List.setIfInBounds_toArray, List.set_cons_zero, List.set_cons_succ]
      refine RgD.take (i := 5) (t := 22) rfl rfl (by kernel_rfl) (by kernel_rfl) (by kernel_rfl) (by kernel_rfl) (fun _ _ _ h => h) (by rfl) (by intro w0 hSw; first | (go_simp; done) | (go_simp; with_reducible rfl) | (go_simp; intro hc; exfalso; omega)) (by assumption) ?_
      simp only [List.setIfInBounds_toArray, List.set_cons_zero, List.set_cons_succ]
      refine RgD.take (i := 6) (t := 23) rfl rfl (by kernel_rfl) (by kernel_rfl) (by kernel_rfl) (by kernel_rfl) (fun _ _ _ h => h) (by rfl) (by intro w0 hSw; first | (go_simp; done) | (go_simp; with_reducible rfl) | (go_simp; intro hc; exfalso; omega)) (by assumption) ?_
      simp only [List.setIfInBounds_toArray, List.set_cons_zero, List.set_cons_succ]
      refine RgD.take (i := 7) (t := 24) (v := .agg #[.int .i64 k2, .int .i64 p2, .int .i64 q2, .string (str s2), .slice C2 r2.length c2]) rfl rfl (by kernel_rfl) (by kernel_rfl) (by kernel_rfl) (by kernel_rfl) (fun _ _ _ h => h) (by rfl) (by intro w0 hSw; obtain ⟨_, ⟨z0, z1, z2, z3, z4⟩⟩ := hSw; first | (go_simp; done) | (go_simp; with_reducible rfl) | (go_simp; intro hc; exfalso; omega)) (by assumption) ?_
      simp only [List.setIfInBounds_toArray, List.set_cons_zero, List.set_cons_succ]
      refine RgD.one (i := 8) (by kernel_rfl) ?_
      refine RgD.call (i := 8) (t := 25) rfl rfl (by rfl) (by go_simp; exact ⟨rfl, rfl⟩) ?_
      refine (HIH.out (Ex.mk k1 p1 q1 s1 C1 c1 r1) HM1.out (Ex.mk k2 p2 q2 s2 C2 c2 r2) wr.drew (HR1.out.keep (Keep.below (Below.drew HBL.out))) (HR2.out.keep (Keep.below (Below.drew HBL.out))) HEQ.out HN1.out).mono ?_
      rintro r w2 ⟨rfl, hb⟩
      have HB2 := Lib.hid ((Below.drew HBL.out).trans (hb.mono HBL.out.size))
      have gS2 := hSB _ HB2.out
      clear hb
      refine ⟨_, rfl, gS2, ?_⟩
      simp only [List.setIfInBounds_toArray, List.set_cons_zero, List.set_cons_succ]
      refine RgD.take (i := 9) (t := 26) (v := .bool false) rfl rfl (by kernel_rfl) (by kernel_rfl) (by kernel_rfl) (by kernel_rfl) (fun _ _ _ h => h) (by rfl) (by intro w0 hSw; first | (go_simp; done) | (go_simp; with_reducible rfl) | (go_simp; intro hc; exfalso; omega)) (by assumption) ?_
      simp only [List.setIfInBounds_toArray, List.set_cons_zero, List.set_cons_succ]
      refine RgD.done (by kernel_rfl) ?_ _
      clear gS2 hSB hS0
      go_wp2_with fail
      go_roundw
      case rel => exact ⟨j + 1, by omega, by go_num, HB2.out⟩
      case measure => simp [intOf]; omega
    · obtain rfl : n = j := by omega
      go_wp2_with fail
      go_ret
      exact ⟨rfl, HBL.out⟩
set_option maxRecDepth 100000 in
set_option maxHeartbeats 4000000 in
theorem same_t : ∀ x : Ex, SameC x := by
  intro x
  induction x using Ex.ind with
  | _ k o n s A c ar ih =>
    intro y w hx hy he hn
    obtain ⟨k2, o2, n2, s2, B, cb, br⟩ := y
    unfold Ex.p at he
    injection he with e1 e2 e3 e4 e5
    subst e1 e2 e3 e4
    have hn2 : nEs (exPs ar) ≤ 1048576 := by unfold Ex.p nE at hn; omega
    have HX := Lib.hid hx.open_
    have HY := Lib.hid hy.open_
    have HC := Lib.hid (fun (U : World) (hU : Below w.heap.size w U) => args_t ar ih br U A B c cb (Lg.below stays_x hU HX.out) (Lg.below stays_x hU HY.out) e5 hn2)
    clear hx hy hn e5 ih hn2
    show Calls Try.prog 15 #[.agg #[.int .i64 k, .int .i64 o, .int .i64 n, .string (str s), .slice A ar.length c], .agg #[.int .i64 k, .int .i64 o, .int .i64 n, .string (str s), .slice B br.length cb]] w _
    go_enter Try.func15, Try.ntmps15
    obtain ⟨w1, hw1⟩ : ∃ W, w.alloc (.cells #[.int .i64 k, .int .i64 o, .int .i64 n, .string (str s), .slice A ar.length c] 49) = W := ⟨_, rfl⟩
    obtain ⟨w2, hw2⟩ : ∃ W, w1.alloc (.cells #[.int .i64 k, .int .i64 o, .int .i64 n, .string (str s), .slice B br.length cb] 49) = W := ⟨_, rfl⟩
    obtain ⟨m1, t1, b1⟩ := made hw1
    obtain ⟨m2, t2, b2⟩ := made hw2
    have HB2 := Lib.hid (b1.trans (b2.mono (by omega)))
    obtain ⟨x0, x1, x2, x3, x4, xf⟩ := cells5 ((b2.block _ (by omega)).trans m1)
    obtain ⟨y0, y1, y2, y3, y4, yf⟩ := cells5 m2
    have q0 := eq_q (rfl : s = s)
    have q1 : (k != k) = false := by simp
    have q2 : (o != o) = false := by simp
    have q3 : (n != n) = false := by simp
    clear m1 t1 b1 m2 t2 b2
    go_wp2_with fail
    refine (HC.out w2 HB2.out).mono ?_
    rintro e w3 ⟨rfl, hb⟩
    have HB3 := Lib.hid (HB2.out.trans (hb.mono HB2.out.size))
    clear hb
    go_wp2_with fail
    go_ret
    exact ⟨rfl, HB3.out⟩
end Go.Proofs.Yteibcfpepdbflaa.BindF
