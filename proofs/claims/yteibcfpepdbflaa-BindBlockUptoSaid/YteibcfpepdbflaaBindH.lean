/- clewref10.SameBlock: statements that are the same as plain trees. Conditions: sizes within the reach. -/
import Derived.Test.YteibcfpepdbflaaBindF
import Derived.Test.YteibcfpepdbflaaBindJ
namespace Go.Proofs.Yteibcfpepdbflaa.BindH
open Go Go.RowKit BindP BindD BindO BindW BindN BindG BindX BindB BindT BindF
open Byt (str)

theorem put6 {w : World} {g : Nat} {x0 x1 x2 x3 x4 x5 : Value} {t : TypeId} (y0 y1 y2 y3 y4 y5 : Value) (h : w.heap[g]? = some (.cells #[x0, x1, x2, x3, x4, x5] t (0, 0))) : (putRow w g 0 [y0, y1, y2, y3, y4, y5]).heap[g]? = some (.cells #[y0, y1, y2, y3, y4, y5] t (0, 0)) := by
  simp [putRow, World.setCell, Array.getElem?_modify, h]
def SameB (l : List St) : Prop := ∀ (l2 : List St) (w : World) (A B : Option Addr) (ca cb : Nat), Ls top w A ca l → Ls top w B cb l2 → stPs l = stPs l2 → Calls Try.prog 12 #[.slice A l.length ca, .slice B l2.length cb] w fun e w' => e = .returned (.bool true) ∧ Below w.heap.size w w'
set_option maxRecDepth 100000 in
set_option maxHeartbeats 8000000 in
theorem sameB_t : ∀ (N : Nat) (l : List St), nB (stPs l) ≤ N → nB (stPs l) ≤ 1048576 → SameB l := by
  intro N
  induction N using Nat.strongRecOn with
  | _ N ihN =>
    intro l hlN hnB l2 w A B ca cb ha hb he
    have hlen : l.length = l2.length := by
      have := congrArg List.length he
      rw [stPs_map, stPs_map, List.length_map, List.length_map] at this
      exact this
    have hl : l.length ≤ 1048576 := by
      have h1 := sum_len (m := fun x : St => nS x.p) (fun x => by cases x; unfold St.p nS; omega) l
      rw [← nB_sum] at h1
      omega
    have HIH := Lib.hid (show ∀ l' : List St, nB (stPs l') < N ∧ nB (stPs l') ≤ 1048576 → SameB l' from fun l' h => ihN _ h.1 l' (Nat.le_refl _) h.2)
    obtain ⟨n_, hn2⟩ : ∃ n, l.length = n := ⟨_, rfl⟩
    have hn3 : l2.length = n_ := by rw [← hlen]; exact hn2
    have HNN := Lib.hid (And.intro hn2 hn3)
    have HA := Lib.hid ha
    have HB := Lib.hid hb
    have HE := Lib.hid he
    have HSZ := Lib.hid (And.intro hlN hnB)
    rw [hn2] at hl ⊢
    rw [hn3]
    clear ha hb he hlen hn2 hn3 ihN hlN hnB
    go_enter Try.func12, Try.ntmps12
    go_wp2_with fail
    go_loopw [5] (fun iv wr => ∃ j : Nat, j ≤ n_ ∧ iv = .int .i64 (j : Int) ∧ Below w.heap.size w wr) (fun iv _ => n_ - (intOf iv).toNat)
    case atStart => exact ⟨0, Nat.zero_le _, rfl, Below.refl _ _⟩
    case round =>
      obtain ⟨j, hj, rfl, hbl⟩ := hrel
      have HBL := Lib.hid hbl
      clear hbl
      by_cases hlt : j < n_
      · have h1 : j < l.length := by rw [HNN.out.1]; exact hlt
        have h2 : j < l2.length := by rw [HNN.out.2]; exact hlt
        obtain ⟨b1, o1, rfl, hb1, hc1⟩ := Lg.at_ stE_len HA.out h1
        obtain ⟨b2, o2, rfl, hb2, hc2⟩ := Lg.at_ stE_len HB.out h2
        have htk := take_nB h1
        obtain ⟨⟨k, n, s, Ca1, ca1, ar1, Cb1, cb1, bo1, Ce1, ce1, el1⟩, hy1⟩ : ∃ y, l[j] = y := ⟨_, rfl⟩
        obtain ⟨⟨k2, n2, s2, Ca2, ca2, ar2, Cb2, cb2, bo2, Ce2, ce2, el2⟩, hy2⟩ : ∃ y, l2[j] = y := ⟨_, rfl⟩
        have HP1 := Lib.hid ((HA.out.2 _ (hy1 ▸ List.getElem_mem h1)).open_)
        have HP2 := Lib.hid ((HB.out.2 _ (hy2 ▸ List.getElem_mem h2)).open_)
        have heq : (St.mk k n s Ca1 ca1 ar1 Cb1 cb1 bo1 Ce1 ce1 el1).p = (St.mk k2 n2 s2 Ca2 ca2 ar2 Cb2 cb2 bo2 Ce2 ce2 el2).p := by
          have h := congrArg (fun l : List Ps => l[j]?) HE.out
          simp only [stPs_map, List.getElem?_map, List.getElem?_eq_getElem h1, List.getElem?_eq_getElem h2, hy1, hy2, Option.map_some, Option.some.injEq] at h
          exact h
        rw [hy1] at htk
        unfold St.p nS at htk
        unfold St.p at heq
        injection heq with e1 e2 e3 e4 e5 e6
        subst e1 e2 e3
        have HEQ := Lib.hid (And.intro e4 (And.intro e5 e6))
        have hsz := HSZ.out
        have HN1 := Lib.hid (show nEs (exPs ar1) ≤ 1048576 ∧ (nB (stPs bo1) < N ∧ nB (stPs bo1) ≤ 1048576) ∧ (nB (stPs el1) < N ∧ nB (stPs el1) ≤ 1048576) by omega)
        rw [hy1] at hc1
        rw [hy2] at hc2
        have hcell1 : ∀ U, Below w.heap.size w U → ∀ p, U.cell? ⟨b1, p, none⟩ = w.cell? ⟨b1, p, none⟩ := fun U hU p => hU.cell (p := ⟨b1, p, none⟩) hb1
        have hcell2 : ∀ U, Below w.heap.size w U → ∀ p, U.cell? ⟨b2, p, none⟩ = w.cell? ⟨b2, p, none⟩ := fun U hU p => hU.cell (p := ⟨b2, p, none⟩) hb2
        obtain ⟨Sx, hSx⟩ : ∃ Sx : World → Prop, (fun U : World => (U.cell? ⟨b1, o1 + j * 6, none⟩ = some (.int .i64 k) ∧ U.cell? ⟨b1, o1 + j * 6 + 1, none⟩ = some (.int .i64 n) ∧ U.cell? ⟨b1, o1 + j * 6 + 2, none⟩ = some (.string (str s)) ∧ U.cell? ⟨b1, o1 + j * 6 + 3, none⟩ = some (.slice Ca1 ar1.length ca1) ∧ U.cell? ⟨b1, o1 + j * 6 + 4, none⟩ = some (.slice Cb1 bo1.length cb1) ∧ U.cell? ⟨b1, o1 + j * 6 + 5, none⟩ = some (.slice Ce1 el1.length ce1)) ∧ (U.cell? ⟨b2, o2 + j * 6, none⟩ = some (.int .i64 k) ∧ U.cell? ⟨b2, o2 + j * 6 + 1, none⟩ = some (.int .i64 n) ∧ U.cell? ⟨b2, o2 + j * 6 + 2, none⟩ = some (.string (str s)) ∧ U.cell? ⟨b2, o2 + j * 6 + 3, none⟩ = some (.slice Ca2 ar2.length ca2) ∧ U.cell? ⟨b2, o2 + j * 6 + 4, none⟩ = some (.slice Cb2 bo2.length cb2) ∧ U.cell? ⟨b2, o2 + j * 6 + 5, none⟩ = some (.slice Ce2 el2.length ce2))) = Sx := ⟨_, rfl⟩
        have HSB := Lib.hid (show ∀ U, Below w.heap.size w U → Sx U from fun U hU => by
          rw [← hSx]
          exact ⟨⟨(hcell1 U hU _).trans (hc1 0 _ rfl), (hcell1 U hU _).trans (hc1 1 _ rfl), (hcell1 U hU _).trans (hc1 2 _ rfl), (hcell1 U hU _).trans (hc1 3 _ rfl), (hcell1 U hU _).trans (hc1 4 _ rfl), (hcell1 U hU _).trans (hc1 5 _ rfl)⟩,
           ⟨(hcell2 U hU _).trans (hc2 0 _ rfl), (hcell2 U hU _).trans (hc2 1 _ rfl), (hcell2 U hU _).trans (hc2 2 _ rfl), (hcell2 U hU _).trans (hc2 3 _ rfl), (hcell2 U hU _).trans (hc2 4 _ rfl), (hcell2 U hU _).trans (hc2 5 _ rfl)⟩⟩)
        have HSy := Lib.hid (show ∀ U, Sx U → (U.cell? ⟨b1, o1 + j * 6, none⟩ = some (.int .i64 k) ∧ U.cell? ⟨b1, o1 + j * 6 + 1, none⟩ = some (.int .i64 n) ∧ U.cell? ⟨b1, o1 + j * 6 + 2, none⟩ = some (.string (str s)) ∧ U.cell? ⟨b1, o1 + j * 6 + 3, none⟩ = some (.slice Ca1 ar1.length ca1) ∧ U.cell? ⟨b1, o1 + j * 6 + 4, none⟩ = some (.slice Cb1 bo1.length cb1) ∧ U.cell? ⟨b1, o1 + j * 6 + 5, none⟩ = some (.slice Ce1 el1.length ce1)) ∧ (U.cell? ⟨b2, o2 + j * 6, none⟩ = some (.int .i64 k) ∧ U.cell? ⟨b2, o2 + j * 6 + 1, none⟩ = some (.int .i64 n) ∧ U.cell? ⟨b2, o2 + j * 6 + 2, none⟩ = some (.string (str s)) ∧ U.cell? ⟨b2, o2 + j * 6 + 3, none⟩ = some (.slice Ca2 ar2.length ca2) ∧ U.cell? ⟨b2, o2 + j * 6 + 4, none⟩ = some (.slice Cb2 bo2.length cb2) ∧ U.cell? ⟨b2, o2 + j * 6 + 5, none⟩ = some (.slice Ce2 el2.length ce2)) from fun U h => by rw [← hSx] at h; exact h)
        have hS0 := HSB.out wr.drew (Below.drew HBL.out)
        have q0 := eq_q (rfl : s = s)
        have q1 : (k != k) = false := by simp
        have q2 : (n != n) = false := by simp
        have i0 : (0 : Int) ≤ (j : Int) := by omega
        have i1 : (j : Int) < (n_ : Int) := by omega
        clear hc1 hc2 hcell1 hcell2 hy1 hy2 h1 h2 hSx hsz htk e4 e5 e6
        go_upto_region 6 with fail
        refine RgD.begin_ [] Sx (by kernel_rfl) hS0 (fun hHeld => ?_)
        refine RgD.take (i := 0) (t := 19) rfl rfl (by kernel_rfl) (by kernel_rfl) (by kernel_rfl) (by kernel_rfl) (fun _ _ _ h => h) (by rfl) (by intro w0 hSw; first | (go_simp; done) | (go_simp; with_reducible rfl) | (go_simp; intro hc; exfalso; omega)) (by assumption) ?_
        simp only [List.setIfInBounds_toArray, List.set_cons_zero, List.set_cons_succ]
        refine RgD.take (i := 1) (t := 20) rfl rfl (by kernel_rfl) (by kernel_rfl) (by kernel_rfl) (by kernel_rfl) (fun _ _ _ h => h) (by rfl) (by intro w0 hSw; first | (go_simp; done) | (go_simp; with_reducible rfl) | (go_simp; intro hc; exfalso; omega)) (by assumption) ?_
        simp only [List.setIfInBounds_toArray, List.set_cons_zero, List.set_cons_succ]
        refine RgD.take (i := 2) (t := 21) rfl rfl (by kernel_rfl) (by kernel_rfl) (by kernel_rfl) (by kernel_rfl) (fun _ _ _ h => h) (by rfl) (by intro w0 hSw; first | (go_simp; done) | (go_simp; with_reducible rfl) | (go_simp; intro hc; exfalso; omega)) (by assumption) ?_
        simp only [List.setIfInBounds_toArray, List.set_cons_zero, List.set_cons_succ]
        refine RgD.take (i := 3) (t := 22) (v := .agg #[.int .i64 k, .int .i64 n, .string (str s), .slice Ca1 ar1.length ca1, .slice Cb1 bo1.length cb1, .slice Ce1 el1.length ce1]) rfl rfl (by kernel_rfl) (by kernel_rfl) (by kernel_rfl) (by kernel_rfl) (fun _ _ _ h => h) (by rfl) (by intro w0 hSw; obtain ⟨⟨z0, z1, z2, z3, z4, z5⟩, _⟩ := HSy.out _ hSw; first | (go_simp; done) | (go_simp; with_reducible rfl) | (go_simp; intro hc; exfalso; omega)) (by assumption) ?_
        simp only [List.setIfInBounds_toArray, List.set_cons_zero, List.set_cons_succ]
        refine RgD.take (i := 4) (t := 23) rfl rfl (by kernel_rfl) (by kernel_rfl) (by kernel_rfl) (by kernel_rfl) (fun _ _ _ h => h) (by rfl) (by intro w0 hSw; first | (go_simp; done) | (go_simp; with_reducible rfl) | (go_simp; intro hc; exfalso; omega)) (by assumption) ?_
        simp only [List.setIfInBounds_toArray, List.set_cons_zero, List.set_cons_succ]
        refine RgD.take (i := 5) (t := 24) rfl rfl (by kernel_rfl) (by kernel_rfl) (by kernel_rfl) (by kernel_rfl) (fun _ _ _ h => h) (by rfl) (by intro w0 hSw; first | (go_simp; done) | (go_simp; with_reducible rfl) | (go_simp; intro hc; exfalso; omega)) (by assumption) ?_
        simp only [List.setIfInBounds_toArray, List.set_cons_zero, List.set_cons_succ]
        refine RgD.take (i := 6) (t := 25) rfl rfl (by kernel_rfl) (by kernel_rfl) (by kernel_rfl) (by kernel_rfl) (fun _ _ _ h => h) (by rfl) (by intro w0 hSw; first | (go_simp; done) | (go_simp; with_reducible rfl) | (go_simp; intro hc; exfalso; omega)) (by assumption) ?_
        simp only [List.setIfInBounds_toArray, List.set_cons_zero, List.set_cons_succ]
        refine RgD.take (i := 7) (t := 26) (v := .agg #[.int .i64 k, .int .i64 n, .string (str s), .slice Ca2 ar2.length ca2, .slice Cb2 bo2.length cb2, .slice Ce2 el2.length ce2]) rfl rfl (by kernel_rfl) (by kernel_rfl) (by kernel_rfl) (by kernel_rfl) (fun _ _ _ h => h) (by rfl) (by intro w0 hSw; obtain ⟨_, ⟨z0, z1, z2, z3, z4, z5⟩⟩ := HSy.out _ hSw; first | (go_simp; done) | (go_simp; with_reducible rfl) | (go_simp; intro hc; exfalso; omega)) (by assumption) ?_
        simp only [List.setIfInBounds_toArray, List.set_cons_zero, List.set_cons_succ]
        refine RgD.two (i := 8) (j := 9) (by kernel_rfl) ?_ ?_
        · obtain ⟨v1, hv1⟩ : ∃ W, wr.drew.alloc (.cells #[.int .i64 0, .int .i64 0, .string ⟨#[]⟩, .slice none 0 0, .slice none 0 0, .slice none 0 0] 46) = W := ⟨_, rfl⟩
          obtain ⟨mm1, ss1, bb1⟩ := made hv1
          obtain ⟨pa, hpa⟩ : ∃ q, wr.heap.size = q := ⟨_, rfl⟩
          have mm1 : v1.heap[pa]? = some (.cells #[.int .i64 0, .int .i64 0, .string ⟨#[]⟩, .slice none 0 0, .slice none 0 0, .slice none 0 0] 46 (0, 0)) := hpa ▸ mm1
          have HV1 := (Below.drew HBL.out).trans (bb1.mono (HBL.out.size))
          have gS1 := HSB.out _ HV1
          have hz1 : v1.heap.size = pa + 1 := by have h7 : wr.drew.heap.size = wr.heap.size := rfl; omega
          have HZ1 := Lib.hid hz1
          clear ss1 hz1
          refine RgD.eff (i := 8) (t := 6) (v := .pointer (some ⟨pa, 0, none⟩)) (w1 := v1) rfl rfl (by rfl) (by first | (go_simp; done) | (go_simp; exact ⟨rfl, hv1⟩) | (go_simp; rw [hv1]; rfl) | (go_simp; exact hv1)) gS1 ?_
          simp only [List.setIfInBounds_toArray, List.set_cons_zero, List.set_cons_succ]
          refine RgD.one (i := 9) (by kernel_rfl) ?_
          obtain ⟨v2, hv2⟩ : ∃ W, v1.alloc (.cells #[.int .i64 0, .int .i64 0, .string ⟨#[]⟩, .slice none 0 0, .slice none 0 0, .slice none 0 0] 46) = W := ⟨_, rfl⟩
          obtain ⟨mm2, ss2, bb2⟩ := made hv2
          obtain ⟨pb, hpb⟩ : ∃ q, v1.heap.size = q := ⟨_, rfl⟩
          have mm2 : v2.heap[pb]? = some (.cells #[.int .i64 0, .int .i64 0, .string ⟨#[]⟩, .slice none 0 0, .slice none 0 0, .slice none 0 0] 46 (0, 0)) := hpb ▸ mm2
          have HV2 := HV1.trans (bb2.mono (HV1.size))
          have gS2 := HSB.out _ HV2
          have hz2 : v2.heap.size = pb + 1 := by have h7 : wr.drew.heap.size = wr.heap.size := rfl; omega
          have HZ2 := Lib.hid hz2
          clear ss2 hz2
          refine RgD.eff (i := 9) (t := 7) (v := .pointer (some ⟨pb, 0, none⟩)) (w1 := v2) rfl rfl (by rfl) (by first | (go_simp; done) | (go_simp; exact ⟨rfl, hv2⟩) | (go_simp; rw [hv2]; rfl) | (go_simp; exact hv2)) gS2 ?_
          simp only [List.setIfInBounds_toArray, List.set_cons_zero, List.set_cons_succ]
          refine RgD.one (i := 10) (by kernel_rfl) ?_
          have hz1 := HZ1.out
          have hz2 := HZ2.out
          have HPB := Lib.hid (show pa < pb ∧ w.heap.size ≤ pa by have := HBL.out.size; omega)
          have hA1 := (bb2.block _ (by omega)).trans mm1
          have hA2 := mm2
          clear hpa hpb hz1 hz2
          obtain ⟨g0, g1, g2, g3, g4, g5, gf⟩ := cells6 hA1
          obtain ⟨v3, hv3⟩ : ∃ W, putRow v2 (pa) 0 [.int .i64 k, .int .i64 n, .string (str s), .slice Ca1 ar1.length ca1, .slice Cb1 bo1.length cb1, .slice Ce1 el1.length ce1] = W := ⟨_, rfl⟩
          have hA1n : v3.heap[pa]? = some (.cells #[.int .i64 k, .int .i64 n, .string (str s), .slice Ca1 ar1.length ca1, .slice Cb1 bo1.length cb1, .slice Ce1 el1.length ce1] 46 (0, 0)) := by rw [← hv3]; exact put6 _ _ _ _ _ _ hA1
          have hA2n := (show v3.heap[pb]? = _ from by rw [← hv3]; exact putRow_other _ _ _ _ _ (by have := HPB.out; omega)).trans hA2
          have HV3 : Below w.heap.size w v3 := by rw [← hv3]; exact putRow_below _ _ 0 HV2 (by have := HPB.out; omega)
          have gS3 := HSB.out _ HV3
          refine RgD.storeS (i := 10) (w1 := v3) rfl rfl (by rfl) (by first | (go_simp; done) | (go_simp; exact hv3)) gS3 ?_
          clear hA1 hA2 g0 g1 g2 g3 g4 g5 gf
          have hA1 := hA1n
          have hA2 := hA2n
          clear hA1n hA2n
          refine RgD.one (i := 11) (by kernel_rfl) ?_
          obtain ⟨g0, g1, g2, g3, g4, g5, gf⟩ := cells6 hA2
          obtain ⟨v4, hv4⟩ : ∃ W, putRow v3 (pb) 0 [.int .i64 k, .int .i64 n, .string (str s), .slice Ca2 ar2.length ca2, .slice Cb2 bo2.length cb2, .slice Ce2 el2.length ce2] = W := ⟨_, rfl⟩
          have hA2n : v4.heap[pb]? = some (.cells #[.int .i64 k, .int .i64 n, .string (str s), .slice Ca2 ar2.length ca2, .slice Cb2 bo2.length cb2, .slice Ce2 el2.length ce2] 46 (0, 0)) := by rw [← hv4]; exact put6 _ _ _ _ _ _ hA2
          have hA1n := (show v4.heap[pa]? = _ from by rw [← hv4]; exact putRow_other _ _ _ _ _ (by have := HPB.out; omega)).trans hA1
          have HV4 : Below w.heap.size w v4 := by rw [← hv4]; exact putRow_below _ _ 0 HV3 (by have := HPB.out; omega)
          have gS4 := HSB.out _ HV4
          refine RgD.storeS (i := 11) (w1 := v4) rfl rfl (by rfl) (by first | (go_simp; done) | (go_simp; exact hv4)) gS4 ?_
          clear hA2 hA1 g0 g1 g2 g3 g4 g5 gf
          have hA1 := hA1n
          have hA2 := hA2n
          clear hA1n hA2n
          refine RgD.done (by kernel_rfl) ?_ _
          have HA1 := Lib.hid hA1
          have HA2 := Lib.hid hA2
          have HV := Lib.hid HV4
          have hsz : pa < pb ∧ pb < v4.heap.size := by have h1 := (Array.getElem?_eq_some_iff.1 hA2).1; have := HPB.out; omega
          have HZ4 := Lib.hid hsz
          obtain ⟨x0, x1, x2, x3, x4, x5, xf⟩ := cells6 hA1
          obtain ⟨y0, y1, y2, y3, y4, y5, yf⟩ := cells6 hA2
          clear hA1 hA2 HV1 HV2 HV3 HV4 gS1 gS2 gS3 gS4 hS0 hsz mm1 bb1 mm2 bb2 hv1 hv2 hv3 hv4
          go_wp2_with fail
          refine (args_t ar1 (fun x _ => same_t x) ar2 v4 _ _ _ _ (Lg.keep stays_x (Keep.below HV.out) HP1.out.1) (Lg.keep stays_x (Keep.below HV.out) HP2.out.1) HEQ.out.1 HN1.out.1).mono ?_
          rintro r v5 ⟨rfl, hb⟩
          have HV5 := Lib.hid (HV.out.trans (hb.mono HV.out.size))
          have hc1 := (hb.block _ (by have := HZ4.out; omega)).trans HA1.out
          have hc2 := (hb.block _ (by have := HZ4.out; omega)).trans HA2.out
          have HZ5 := Lib.hid (Nat.lt_of_lt_of_le HZ4.out.2 hb.size)
          clear x0 x1 x2 x3 x4 x5 xf y0 y1 y2 y3 y4 y5 yf hb
          have HA5 := Lib.hid hc1
          have HA6 := Lib.hid hc2
          obtain ⟨x0, x1, x2, x3, x4, x5, xf⟩ := cells6 hc1
          obtain ⟨y0, y1, y2, y3, y4, y5, yf⟩ := cells6 hc2
          clear hc1 hc2
          go_wp2_with fail
          refine (HIH.out bo1 HN1.out.2.1 bo2 v5 _ _ _ _ (Lg.keep stays_s (Keep.below HV5.out) HP1.out.2.1) (Lg.keep stays_s (Keep.below HV5.out) HP2.out.2.1) HEQ.out.2.1).mono ?_
          rintro r v6 ⟨rfl, hb⟩
          have HV6 := Lib.hid (HV5.out.trans (hb.mono HV5.out.size))
          have hc1 := (hb.block _ (by have := HZ4.out; have := HZ5.out; omega)).trans HA5.out
          have hc2 := (hb.block _ HZ5.out).trans HA6.out
          clear x0 x1 x2 x3 x4 x5 xf y0 y1 y2 y3 y4 y5 yf hb
          obtain ⟨x0, x1, x2, x3, x4, x5, xf⟩ := cells6 hc1
          obtain ⟨y0, y1, y2, y3, y4, y5, yf⟩ := cells6 hc2
          clear hc1 hc2
          go_wp2_with fail
          refine (HIH.out el1 HN1.out.2.2 el2 v6 _ _ _ _ (Lg.keep stays_s (Keep.below HV6.out) HP1.out.2.2) (Lg.keep stays_s (Keep.below HV6.out) HP2.out.2.2) HEQ.out.2.2).mono ?_
          rintro r v7 ⟨rfl, hb⟩
          have HV7 := Lib.hid (HV6.out.trans (hb.mono HV6.out.size))
          clear hb
          go_wp2_with fail
          go_roundw
          case rel => exact ⟨j + 1, by omega, by go_num, HV7.out⟩
          case measure => simp [intOf]; omega
        · obtain ⟨v1, hv1⟩ : ∃ W, wr.drew.alloc (.cells #[.int .i64 0, .int .i64 0, .string ⟨#[]⟩, .slice none 0 0, .slice none 0 0, .slice none 0 0] 46) = W := ⟨_, rfl⟩
          obtain ⟨mm1, ss1, bb1⟩ := made hv1
          obtain ⟨pa, hpa⟩ : ∃ q, wr.heap.size = q := ⟨_, rfl⟩
          have mm1 : v1.heap[pa]? = some (.cells #[.int .i64 0, .int .i64 0, .string ⟨#[]⟩, .slice none 0 0, .slice none 0 0, .slice none 0 0] 46 (0, 0)) := hpa ▸ mm1
          have HV1 := (Below.drew HBL.out).trans (bb1.mono (HBL.out.size))
          have gS1 := HSB.out _ HV1
          have hz1 : v1.heap.size = pa + 1 := by have h7 : wr.drew.heap.size = wr.heap.size := rfl; omega
          have HZ1 := Lib.hid hz1
          clear ss1 hz1
          refine RgD.eff (i := 9) (t := 7) (v := .pointer (some ⟨pa, 0, none⟩)) (w1 := v1) rfl rfl (by rfl) (by first | (go_simp; done) | (go_simp; exact ⟨rfl, hv1⟩) | (go_simp; rw [hv1]; rfl) | (go_simp; exact hv1)) gS1 ?_
          simp only [List.setIfInBounds_toArray, List.set_cons_zero, List.set_cons_succ]
          refine RgD.one (i := 8) (by kernel_rfl) ?_
          obtain ⟨v2, hv2⟩ : ∃ W, v1.alloc (.cells #[.int .i64 0, .int .i64 0, .string ⟨#[]⟩, .slice none 0 0, .slice none 0 0, .slice none 0 0] 46) = W := ⟨_, rfl⟩
          obtain ⟨mm2, ss2, bb2⟩ := made hv2
          obtain ⟨pb, hpb⟩ : ∃ q, v1.heap.size = q := ⟨_, rfl⟩
          have mm2 : v2.heap[pb]? = some (.cells #[.int .i64 0, .int .i64 0, .string ⟨#[]⟩, .slice none 0 0, .slice none 0 0, .slice none 0 0] 46 (0, 0)) := hpb ▸ mm2
          have HV2 := HV1.trans (bb2.mono (HV1.size))
          have gS2 := HSB.out _ HV2
          have hz2 : v2.heap.size = pb + 1 := by have h7 : wr.drew.heap.size = wr.heap.size := rfl; omega
          have HZ2 := Lib.hid hz2
          clear ss2 hz2
          refine RgD.eff (i := 8) (t := 6) (v := .pointer (some ⟨pb, 0, none⟩)) (w1 := v2) rfl rfl (by rfl) (by first | (go_simp; done) | (go_simp; exact ⟨rfl, hv2⟩) | (go_simp; rw [hv2]; rfl) | (go_simp; exact hv2)) gS2 ?_
          simp only [List.setIfInBounds_toArray, List.set_cons_zero, List.set_cons_succ]
          refine RgD.one (i := 10) (by kernel_rfl) ?_
          have hz1 := HZ1.out
          have hz2 := HZ2.out
          have HPB := Lib.hid (show pa < pb ∧ w.heap.size ≤ pa by have := HBL.out.size; omega)
          have hA1 := (bb2.block _ (by omega)).trans mm1
          have hA2 := mm2
          clear hpa hpb hz1 hz2
          obtain ⟨g0, g1, g2, g3, g4, g5, gf⟩ := cells6 hA2
          obtain ⟨v3, hv3⟩ : ∃ W, putRow v2 (pb) 0 [.int .i64 k, .int .i64 n, .string (str s), .slice Ca1 ar1.length ca1, .slice Cb1 bo1.length cb1, .slice Ce1 el1.length ce1] = W := ⟨_, rfl⟩
          have hA2n : v3.heap[pb]? = some (.cells #[.int .i64 k, .int .i64 n, .string (str s), .slice Ca1 ar1.length ca1, .slice Cb1 bo1.length cb1, .slice Ce1 el1.length ce1] 46 (0, 0)) := by rw [← hv3]; exact put6 _ _ _ _ _ _ hA2
          have hA1n := (show v3.heap[pa]? = _ from by rw [← hv3]; exact putRow_other _ _ _ _ _ (by have := HPB.out; omega)).trans hA1
          have HV3 : Below w.heap.size w v3 := by rw [← hv3]; exact putRow_below _ _ 0 HV2 (by have := HPB.out; omega)
          have gS3 := HSB.out _ HV3
          refine RgD.storeS (i := 10) (w1 := v3) rfl rfl (by rfl) (by first | (go_simp; done) | (go_simp; exact hv3)) gS3 ?_
          clear hA2 hA1 g0 g1 g2 g3 g4 g5 gf
          have hA1 := hA1n
          have hA2 := hA2n
          clear hA1n hA2n
          refine RgD.one (i := 11) (by kernel_rfl) ?_
          obtain ⟨g0, g1, g2, g3, g4, g5, gf⟩ := cells6 hA1
          obtain ⟨v4, hv4⟩ : ∃ W, putRow v3 (pa) 0 [.int .i64 k, .int .i64 n, .string (str s), .slice Ca2 ar2.length ca2, .slice Cb2 bo2.length cb2, .slice Ce2 el2.length ce2] = W := ⟨_, rfl⟩
          have hA1n : v4.heap[pa]? = some (.cells #[.int .i64 k, .int .i64 n, .string (str s), .slice Ca2 ar2.length ca2, .slice Cb2 bo2.length cb2, .slice Ce2 el2.length ce2] 46 (0, 0)) := by rw [← hv4]; exact put6 _ _ _ _ _ _ hA1
          have hA2n := (show v4.heap[pb]? = _ from by rw [← hv4]; exact putRow_other _ _ _ _ _ (by have := HPB.out; omega)).trans hA2
          have HV4 : Below w.heap.size w v4 := by rw [← hv4]; exact putRow_below _ _ 0 HV3 (by have := HPB.out; omega)
          have gS4 := HSB.out _ HV4
          refine RgD.storeS (i := 11) (w1 := v4) rfl rfl (by rfl) (by first | (go_simp; done) | (go_simp; exact hv4)) gS4 ?_
          clear hA1 hA2 g0 g1 g2 g3 g4 g5 gf
          have hA1 := hA1n
          have hA2 := hA2n
          clear hA1n hA2n
          refine RgD.done (by kernel_rfl) ?_ _
          have HA1 := Lib.hid hA1
          have HA2 := Lib.hid hA2
          have HV := Lib.hid HV4
          have hsz : pa < pb ∧ pb < v4.heap.size := by have h1 := (Array.getElem?_eq_some_iff.1 hA2).1; have := HPB.out; omega
          have HZ4 := Lib.hid hsz
          obtain ⟨x0, x1, x2, x3, x4, x5, xf⟩ := cells6 hA1
          obtain ⟨y0, y1, y2, y3, y4, y5, yf⟩ := cells6 hA2
          clear hA1 hA2 HV1 HV2 HV3 HV4 gS1 gS2 gS3 gS4 hS0 hsz mm1 bb1 mm2 bb2 hv1 hv2 hv3 hv4
          go_wp2_with fail
          refine (args_t ar1 (fun x _ => same_t x) ar2 v4 _ _ _ _ (Lg.keep stays_x (Keep.below HV.out) HP1.out.1) (Lg.keep stays_x (Keep.below HV.out) HP2.out.1) HEQ.out.1 HN1.out.1).mono ?_
          rintro r v5 ⟨rfl, hb⟩
          have HV5 := Lib.hid (HV.out.trans (hb.mono HV.out.size))
          have hc1 := (hb.block _ (by have := HZ4.out; omega)).trans HA1.out
          have hc2 := (hb.block _ (by have := HZ4.out; omega)).trans HA2.out
          have HZ5 := Lib.hid (Nat.lt_of_lt_of_le HZ4.out.2 hb.size)
          clear x0 x1 x2 x3 x4 x5 xf y0 y1 y2 y3 y4 y5 yf hb
          have HA5 := Lib.hid hc1
          have HA6 := Lib.hid hc2
          obtain ⟨x0, x1, x2, x3, x4, x5, xf⟩ := cells6 hc1
          obtain ⟨y0, y1, y2, y3, y4, y5, yf⟩ := cells6 hc2
          clear hc1 hc2
          go_wp2_with fail
          refine (HIH.out bo1 HN1.out.2.1 bo2 v5 _ _ _ _ (Lg.keep stays_s (Keep.below HV5.out) HP1.out.2.1) (Lg.keep stays_s (Keep.below HV5.out) HP2.out.2.1) HEQ.out.2.1).mono ?_
          rintro r v6 ⟨rfl, hb⟩
          have HV6 := Lib.hid (HV5.out.trans (hb.mono HV5.out.size))
          have hc1 := (hb.block _ (by have := HZ4.out; have := HZ5.out; omega)).trans HA5.out
          have hc2 := (hb.block _ HZ5.out).trans HA6.out
          clear x0 x1 x2 x3 x4 x5 xf y0 y1 y2 y3 y4 y5 yf hb
          obtain ⟨x0, x1, x2, x3, x4, x5, xf⟩ := cells6 hc1
          obtain ⟨y0, y1, y2, y3, y4, y5, yf⟩ := cells6 hc2
          clear hc1 hc2
          go_wp2_with fail
          refine (HIH.out el1 HN1.out.2.2 el2 v6 _ _ _ _ (Lg.keep stays_s (Keep.below HV6.out) HP1.out.2.2) (Lg.keep stays_s (Keep.below HV6.out) HP2.out.2.2) HEQ.out.2.2).mono ?_
          rintro r v7 ⟨rfl, hb⟩
          have HV7 := Lib.hid (HV6.out.trans (hb.mono HV6.out.size))
          clear hb
          go_wp2_with fail
          go_roundw
          case rel => exact ⟨j + 1, by omega, by go_num, HV7.out⟩
          case measure => simp [intOf]; omega
      · obtain rfl : n_ = j := by omega
        go_wp2_with fail
        go_ret
        exact ⟨rfl, HBL.out⟩
end Go.Proofs.Yteibcfpepdbflaa.BindH
