/- clewref10.SizeBlock: how many statements there are. Conditions: sizes within the reach. -/
import Derived.Test.YteibcfpepdbflaaBindL
import Derived.Test.YteibcfpepdbflaaBindR
import Derived.Test.YteibcfpepdbflaaRtX
namespace Go.Proofs.Yteibcfpepdbflaa.CkD
open Go Go.RowKit BindP BindD BindO BindW BindN BindG BindX BindB BindS BindK BindT BindV BindL RtX
open Byt (str)

mutual
def cnt1 : Ps → Nat
  | .mk _ _ _ _ b e => 1 + cnt b + cnt e
def cnt : List Ps → Nat
  | [] => 0
  | a :: l => cnt1 a + cnt l
end
theorem cnt_app : ∀ (l1 l2 : List Ps), cnt (l1 ++ l2) = cnt l1 + cnt l2
  | [], l2 => by simp [cnt]
  | a :: l1, l2 => by simp only [List.cons_append, cnt, cnt_app l1 l2, Nat.add_assoc]
theorem cnt_take {l : List St} {j : Nat} (h : j < l.length) : cnt (stPs (l.take (j + 1))) = cnt (stPs (l.take j)) + cnt1 l[j].p := by
  rw [List.take_succ_eq_append_getElem h, stPs_app, cnt_app]
  simp only [stPs, cnt, Nat.add_zero]
mutual
theorem cnt1_le : ∀ p : Ps, cnt1 p ≤ nS p
  | .mk _ _ _ _ b e => by
    have h1 := cnt_le b
    have h2 := cnt_le e
    unfold cnt1 nS
    omega
theorem cnt_le : ∀ l : List Ps, cnt l ≤ nB l
  | [] => by simp [cnt]
  | a :: l => by
    have h1 := cnt1_le a
    have h2 := cnt_le l
    unfold cnt nB
    omega
end
def SizC (l : List St) : Prop := ∀ (A : Option Addr) (c : Nat) (w : World), Ls top w A c l → Calls Try.prog 35 #[.slice A l.length c] w fun e w' => e = .returned (.int .i64 (cnt (stPs l) : Int)) ∧ Below w.heap.size w w'
set_option maxRecDepth 100000 in
set_option maxHeartbeats 8000000 in
theorem size_r : ∀ (N : Nat) (l : List St), nB (stPs l) ≤ N → nB (stPs l) ≤ 1048576 → SizC l := by
  intro N
  induction N using Nat.strongRecOn with
  | _ N ihN =>
    intro l hlN hnB A c w hl
    have HL := Lib.hid hl
    have HIH := Lib.hid (show ∀ l' : List St, nB (stPs l') < N ∧ nB (stPs l') ≤ 1048576 → SizC l' from fun l' h => ihN _ h.1 l' (Nat.le_refl _) h.2)
    have hll : l.length ≤ 1048576 := by
      have h1 := sum_len (m := fun x : St => nS x.p) (fun x => by cases x; unfold St.p nS; omega) l
      rw [← nB_sum] at h1
      omega
    have HTOT := Lib.hid (show ∀ j, cnt (stPs (l.take j)) ≤ nB (stPs l) from fun j => by
      have h1 := cnt_le (stPs (l.take j))
      have e : l = l.take j ++ l.drop j := (List.take_append_drop _ _).symm
      have h2 : nB (stPs l) = nB (stPs (l.take j)) + nB (stPs (l.drop j)) := by rw [← nB_app, ← stPs_app, ← e]
      omega)
    obtain ⟨m, hm⟩ : ∃ m, l.length = m := ⟨_, rfl⟩
    have HM := Lib.hid hm
    have HNN := Lib.hid (And.intro hlN hnB)
    rw [hm] at hll ⊢
    clear hm ihN hlN hl hnB
    go_enter Try.func35, Try.ntmps35
    go_wp2_with fail
    go_loopw [3, 8] (fun nv iv wr => ∃ (j z : Nat), j ≤ m ∧ nv = .int .i64 (z : Int) ∧ iv = .int .i64 (j : Int) ∧ Hid (cnt (stPs (l.take j)) = z) ∧ Below w.heap.size w wr) (fun _ iv _ => m - (intOf iv).toNat)
    case atStart => exact ⟨0, 0, Nat.zero_le _, rfl, rfl, Lib.hid (by simp [stPs, cnt]), Below.refl _ _⟩
    case round =>
      obtain ⟨j, n0, hj, rfl, rfl, HQ, hb⟩ := hrel
      have HB := Lib.hid hb
      clear hb
      by_cases hlt : j < m
      · have hjl : j < l.length := by rw [HM.out]; exact hlt
        obtain ⟨b_, o_, rfl, hbl, hc⟩ := Lg.at_ stE_len HL.out hjl
        obtain ⟨⟨k, n, s, Aa, ca, ar, Ab, cb, b, Ae, ce, e⟩, hy⟩ : ∃ y, l[j] = y := ⟨_, rfl⟩
        have hmem : l[j] ∈ l := List.getElem_mem hjl
        have htk := take_nB hjl
        have hlk := cnt_take hjl
        have hbd := HTOT.out (j + 1)
        rw [hy] at hc hmem htk hlk
        have HOP := Lib.hid ((HL.out.2 _ hmem).open_)
        have hcell : ∀ U, Below w.heap.size w U → ∀ p, U.cell? ⟨b_, p, none⟩ = w.cell? ⟨b_, p, none⟩ := fun U hU p => hU.cell (p := ⟨b_, p, none⟩) hbl
        have c0 : wr.cell? ⟨b_, o_ + j * 6, none⟩ = some (.int .i64 k) := (hcell wr HB.out _).trans (hc 0 _ rfl)
        have c1 : wr.cell? ⟨b_, o_ + j * 6 + 1, none⟩ = some (.int .i64 n) := (hcell wr HB.out _).trans (hc 1 _ rfl)
        have c2 : wr.cell? ⟨b_, o_ + j * 6 + 2, none⟩ = some (.string (str s)) := (hcell wr HB.out _).trans (hc 2 _ rfl)
        have c3 : wr.cell? ⟨b_, o_ + j * 6 + 3, none⟩ = some (.slice Aa ar.length ca) := (hcell wr HB.out _).trans (hc 3 _ rfl)
        have c4 : wr.cell? ⟨b_, o_ + j * 6 + 4, none⟩ = some (.slice Ab b.length cb) := (hcell wr HB.out _).trans (hc 4 _ rfl)
        have c5 : wr.cell? ⟨b_, o_ + j * 6 + 5, none⟩ = some (.slice Ae e.length ce) := (hcell wr HB.out _).trans (hc 5 _ rfl)
        have k0 : (0 : Int) ≤ (j : Int) := by omega
        have k1 : (j : Int) < (m : Int) := by omega
        unfold St.p nS at htk
        unfold St.p cnt1 at hlk
        have hnn := HNN.out
        have HZ := Lib.hid (show (nB (stPs b) < N ∧ nB (stPs b) ≤ 1048576) ∧ (nB (stPs e) < N ∧ nB (stPs e) ≤ 1048576) by omega)
        obtain ⟨lb, hlb⟩ : ∃ x, cnt (stPs b) = x := ⟨_, rfl⟩
        obtain ⟨le, hle⟩ : ∃ x, cnt (stPs e) = x := ⟨_, rfl⟩
        have HLB := Lib.hid (And.intro hlb hle)
        have hq := HQ.out
        have HNX := Lib.hid hlk
        rw [hlk, hq, hlb, hle] at hbd
        have hbd2 : n0 + (1 + lb + le) ≤ 1048576 := by omega
        clear hc hy hmem htk hlk hcell hjl hlb hle hq hnn hbd
        go_upto_region 5 with fail
        clear c0 c1 c2 c3 c4 c5
        obtain ⟨wa, hwa⟩ : ∃ W1, wr.alloc (.cells #[.int .i64 k, .int .i64 n, .string (str s), .slice Aa ar.length ca, .slice Ab b.length cb, .slice Ae e.length ce] 46) = W1 := ⟨_, rfl⟩
        rw [hwa]
        obtain ⟨m2, s2, b2'⟩ := made hwa
        have HBA := Lib.hid (HB.out.trans (b2'.mono HB.out.size))
        obtain ⟨pb, hpb⟩ : ∃ q, wr.heap.size = q := ⟨_, rfl⟩
        rw [hpb] at m2 ⊢
        have HSB := Lib.hid (show ∀ U, Below wa.heap.size wa U → U.cell? ⟨pb, 4, none⟩ = some (.slice Ab b.length cb) ∧ U.cell? ⟨pb, 5, none⟩ = some (.slice Ae e.length ce) from fun U hU => by
          have h9 := cells6 ((hU.block _ (Array.getElem?_eq_some_iff.1 m2).1).trans m2)
          exact ⟨h9.2.2.2.2.1, h9.2.2.2.2.2.1⟩)
        clear m2 s2 b2' hwa hpb
        have zw1 : IntKind.i64.wrap (1 + (lb : Int)) = 1 + (lb : Int) := by rw [IntKind.wrap_i64]; omega
        have zw2 : IntKind.i64.wrap (1 + (lb : Int) + (le : Int)) = 1 + (lb : Int) + (le : Int) := by rw [IntKind.wrap_i64]; omega
        have zw3 : IntKind.i64.wrap ((n0 : Int) + (1 + (lb : Int) + (le : Int))) = (n0 : Int) + (1 + (lb : Int) + (le : Int)) := by rw [IntKind.wrap_i64]; omega
        have hS0 : wa.drew.cell? ⟨pb, 4, none⟩ = some (.slice Ab b.length cb) ∧ wa.drew.cell? ⟨pb, 5, none⟩ = some (.slice Ae e.length ce) := HSB.out _ (Below.drew (Below.refl _ _))
        refine RgD.begin_ [] (fun U => U.cell? ⟨pb, 4, none⟩ = some (.slice Ab b.length cb) ∧ U.cell? ⟨pb, 5, none⟩ = some (.slice Ae e.length ce)) (by kernel_rfl) hS0 (fun hHeld => ?_)
        refine RgD.take (i := 0) (t := 12) (v := .int .i64 (n0 : Int)) rfl rfl (by kernel_rfl) (by kernel_rfl) (by kernel_rfl) (by kernel_rfl) (fun _ _ _ h => h) (by rfl) (by intro w0 hSw; first | (go_simp; done) | (go_simp; with_reducible rfl) | (go_simp; intro hc; exfalso; omega)) (by assumption) ?_
        simp only [List.setIfInBounds_toArray, List.set_cons_zero, List.set_cons_succ]
        refine RgD.take (i := 1) (t := 13) rfl rfl (by kernel_rfl) (by kernel_rfl) (by kernel_rfl) (by kernel_rfl) (fun _ _ _ h => h) (by rfl) (by intro w0 hSw; first | (go_simp; done) | (go_simp; with_reducible rfl) | (go_simp; intro hc; exfalso; omega)) (by assumption) ?_
        simp only [List.setIfInBounds_toArray, List.set_cons_zero, List.set_cons_succ]
        refine RgD.take (i := 2) (t := 14) (v := .slice Ab b.length cb) rfl rfl (by kernel_rfl) (by kernel_rfl) (by kernel_rfl) (by kernel_rfl) (fun _ _ _ h => h) (by rfl) (by intro w0 hSw; have z4 := hSw.1; first | (go_simp; done) | (go_simp; with_reducible rfl) | (go_simp; intro hc; exfalso; omega)) (by assumption) ?_
        simp only [List.setIfInBounds_toArray, List.set_cons_zero, List.set_cons_succ]
        refine RgD.take (i := 5) (t := 17) rfl rfl (by kernel_rfl) (by kernel_rfl) (by kernel_rfl) (by kernel_rfl) (fun _ _ _ h => h) (by rfl) (by intro w0 hSw; first | (go_simp; done) | (go_simp; with_reducible rfl) | (go_simp; intro hc; exfalso; omega)) (by assumption) ?_
        simp only [List.setIfInBounds_toArray, List.set_cons_zero, List.set_cons_succ]
        refine RgD.take (i := 6) (t := 18) (v := .slice Ae e.length ce) rfl rfl (by kernel_rfl) (by kernel_rfl) (by kernel_rfl) (by kernel_rfl) (fun _ _ _ h => h) (by rfl) (by intro w0 hSw; have z5 := hSw.2; first | (go_simp; done) | (go_simp; with_reducible rfl) | (go_simp; intro hc; exfalso; omega)) (by assumption) ?_
        simp only [List.setIfInBounds_toArray, List.set_cons_zero, List.set_cons_succ]
        refine RgD.one (i := 3) (by kernel_rfl) ?_
        refine RgD.call (i := 3) (t := 15) rfl rfl (by rfl) (by go_simp; exact ⟨rfl, rfl⟩) ?_
        refine (HIH.out b HZ.out.1 Ab cb wa.drew (Lg.keep stays_s (Keep.below (Below.drew HBA.out)) HOP.out.2.1)).mono ?_
        rintro r w2 ⟨rfl, hb⟩
        rw [HLB.out.1]
        have HB2 := Lib.hid ((Below.drew (Below.refl _ wa)).trans (hb.mono (Nat.le_refl _)))
        have gS2 := HSB.out _ HB2.out
        clear hb
        refine ⟨_, rfl, gS2, ?_⟩
        simp only [List.setIfInBounds_toArray, List.set_cons_zero, List.set_cons_succ]
        refine RgD.take (i := 4) (t := 16) (v := .int .i64 (1 + (lb : Int))) rfl rfl (by kernel_rfl) (by kernel_rfl) (by kernel_rfl) (by kernel_rfl) (fun _ _ _ h => h) (by rfl) (by intro w0 hSw; first | (go_simp; done) | (go_simp; with_reducible rfl) | (go_simp; intro hc; exfalso; omega)) (by assumption) ?_
        simp only [List.setIfInBounds_toArray, List.set_cons_zero, List.set_cons_succ]
        refine RgD.one (i := 7) (by kernel_rfl) ?_
        refine RgD.call (i := 7) (t := 19) rfl rfl (by rfl) (by go_simp; exact ⟨rfl, rfl⟩) ?_
        refine (HIH.out e HZ.out.2 Ae ce w2 (Lg.keep stays_s (Keep.below (HBA.out.trans (HB2.out.mono HBA.out.size))) HOP.out.2.2)).mono ?_
        rintro r w3 ⟨rfl, hb⟩
        rw [HLB.out.2]
        have HB3 := Lib.hid (HB2.out.trans (hb.mono HB2.out.size))
        have gS3 := HSB.out _ HB3.out
        clear hb
        refine ⟨_, rfl, gS3, ?_⟩
        simp only [List.setIfInBounds_toArray, List.set_cons_zero, List.set_cons_succ]
        refine RgD.take (i := 8) (t := 20) (v := .int .i64 (1 + (lb : Int) + (le : Int))) rfl rfl (by kernel_rfl) (by kernel_rfl) (by kernel_rfl) (by kernel_rfl) (fun _ _ _ h => h) (by rfl) (by intro w0 hSw; first | (go_simp; done) | (go_simp; with_reducible rfl) | (go_simp; intro hc; exfalso; omega)) (by assumption) ?_
        simp only [List.setIfInBounds_toArray, List.set_cons_zero, List.set_cons_succ]
        refine RgD.take (i := 9) (t := 21) (v := .int .i64 ((n0 : Int) + (1 + (lb : Int) + (le : Int)))) rfl rfl (by kernel_rfl) (by kernel_rfl) (by kernel_rfl) (by kernel_rfl) (fun _ _ _ h => h) (by rfl) (by intro w0 hSw; first | (go_simp; done) | (go_simp; with_reducible rfl) | (go_simp; intro hc; exfalso; omega)) (by assumption) ?_
        simp only [List.setIfInBounds_toArray, List.set_cons_zero, List.set_cons_succ]
        refine RgD.take (i := 10) (t := 3) (v := .int .i64 ((n0 : Int) + (1 + (lb : Int) + (le : Int)))) rfl rfl (by kernel_rfl) (by kernel_rfl) (by kernel_rfl) (by kernel_rfl) (fun _ _ _ h => h) (by rfl) (by intro w0 hSw; first | (go_simp; done) | (go_simp; with_reducible rfl) | (go_simp; intro hc; exfalso; omega)) (by assumption) ?_
        simp only [List.setIfInBounds_toArray, List.set_cons_zero, List.set_cons_succ]
        refine RgD.done (by kernel_rfl) ?_ _
        clear gS2 gS3 hS0
        go_wp2_with fail
        go_roundw
        case rel => exact ⟨j + 1, n0 + (1 + lb + le), by omega, by go_num, by go_num, Lib.hid (by have h0 := HNX.out; have h1 := HQ.out; have h2 := HLB.out; omega), HBA.out.trans (HB3.out.mono HBA.out.size)⟩
        case measure => simp [intOf]; omega
      · obtain rfl : m = j := by omega
        have HTK := Lib.hid (show l.take m = l from List.take_of_length_le (by rw [HM.out]; exact Nat.le_refl _))
        go_wp2_with fail
        go_ret
        have h := HQ.out
        rw [HTK.out] at h
        exact ⟨by rw [h] <;> rfl, HB.out⟩
end Go.Proofs.Yteibcfpepdbflaa.CkD
