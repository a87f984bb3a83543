/- clewref14.SameTexts: lists of texts that are the same. Conditions: lengths within the reach. -/
import Derived.Test.YteibcfpepdbflaaBindW
import Derived.Outline
import Derived.Deep.DeepCutAuto
import Derived.IntWalk
import Derived.Deep.QuietTactic
import Derived.BigQuiet
namespace Go.Proofs.Yteibcfpepdbflaa.BindE
open Go Go.RowKit BindP BindD BindO BindW
open Byt (str)

set_option maxRecDepth 100000 in
theorem sameTexts_t {A B : Option Addr} {n ca cb : Nat} (l : List S) (w : World) (ha : Sq.Rd sv w A n l) (hb : Sq.Rd sv w B n l) (hn : n ≤ 17592186043904) :
    Calls Try.prog 9 #[.slice A n ca, .slice B n cb] w fun e w' => e = .returned (.bool true) ∧ Below w.heap.size w w' := by
  have HA := Lib.hid ha
  have HB := Lib.hid hb
  clear ha hb
  go_enter Try.func9, Try.ntmps9
  go_wp2_with fail
  go_loopw [5] (fun iv wr => ∃ j : Nat, j ≤ n ∧ iv = .int .i64 (j : Int) ∧ Below w.heap.size w wr) (fun iv _ => n - (intOf iv).toNat)
  case atStart => exact ⟨0, Nat.zero_le _, rfl, Below.refl _ _⟩
  case round =>
    obtain ⟨j, hj, rfl, hbl⟩ := hrel
    have HBL := Lib.hid hbl
    clear hbl
    by_cases hlt : j < n
    · obtain ⟨b1, o1, rfl, hb1, hl1, hc1⟩ := (HA.out.below HBL.out).at_ hlt
      obtain ⟨b2, o2, rfl, hb2, hl2, hc2⟩ := (HB.out.below HBL.out).at_ hlt
      obtain ⟨y, hy⟩ : ∃ y, l[j] = y := ⟨_, rfl⟩
      rw [hy] at hc1 hc2
      unfold sv at hc1 hc2
      have q := eq_q (rfl : y = y)
      have k0 : (0 : Int) ≤ (j : Int) := by omega
      have k1 : (j : Int) < (n : Int) := by omega
      clear hy hl1 hl2
      go_wp2_with fail
      go_quiet (fail)
      go_wp2_with fail
      go_roundw
      case rel => exact ⟨j + 1, by omega, by go_num, Sq.belowN HBL.out _⟩
      case measure => simp [intOf]; omega
    · obtain rfl : n = j := by omega
      go_wp2_with fail
      go_ret
      exact ⟨rfl, HBL.out⟩
end Go.Proofs.Yteibcfpepdbflaa.BindE
