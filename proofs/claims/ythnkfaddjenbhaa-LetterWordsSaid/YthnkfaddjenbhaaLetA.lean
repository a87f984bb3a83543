/- The chapter's examples hold: the laws' own check returns true. Conditions: none. -/
import Derived.Test.YthnkfaddjenbhaaLetS
namespace Go.Proofs.Ythnkfaddjenbhaa.LetA
open Go Go.RowKit LetP Byt LetW LetX LetY LetZ LetQ Strs LetV LetU LetS

theorem x1 : str (lower (bs ⟨#[71, 111, 32, 78, 111, 114, 116, 104]⟩)) = ⟨#[103, 111, 32, 110, 111, 114, 116, 104]⟩ := by rfl
theorem x2 : str (capital (bs ⟨#[97, 32, 116, 105, 110]⟩)) = ⟨#[65, 32, 116, 105, 110]⟩ := by rfl
theorem x3 : words (bs ⟨#[84, 97, 107, 101, 32, 108, 97, 109, 112, 44, 32, 103, 111, 32, 78, 46]⟩) = [[116, 97, 107, 101], [108, 97, 109, 112], [44], [103, 111], [110], [46]] := by decide +kernel
theorem x4 : str (short (bs ⟨#[105, 110, 118, 101, 110, 116, 111, 114, 105, 101, 115]⟩)) = ⟨#[105, 110, 118, 101, 110, 116, 111, 114, 105]⟩ := by rfl
theorem x5 : isWord (bs ⟨#[45, 97]⟩) = false := by decide +kernel
theorem x6 : isWord (bs ⟨#[55, 45, 97]⟩) = true := by decide +kernel

set_option maxRecDepth 100000 in
set_option maxHeartbeats 1000000 in
theorem awake (w : World) : Calls Try.prog 8 #[] w fun e w' => e = .returned (.bool true) ∧ Below w.heap.size w w' := by
  go_enter Try.func8, Try.ntmps8
  go_wp2_with fail
  refine (words_i _ (by decide) _).mono ?_
  rintro e w1 ⟨v1, rfl, hown1, hb1⟩
  rw [x3] at hown1
  have HO1 := Lib.hid hown1
  clear hown1
  go_wp2_with fail
  refine (lower_i _ (by decide) _).mono ?_
  rintro e w2 ⟨rfl, hb2⟩
  rw [x1]
  go_wp2_with fail
  refine (cap_i _ (by decide) _).mono ?_
  rintro e w3 ⟨rfl, hb3⟩
  rw [x2]
  have HO3 := Lib.hid ((HO1.out.below hb2).below hb3)
  go_wp2_with fail

  refine (same_r _ _ [[116, 97, 107, 101], [108, 97, 109, 112], [44], [103, 111], [110], [46]] [[116, 97, 107, 101], [108, 97, 109, 112], [44], [103, 111], [110], [46]] _ ?_ ?_).mono ?_
  · exact (HO3.out.alloc _).reads
  · refine .inr ⟨_, 0, _, rfl, by decide, by unfold maxLen; decide, by go_size, fun i hi => ?_⟩
    match i, hi with
    | 0, _ => show _ = some (Value.string ⟨#[116, 97, 107, 101]⟩); go_cell
    | 1, _ => show _ = some (Value.string ⟨#[108, 97, 109, 112]⟩); go_cell
    | 2, _ => show _ = some (Value.string ⟨#[44]⟩); go_cell
    | 3, _ => show _ = some (Value.string ⟨#[103, 111]⟩); go_cell
    | 4, _ => show _ = some (Value.string ⟨#[110]⟩); go_cell
    | 5, _ => show _ = some (Value.string ⟨#[46]⟩); go_cell
  rintro e w4 ⟨rfl, hb4⟩
  go_wp2_with fail
  refine (short_i _ (by decide) _).mono ?_
  rintro e w' ⟨rfl, rfl⟩
  rw [x4]
  go_wp2_with fail
  refine (isWord_i _ (by decide) _).mono ?_
  rintro e w5 ⟨rfl, hb5⟩
  rw [x5]
  go_wp2_with fail
  refine (isWord_i _ (by decide) _).mono ?_
  rintro e w6 ⟨rfl, hb6⟩
  rw [x6]
  go_wp2_with fail
  go_ret
  refine ⟨rfl, ?_⟩
  have g3 : Below w.heap.size w w3 := joinB (Nat.le_refl _) (joinB (Nat.le_refl _) hb1 hb2) hb3
  have g4 : Below w.heap.size w w4 := joinB (Nat.le_refl _) (g3.alloc g3.size _) hb4
  exact joinB (Nat.le_refl _) (joinB (Nat.le_refl _) g4 hb5) hb6
end Go.Proofs.Ythnkfaddjenbhaa.LetA
