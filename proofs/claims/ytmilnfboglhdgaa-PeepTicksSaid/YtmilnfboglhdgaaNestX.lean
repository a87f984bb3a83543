/- The walks of the reference along a world's lists: from a thing up, and along its children. Conditions: the lists of a world can be read. -/
import Derived.Test.YtmilnfboglhdgaaNestW
namespace Go.Proofs.Ytmilnfboglhdgaa.NestX
open Go Go.RowKit NestP Sq NestW

theorem at_cell {w : World} {A : Option Addr} {n : Nat} {l : List Int} (hr : Rd I w A n l) {x : Int} (h : isT n x = true) : ∃ (k b o : Nat), x = (k : Int) ∧ 1 ≤ k ∧ k < n ∧ A = some ⟨b, o, none⟩ ∧ b < w.heap.size ∧ w.cell? ⟨b, o + k, none⟩ = some (.int .i64 (at' l x)) := by
  have h' := isT_iff.1 h
  obtain ⟨k, rfl⟩ := Int.eq_ofNat_of_zero_le (show 0 ≤ x by omega)
  obtain ⟨b, o, rfl, hb, hl, hc⟩ := hr.at_ (show k < n by omega)
  exact ⟨k, b, o, rfl, by omega, by omega, rfl, hb, by rw [at_lt hl]; exact hc⟩
theorem chain_yes {n : Nat} {l : List Int} {k : Nat} {c : Int} (h : isT n c = true) : chain n l (k + 1) c = c :: chain n l k (at' l c) := by rw [chain, if_pos h]
theorem chain_no {n : Nat} {l : List Int} {k : Nat} {c : Int} (h : isT n c = false) : chain n l k c = [] := by
  cases k with
  | zero => rfl
  | succ k => rw [chain, if_neg (by rw [h]; simp)]
theorem chain_zero {n : Nat} {l : List Int} {c : Int} : chain n l 0 c = [] := rfl

end Go.Proofs.Ytmilnfboglhdgaa.NestX
