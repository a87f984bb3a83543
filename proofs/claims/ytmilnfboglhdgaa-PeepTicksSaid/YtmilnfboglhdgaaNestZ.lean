/- The walk of the reference's check of a world. -/
import Derived.Test.YtmilnfboglhdgaaNestY
import Derived.Deep.DeepCutAuto
namespace Go.Proofs.Ytmilnfboglhdgaa.NestZ
open Go Go.RowKit NestP Sq NestW NestX NestY

theorem nested_no {d : Wd} {k : Nat} (h1 : 1 ≤ k) (h2 : k < d.n) (h : (fine1 d (k : Int) && fine2 d (k : Int)) = false) : nested d = false := by
  unfold nested
  have : ((List.range (d.n - 1)).all fun i => fine1 d ((i + 1 : Nat) : Int) && fine2 d ((i + 1 : Nat) : Int)) = false := by
    rw [List.all_eq_false]
    refine ⟨k - 1, by rw [List.mem_range]; omega, ?_⟩
    rw [show k - 1 + 1 = k by omega, h]; simp
  rw [this, Bool.and_false]
theorem nested_yes {d : Wd} (hh : head d = true) (h : ∀ k : Nat, 1 ≤ k → k < d.n → (fine1 d (k : Int) && fine2 d (k : Int)) = true) : nested d = true := by
  unfold nested
  rw [hh, Bool.true_and, List.all_eq_true]
  intro i hi
  rw [List.mem_range] at hi
  exact h (i + 1) (by omega) (by omega)
theorem nested_head {d : Wd} (hh : head d = false) : nested d = false := by unfold nested; rw [hh, Bool.false_and]
theorem head_parts {d : Wd} (h : head d = true) : d.n ≠ 0 ∧ d.ch.length = d.n ∧ d.ne.length = d.n := by
  unfold head at h
  simp only [Bool.and_eq_true, decide_eq_true_eq] at h
  exact ⟨h.1.1.1.1.1, h.1.1.1.1.2, h.1.1.1.2⟩
theorem isT_zero (n : Nat) : isT n 0 = false := by unfold isT; simp

end Go.Proofs.Ytmilnfboglhdgaa.NestZ
