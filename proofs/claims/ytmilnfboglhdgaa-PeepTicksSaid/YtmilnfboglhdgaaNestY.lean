/- The walk of the reference's check of one thing's children. -/
import Derived.Test.YtmilnfboglhdgaaNestX
import Derived.IntWalk
namespace Go.Proofs.Ytmilnfboglhdgaa.NestY
open Go Go.RowKit NestP Sq NestW NestX

theorem quiet_left {P : Program} {f : FuncId} {args : Array Value} {w : World} {n : Nat} {v : Value}
    (h : Calls P f args (w.drewN n) fun e w' => e = .returned v ∧ w.drewN n = w') : Calls P f args (w.drewN n) fun e w'' => e = .returned v ∧ ∃ m, w'' = w.drewN m :=
  h.mono fun _ _ ⟨he, hm⟩ => ⟨he, n, hm.symm⟩
theorem quiet_add_left {P : Program} {f : FuncId} {args : Array Value} {w : World} {a n : Nat} {v : Value}
    (h : Calls P f args (w.drewN (a + n)) fun e w' => e = .returned v ∧ w.drewN (a + n) = w') : Calls P f args (w.drewN (a + n)) fun e w'' => e = .returned v ∧ ∃ m, w'' = w.drewN (a + m) :=
  h.mono fun _ _ ⟨he, hm⟩ => ⟨he, n, hm.symm⟩

theorem kids_isT {d : Wd} {x e : Int} (h : e ∈ kids d x) : isT d.n e = true := by
  unfold kids at h
  split at h
  · exact chain_isT _ _ e h
  · simp at h
theorem kids_short (d : Wd) (x : Int) : (kids d x).length ≤ d.n := by
  unfold kids
  split
  · exact chain_len _ _
  · simp
/-- The part of the check that speaks of one child. -/
def okKid (d : Wd) (x e : Int) : Bool := (at' d.pa e == x) && ((kids d x).count e == 1)
theorem listed_no {d : Wd} {x : Int} {j : Nat} (hj : j < (kids d x).length) (h : okKid d x (kids d x)[j] = false) : listed d x = false := by
  unfold listed
  have : ((kids d x).all fun e => (at' d.pa e == x) && ((kids d x).count e == 1)) = false := by
    rw [List.all_eq_false]
    exact ⟨_, List.getElem_mem hj, by unfold okKid at h; simp only [h]; simp⟩
  rw [this, Bool.false_and]
theorem listed_yes {d : Wd} {x : Int} (h : ∀ j (hj : j < (kids d x).length), okKid d x (kids d x)[j] = true) : listed d x = (ended d x == 0) := by
  unfold listed
  have : ((kids d x).all fun e => (at' d.pa e == x) && ((kids d x).count e == 1)) = true := by
    rw [List.all_eq_true]
    intro e he
    obtain ⟨j, hj, rfl⟩ := List.getElem_of_mem he
    exact h j hj
  rw [this, Bool.true_and]

end Go.Proofs.Ytmilnfboglhdgaa.NestY
