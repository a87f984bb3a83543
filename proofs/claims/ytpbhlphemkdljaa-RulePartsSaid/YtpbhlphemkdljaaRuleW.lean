/- The walks of the rules' functions. -/
import Derived.Test.YtpbhlphemkdljaaLaw
import Derived.Test.YtpbhlphemkdljaaRuleP
import Derived.Lib.Hide
import Derived.Outline
import Derived.Deep.DeepCutAuto
import Derived.Deep.RegionHeld3
namespace Go.Proofs.Ytpbhlphemkdljaa.RuleW
open Go Go.RowKit RuleP

theorem join {w w1 w2 : World} (h : Below w.heap.size w w1) (k : Below w1.heap.size w1 w2) : Below w.heap.size w w2 :=
  h.trans (k.mono h.size)

theorem ret1 {j : IntKind} {a b : Int} (h : a = b) : Ending.returned (.int j a) = .returned (.int j b) := by rw [h]
theorem retb {a b : Bool} (h : a = b) : Ending.returned (.bool a) = .returned (.bool b) := by rw [h]

theorem rank_i (d : Deed) (w : World) : Calls Try.prog 9 #[.agg #[.int .i64 d.verb, .int .i64 d.phase, .int .i64 d.noun, .int .i64 d.second, .int .i64 d.onlyIf, .int .i64 d.body]] w fun e w' => e = .returned (.int .i64 (rank d)) ∧ Below w.heap.size w w' := by
  go_enter Try.func9, Try.ntmps9
  go_wp2
  all_goals (go_ret; refine ⟨ret1 (by simp_all [rank]), by go_grown⟩)
theorem rank_r (d : Deed) (w : World) : Calls Try.prog 10 #[.agg #[.int .i64 d.verb, .int .i64 d.phase, .int .i64 d.noun, .int .i64 d.second, .int .i64 d.onlyIf, .int .i64 d.body]] w fun e w' => e = .returned (.int .i64 (rank d)) ∧ Below w.heap.size w w' := by
  go_enter Try.func10, Try.ntmps10
  go_wp2
  all_goals (go_ret; refine ⟨ret1 (by simp_all [rank]), by go_grown⟩)
theorem fits_i (d : Deed) (phase : Int) (c : Cmd) (w : World) : Calls Try.prog 7 #[.agg #[.int .i64 d.verb, .int .i64 d.phase, .int .i64 d.noun, .int .i64 d.second, .int .i64 d.onlyIf, .int .i64 d.body], .int .i64 phase, .agg #[.int .i64 c.verb, .int .i64 c.noun, .int .i64 c.second, .int .i64 c.number, .int .i64 c.dir]] w fun e w' => e = .returned (.bool (fits d phase c)) ∧ Below w.heap.size w w' := by
  go_enter Try.func7, Try.ntmps7
  go_wp2
  all_goals (go_ret; refine ⟨retb (by simp [fits, anyOf, *]), by go_grown⟩)
theorem fits_r (d : Deed) (phase : Int) (c : Cmd) (w : World) : Calls Try.prog 8 #[.agg #[.int .i64 d.verb, .int .i64 d.phase, .int .i64 d.noun, .int .i64 d.second, .int .i64 d.onlyIf, .int .i64 d.body], .int .i64 phase, .agg #[.int .i64 c.verb, .int .i64 c.noun, .int .i64 c.second, .int .i64 c.number, .int .i64 c.dir]] w fun e w' => e = .returned (.bool (fits d phase c)) ∧ Below w.heap.size w w' := by
  go_enter Try.func8, Try.ntmps8
  go_wp2
  all_goals (go_ret; refine ⟨retb (by simp [fits, anyOf, *]), by go_grown⟩)
end Go.Proofs.Ytpbhlphemkdljaa.RuleW
