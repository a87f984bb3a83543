/- The chapter's examples hold: the law's own check returns true. Conditions: none. -/
import Derived.Test.YtgigkbfgfegdhaaMixW
namespace Go.Proofs.Ytgigkbfgfegdhaa.MixA
open Go Go.RowKit MixP MixW

theorem b7 : be 7 0 = 0 ∧ bs 7 0 = 7 := ⟨rfl, rfl⟩
theorem f0 : fr 0 = 1 := by
  unfold fr one
  rw [show IntKind.u64.wrap 0 = 0 from rfl, show IntKind.u64.wrap (0 * 2654435769) = 0 from rfl, show IntKind.u64.wrap (0 + 1) = 1 from rfl]
  rfl
theorem u7 : U 7 := by unfold U; omega
theorem u9 : U 9 := by unfold U; omega
theorem u1 : U 1 := by unfold U; omega
theorem n01 : nx 0 = nx 1 := rfl

set_option maxRecDepth 100000 in
theorem awake (w : World) : Calls Try.prog 14 #[] w fun e w' => e = .returned (.bool true) ∧ Below w.heap.size w w' := by
  have hb7 := b7.1
  have hs7 := b7.2
  have hf0 := f0
  have hn01 := n01
  have hk9 : sk 9 (-1) = 9 := sk_neg 9 (-1) (by omega)
  have hne : (nx 1 != 0) = true := by simp [nx_ne u1]
  go_enter Try.func14, Try.ntmps14
  go_wp2_with (first
    | (go_at_call 15; go_call (below_i 7 0 u7 (by omega) _) as e w1 ⟨rfl, hbb⟩)
    | (go_at_call 8; go_call (from_i _ _) as e w' ⟨rfl, rfl⟩)
    | (go_at_call 17; go_call (skip_i 9 (-1) u9 (by omega) _) as e w5 ⟨rfl, hb5⟩)
    | (go_at_call_of 10 (Value.int .u64 0); go_call (next_i 0 u_zero _) as e w2 ⟨rfl, hb2⟩)
    | (go_at_call_of 10 (Value.int .u64 1); go_call (next_i 1 u1 _) as e w3 ⟨rfl, hb3⟩))
  go_ret
  exact ⟨rfl, by repeat (first | assumption | refine join ?_ (by assumption))⟩
end Go.Proofs.Ytgigkbfgfegdhaa.MixA
