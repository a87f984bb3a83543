/- clewref20.Right. Conditions: none. -/
import Derived.Test.YtncdicagadbafaaNestZ
import Derived.Test.YtncdicagadbafaaWorldD
namespace Go.Proofs.Ytncdicagadbafaa.ValV
open Go Go.RowKit NestP NestW NestX NestY NestZ Sq WorldD

theorem right_r {v0 v4 v5 v6 v7 v8 v9 v10 v11 v12 : Value} {A1 A2 A3 : Option Addr} {n c1 n2 c2 n3 c3 : Nat} (d : Wd) (w : World) (hp : Rd I w A1 n d.pa) (hc : Rd I w A2 n2 d.ch) (hne : Rd I w A3 n3 d.ne) (hn : n ≤ 17592186043904) (hn2 : n2 ≤ 17592186043904) (hn3 : n3 ≤ 17592186043904) :
    Calls Try.prog 37 #[.agg #[v0, .slice A1 n c1, .slice A2 n2 c2, .slice A3 n3 c3, v4, v5, v6, v7, v8, v9, v10, v11, v12]] w fun e w' => e = .returned (.bool (nested d)) ∧ Below w.heap.size w w' := by
  have HP := Lib.hid hp
  have HC := Lib.hid hc
  have HN := Lib.hid hne
  have HM1 := Lib.hid hn
  have HM2 := Lib.hid hn2
  have HM3 := Lib.hid hn3
  clear hp hc hne hn hn2 hn3
  go_enter Try.func37, Try.ntmps37
  go_wp2_with (go_at_call 89; refine (nested_r d _ (HP.out.alloc _) (HC.out.alloc _) (HN.out.alloc _) HM1.out HM2.out HM3.out).mono ?_; rintro e w1 ⟨rfl, hb⟩)
  go_ret
  exact ⟨rfl, ((Below.refl _ _).alloc (Nat.le_refl _) _).trans (hb.mono (by simp))⟩
end Go.Proofs.Ytncdicagadbafaa.ValV
