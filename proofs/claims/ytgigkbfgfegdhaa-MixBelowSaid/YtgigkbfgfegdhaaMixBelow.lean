/- The number below any bound and the state behind it are the specified ones. Conditions: none beyond what every reading of the arguments gives. -/
import Derived.Test.YtgigkbfgfegdhaaLaw
import Derived.Test.YtgigkbfgfegdhaaMixA
namespace Go.Proofs.Ytgigkbfgfegdhaa.mixBelow
open Go.ChangeShapes Go.WideShapes Go.ChangeAt Go.RowKit MixP MixW

set_option maxRecDepth 100000 in
theorem walk (a0 : Int) (a1 : Int) (w0 : (Lit.int .u64 a0).wf = true) (w1 : (Lit.int .i64 a1).wf = true) (w : World) :
    Calls Try.prog 4 #[.int .u64 a0, .int .i64 a1] w fun e w' => e = .returned (.bool true) ∧ Below w.heap.size w w' := by
  have hu : U a0 := by have := bounds_u64 w0; unfold U; omega
  have HU := Lib.hid hu
  clear hu w0
  have hk1 := (bounds_i64 w1).2
  clear w1
  by_cases hn : a1 < 1
  · have e1 : be a0 a1 = 0 := if_pos hn
    have e2 : bs a0 a1 = a0 := if_pos hn
    have e3 : 0 ≤ be a0 a1 := by omega
    have e4 : (bs a0 a1 == a0) = true := by simp [e2]
    go_enter Try.func4, Try.ntmps4
    go_wp2_with (first
      | (go_at_call 15; go_call (below_i _ _ HU.out hk1 _) as e w2 ⟨rfl, hb2⟩)
      | (go_at_call 16; go_call (below_r _ _ HU.out hk1 _) as e w3 ⟨rfl, hb3⟩)
      | (go_at_call 10; go_call (next_i _ HU.out _) as e w4 ⟨rfl, hb4⟩)
      | (go_at_call 14; go_call (MixA.awake _) as e w9 ⟨rfl, hb9⟩))
    go_ret
    exact ⟨rfl, by repeat (first | assumption | refine join ?_ (by assumption))⟩
  · have hv := va_range a0
    have e1 : be a0 a1 = va a0 % a1 := if_neg hn
    have e2 : bs a0 a1 = nx a0 := if_neg hn
    have e3 : 0 ≤ be a0 a1 := by rw [e1]; exact Int.emod_nonneg _ (by omega)
    have e4 : be a0 a1 < a1 := by rw [e1]; exact Int.emod_lt_of_pos _ (by omega)
    have e5 : (bs a0 a1 == nx a0) = true := by simp [e2]
    have e6 : 1 ≤ a1 := by omega
    clear e1 e2 hv hn
    go_enter Try.func4, Try.ntmps4
    go_wp2_with (first
      | (go_at_call 15; go_call (below_i _ _ HU.out hk1 _) as e w2 ⟨rfl, hb2⟩)
      | (go_at_call 16; go_call (below_r _ _ HU.out hk1 _) as e w3 ⟨rfl, hb3⟩)
      | (go_at_call 10; go_call (next_i _ HU.out _) as e w4 ⟨rfl, hb4⟩)
      | (go_at_call 14; go_call (MixA.awake _) as e w9 ⟨rfl, hb9⟩))
    go_ret
    exact ⟨rfl, by repeat (first | assumption | refine join ?_ (by assumption))⟩

theorem own : ownKnob Try.prog.godebug = none := by kernel_rfl

set_option maxRecDepth 100000 in
theorem lifted (os : Os) (started : os.Started) (H : Type) (enc : TypeId × Value → H) :
    ReturnsInHanded {} Try.checked os 4 .any (Rows.mixBelowSpec.pre6 enc Try.prog Try.f4 Rows.mixBelowRow.domain false) (Rows.mixBelowSpec.post enc Try.prog Try.f4 false true false false) := by
  refine returnsInHanded_of_change (C := Try.checked) own started (by kernel_rfl) Try.func4
    (ChangeSpec.witness6 (enc := enc) (C := Try.checked) false ⟨#[], #[.int .u64 0, .int .i64 0], []⟩ 8 (by kernel_rfl) (by kernel_rfl) (by kernel_rfl) (by kernel_rfl)) ?_
  intro W base args ds gs before hval0 hW hcnd _
  have hval : ∀ (j : Nat) t v, Try.f4.params[j]? = some t → args[j]? = some v → Value.okWide Try.prog W .any base t v := hval0
  have hW' := hW
  obtain ⟨p, q, hA0, hV, rfl, hfz, hnd⟩ := hW
  have hA : DataW.TrodAll enc Try.prog W 0 (fun _ => true) true Try.f4.params.toList args.toList ds p := hA0
  rw [Try.params4] at hA hval
  obtain ⟨v0, vs0, d0, ds0, p0, q0, hargs, rfl, rfl, h0, r0⟩ := trodAll_cons hA
  obtain ⟨v1, vs1, d1, ds1, p1, q1, rfl, rfl, rfl, h1, r1⟩ := trodAll_cons r0
  obtain ⟨rfl, rfl, rfl⟩ := trodAll_nil r1
  obtain rfl : args = #[v0, v1] := by cases args; simp_all
  clear hV
  obtain ⟨a0, rfl, rfl, rfl, w0⟩ := open_int Try.underlying22 (hval 0 22 v0 rfl rfl) h0
  obtain ⟨a1, rfl, rfl, rfl, w1⟩ := open_int Try.underlying3 (hval 1 3 v1 rfl rfl) h1
  clear hA0 hval0
  refine (walk a0 a1 w0 w1 W).mono fun e W' ⟨he, hg⟩ => ?_
  subst he
  exact ⟨_, rfl, Law.post (by kernel_rfl) (by kernel_rfl) Try.underlying4 rfl rfl hW' hg ⟨rfl, rfl, rfl⟩⟩

theorem over : Rows.mixBelowRow.holds Try.pinned (OpenSpec.ofChange Rows.mixBelowSpec) :=
  OpenClaim.holds_of_wide 4 Try.f4 rfl rfl rfl rfl rfl rfl rfl ⟨rfl, rfl, rfl, rfl, rfl⟩ rfl rfl rfl rfl rfl (by kernel_rfl) Try.func4 (by kernel_rfl)
    (of_decide_eq_true (by kernel_rfl)) (by unfold Func.isWrapper; first | (rw [if_pos (by decide +kernel)]; kernel_rfl) | (rw [if_neg (by decide +kernel)]; exact ⟨rfl, rfl⟩))
    (fun os started H enc _ => lifted os started H enc)

/-- The statement. -/
theorem proved : Rows.MixBelowSaid := over
#print axioms proved
end Go.Proofs.Ytgigkbfgfegdhaa.mixBelow
