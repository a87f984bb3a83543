/- No next state is 0, and unlike states other than 0 have unlike next states. Conditions: none beyond what every reading of the arguments gives. -/
import Derived.Test.YtgigkbfgfegdhaaLaw
import Derived.Test.YtgigkbfgfegdhaaMixA
namespace Go.Proofs.Ytgigkbfgfegdhaa.mixApart
open Go.ChangeShapes Go.WideShapes Go.ChangeAt Go.RowKit MixP MixW

set_option maxRecDepth 100000 in
theorem walk (a0 : Int) (a1 : Int) (w0 : (Lit.int .u64 a0).wf = true) (w1 : (Lit.int .u64 a1).wf = true) (w : World) :
    Calls Try.prog 7 #[.int .u64 a0, .int .u64 a1] w fun e w' => e = .returned (.bool true) ∧ Below w.heap.size w w' := by
  have hu0 : U a0 := by have := bounds_u64 w0; unfold U; omega
  have HU0 := Lib.hid hu0
  clear hu0 w0
  have hu1 : U a1 := by have := bounds_u64 w1; unfold U; omega
  have HU1 := Lib.hid hu1
  clear hu1 w1
  have z0 : (nx a0 == 0) = false := beq_eq_false_iff_ne.2 (nx_ne HU0.out)
  have z1 : (nx a1 == 0) = false := beq_eq_false_iff_ne.2 (nx_ne HU1.out)
  by_cases c0 : a0 = 0
  · have c : (a0 == 0) = true := beq_iff_eq.2 c0
    clear c0
    go_enter Try.func7, Try.ntmps7
    go_wp2_with (first
      | (go_at_call_of 10 (Value.int .u64 a0); go_call (next_i a0 HU0.out _) as e w4 ⟨rfl, hb4⟩)
      | (go_at_call_of 10 (Value.int .u64 a1); go_call (next_i a1 HU1.out _) as e w5 ⟨rfl, hb5⟩)
      | (go_at_call 14; go_call (MixA.awake _) as e w9 ⟨rfl, hb9⟩))
    go_ret
    exact ⟨rfl, by repeat (first | assumption | refine join ?_ (by assumption))⟩
  · have c : (a0 == 0) = false := beq_eq_false_iff_ne.2 c0
    by_cases c1 : a1 = 0
    · have d : (a1 == 0) = true := beq_iff_eq.2 c1
      clear c0 c1
      go_enter Try.func7, Try.ntmps7
      go_wp2_with (first
        | (go_at_call_of 10 (Value.int .u64 a0); go_call (next_i a0 HU0.out _) as e w4 ⟨rfl, hb4⟩)
        | (go_at_call_of 10 (Value.int .u64 a1); go_call (next_i a1 HU1.out _) as e w5 ⟨rfl, hb5⟩)
        | (go_at_call 14; go_call (MixA.awake _) as e w9 ⟨rfl, hb9⟩))
      go_ret
      exact ⟨rfl, by repeat (first | assumption | refine join ?_ (by assumption))⟩
    · have d : (a1 == 0) = false := beq_eq_false_iff_ne.2 c1
      by_cases c2 : a0 = a1
      · subst c2
        clear c0 c1
        have g : (a0 == a0) = true := by simp
        go_enter Try.func7, Try.ntmps7
        go_wp2_with (first
          | (go_at_call_of 10 (Value.int .u64 a0); go_call (next_i a0 HU0.out _) as e w4 ⟨rfl, hb4⟩)
          
          | (go_at_call 14; go_call (MixA.awake _) as e w9 ⟨rfl, hb9⟩))
        go_ret
        exact ⟨rfl, by repeat (first | assumption | refine join ?_ (by assumption))⟩
      · have g : (a0 == a1) = false := beq_eq_false_iff_ne.2 c2
        have g2 : (nx a0 != nx a1) = true := bne_iff_ne.2 (fun h => c2 (nx_inj HU0.out HU1.out c0 c1 h))
        clear c0 c1 c2
        go_enter Try.func7, Try.ntmps7
        go_wp2_with (first
          | (go_at_call_of 10 (Value.int .u64 a0); go_call (next_i a0 HU0.out _) as e w4 ⟨rfl, hb4⟩)
          | (go_at_call_of 10 (Value.int .u64 a1); go_call (next_i a1 HU1.out _) as e w5 ⟨rfl, hb5⟩)
          | (go_at_call 14; go_call (MixA.awake _) as e w9 ⟨rfl, hb9⟩))
        go_ret
        exact ⟨rfl, by repeat (first | assumption | refine join ?_ (by assumption))⟩

theorem own : ownKnob Try.prog.godebug = none := by kernel_rfl

set_option maxRecDepth 100000 in
theorem lifted (os : Os) (started : os.Started) (H : Type) (enc : TypeId × Value → H) :
    ReturnsInHanded {} Try.checked os 7 .any (Rows.mixApartSpec.pre6 enc Try.prog Try.f7 Rows.mixApartRow.domain false) (Rows.mixApartSpec.post enc Try.prog Try.f7 false true false false) := by
  refine returnsInHanded_of_change (C := Try.checked) own started (by kernel_rfl) Try.func7
    (ChangeSpec.witness6 (enc := enc) (C := Try.checked) false ⟨#[], #[.int .u64 0, .int .u64 0], []⟩ 8 (by kernel_rfl) (by kernel_rfl) (by kernel_rfl) (by kernel_rfl)) ?_
  intro W base args ds gs before hval0 hW hcnd _
  have hval : ∀ (j : Nat) t v, Try.f7.params[j]? = some t → args[j]? = some v → Value.okWide Try.prog W .any base t v := hval0
  have hW' := hW
  obtain ⟨p, q, hA0, hV, rfl, hfz, hnd⟩ := hW
  have hA : DataW.TrodAll enc Try.prog W 0 (fun _ => true) true Try.f7.params.toList args.toList ds p := hA0
  rw [Try.params7] at hA hval
  obtain ⟨v0, vs0, d0, ds0, p0, q0, hargs, rfl, rfl, h0, r0⟩ := trodAll_cons hA
  obtain ⟨v1, vs1, d1, ds1, p1, q1, rfl, rfl, rfl, h1, r1⟩ := trodAll_cons r0
  obtain ⟨rfl, rfl, rfl⟩ := trodAll_nil r1
  obtain rfl : args = #[v0, v1] := by cases args; simp_all
  clear hV
  obtain ⟨a0, rfl, rfl, rfl, w0⟩ := open_int Try.underlying22 (hval 0 22 v0 rfl rfl) h0
  obtain ⟨a1, rfl, rfl, rfl, w1⟩ := open_int Try.underlying22 (hval 1 22 v1 rfl rfl) h1
  clear hA0 hval0
  refine (walk a0 a1 w0 w1 W).mono fun e W' ⟨he, hg⟩ => ?_
  subst he
  exact ⟨_, rfl, Law.post (by kernel_rfl) (by kernel_rfl) Try.underlying4 rfl rfl hW' hg ⟨rfl, rfl, rfl⟩⟩

theorem over : Rows.mixApartRow.holds Try.pinned (OpenSpec.ofChange Rows.mixApartSpec) :=
  OpenClaim.holds_of_wide 7 Try.f7 rfl rfl rfl rfl rfl rfl rfl ⟨rfl, rfl, rfl, rfl, rfl⟩ rfl rfl rfl rfl rfl (by kernel_rfl) Try.func7 (by kernel_rfl)
    (of_decide_eq_true (by kernel_rfl)) (by unfold Func.isWrapper; first | (rw [if_pos (by decide +kernel)]; kernel_rfl) | (rw [if_neg (by decide +kernel)]; exact ⟨rfl, rfl⟩))
    (fun os started H enc _ => lifted os started H enc)

/-- The statement. -/
theorem proved : Rows.MixApartSaid := over
#print axioms proved
end Go.Proofs.Ytgigkbfgfegdhaa.mixApart
