/- Skips add up, and one step is the next state. Conditions: none beyond what every reading of the arguments gives. -/
import Derived.Test.YtgigkbfgfegdhaaLaw
import Derived.Test.YtgigkbfgfegdhaaMixA
namespace Go.Proofs.Ytgigkbfgfegdhaa.mixParts
open Go.ChangeShapes Go.WideShapes Go.ChangeAt Go.RowKit MixP MixW

set_option maxRecDepth 100000 in
theorem walk (a0 : Int) (a1 : Int) (a2 : Int) (w0 : (Lit.int .u64 a0).wf = true) (w1 : (Lit.int .u16 a1).wf = true) (w2 : (Lit.int .u16 a2).wf = true) (w : World) :
    Calls Try.prog 6 #[.int .u64 a0, .int .u16 a1, .int .u16 a2] w fun e w' => e = .returned (.bool true) ∧ Below w.heap.size w w' := by
  have hu : U a0 := by have := bounds_u64 w0; unfold U; omega
  have HU := Lib.hid hu
  clear hu w0
  have b10 := (bounds_u16 w1).1
  have b11 := (bounds_u16 w1).2
  have b20 := (bounds_u16 w2).1
  have b21 := (bounds_u16 w2).2
  clear w1 w2
  have p0 : 0 ≤ a1 % 32769 := by omega
  have p1 : a1 % 32769 ≤ 32768 := by omega
  have q0 : 0 ≤ a2 % 32769 := by omega
  have q1 : a2 % 32769 ≤ 32768 := by omega
  have E := Lib.hid (sk_add a0 (a1 % 32769) (a2 % 32769) p0 q0 (by omega))
  have E1 := sk_one a0
  have F : U (sk a0 (a1 % 32769)) := u_steps HU.out _
  have FU := Lib.hid F
  clear F
  go_enter Try.func6, Try.ntmps6
  go_wp2_with (first
    | (go_at_call 17; (with_reducible refine (skip_i a0 1 HU.out (by omega) _).mono ?_); rintro e w2 ⟨rfl, hb2⟩)
    | (go_at_call 17; (with_reducible refine (skip_i a0 (a1 % 32769) HU.out (by omega) _).mono ?_); rintro e w3 ⟨rfl, hb3⟩)
    | (go_at_call 17; (with_reducible refine (skip_i (sk a0 (a1 % 32769)) (a2 % 32769) FU.out (by omega) _).mono ?_); rintro e w4 ⟨rfl, hb4⟩; rw [E.out])
    | (go_at_call 17; (with_reducible refine (skip_i a0 (a1 % 32769 + a2 % 32769) HU.out (by omega) _).mono ?_); rintro e w5 ⟨rfl, hb5⟩)
    | (go_at_call 10; go_call (next_i _ HU.out _) as e w6 ⟨rfl, hb6⟩)
    | (go_at_call 14; go_call (MixA.awake _) as e w9 ⟨rfl, hb9⟩))
  go_ret
  exact ⟨rfl, by repeat (first | assumption | refine join ?_ (by assumption))⟩

theorem own : ownKnob Try.prog.godebug = none := by kernel_rfl

set_option maxRecDepth 100000 in
theorem lifted (os : Os) (started : os.Started) (H : Type) (enc : TypeId × Value → H) :
    ReturnsInHanded {} Try.checked os 6 .any (Rows.mixPartsSpec.pre6 enc Try.prog Try.f6 Rows.mixPartsRow.domain false) (Rows.mixPartsSpec.post enc Try.prog Try.f6 false true false false) := by
  refine returnsInHanded_of_change (C := Try.checked) own started (by kernel_rfl) Try.func6
    (ChangeSpec.witness6 (enc := enc) (C := Try.checked) false ⟨#[], #[.int .u64 0, .int .u16 0, .int .u16 0], []⟩ 8 (by kernel_rfl) (by kernel_rfl) (by kernel_rfl) (by kernel_rfl)) ?_
  intro W base args ds gs before hval0 hW hcnd _
  have hval : ∀ (j : Nat) t v, Try.f6.params[j]? = some t → args[j]? = some v → Value.okWide Try.prog W .any base t v := hval0
  have hW' := hW
  obtain ⟨p, q, hA0, hV, rfl, hfz, hnd⟩ := hW
  have hA : DataW.TrodAll enc Try.prog W 0 (fun _ => true) true Try.f6.params.toList args.toList ds p := hA0
  rw [Try.params6] at hA hval
  obtain ⟨v0, vs0, d0, ds0, p0, q0, hargs, rfl, rfl, h0, r0⟩ := trodAll_cons hA
  obtain ⟨v1, vs1, d1, ds1, p1, q1, rfl, rfl, rfl, h1, r1⟩ := trodAll_cons r0
  obtain ⟨v2, vs2, d2, ds2, p2, q2, rfl, rfl, rfl, h2, r2⟩ := trodAll_cons r1
  obtain ⟨rfl, rfl, rfl⟩ := trodAll_nil r2
  obtain rfl : args = #[v0, v1, v2] := by cases args; simp_all
  clear hV
  obtain ⟨a0, rfl, rfl, rfl, w0⟩ := open_int Try.underlying22 (hval 0 22 v0 rfl rfl) h0
  obtain ⟨a1, rfl, rfl, rfl, w1⟩ := open_int Try.underlying33 (hval 1 33 v1 rfl rfl) h1
  obtain ⟨a2, rfl, rfl, rfl, w2⟩ := open_int Try.underlying33 (hval 2 33 v2 rfl rfl) h2
  clear hA0 hval0
  refine (walk a0 a1 a2 w0 w1 w2 W).mono fun e W' ⟨he, hg⟩ => ?_
  subst he
  exact ⟨_, rfl, Law.post (by kernel_rfl) (by kernel_rfl) Try.underlying4 rfl rfl hW' hg ⟨rfl, rfl, rfl⟩⟩

theorem over : Rows.mixPartsRow.holds Try.pinned (OpenSpec.ofChange Rows.mixPartsSpec) :=
  OpenClaim.holds_of_wide 6 Try.f6 rfl rfl rfl rfl rfl rfl rfl ⟨rfl, rfl, rfl, rfl, rfl⟩ rfl rfl rfl rfl rfl (by kernel_rfl) Try.func6 (by kernel_rfl)
    (of_decide_eq_true (by kernel_rfl)) (by unfold Func.isWrapper; first | (rw [if_pos (by decide +kernel)]; kernel_rfl) | (rw [if_neg (by decide +kernel)]; exact ⟨rfl, rfl⟩))
    (fun os started H enc _ => lifted os started H enc)

/-- The statement. -/
theorem proved : Rows.MixPartsSaid := over
#print axioms proved
end Go.Proofs.Ytgigkbfgfegdhaa.mixParts
