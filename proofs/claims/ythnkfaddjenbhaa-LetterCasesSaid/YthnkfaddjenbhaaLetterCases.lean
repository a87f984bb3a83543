/- Texts in small letters, and with a great first letter, are the specified ones; turning twice turns no more. Conditions: none beyond what every reading of the arguments gives. -/
import Derived.Test.YthnkfaddjenbhaaLetA
import Derived.Test.YthnkfaddjenbhaaLaw
namespace Go.Proofs.Ythnkfaddjenbhaa.letterCases
open Go.ChangeShapes Go.WideShapes Go.ChangeAt Go.RowKit
open Go.ChangeMaps (open_string)
open LetP Byt LetW LetX LetY LetZ LetQ Strs LetV LetU LetS

set_option maxRecDepth 100000 in
set_option maxHeartbeats 1000000 in
theorem walk (s : ByteArray) (w : World) :
    Calls Try.prog 3 #[.string s] w fun e w' => e = .returned (.bool true) ∧ Below w.heap.size w w' := by
  by_cases hl : s.size ≤ 4000
  · have hlt : ¬ (4000 : Int) < (s.size : Int) := by omega
    have hs : s.size ≤ 1099511627776 := by omega
    have z1 : (str (lower (bs s))).size ≤ 1099511627776 := by rw [str_size]; unfold lower; rw [List.length_map, len_bytes]; exact hs
    have z2 : (str (capital (bs s))).size ≤ 1099511627776 := by rw [str_size]; unfold capital; rw [turn_length, len_bytes]; exact hs
    have H1 := Lib.hid (show lower (bs (str (lower (bs s)))) = lower (bs s) from lower_lower (bs s))
    have H2 := Lib.hid (show lower (bs (str (capital (bs s)))) = lower (bs s) from lower_capital (bs s))
    go_enter Try.func3, Try.ntmps3
    go_wp2_with (first
      | ((go_at_call 9; with_reducible refine (lower_i s hs _).mono ?_); rintro e w1 ⟨rfl, hb1⟩)
      | ((go_at_call 10; with_reducible refine (cap_i s hs _).mono ?_); rintro e w2 ⟨rfl, hb2⟩)
      | ((go_at_call 11; with_reducible refine (lower_r s hs _).mono ?_); rintro e w3 ⟨rfl, hb3⟩)
      | ((go_at_call 12; with_reducible refine (cap_r s hs _).mono ?_); rintro e w4 ⟨rfl, hb4⟩)
      | (((go_at_call 9; with_reducible refine (lower_i (str (lower (bs s))) z1 _).mono ?_); rintro e w5 ⟨rfl, hb5⟩); rw [H1.out])
      | (((go_at_call 9; with_reducible refine (lower_i (str (capital (bs s))) z2 _).mono ?_); rintro e w6 ⟨rfl, hb6⟩); rw [H2.out])
      | (go_at_call 8; go_call (LetA.awake _) as e w9 ⟨rfl, hb9⟩))
    go_ret
    exact ⟨rfl, by repeat (first | assumption | refine Byt.join ?_ (by assumption))⟩
  · have hlt : (4000 : Int) < (s.size : Int) := by omega
    go_enter Try.func3, Try.ntmps3
    go_wp2_with (go_at_call 8; go_call (LetA.awake _) as e w9 ⟨rfl, hb9⟩)
    go_ret
    exact ⟨rfl, hb9⟩

theorem own : ownKnob Try.prog.godebug = none := by kernel_rfl

set_option maxRecDepth 100000 in
theorem lifted (os : Os) (started : os.Started) (H : Type) (enc : TypeId × Value → H) :
    ReturnsInHanded {} Try.checked os 3 .any (Rows.letterCasesSpec.pre6 enc Try.prog Try.f3 Rows.letterCasesRow.domain false) (Rows.letterCasesSpec.post enc Try.prog Try.f3 false true false false) := by
  refine returnsInHanded_of_change (C := Try.checked) own started (by kernel_rfl) Try.func3
    (ChangeSpec.witness6 (enc := enc) (C := Try.checked) false ⟨#[], #[.string ⟨#[]⟩], []⟩ 8 (by kernel_rfl) (by kernel_rfl) (by kernel_rfl) (by kernel_rfl)) ?_
  intro W base args ds gs before hval0 hW hcnd _
  have hval : ∀ (j : Nat) t v, Try.f3.params[j]? = some t → args[j]? = some v → Value.okWide Try.prog W .any base t v := hval0
  have hW' := hW
  obtain ⟨p, q, hA0, hV, rfl, hfz, hnd⟩ := hW
  have hA : DataW.TrodAll enc Try.prog W 0 (fun _ => true) true Try.f3.params.toList args.toList ds p := hA0
  rw [Try.params3] at hA hval
  obtain ⟨v0, vs0, d0, ds0, p0, q0, hargs, rfl, rfl, h0, r0⟩ := trodAll_cons hA
  obtain ⟨rfl, rfl, rfl⟩ := trodAll_nil r0
  obtain rfl : args = #[v0] := by cases args; simp_all
  clear hV
  obtain ⟨s0, rfl, rfl, rfl, hs0⟩ := open_string Try.underlying9 (hval 0 9 v0 rfl rfl) h0
  clear hA0 hval0
  refine (walk s0 W).mono fun e W' ⟨he, hg⟩ => ?_
  subst he
  exact ⟨_, rfl, Law.post (by kernel_rfl) (by kernel_rfl) Try.underlying4 rfl rfl hW' hg ⟨rfl, rfl, rfl⟩⟩

theorem over : Rows.letterCasesRow.holds Try.pinned (OpenSpec.ofChange Rows.letterCasesSpec) :=
  OpenClaim.holds_of_wide 3 Try.f3 rfl rfl rfl rfl rfl rfl rfl ⟨rfl, rfl, rfl, rfl, rfl⟩ rfl rfl rfl rfl rfl (by kernel_rfl) Try.func3 (by kernel_rfl)
    (of_decide_eq_true (by kernel_rfl)) (by unfold Func.isWrapper; first | (rw [if_pos (by decide +kernel)]; kernel_rfl) | (rw [if_neg (by decide +kernel)]; exact ⟨rfl, rfl⟩))
    (fun os started H enc _ => lifted os started H enc)

/-- The statement. -/
theorem proved : Rows.LetterCasesSaid := over
#print axioms proved
end Go.Proofs.Ythnkfaddjenbhaa.letterCases
