/- Whether a text is a name, a word, a text, is the specified value for every string. Conditions: none beyond what every reading of the arguments gives. -/
import Derived.Test.YthnkfaddjenbhaaLetA
import Derived.Test.YthnkfaddjenbhaaLaw
import Derived.Test.YthnkfaddjenbhaaLetR
namespace Go.Proofs.Ythnkfaddjenbhaa.letterTells
open Go.ChangeShapes Go.WideShapes Go.ChangeAt Go.RowKit
open Go.ChangeMaps (open_string)
open LetP Byt LetW LetX LetY LetZ LetQ Strs LetV LetU LetS

set_option maxRecDepth 100000 in
set_option maxHeartbeats 1000000 in
theorem walk (s : ByteArray) (w : World) :
    Calls Try.prog 5 #[.string s] w fun e w' => e = .returned (.bool true) ∧ Below w.heap.size w w' := by
  by_cases hl : s.size ≤ 4000
  · have hlt : ¬ (4000 : Int) < (s.size : Int) := by omega
    have hs : s.size ≤ 1099511627776 := by omega
    go_enter Try.func5, Try.ntmps5
    go_wp2_with (first
      | ((go_at_call 17; with_reducible refine (LetZ.isName_i s hs _).mono ?_); rintro e w' ⟨rfl, rfl⟩)
      | ((go_at_call 18; with_reducible refine (LetT.isName_r s hs _).mono ?_); rintro e w' ⟨rfl, rfl⟩)
      | ((go_at_call 16; with_reducible refine (LetZ.isWord_i s hs _).mono ?_); rintro e w1 ⟨rfl, hb1⟩)
      | ((go_at_call 19; with_reducible refine (LetT.isWord_r s hs _).mono ?_); rintro e w' ⟨rfl, rfl⟩)
      | ((go_at_call 20; with_reducible refine (LetZ.isText_i s hs _).mono ?_); rintro e w' ⟨rfl, rfl⟩)
      | ((go_at_call 21; with_reducible refine (LetR.isText_r s hs _).mono ?_); rintro e w' ⟨rfl, rfl⟩)
      | (go_at_call 8; go_call (LetA.awake _) as e w9 ⟨rfl, hb9⟩))
    go_ret
    exact ⟨rfl, by repeat (first | assumption | refine Byt.join ?_ (by assumption))⟩
  · have hlt : (4000 : Int) < (s.size : Int) := by omega
    go_enter Try.func5, Try.ntmps5
    go_wp2_with (go_at_call 8; go_call (LetA.awake _) as e w9 ⟨rfl, hb9⟩)
    go_ret
    exact ⟨rfl, hb9⟩

theorem own : ownKnob Try.prog.godebug = none := by kernel_rfl

set_option maxRecDepth 100000 in
theorem lifted (os : Os) (started : os.Started) (H : Type) (enc : TypeId × Value → H) :
    ReturnsInHanded {} Try.checked os 5 .any (Rows.letterTellsSpec.pre6 enc Try.prog Try.f5 Rows.letterTellsRow.domain false) (Rows.letterTellsSpec.post enc Try.prog Try.f5 false true false false) := by
  refine returnsInHanded_of_change (C := Try.checked) own started (by kernel_rfl) Try.func5
    (ChangeSpec.witness6 (enc := enc) (C := Try.checked) false ⟨#[], #[.string ⟨#[]⟩], []⟩ 8 (by kernel_rfl) (by kernel_rfl) (by kernel_rfl) (by kernel_rfl)) ?_
  intro W base args ds gs before hval0 hW hcnd _
  have hval : ∀ (j : Nat) t v, Try.f5.params[j]? = some t → args[j]? = some v → Value.okWide Try.prog W .any base t v := hval0
  have hW' := hW
  obtain ⟨p, q, hA0, hV, rfl, hfz, hnd⟩ := hW
  have hA : DataW.TrodAll enc Try.prog W 0 (fun _ => true) true Try.f5.params.toList args.toList ds p := hA0
  rw [Try.params5] at hA hval
  obtain ⟨v0, vs0, d0, ds0, p0, q0, hargs, rfl, rfl, h0, r0⟩ := trodAll_cons hA
  obtain ⟨rfl, rfl, rfl⟩ := trodAll_nil r0
  obtain rfl : args = #[v0] := by cases args; simp_all
  clear hV
  obtain ⟨s0, rfl, rfl, rfl, hs0⟩ := open_string Try.underlying9 (hval 0 9 v0 rfl rfl) h0
  clear hA0 hval0
  refine (walk s0 W).mono fun e W' ⟨he, hg⟩ => ?_
  subst he
  exact ⟨_, rfl, Law.post (by kernel_rfl) (by kernel_rfl) Try.underlying4 rfl rfl hW' hg ⟨rfl, rfl, rfl⟩⟩

theorem over : Rows.letterTellsRow.holds Try.pinned (OpenSpec.ofChange Rows.letterTellsSpec) :=
  OpenClaim.holds_of_wide 5 Try.f5 rfl rfl rfl rfl rfl rfl rfl ⟨rfl, rfl, rfl, rfl, rfl⟩ rfl rfl rfl rfl rfl (by kernel_rfl) Try.func5 (by kernel_rfl)
    (of_decide_eq_true (by kernel_rfl)) (by unfold Func.isWrapper; first | (rw [if_pos (by decide +kernel)]; kernel_rfl) | (rw [if_neg (by decide +kernel)]; exact ⟨rfl, rfl⟩))
    (fun os started H enc _ => lifted os started H enc)

/-- The statement. -/
theorem proved : Rows.LetterTellsSaid := over
#print axioms proved
end Go.Proofs.Ythnkfaddjenbhaa.letterTells
