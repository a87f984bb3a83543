/- Texts joined by the program and by the reference are the same. Conditions: none beyond what every reading of the arguments gives. -/
import Derived.Test.YthnkfaddjenbhaaLetA
import Derived.Test.YthnkfaddjenbhaaLetM
import Derived.Test.YthnkfaddjenbhaaLaw
namespace Go.Proofs.Ythnkfaddjenbhaa.letterJoins
open Go.ChangeShapes Go.WideShapes Go.ChangeAt Go.RowKit
open Go.ChangeMaps (open_string)
open LetP Byt LetW LetX LetY LetZ LetQ Strs LetV LetU LetS LetJ LetK LetL LetM

set_option maxRecDepth 100000 in
set_option maxHeartbeats 1000000 in
theorem walk {w : World} (v : Value) (hv : (∃ a cap, v = .slice a 0 cap) ∨ ∃ l, Reads w v l) (s : ByteArray) :
    Calls Try.prog 7 #[v, .string s] w fun e w' => e = .returned (.bool true) ∧ Below w.heap.size w w' := by
  obtain ⟨sp, rfl⟩ : ∃ sp, s = str sp := ⟨_, str_back s⟩
  rcases hv with ⟨a, cap, rfl⟩ | ⟨l, hr⟩
  · by_cases hz : 300 < (str sp).size
    · go_enter Try.func7, Try.ntmps7
      go_wp2_with (first | ((go_at_call 25; with_reducible refine (few_r0 a cap _).mono ?_); rintro e w1 ⟨rfl, rfl⟩) | (go_at_call 8; go_call (LetA.awake _) as e w9 ⟨rfl, hb9⟩))
      go_ret
      exact ⟨rfl, hb9⟩
    · go_enter Try.func7, Try.ntmps7
      go_wp2_with (first | ((go_at_call 25; with_reducible refine (few_r0 a cap _).mono ?_); rintro e w1 ⟨rfl, rfl⟩) | ((go_at_call 24; with_reducible refine (join_i0 a cap _ _).mono ?_); rintro e w2 ⟨rfl, hb2⟩) | ((go_at_call 26; with_reducible refine (join_r0 a cap _ _).mono ?_); rintro e w3 ⟨rfl, rfl⟩) | (go_at_call 8; go_call (LetA.awake _) as e w9 ⟨rfl, hb9⟩))
      go_ret
      exact ⟨rfl, Byt.join hb2 hb9⟩
  · have HR := Lib.hid hr
    by_cases hfew : few l = true
    · have HF := Lib.hid hfew
      have hb := of_decide_eq_true hfew
      by_cases hz : 300 < (str sp).size
      · clear hfew hb
        go_enter Try.func7, Try.ntmps7
        go_wp2_with (first | (((go_at_call 25; with_reducible refine (few_r v l _ HR.out).mono ?_); rintro e w1 ⟨rfl, rfl⟩); rw [HF.out]) | (go_at_call 8; go_call (LetA.awake _) as e w9 ⟨rfl, hb9⟩))
        go_ret
        exact ⟨rfl, hb9⟩
      · have hsl : sp.length ≤ 300 := by have := LetK.size_str sp; omega
        have hbig : l.flatten.length + l.length * sp.length ≤ 1099511627776 := by
          have : l.length * sp.length ≤ 300 * 300 := Nat.mul_le_mul hb.1 hsl
          omega
        have HB := Lib.hid hbig
        have HS := Lib.hid (show sp.length ≤ 1048576 by omega)
        clear hfew hb hbig hsl
        go_enter Try.func7, Try.ntmps7
        go_wp2_with (first | (((go_at_call 25; with_reducible refine (few_r v l _ HR.out).mono ?_); rintro e w1 ⟨rfl, rfl⟩); rw [HF.out]) | (((go_at_call 24; with_reducible refine (join_i v l sp _ HR.out HB.out).mono ?_); rintro e w2 ⟨rfl, hb2⟩); have HR2 := Lib.hid (HR.out.below hb2)) | ((go_at_call 26; with_reducible refine (join_r sp HS.out _ v l _ (Nat.le_refl _) HR2.out HB.out).mono ?_); rintro e w3 ⟨rfl, q, rfl⟩) | (go_at_call 8; go_call (LetA.awake _) as e w9 ⟨rfl, hb9⟩))
        go_ret
        exact ⟨rfl, Byt.join (belowN hb2 q) hb9⟩
    · have HF := Lib.hid (show few l = false by simpa using hfew)
      clear hfew
      go_enter Try.func7, Try.ntmps7
      go_wp2_with (first | (((go_at_call 25; with_reducible refine (few_r v l _ HR.out).mono ?_); rintro e w1 ⟨rfl, rfl⟩); rw [HF.out]) | (go_at_call 8; go_call (LetA.awake _) as e w9 ⟨rfl, hb9⟩))
      go_ret
      exact ⟨rfl, hb9⟩

theorem own : ownKnob Try.prog.godebug = none := by kernel_rfl

set_option maxRecDepth 100000 in
theorem lifted (os : Os) (started : os.Started) (H : Type) (enc : TypeId × Value → H) :
    ReturnsInHanded {} Try.checked os 7 .any (Rows.letterJoinsSpec.pre6 enc Try.prog Try.f7 Rows.letterJoinsRow.domain false) (Rows.letterJoinsSpec.post enc Try.prog Try.f7 false true false false) := by
  refine returnsInHanded_of_change (C := Try.checked) own started (by kernel_rfl) Try.func7
    (ChangeSpec.witness6 (enc := enc) (C := Try.checked) false ⟨#[], #[.slice none 0 0, .string ⟨#[]⟩], []⟩ 8 (by kernel_rfl) (by kernel_rfl) (by kernel_rfl) (by kernel_rfl)) ?_
  intro W base args ds gs before hval0 hW hcnd _
  have hval : ∀ (j : Nat) t v, Try.f7.params[j]? = some t → args[j]? = some v → Value.okWide Try.prog W .any base t v := hval0
  have hW' := hW
  obtain ⟨p, q, hA0, hV, rfl, hfz, hnd⟩ := hW
  have hA : DataW.TrodAll enc Try.prog W 0 (fun _ => true) true Try.f7.params.toList args.toList ds p := hA0
  rw [Try.params7] at hA hval
  obtain ⟨v0, vs0, d0, ds0, p0, q0, hargs, rfl, rfl, h0, r0⟩ := trodAll_cons hA
  obtain ⟨v1, vs1, d1, ds1, p1, q1, rfl, rfl, rfl, h1, r1⟩ := trodAll_cons r0
  obtain ⟨rfl, rfl, rfl⟩ := trodAll_nil r1
  obtain rfl : args = #[v0, v1] := by cases args; simp_all
  clear hV
  have o0 := LetM.open_strs (hval 0 25 v0 rfl rfl) h0
  obtain ⟨s1, rfl, rfl, rfl, hs1⟩ := open_string Try.underlying9 (hval 1 9 v1 rfl rfl) h1
  clear hA0 hval0
  refine (walk (w := W) v0 o0 s1).mono fun e W' ⟨he, hg⟩ => ?_
  subst he
  exact ⟨_, rfl, Law.post (by kernel_rfl) (by kernel_rfl) Try.underlying4 rfl rfl hW' hg ⟨rfl, rfl, rfl⟩⟩

theorem over : Rows.letterJoinsRow.holds Try.pinned (OpenSpec.ofChange Rows.letterJoinsSpec) :=
  OpenClaim.holds_of_wide 7 Try.f7 rfl rfl rfl rfl rfl rfl rfl ⟨rfl, rfl, rfl, rfl, rfl⟩ rfl rfl rfl rfl rfl (by kernel_rfl) Try.func7 (by kernel_rfl)
    (of_decide_eq_true (by kernel_rfl)) (by unfold Func.isWrapper; first | (rw [if_pos (by decide +kernel)]; kernel_rfl) | (rw [if_neg (by decide +kernel)]; exact ⟨rfl, rfl⟩))
    (fun os started H enc _ => lifted os started H enc)

/-- The statement. -/
theorem proved : Rows.LetterJoinsSaid := over
#print axioms proved
end Go.Proofs.Ythnkfaddjenbhaa.letterJoins
