/- A sum goes on over what stands behind. Conditions: none beyond what every reading of the arguments gives. -/
import Derived.Test.YtjfllfikeopgnaaSumD
namespace Go.Proofs.Ytjfllfikeopgnaa.sumGoes
open Go.ChangeShapes Go.WideShapes Go.ChangeAt Go.RowKit
open SumP Sq SumW SumX SumY SumZ SumO SumA SumD

set_option maxRecDepth 100000 in
set_option maxHeartbeats 1000000 in
theorem walk {w : World} (v1 : Value) (l1 : List UInt8) (hv1 : Rv encB w v1 l1) (v2 : Value) (l2 : List UInt8) (hv2 : Rv encB w v2 l2) (a : Int) (wa : (Lit.int .u32 a).wf = true) :
    Calls Try.prog 7 #[v1, v2, .int .u32 a] w fun e w' => e = .returned (.bool true) ∧ Below w.heap.size w w' := by
  obtain ⟨A1, n1, c1, rfl, hnc1, hcm1, hr1⟩ := hv1
  obtain ⟨A2, n2, c2, rfl, hnc2, hcm2, hr2⟩ := hv2
  unfold maxLen at hcm1 hcm2
  obtain ⟨s, rfl, hs⟩ := u32_nat wa
  clear wa
  by_cases hbig : 1000 < n1
  · have t0 : decide ((1000 : Int) < (n1 : Int)) = true := by simp; omega
    go_enter Try.func7, Try.ntmps7
    go_wp2_with (go_at_call 9; refine (SumA.awake _).mono ?_; rintro e w9 ⟨rfl, hb9⟩)
    go_ret
    exact ⟨rfl, hb9⟩
  · have t0 : decide ((1000 : Int) < (n1 : Int)) = false := by simp; omega
    by_cases hbig2 : 1000 < n2
    · have t1 : decide ((1000 : Int) < (n2 : Int)) = true := by simp; omega
      go_enter Try.func7, Try.ntmps7
      go_wp2_with (go_at_call 9; refine (SumA.awake _).mono ?_; rintro e w9 ⟨rfl, hb9⟩)
      go_ret
      exact ⟨rfl, hb9⟩
    · have t1 : decide ((1000 : Int) < (n2 : Int)) = false := by simp; omega
      have R1 := Lib.hid hr1
      have R2 := Lib.hid hr2
      have L1 := Lib.hid hr1.1
      have L2 := Lib.hid hr2.1
      have h0 := Lib.hid (own_nil (enc := encB) (E := EB) w w.heap.size)
      clear hr1 hr2
      go_enter Try.func7, Try.ntmps7
      go_wp2_with (first
        | (at_builtin; refine wpList_append elB rfl (.const (.slice none 0 0)) (.tmp 17) rfl rfl h0.out A1 n1 c1 l1 rfl R1.out (by simp [maxLen]; omega) (by simp; omega) (Nat.le_refl _) ?_; rintro x1 w1 hown1 hb1 hg1 ho1; rw [List.nil_append] at hown1; have HO1 := Lib.hid hown1; have R2a := Lib.hid (R2.out.below hb1); clear hown1 hg1 ho1)
        | (at_builtin; refine wpList_append elB rfl (.tmp 18) (.tmp 19) rfl rfl HO1.out A2 n2 c2 l2 rfl R2a.out (by rw [← L1.out]; simp [maxLen]; omega) (by rw [← L1.out]; omega) hb1.size ?_; rintro x2 w2 hown2 hb2 hg2 ho2; have HO2 := Lib.hid hown2; clear hown2 hg2 ho2))
      have hbb := hb1.trans hb2
      have R1b := Lib.hid (R1.out.below hbb)
      have R2b := Lib.hid (R2.out.below hbb)
      obtain ⟨A3, c3, rfl, _, _⟩ := HO2.out.shape
      have R3 := Lib.hid HO2.out.rd
      have HL3 := Lib.hid (show (l1 ++ l2).length ≤ 2000 by rw [List.length_append, ← L1.out, ← L2.out]; omega)
      obtain ⟨n3, hn3⟩ : ∃ n3, (l1 ++ l2).length = n3 := ⟨_, rfl⟩
      rw [hn3] at R3 HL3 ⊢
      clear HO2 HO1 hn3
      have hn3 := HL3.out
      go_wp2_with fail
      refine (of_i A1 n1 c1 l1 _ R1b.out (by unfold maxLen; omega)).mono ?_
      rintro e w3 ⟨rfl, hb3⟩
      have R2c := Lib.hid (R2b.out.below hb3)
      have R1c := Lib.hid (R1b.out.below hb3)
      have R3c := Lib.hid (R3.out.below hb3)
      go_wp2_with fail
      refine (on_i (on 0 l1) (by have := on_le l1; omega) A2 n2 c2 l2 _ R2c.out (by unfold maxLen; omega)).mono ?_
      rintro e w4 ⟨rfl, hb4⟩
      rw [on_append]
      have R2d := Lib.hid (R2c.out.below hb4)
      have R1d := Lib.hid (R1c.out.below hb4)
      have R3d := Lib.hid (R3c.out.below hb4)
      go_wp2_with fail
      refine (of_i A3 n3 c3 (l1 ++ l2) _ R3d.out (by unfold maxLen; omega)).mono ?_
      rintro e w5 ⟨rfl, hb5⟩
      have R2e := Lib.hid (R2d.out.below hb5)
      have R1e := Lib.hid (R1d.out.below hb5)
      have R3e := Lib.hid (R3d.out.below hb5)
      go_wp2_with fail
      refine (on_i s hs A1 n1 c1 l1 _ R1e.out (by unfold maxLen; omega)).mono ?_
      rintro e w6 ⟨rfl, hb6⟩
      have R2f := Lib.hid (R2e.out.below hb6)
      have R3f := Lib.hid (R3e.out.below hb6)
      have hsl := on_lt l1 hs
      go_wp2_with fail
      refine (on_i (on s l1) hsl A2 n2 c2 l2 _ R2f.out (by unfold maxLen; omega)).mono ?_
      rintro e w7 ⟨rfl, hb7⟩
      rw [on_append]
      have R3g := Lib.hid (R3f.out.below hb7)
      go_wp2_with fail
      refine (on_i s hs A3 n3 c3 (l1 ++ l2) _ R3g.out (by unfold maxLen; omega)).mono ?_
      rintro e w8 ⟨rfl, hb8⟩
      go_wp2_with fail
      refine (on_i s hs none 0 0 [] _ (Rd.nil _ _) (by unfold maxLen; omega)).mono ?_
      rintro e w10 ⟨rfl, hb10⟩
      rw [on_nil]
      go_wp2_with (go_at_call 9; refine (SumA.awake _).mono ?_; rintro e w9 ⟨rfl, hb9⟩)
      go_ret
      exact ⟨rfl, Sq.join (Sq.join (Sq.join (Sq.join (Sq.join (Sq.join (Sq.join (Sq.join hbb hb3) hb4) hb5) hb6) hb7) hb8) hb10) hb9⟩

theorem own : ownKnob Try.prog.godebug = none := by kernel_rfl

set_option maxRecDepth 100000 in
theorem lifted (os : Os) (started : os.Started) (H : Type) (enc : TypeId × Value → H) :
    ReturnsInHanded {} Try.checked os 7 .any (Rows.sumGoesSpec.pre6 enc Try.prog Try.f7 Rows.sumGoesRow.domain false) (Rows.sumGoesSpec.post enc Try.prog Try.f7 false true false false) := by
  refine returnsInHanded_of_change (C := Try.checked) own started (by kernel_rfl) Try.func7
    (ChangeSpec.witness6 (enc := enc) (C := Try.checked) false ⟨#[], #[.slice none 0 0, .slice none 0 0, .int .u32 0], []⟩ 8 (by kernel_rfl) (by kernel_rfl) (by kernel_rfl) (by kernel_rfl)) ?_
  intro W base args ds gs before hval0 hW hcnd _
  have hval : ∀ (j : Nat) t v, Try.f7.params[j]? = some t → args[j]? = some v → Value.okWide Try.prog W .any base t v := hval0
  have hW' := hW
  obtain ⟨p, q, hA0, hV, rfl, hfz, hnd⟩ := hW
  have hA : DataW.TrodAll enc Try.prog W 0 (fun _ => true) true Try.f7.params.toList args.toList ds p := hA0
  rw [Try.params7] at hA hval
  obtain ⟨v0, vs0, d0, ds0, p0, q0, hargs, rfl, rfl, h0, r0⟩ := trodAll_cons hA
  obtain ⟨v1, vs1, d1, ds1, p1, q1, rfl, rfl, rfl, h1, r1⟩ := trodAll_cons r0
  obtain ⟨v2, vs2, d2, ds2, p2, q2, rfl, rfl, rfl, h2, r2⟩ := trodAll_cons r1
  obtain ⟨rfl, rfl, rfl⟩ := trodAll_nil r2
  obtain rfl : args = #[v0, v1, v2] := by cases args; simp_all
  clear hV
  obtain ⟨l0, o0⟩ := SumD.open_bytes (hval 0 22 v0 rfl rfl) h0
  obtain ⟨l1, o1⟩ := SumD.open_bytes (hval 1 22 v1 rfl rfl) h1
  obtain ⟨a2, rfl, rfl, rfl, w2⟩ := open_int Try.underlying23 (hval 2 23 v2 rfl rfl) h2
  clear hA0 hval0
  refine (walk (w := W) v0 l0 o0 v1 l1 o1 a2 w2).mono fun e W' ⟨he, hg⟩ => ?_
  subst he
  exact ⟨_, rfl, Law.post (by kernel_rfl) (by kernel_rfl) Try.underlying4 rfl rfl hW' hg ⟨rfl, rfl, rfl⟩⟩

theorem over : Rows.sumGoesRow.holds Try.pinned (OpenSpec.ofChange Rows.sumGoesSpec) :=
  OpenClaim.holds_of_wide 7 Try.f7 rfl rfl rfl rfl rfl rfl rfl ⟨rfl, rfl, rfl, rfl, rfl⟩ rfl rfl rfl rfl rfl (by kernel_rfl) Try.func7 (by kernel_rfl)
    (of_decide_eq_true (by kernel_rfl)) (by unfold Func.isWrapper; first | (rw [if_pos (by decide +kernel)]; kernel_rfl) | (rw [if_neg (by decide +kernel)]; exact ⟨rfl, rfl⟩))
    (fun os started H enc _ => lifted os started H enc)

/-- The statement. -/
theorem proved : Rows.SumGoesSaid := over
#print axioms proved
end Go.Proofs.Ytjfllfikeopgnaa.sumGoes
