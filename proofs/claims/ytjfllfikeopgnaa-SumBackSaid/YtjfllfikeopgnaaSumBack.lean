/- What was sealed is opened; what is opened, sealed again, is the same. Conditions: none beyond what every reading of the arguments gives. -/
import Derived.Test.YtjfllfikeopgnaaSumD
namespace Go.Proofs.Ytjfllfikeopgnaa.sumBack
open Go.ChangeShapes Go.WideShapes Go.ChangeAt Go.RowKit
open SumP Sq SumW SumX SumY SumZ SumO SumA SumD

set_option maxRecDepth 100000 in
set_option maxHeartbeats 1000000 in
theorem walk {w : World} (v : Value) (l : List UInt8) (hv : Rv encB w v l) :
    Calls Try.prog 5 #[v] w fun e w' => e = .returned (.bool true) ∧ Below w.heap.size w w' := by
  obtain ⟨A, n, c, rfl, hnc, hcm, hr⟩ := hv
  unfold maxLen at hcm
  by_cases hbig : 2000 < n
  · go_enter Try.func5, Try.ntmps5
    go_wp2_with (go_at_call 9; refine (SumA.awake _).mono ?_; rintro e w9 ⟨rfl, hb9⟩)
    go_ret
    exact ⟨rfl, hb9⟩
  · have R := Lib.hid hr
    have L := Lib.hid hr.1
    clear hr
    go_enter Try.func5, Try.ntmps5
    go_wp2_with fail
    refine (seal_i A n c l _ R.out (by omega)).mono ?_
    rintro e w1 ⟨v1, rfl, hown1, hb1⟩
    obtain ⟨A1, c1, rfl, hl1, _⟩ := hown1.shape
    have R1 := Lib.hid hown1.rd
    have HL1 := Lib.hid (show (shut l).length = n + 4 by rw [shut_len, ← L.out])
    rw [HL1.out] at R1 hl1 ⊢
    have RA := Lib.hid (R.out.below hb1)
    clear hown1
    go_wp2_with fail
    refine (open_i A1 (n + 4) c1 (shut l) _ R1.out (by omega) hl1).mono ?_
    rintro e w2 ⟨v2, rfl, hown2, hb2⟩
    obtain ⟨A2, c2, rfl, _, _⟩ := hown2.shape
    have R2 := Lib.hid hown2.rd
    have HO := Lib.hid (show opened (shut l) = l by unfold opened; rw [good_shut, if_pos rfl, body_shut])
    have HE := Lib.hid (show oerr (shut l) = 0 by unfold oerr; rw [good_shut, if_pos rfl, if_neg (by rw [shut_len]; omega)])
    rw [HO.out] at R2 ⊢
    rw [HE.out]
    rw [← L.out] at R2 ⊢
    have RB := Lib.hid (RA.out.below hb2)
    have hc1 := conv_str c2 R2.out
    have hc2 := conv_str c RB.out
    clear hown2
    go_wp2_with fail
    refine (open_i A n c l _ RB.out (by omega) hnc).mono ?_
    rintro e w3 ⟨v3, rfl, hown3, hb3⟩
    obtain ⟨A3, c3, rfl, _, _⟩ := hown3.shape
    have R3 := Lib.hid hown3.rd
    have RC := Lib.hid (RB.out.below hb3)
    clear hown3 hc1 hc2
    have HB := Lib.hid (Sq.join (Sq.join hb1 hb2) hb3)
    by_cases hg : good l = true
    · have h4 : 4 ≤ l.length := (of_decide_eq_true hg).1
      have HE3 := Lib.hid (show oerr l = 0 by unfold oerr; rw [if_neg (by omega), if_pos hg])
      have HS := Lib.hid (show shut (opened l) = l by unfold opened; rw [if_pos hg]; exact (of_decide_eq_true hg).2)
      have HLO := Lib.hid (show (opened l).length ≤ 1000000 by unfold opened; rw [if_pos hg, body_len]; have := L.out; omega)
      obtain ⟨m, hm⟩ : ∃ m, (opened l).length = m := ⟨_, rfl⟩
      rw [hm] at R3 HLO ⊢
      rw [HE3.out]
      clear hm hg h4
      go_wp2_with fail
      refine wp_region_held_drew (S := (fun w' => Rd encB w' A3 m (opened l) ∧ Rd encB w' A n l)) (by kernel_rfl) ⟨R3.out, RC.out⟩ (fun hHeld => ?_)
      refine Rg.take (i := 0) (t := 32) rfl rfl (by kernel_rfl) (by kernel_rfl) (by kernel_rfl) (fun _ _ _ h => h) (by rfl) (by intro w0 hSw; first | (go_simp; done) | (go_simp; with_reducible rfl)) (by assumption) ?_
      simp only [List.setIfInBounds_toArray, List.set_cons_zero, List.set_cons_succ]
      refine Rg.take (i := 1) (t := 33) rfl rfl (by kernel_rfl) (by kernel_rfl) (by kernel_rfl) (fun _ _ _ h => h) (by rfl) (by intro w0 hSw; first | (go_simp; done) | (go_simp; with_reducible rfl)) (by assumption) ?_
      simp only [List.setIfInBounds_toArray, List.set_cons_zero, List.set_cons_succ]
      refine Rg.take (i := 2) (t := 34) rfl rfl (by kernel_rfl) (by kernel_rfl) (by kernel_rfl) (fun _ _ _ h => h) (by rfl) (by intro w0 hSw; first | (go_simp; done) | (go_simp; with_reducible rfl)) (by assumption) ?_
      simp only [List.setIfInBounds_toArray, List.set_cons_zero, List.set_cons_succ]
      refine Rg.take (i := 3) (t := 35) rfl rfl (by kernel_rfl) (by kernel_rfl) (by kernel_rfl) (fun _ _ _ h => h) (by rfl) (by intro w0 hSw; first | (go_simp; done) | (go_simp; with_reducible rfl)) (by assumption) ?_
      simp only [List.setIfInBounds_toArray, List.set_cons_zero, List.set_cons_succ]
      refine Rg.take (i := 6) (t := 38) rfl rfl (by kernel_rfl) (by kernel_rfl) (by kernel_rfl) (fun _ _ _ h => h) (by rfl) (by intro w0 hSw; first | (go_simp; done) | (go_simp; with_reducible rfl)) (by assumption) ?_
      simp only [List.setIfInBounds_toArray, List.set_cons_zero, List.set_cons_succ]
      refine Rg.take (i := 7) (t := 39) rfl rfl (by kernel_rfl) (by kernel_rfl) (by kernel_rfl) (fun _ _ _ h => h) (by rfl) (by intro w0 hSw; have hc := conv_str c hSw.2; first | (go_simp; done) | (go_simp; with_reducible rfl)) (by assumption) ?_
      simp only [List.setIfInBounds_toArray, List.set_cons_zero, List.set_cons_succ]
      refine Rg.one (i := 4) (by kernel_rfl) ?_
      refine Rg.call (i := 4) (t := 36) rfl rfl (by rfl) (by go_simp; exact ⟨rfl, rfl⟩) ?_
      refine (seal_i A3 m c3 (opened l) _ hHeld.1 HLO.out).mono ?_
      rintro e w4 ⟨v4, rfl, hown4, hb4⟩
      obtain ⟨A4, c4, rfl, _, _⟩ := hown4.shape
      have R4 := hown4.rd
      rw [HS.out, ← L.out] at R4 ⊢
      clear hown4
      have hH2 := hHeld.1.below hb4
      have hH3 := hHeld.2.below hb4
      have hAll := And.intro (And.intro hH2 hH3) R4
      refine ⟨_, rfl, fun w' => (Rd encB w' A3 m (opened l) ∧ Rd encB w' A n l) ∧ Rd encB w' A4 n l, (fun _ h => h.1), hAll, ?_⟩
      simp only [List.setIfInBounds_toArray, List.set_cons_zero, List.set_cons_succ]
      refine Rg.take (i := 5) (t := 37) rfl rfl (by kernel_rfl) (by kernel_rfl) (by kernel_rfl) (fun _ _ _ h => h) (by rfl) (by intro w0 hSw; have hc := conv_str c4 hSw.2; first | (go_simp; done) | (go_simp; with_reducible rfl)) (by assumption) ?_
      simp only [List.setIfInBounds_toArray, List.set_cons_zero, List.set_cons_succ]
      refine Rg.take (i := 8) (t := 40) rfl rfl (by kernel_rfl) (by kernel_rfl) (by kernel_rfl) (fun _ _ _ h => h) (by rfl) (by intro w0 hSw; first | (go_simp; done) | (go_simp; with_reducible rfl)) (by assumption) ?_
      simp only [List.setIfInBounds_toArray, List.set_cons_zero, List.set_cons_succ]
      refine Rg.take (i := 9) (t := 41) rfl rfl (by kernel_rfl) (by kernel_rfl) (by kernel_rfl) (fun _ _ _ h => h) (by rfl) (by intro w0 hSw; first | (go_simp; done) | (go_simp; with_reducible rfl)) (by assumption) ?_
      simp only [List.setIfInBounds_toArray, List.set_cons_zero, List.set_cons_succ]
      refine Rg.take (i := 10) (t := 42) rfl rfl (by kernel_rfl) (by kernel_rfl) (by kernel_rfl) (fun _ _ _ h => h) (by rfl) (by intro w0 hSw; first | (go_simp; done) | (go_simp; with_reducible rfl)) (by assumption) ?_
      simp only [List.setIfInBounds_toArray, List.set_cons_zero, List.set_cons_succ]
      refine Rg.one (i := 11) (by kernel_rfl) ?_
      refine Rg.call (i := 11) (t := 43) rfl rfl (by rfl) (by go_simp; exact ⟨rfl, rfl⟩) ?_
      refine (SumA.awake _).mono ?_
      rintro e w9 ⟨rfl, hb9⟩
      have hAll9 := And.intro (And.intro (hAll.1.1.below hb9) (hAll.1.2.below hb9)) (hAll.2.below hb9)
      refine ⟨_, rfl, fun w' => (Rd encB w' A3 m (opened l) ∧ Rd encB w' A n l) ∧ Rd encB w' A4 n l, (fun _ h => h), hAll9, ?_⟩
      simp only [List.setIfInBounds_toArray, List.set_cons_zero, List.set_cons_succ]
      refine Rg.take (i := 12) (t := 44) rfl rfl (by kernel_rfl) (by kernel_rfl) (by kernel_rfl) (fun _ _ _ h => h) (by rfl) (by intro w0 hSw; first | (go_simp; done) | (go_simp; with_reducible rfl)) (by assumption) ?_
      simp only [List.setIfInBounds_toArray, List.set_cons_zero, List.set_cons_succ]
      refine Rg.take (i := 13) (t := 2) rfl rfl (by kernel_rfl) (by kernel_rfl) (by kernel_rfl) (fun _ _ _ h => h) (by rfl) (by intro w0 hSw; first | (go_simp; done) | (go_simp; with_reducible rfl)) (by assumption) ?_
      simp only [List.setIfInBounds_toArray, List.set_cons_zero, List.set_cons_succ]
      refine wpAnyH_done (by kernel_rfl) ?_ _
      go_wp2_with fail
      go_ret
      exact ⟨rfl, Sq.join (Sq.join (Sq.join HB.out (Below.refl _ _).drew) hb4) hb9⟩
    · have HE3 := Lib.hid (show oerr l ≠ 0 by unfold oerr; rw [if_neg hg]; split <;> omega)
      have hne : ((oerr l) != 0) = true := by rw [bne_iff_ne]; exact HE3.out
      obtain ⟨er, her⟩ : ∃ er, oerr l = er := ⟨_, rfl⟩
      rw [her] at hne ⊢
      clear her hg
      go_wp2_with fail
      refine wp_region_held_drew (S := (fun w' => Rd encB w' A n l)) (by kernel_rfl) RC.out (fun hHeld => ?_)
      refine Rg.take (i := 0) (t := 32) rfl rfl (by kernel_rfl) (by kernel_rfl) (by kernel_rfl) (fun _ _ _ h => h) (by rfl) (by intro w0 hSw; first | (go_simp; done) | (go_simp; with_reducible rfl)) (by assumption) ?_
      simp only [List.setIfInBounds_toArray, List.set_cons_zero, List.set_cons_succ]
      refine Rg.take (i := 1) (t := 33) rfl rfl (by kernel_rfl) (by kernel_rfl) (by kernel_rfl) (fun _ _ _ h => h) (by rfl) (by intro w0 hSw; first | (go_simp; done) | (go_simp; with_reducible rfl)) (by assumption) ?_
      simp only [List.setIfInBounds_toArray, List.set_cons_zero, List.set_cons_succ]
      refine Rg.take (i := 2) (t := 34) rfl rfl (by kernel_rfl) (by kernel_rfl) (by kernel_rfl) (fun _ _ _ h => h) (by rfl) (by intro w0 hSw; first | (go_simp; done) | (go_simp; with_reducible rfl)) (by assumption) ?_
      simp only [List.setIfInBounds_toArray, List.set_cons_zero, List.set_cons_succ]
      refine Rg.pass (i := 3) (t := 35) rfl rfl (by kernel_rfl) (by kernel_rfl) (by kernel_rfl) (fun _ _ _ h => h) (by rfl) (by assumption) ?_
      simp only [List.setIfInBounds_toArray, List.set_cons_zero, List.set_cons_succ]
      refine Rg.pass (i := 4) (t := 36) rfl rfl (by kernel_rfl) (by kernel_rfl) (by kernel_rfl) (fun _ _ _ h => h) (by rfl) (by assumption) ?_
      simp only [List.setIfInBounds_toArray, List.set_cons_zero, List.set_cons_succ]
      refine Rg.pass (i := 5) (t := 37) rfl rfl (by kernel_rfl) (by kernel_rfl) (by kernel_rfl) (fun _ _ _ h => h) (by rfl) (by assumption) ?_
      simp only [List.setIfInBounds_toArray, List.set_cons_zero, List.set_cons_succ]
      refine Rg.pass (i := 6) (t := 38) rfl rfl (by kernel_rfl) (by kernel_rfl) (by kernel_rfl) (fun _ _ _ h => h) (by rfl) (by assumption) ?_
      simp only [List.setIfInBounds_toArray, List.set_cons_zero, List.set_cons_succ]
      refine Rg.pass (i := 7) (t := 39) rfl rfl (by kernel_rfl) (by kernel_rfl) (by kernel_rfl) (fun _ _ _ h => h) (by rfl) (by assumption) ?_
      simp only [List.setIfInBounds_toArray, List.set_cons_zero, List.set_cons_succ]
      refine Rg.pass (i := 8) (t := 40) rfl rfl (by kernel_rfl) (by kernel_rfl) (by kernel_rfl) (fun _ _ _ h => h) (by rfl) (by assumption) ?_
      simp only [List.setIfInBounds_toArray, List.set_cons_zero, List.set_cons_succ]
      refine Rg.take (i := 9) (t := 41) rfl rfl (by kernel_rfl) (by kernel_rfl) (by kernel_rfl) (fun _ _ _ h => h) (by rfl) (by intro w0 hSw; first | (go_simp; done) | (go_simp; with_reducible rfl)) (by assumption) ?_
      simp only [List.setIfInBounds_toArray, List.set_cons_zero, List.set_cons_succ]
      refine Rg.take (i := 10) (t := 42) rfl rfl (by kernel_rfl) (by kernel_rfl) (by kernel_rfl) (fun _ _ _ h => h) (by rfl) (by intro w0 hSw; first | (go_simp; done) | (go_simp; with_reducible rfl)) (by assumption) ?_
      simp only [List.setIfInBounds_toArray, List.set_cons_zero, List.set_cons_succ]
      refine Rg.one (i := 11) (by kernel_rfl) ?_
      refine Rg.call (i := 11) (t := 43) rfl rfl (by rfl) (by go_simp; exact ⟨rfl, rfl⟩) ?_
      refine (SumA.awake _).mono ?_
      rintro e w9 ⟨rfl, hb9⟩
      have hH9 := hHeld.below hb9
      refine ⟨_, rfl, fun w' => Rd encB w' A n l, (fun _ h => h), hH9, ?_⟩
      simp only [List.setIfInBounds_toArray, List.set_cons_zero, List.set_cons_succ]
      refine Rg.take (i := 12) (t := 44) rfl rfl (by kernel_rfl) (by kernel_rfl) (by kernel_rfl) (fun _ _ _ h => h) (by rfl) (by intro w0 hSw; first | (go_simp; done) | (go_simp; with_reducible rfl)) (by assumption) ?_
      simp only [List.setIfInBounds_toArray, List.set_cons_zero, List.set_cons_succ]
      refine Rg.take (i := 13) (t := 2) rfl rfl (by kernel_rfl) (by kernel_rfl) (by kernel_rfl) (fun _ _ _ h => h) (by rfl) (by intro w0 hSw; first | (go_simp; done) | (go_simp; with_reducible rfl)) (by assumption) ?_
      simp only [List.setIfInBounds_toArray, List.set_cons_zero, List.set_cons_succ]
      refine wpAnyH_done (by kernel_rfl) ?_ _
      go_wp2_with fail
      go_ret
      exact ⟨rfl, Sq.join (Sq.join HB.out (Below.refl _ _).drew) hb9⟩

theorem own : ownKnob Try.prog.godebug = none := by kernel_rfl

set_option maxRecDepth 100000 in
theorem lifted (os : Os) (started : os.Started) (H : Type) (enc : TypeId × Value → H) :
    ReturnsInHanded {} Try.checked os 5 .any (Rows.sumBackSpec.pre6 enc Try.prog Try.f5 Rows.sumBackRow.domain false) (Rows.sumBackSpec.post enc Try.prog Try.f5 false true false false) := by
  refine returnsInHanded_of_change (C := Try.checked) own started (by kernel_rfl) Try.func5
    (ChangeSpec.witness6 (enc := enc) (C := Try.checked) false ⟨#[], #[.slice none 0 0], []⟩ 8 (by kernel_rfl) (by kernel_rfl) (by kernel_rfl) (by kernel_rfl)) ?_
  intro W base args ds gs before hval0 hW hcnd _
  have hval : ∀ (j : Nat) t v, Try.f5.params[j]? = some t → args[j]? = some v → Value.okWide Try.prog W .any base t v := hval0
  have hW' := hW
  obtain ⟨p, q, hA0, hV, rfl, hfz, hnd⟩ := hW
  have hA : DataW.TrodAll enc Try.prog W 0 (fun _ => true) true Try.f5.params.toList args.toList ds p := hA0
  rw [Try.params5] at hA hval
  obtain ⟨v0, vs0, d0, ds0, p0, q0, hargs, rfl, rfl, h0, r0⟩ := trodAll_cons hA
  obtain ⟨rfl, rfl, rfl⟩ := trodAll_nil r0
  obtain rfl : args = #[v0] := by cases args; simp_all
  clear hV
  obtain ⟨l0, o0⟩ := SumD.open_bytes (hval 0 22 v0 rfl rfl) h0
  clear hA0 hval0
  refine (walk (w := W) v0 l0 o0).mono fun e W' ⟨he, hg⟩ => ?_
  subst he
  exact ⟨_, rfl, Law.post (by kernel_rfl) (by kernel_rfl) Try.underlying4 rfl rfl hW' hg ⟨rfl, rfl, rfl⟩⟩

theorem over : Rows.sumBackRow.holds Try.pinned (OpenSpec.ofChange Rows.sumBackSpec) :=
  OpenClaim.holds_of_wide 5 Try.f5 rfl rfl rfl rfl rfl rfl rfl ⟨rfl, rfl, rfl, rfl, rfl⟩ rfl rfl rfl rfl rfl (by kernel_rfl) Try.func5 (by kernel_rfl)
    (of_decide_eq_true (by kernel_rfl)) (by unfold Func.isWrapper; first | (rw [if_pos (by decide +kernel)]; kernel_rfl) | (rw [if_neg (by decide +kernel)]; exact ⟨rfl, rfl⟩))
    (fun os started H enc _ => lifted os started H enc)

/-- The statement. -/
theorem proved : Rows.SumBackSaid := over
#print axioms proved
end Go.Proofs.Ytjfllfikeopgnaa.sumBack
