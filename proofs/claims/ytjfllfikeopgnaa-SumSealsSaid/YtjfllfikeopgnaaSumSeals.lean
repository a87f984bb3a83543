/- Any bytes are sealed, and opened, as the document says, and stay as they are. Conditions: none beyond what every reading of the arguments gives. -/
import Derived.Test.YtjfllfikeopgnaaSumD
namespace Go.Proofs.Ytjfllfikeopgnaa.sumSeals
open Go.ChangeShapes Go.WideShapes Go.ChangeAt Go.RowKit
open SumP Sq SumW SumX SumY SumZ SumO SumA SumD

set_option maxRecDepth 100000 in
set_option maxHeartbeats 1000000 in
theorem walk {w : World} (v : Value) (l : List UInt8) (hv : Rv encB w v l) :
    Calls Try.prog 4 #[v] w fun e w' => e = .returned (.bool true) ∧ Below w.heap.size w w' := by
  obtain ⟨A, n, c, rfl, hnc, hcm, hr⟩ := hv
  unfold maxLen at hcm
  by_cases hbig : 2000 < n
  · go_enter Try.func4, Try.ntmps4
    go_wp2_with (go_at_call 9; refine (SumA.awake _).mono ?_; rintro e w9 ⟨rfl, hb9⟩)
    go_ret
    exact ⟨rfl, hb9⟩
  · have R := Lib.hid hr
    have L := Lib.hid hr.1
    have h0 := Lib.hid (own_nil (enc := encB) (E := EB) w w.heap.size)
    have HMO := Lib.hid (show (opened l).length ≤ 2000 by have h1 := hr.1; have h2 := body_len l; unfold opened; by_cases hg : good l = true <;> simp only [hg] <;> simp <;> omega)
    clear hr
    go_enter Try.func4, Try.ntmps4
    go_wp2_with (at_builtin; refine wpList_append elB rfl _ _ rfl rfl h0.out A n c l rfl R.out (by simp [maxLen]; omega) (by simp; omega) (Nat.le_refl _) ?_; rintro x1 w1 hown1 hb1 hg1 ho1; rw [List.nil_append] at hown1; have HO1 := Lib.hid hown1; clear hown1 hg1 ho1; obtain ⟨A1, c1, rfl, hl1, _⟩ := HO1.out.shape; have R1 := Lib.hid HO1.out.rd; rw [← L.out] at R1 hl1 ⊢)
    have RA := Lib.hid (R.out.below hb1)
    refine (open_i A1 n c1 l _ R1.out (by omega) hl1).mono ?_
    rintro e w2 ⟨v2, rfl, hown2, hb2⟩
    obtain ⟨A2, c2, rfl, _, _⟩ := hown2.shape
    have R2 := Lib.hid hown2.rd
    have RB := Lib.hid (RA.out.below hb2)
    have R1b := Lib.hid (R1.out.below hb2)
    obtain ⟨m, hm⟩ : ∃ m, (opened l).length = m := ⟨_, rfl⟩
    rw [hm] at R2 HMO ⊢
    clear hown2
    obtain ⟨er, her⟩ : ∃ er, oerr l = er := ⟨_, rfl⟩
    rw [her]
    go_wp2_with fail
    refine (open_r A n c l _ RB.out (by omega) hnc).mono ?_
    rintro e w3 ⟨v3, rfl, hown3, hb3⟩
    obtain ⟨A3, c3, rfl, _, _⟩ := hown3.shape
    have R3 := hown3.rd
    rw [hm] at R3 ⊢
    rw [her]
    have HALL := Lib.hid (And.intro (RB.out.below hb3) (And.intro (R1b.out.below hb3) (And.intro (R2.out.below hb3) R3)))
    have HB := Lib.hid (Sq.join (Sq.join hb1 hb2) hb3)
    clear hown3 R3 hm her
    obtain ⟨k, hk⟩ : ∃ k, (shut l).length = k := ⟨_, rfl⟩
    have HK := Lib.hid hk
    clear hk
    go_wp2_with fail
    refine wp_region_held_drew (S := (fun w' => Rd encB w' A n l ∧ Rd encB w' A1 n l ∧ Rd encB w' A2 m (opened l) ∧ Rd encB w' A3 m (opened l))) (by kernel_rfl) HALL.out (fun hHeld => ?_)
    refine Rg.take (i := 0) (t := 24) rfl rfl (by kernel_rfl) (by kernel_rfl) (by kernel_rfl) (fun _ _ _ h => h) (by rfl) (by intro w0 hSw; first | (go_simp; done) | (go_simp; with_reducible rfl)) (by assumption) ?_
    simp only [List.setIfInBounds_toArray, List.set_cons_zero, List.set_cons_succ]
    refine Rg.take (i := 3) (t := 27) rfl rfl (by kernel_rfl) (by kernel_rfl) (by kernel_rfl) (fun _ _ _ h => h) (by rfl) (by intro w0 hSw; first | (go_simp; done) | (go_simp; with_reducible rfl)) (by assumption) ?_
    simp only [List.setIfInBounds_toArray, List.set_cons_zero, List.set_cons_succ]
    refine Rg.one (i := 1) (by kernel_rfl) ?_
    refine Rg.call (i := 1) (t := 25) rfl rfl (by rfl) (by go_simp; exact ⟨rfl, rfl⟩) ?_
    refine (seal_i A1 n c1 l _ hHeld.2.1 (by omega)).mono ?_
    rintro e w4 ⟨v4, rfl, hown4, hb4⟩
    obtain ⟨A4, c4, rfl, _, _⟩ := hown4.shape
    have R4 := hown4.rd
    rw [HK.out] at R4 ⊢
    clear hown4
    have hS1 : (fun w' => Rd encB w' A n l ∧ Rd encB w' A1 n l ∧ Rd encB w' A2 m (opened l) ∧ Rd encB w' A3 m (opened l) ∧ Rd encB w' A4 k (shut l)) w4 := ⟨hHeld.1.below hb4, hHeld.2.1.below hb4, hHeld.2.2.1.below hb4, hHeld.2.2.2.below hb4, R4⟩
    refine ⟨_, rfl, fun w' => Rd encB w' A n l ∧ Rd encB w' A1 n l ∧ Rd encB w' A2 m (opened l) ∧ Rd encB w' A3 m (opened l) ∧ Rd encB w' A4 k (shut l), (fun _ h => ⟨h.1, h.2.1, h.2.2.1, h.2.2.2.1⟩), hS1, ?_⟩
    simp only [List.setIfInBounds_toArray, List.set_cons_zero, List.set_cons_succ]
    refine Rg.take (i := 2) (t := 26) rfl rfl (by kernel_rfl) (by kernel_rfl) (by kernel_rfl) (fun _ _ _ h => h) (by rfl) (by intro w0 hSw; have hc := conv_str c4 hSw.2.2.2.2; first | (go_simp; done) | (go_simp; with_reducible rfl)) (by assumption) ?_
    simp only [List.setIfInBounds_toArray, List.set_cons_zero, List.set_cons_succ]
    refine Rg.one (i := 4) (by kernel_rfl) ?_
    refine Rg.call (i := 4) (t := 28) rfl rfl (by rfl) (by go_simp; exact ⟨rfl, rfl⟩) ?_
    refine (seal_r A n c l _ hS1.1 (by omega)).mono ?_
    rintro e w5 ⟨v5, rfl, hown5, hb5⟩
    obtain ⟨A5, c5, rfl, _, _⟩ := hown5.shape
    have R5 := hown5.rd
    rw [HK.out] at R5 ⊢
    clear hown5
    have hS2 : (fun w' => Rd encB w' A n l ∧ Rd encB w' A1 n l ∧ Rd encB w' A2 m (opened l) ∧ Rd encB w' A3 m (opened l) ∧ Rd encB w' A4 k (shut l) ∧ Rd encB w' A5 k (shut l)) w5 := ⟨hS1.1.below hb5, hS1.2.1.below hb5, hS1.2.2.1.below hb5, hS1.2.2.2.1.below hb5, hS1.2.2.2.2.below hb5, R5⟩
    refine ⟨_, rfl, fun w' => Rd encB w' A n l ∧ Rd encB w' A1 n l ∧ Rd encB w' A2 m (opened l) ∧ Rd encB w' A3 m (opened l) ∧ Rd encB w' A4 k (shut l) ∧ Rd encB w' A5 k (shut l), (fun _ h => ⟨h.1, h.2.1, h.2.2.1, h.2.2.2.1, h.2.2.2.2.1⟩), hS2, ?_⟩
    simp only [List.setIfInBounds_toArray, List.set_cons_zero, List.set_cons_succ]
    refine Rg.take (i := 5) (t := 29) rfl rfl (by kernel_rfl) (by kernel_rfl) (by kernel_rfl) (fun _ _ _ h => h) (by rfl) (by intro w0 hSw; have hc := conv_str c5 hSw.2.2.2.2.2; first | (go_simp; done) | (go_simp; with_reducible rfl)) (by assumption) ?_
    simp only [List.setIfInBounds_toArray, List.set_cons_zero, List.set_cons_succ]
    refine Rg.take (i := 6) (t := 30) rfl rfl (by kernel_rfl) (by kernel_rfl) (by kernel_rfl) (fun _ _ _ h => h) (by rfl) (by intro w0 hSw; first | (go_simp; done) | (go_simp; with_reducible rfl)) (by assumption) ?_
    simp only [List.setIfInBounds_toArray, List.set_cons_zero, List.set_cons_succ]
    refine Rg.take (i := 7) (t := 31) rfl rfl (by kernel_rfl) (by kernel_rfl) (by kernel_rfl) (fun _ _ _ h => h) (by rfl) (by intro w0 hSw; first | (go_simp; done) | (go_simp; with_reducible rfl)) (by assumption) ?_
    simp only [List.setIfInBounds_toArray, List.set_cons_zero, List.set_cons_succ]
    refine Rg.take (i := 8) (t := 32) rfl rfl (by kernel_rfl) (by kernel_rfl) (by kernel_rfl) (fun _ _ _ h => h) (by rfl) (by intro w0 hSw; first | (go_simp; done) | (go_simp; with_reducible rfl)) (by assumption) ?_
    simp only [List.setIfInBounds_toArray, List.set_cons_zero, List.set_cons_succ]
    refine Rg.take (i := 9) (t := 33) rfl rfl (by kernel_rfl) (by kernel_rfl) (by kernel_rfl) (fun _ _ _ h => h) (by rfl) (by intro w0 hSw; have hc := conv_str c2 hSw.2.2.1; first | (go_simp; done) | (go_simp; with_reducible rfl)) (by assumption) ?_
    simp only [List.setIfInBounds_toArray, List.set_cons_zero, List.set_cons_succ]
    refine Rg.take (i := 10) (t := 34) rfl rfl (by kernel_rfl) (by kernel_rfl) (by kernel_rfl) (fun _ _ _ h => h) (by rfl) (by intro w0 hSw; first | (go_simp; done) | (go_simp; with_reducible rfl)) (by assumption) ?_
    simp only [List.setIfInBounds_toArray, List.set_cons_zero, List.set_cons_succ]
    refine Rg.take (i := 11) (t := 35) rfl rfl (by kernel_rfl) (by kernel_rfl) (by kernel_rfl) (fun _ _ _ h => h) (by rfl) (by intro w0 hSw; have hc := conv_str c3 hSw.2.2.2.1; first | (go_simp; done) | (go_simp; with_reducible rfl)) (by assumption) ?_
    simp only [List.setIfInBounds_toArray, List.set_cons_zero, List.set_cons_succ]
    refine Rg.take (i := 12) (t := 36) rfl rfl (by kernel_rfl) (by kernel_rfl) (by kernel_rfl) (fun _ _ _ h => h) (by rfl) (by intro w0 hSw; first | (go_simp; done) | (go_simp; with_reducible rfl)) (by assumption) ?_
    simp only [List.setIfInBounds_toArray, List.set_cons_zero, List.set_cons_succ]
    refine Rg.take (i := 13) (t := 37) rfl rfl (by kernel_rfl) (by kernel_rfl) (by kernel_rfl) (fun _ _ _ h => h) (by rfl) (by intro w0 hSw; first | (go_simp; done) | (go_simp; with_reducible rfl)) (by assumption) ?_
    simp only [List.setIfInBounds_toArray, List.set_cons_zero, List.set_cons_succ]
    refine Rg.take (i := 14) (t := 38) rfl rfl (by kernel_rfl) (by kernel_rfl) (by kernel_rfl) (fun _ _ _ h => h) (by rfl) (by intro w0 hSw; first | (go_simp; done) | (go_simp; with_reducible rfl)) (by assumption) ?_
    simp only [List.setIfInBounds_toArray, List.set_cons_zero, List.set_cons_succ]
    refine Rg.take (i := 15) (t := 39) rfl rfl (by kernel_rfl) (by kernel_rfl) (by kernel_rfl) (fun _ _ _ h => h) (by rfl) (by intro w0 hSw; first | (go_simp; done) | (go_simp; with_reducible rfl)) (by assumption) ?_
    simp only [List.setIfInBounds_toArray, List.set_cons_zero, List.set_cons_succ]
    refine Rg.take (i := 16) (t := 40) rfl rfl (by kernel_rfl) (by kernel_rfl) (by kernel_rfl) (fun _ _ _ h => h) (by rfl) (by intro w0 hSw; first | (go_simp; done) | (go_simp; with_reducible rfl)) (by assumption) ?_
    simp only [List.setIfInBounds_toArray, List.set_cons_zero, List.set_cons_succ]
    refine Rg.take (i := 17) (t := 41) rfl rfl (by kernel_rfl) (by kernel_rfl) (by kernel_rfl) (fun _ _ _ h => h) (by rfl) (by intro w0 hSw; first | (go_simp; done) | (go_simp; with_reducible rfl)) (by assumption) ?_
    simp only [List.setIfInBounds_toArray, List.set_cons_zero, List.set_cons_succ]
    refine Rg.take (i := 18) (t := 42) rfl rfl (by kernel_rfl) (by kernel_rfl) (by kernel_rfl) (fun _ _ _ h => h) (by rfl) (by intro w0 hSw; first | (go_simp; done) | (go_simp; with_reducible rfl)) (by assumption) ?_
    simp only [List.setIfInBounds_toArray, List.set_cons_zero, List.set_cons_succ]
    refine Rg.take (i := 19) (t := 43) rfl rfl (by kernel_rfl) (by kernel_rfl) (by kernel_rfl) (fun _ _ _ h => h) (by rfl) (by intro w0 hSw; first | (go_simp; done) | (go_simp; with_reducible rfl)) (by assumption) ?_
    simp only [List.setIfInBounds_toArray, List.set_cons_zero, List.set_cons_succ]
    refine Rg.take (i := 20) (t := 44) rfl rfl (by kernel_rfl) (by kernel_rfl) (by kernel_rfl) (fun _ _ _ h => h) (by rfl) (by intro w0 hSw; first | (go_simp; done) | (go_simp; with_reducible rfl)) (by assumption) ?_
    simp only [List.setIfInBounds_toArray, List.set_cons_zero, List.set_cons_succ]
    refine Rg.take (i := 21) (t := 45) rfl rfl (by kernel_rfl) (by kernel_rfl) (by kernel_rfl) (fun _ _ _ h => h) (by rfl) (by intro w0 hSw; have hc := conv_str c1 hSw.2.1; first | (go_simp; done) | (go_simp; with_reducible rfl)) (by assumption) ?_
    simp only [List.setIfInBounds_toArray, List.set_cons_zero, List.set_cons_succ]
    refine Rg.take (i := 22) (t := 46) rfl rfl (by kernel_rfl) (by kernel_rfl) (by kernel_rfl) (fun _ _ _ h => h) (by rfl) (by intro w0 hSw; first | (go_simp; done) | (go_simp; with_reducible rfl)) (by assumption) ?_
    simp only [List.setIfInBounds_toArray, List.set_cons_zero, List.set_cons_succ]
    refine Rg.take (i := 23) (t := 47) rfl rfl (by kernel_rfl) (by kernel_rfl) (by kernel_rfl) (fun _ _ _ h => h) (by rfl) (by intro w0 hSw; have hc := conv_str c hSw.1; first | (go_simp; done) | (go_simp; with_reducible rfl)) (by assumption) ?_
    simp only [List.setIfInBounds_toArray, List.set_cons_zero, List.set_cons_succ]
    refine Rg.take (i := 24) (t := 48) rfl rfl (by kernel_rfl) (by kernel_rfl) (by kernel_rfl) (fun _ _ _ h => h) (by rfl) (by intro w0 hSw; first | (go_simp; done) | (go_simp; with_reducible rfl)) (by assumption) ?_
    simp only [List.setIfInBounds_toArray, List.set_cons_zero, List.set_cons_succ]
    refine Rg.take (i := 25) (t := 49) rfl rfl (by kernel_rfl) (by kernel_rfl) (by kernel_rfl) (fun _ _ _ h => h) (by rfl) (by intro w0 hSw; first | (go_simp; done) | (go_simp; with_reducible rfl)) (by assumption) ?_
    simp only [List.setIfInBounds_toArray, List.set_cons_zero, List.set_cons_succ]
    refine Rg.take (i := 26) (t := 50) rfl rfl (by kernel_rfl) (by kernel_rfl) (by kernel_rfl) (fun _ _ _ h => h) (by rfl) (by intro w0 hSw; first | (go_simp; done) | (go_simp; with_reducible rfl)) (by assumption) ?_
    simp only [List.setIfInBounds_toArray, List.set_cons_zero, List.set_cons_succ]
    refine Rg.one (i := 27) (by kernel_rfl) ?_
    refine Rg.call (i := 27) (t := 51) rfl rfl (by rfl) (by go_simp; exact ⟨rfl, rfl⟩) ?_
    refine (SumA.awake _).mono ?_
    rintro e w9 ⟨rfl, hb9⟩
    have hS3 : (fun w' => Rd encB w' A n l ∧ Rd encB w' A1 n l ∧ Rd encB w' A2 m (opened l) ∧ Rd encB w' A3 m (opened l) ∧ Rd encB w' A4 k (shut l) ∧ Rd encB w' A5 k (shut l)) w9 := ⟨hS2.1.below hb9, hS2.2.1.below hb9, hS2.2.2.1.below hb9, hS2.2.2.2.1.below hb9, hS2.2.2.2.2.1.below hb9, hS2.2.2.2.2.2.below hb9⟩
    refine ⟨_, rfl, fun w' => Rd encB w' A n l ∧ Rd encB w' A1 n l ∧ Rd encB w' A2 m (opened l) ∧ Rd encB w' A3 m (opened l) ∧ Rd encB w' A4 k (shut l) ∧ Rd encB w' A5 k (shut l), (fun _ h => h), hS3, ?_⟩
    simp only [List.setIfInBounds_toArray, List.set_cons_zero, List.set_cons_succ]
    refine Rg.take (i := 28) (t := 52) rfl rfl (by kernel_rfl) (by kernel_rfl) (by kernel_rfl) (fun _ _ _ h => h) (by rfl) (by intro w0 hSw; first | (go_simp; done) | (go_simp; with_reducible rfl)) (by assumption) ?_
    simp only [List.setIfInBounds_toArray, List.set_cons_zero, List.set_cons_succ]
    refine Rg.take (i := 29) (t := 2) rfl rfl (by kernel_rfl) (by kernel_rfl) (by kernel_rfl) (fun _ _ _ h => h) (by rfl) (by intro w0 hSw; first | (go_simp; done) | (go_simp; with_reducible rfl)) (by assumption) ?_
    simp only [List.setIfInBounds_toArray, List.set_cons_zero, List.set_cons_succ]
    refine wpAnyH_done (by kernel_rfl) ?_ _
    go_wp2_with fail
    go_ret
    exact ⟨rfl, Sq.join (Sq.join (Sq.join (Sq.join HB.out (Below.refl _ _).drew) hb4) hb5) hb9⟩

theorem own : ownKnob Try.prog.godebug = none := by kernel_rfl

set_option maxRecDepth 100000 in
theorem lifted (os : Os) (started : os.Started) (H : Type) (enc : TypeId × Value → H) :
    ReturnsInHanded {} Try.checked os 4 .any (Rows.sumSealsSpec.pre6 enc Try.prog Try.f4 Rows.sumSealsRow.domain false) (Rows.sumSealsSpec.post enc Try.prog Try.f4 false true false false) := by
  refine returnsInHanded_of_change (C := Try.checked) own started (by kernel_rfl) Try.func4
    (ChangeSpec.witness6 (enc := enc) (C := Try.checked) false ⟨#[], #[.slice none 0 0], []⟩ 8 (by kernel_rfl) (by kernel_rfl) (by kernel_rfl) (by kernel_rfl)) ?_
  intro W base args ds gs before hval0 hW hcnd _
  have hval : ∀ (j : Nat) t v, Try.f4.params[j]? = some t → args[j]? = some v → Value.okWide Try.prog W .any base t v := hval0
  have hW' := hW
  obtain ⟨p, q, hA0, hV, rfl, hfz, hnd⟩ := hW
  have hA : DataW.TrodAll enc Try.prog W 0 (fun _ => true) true Try.f4.params.toList args.toList ds p := hA0
  rw [Try.params4] at hA hval
  obtain ⟨v0, vs0, d0, ds0, p0, q0, hargs, rfl, rfl, h0, r0⟩ := trodAll_cons hA
  obtain ⟨rfl, rfl, rfl⟩ := trodAll_nil r0
  obtain rfl : args = #[v0] := by cases args; simp_all
  clear hV
  obtain ⟨l0, o0⟩ := SumD.open_bytes (hval 0 22 v0 rfl rfl) h0
  clear hA0 hval0
  refine (walk (w := W) v0 l0 o0).mono fun e W' ⟨he, hg⟩ => ?_
  subst he
  exact ⟨_, rfl, Law.post (by kernel_rfl) (by kernel_rfl) Try.underlying4 rfl rfl hW' hg ⟨rfl, rfl, rfl⟩⟩

theorem over : Rows.sumSealsRow.holds Try.pinned (OpenSpec.ofChange Rows.sumSealsSpec) :=
  OpenClaim.holds_of_wide 4 Try.f4 rfl rfl rfl rfl rfl rfl rfl ⟨rfl, rfl, rfl, rfl, rfl⟩ rfl rfl rfl rfl rfl (by kernel_rfl) Try.func4 (by kernel_rfl)
    (of_decide_eq_true (by kernel_rfl)) (by unfold Func.isWrapper; first | (rw [if_pos (by decide +kernel)]; kernel_rfl) | (rw [if_neg (by decide +kernel)]; exact ⟨rfl, rfl⟩))
    (fun os started H enc _ => lifted os started H enc)

/-- The statement. -/
theorem proved : Rows.SumSealsSaid := over
#print axioms proved
end Go.Proofs.Ytjfllfikeopgnaa.sumSeals
