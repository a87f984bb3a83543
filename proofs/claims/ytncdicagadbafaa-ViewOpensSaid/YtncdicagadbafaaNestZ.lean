/- The walk of the reference's check of a world. -/
import Derived.Test.YtncdicagadbafaaNestY
import Derived.Deep.DeepCutAuto
namespace Go.Proofs.Ytncdicagadbafaa.NestZ
open Go Go.RowKit NestP Sq NestW NestX NestY

theorem nested_no {d : Wd} {k : Nat} (h1 : 1 ≤ k) (h2 : k < d.n) (h : (fine1 d (k : Int) && fine2 d (k : Int)) = false) : nested d = false := by
  unfold nested
  have : ((List.range (d.n - 1)).all fun i => fine1 d ((i + 1 : Nat) : Int) && fine2 d ((i + 1 : Nat) : Int)) = false := by
    rw [List.all_eq_false]
    refine ⟨k - 1, by rw [List.mem_range]; omega, ?_⟩
    rw [show k - 1 + 1 = k by omega, h]; simp
  rw [this, Bool.and_false]
theorem nested_yes {d : Wd} (hh : head d = true) (h : ∀ k : Nat, 1 ≤ k → k < d.n → (fine1 d (k : Int) && fine2 d (k : Int)) = true) : nested d = true := by
  unfold nested
  rw [hh, Bool.true_and, List.all_eq_true]
  intro i hi
  rw [List.mem_range] at hi
  exact h (i + 1) (by omega) (by omega)
theorem nested_head {d : Wd} (hh : head d = false) : nested d = false := by unfold nested; rw [hh, Bool.false_and]
theorem head_parts {d : Wd} (h : head d = true) : d.n ≠ 0 ∧ d.ch.length = d.n ∧ d.ne.length = d.n := by
  unfold head at h
  simp only [Bool.and_eq_true, decide_eq_true_eq] at h
  exact ⟨h.1.1.1.1.1, h.1.1.1.1.2, h.1.1.1.2⟩
theorem isT_zero (n : Nat) : isT n 0 = false := by unfold isT; simp

set_option maxRecDepth 100000 in
set_option maxHeartbeats 1000000 in
theorem nested_r {v0 v4 v5 v6 v7 v8 v9 v10 v11 v12 : Value} {A1 A2 A3 : Option Addr} {n c1 n2 c2 n3 c3 : Nat} (d : Wd) (w : World) (hp : Rd I w A1 n d.pa) (hc : Rd I w A2 n2 d.ch) (hne : Rd I w A3 n3 d.ne) (hn : n ≤ 17592186043904) (hn2 : n2 ≤ 17592186043904) (hn3 : n3 ≤ 17592186043904) :
    Calls Try.prog 89 #[.agg #[v0, .slice A1 n c1, .slice A2 n2 c2, .slice A3 n3 c3, v4, v5, v6, v7, v8, v9, v10, v11, v12]] w fun e w' => e = .returned (.bool (nested d)) ∧ Below w.heap.size w w' := by
  have HP := Lib.hid hp
  have HC := Lib.hid hc
  have HN := Lib.hid hne
  clear hp hc hne
  go_enter Try.func89, Try.ntmps89
  go_upto_region 2 with (fail)
  go_cut [45] (fun v wx => v = .bool (!head d) ∧ wx = w.alloc (.cells #[v0, .slice A1 n c1, .slice A2 n2 c2, .slice A3 n3 c3, v4, v5, v6, v7, v8, v9, v10, v11, v12] 31))
  case first =>
    by_cases h0 : n = 0
    · have t0 : ((n : Int) == 0) = true := by simp [h0]
      have H := Lib.hid (show head d = false by unfold head Wd.n; rw [← HP.out.1, h0]; rfl)
      clear h0
      go_wp2_with fail
      go_meet
      exact ⟨by rw [H.out]; rfl, rfl⟩
    · have t0 : ((n : Int) == 0) = false := by simp; omega
      by_cases h2 : n2 = n
      · by_cases h3 : n3 = n
        · obtain ⟨b1, o1, rfl, hb1, hl1, hc1⟩ := HP.out.at_ (show 0 < n by omega)
          obtain ⟨b2, o2, rfl, hb2, hl2, hc2⟩ := HC.out.at_ (show 0 < n2 by omega)
          obtain ⟨b3, o3, rfl, hb3, hl3, hc3⟩ := HN.out.at_ (show 0 < n3 by omega)
          have HH := Lib.hid (show head d = ((d.pa[0] == 0) && (d.ch[0] == 0) && (d.ne[0] == 0)) by
            have e1 := at_lt hl1
            have e2 := at_lt hl2
            have e3 := at_lt hl3
            have d1 : decide (d.n ≠ 0) = true := decide_eq_true (by unfold Wd.n; rw [← HP.out.1]; exact h0)
            have d2 : decide (d.ch.length = d.n) = true := decide_eq_true (by unfold Wd.n; rw [← HP.out.1, ← HC.out.1]; exact h2)
            have d3 : decide (d.ne.length = d.n) = true := decide_eq_true (by unfold Wd.n; rw [← HP.out.1, ← HN.out.1]; exact h3)
            unfold head
            rw [d1, d2, d3, show at' d.pa 0 = d.pa[0] from e1, show at' d.ch 0 = d.ch[0] from e2, show at' d.ne 0 = d.ne[0] from e3]
            simp only [Bool.true_and])
          obtain ⟨p, hp⟩ : ∃ p, d.pa[0] = p := ⟨_, rfl⟩
          obtain ⟨c, hc⟩ : ∃ c, d.ch[0] = c := ⟨_, rfl⟩
          obtain ⟨e, he⟩ : ∃ e, d.ne[0] = e := ⟨_, rfl⟩
          rw [hp] at hc1 HH
          rw [hc] at hc2 HH
          rw [he] at hc3 HH
          rw [Nat.add_zero] at hc1 hc2 hc3
          unfold I at hc1 hc2 hc3
          have q1 : ((n2 : Int) != (n : Int)) = false := by simp [h2]
          have q2 : ((n3 : Int) != (n : Int)) = false := by simp [h3]
          have z0 : (0 : Int) < (n : Int) := by omega
          have z2 : (0 : Int) < (n2 : Int) := by omega
          have z3 : (0 : Int) < (n3 : Int) := by omega
          have y0 : 0 < n := by omega
          have y2 : 0 < n2 := by omega
          have y3 : 0 < n3 := by omega
          clear hp hc he hl1 hl2 hl3 h2 h3 h0
          by_cases hp0 : p = 0
          · have r1 : (p != 0) = false := by simp [hp0]
            by_cases hc0 : c = 0
            · have r2 : (c != 0) = false := by simp [hc0]
              by_cases he0 : e = 0
              · have r3 : (e != 0) = false := by simp [he0]
                have H := Lib.hid (show head d = true by rw [HH.out, hp0, hc0, he0]; rfl)
                clear hp0 hc0 he0
                go_wp2_with fail
                go_meet
                exact ⟨by rw [H.out]; rfl, rfl⟩
              · have r3 : (e != 0) = true := by simp [he0]
                have H := Lib.hid (show head d = false by rw [HH.out, beq_eq_false_iff_ne.2 he0, Bool.and_false])
                clear hp0 hc0 he0
                go_wp2_with fail
                go_meet
                exact ⟨by rw [H.out]; rfl, rfl⟩
            · have r2 : (c != 0) = true := by simp [hc0]
              have H := Lib.hid (show head d = false by rw [HH.out, beq_eq_false_iff_ne.2 hc0, Bool.and_false, Bool.false_and])
              clear hp0 hc0
              go_wp2_with fail
              go_meet
              exact ⟨by rw [H.out]; rfl, rfl⟩
          · have r1 : (p != 0) = true := by simp [hp0]
            have H := Lib.hid (show head d = false by rw [HH.out, beq_eq_false_iff_ne.2 hp0, Bool.false_and, Bool.false_and])
            clear hp0
            go_wp2_with fail
            go_meet
            exact ⟨by rw [H.out]; rfl, rfl⟩
        · have q1 : ((n2 : Int) != (n : Int)) = false := by simp [h2]
          have q2 : ((n3 : Int) != (n : Int)) = true := by simp; omega
          have H := Lib.hid (show head d = false by
            have d3 : decide (d.ne.length = d.n) = false := decide_eq_false (by unfold Wd.n; rw [← HP.out.1, ← HN.out.1]; exact h3)
            unfold head
            rw [d3]; simp)
          clear h0 h2 h3
          go_wp2_with fail
          go_meet
          exact ⟨by rw [H.out]; rfl, rfl⟩
      · have q1 : ((n2 : Int) != (n : Int)) = true := by simp; omega
        have H := Lib.hid (show head d = false by
          have d3 : decide (d.ch.length = d.n) = false := decide_eq_false (by unfold Wd.n; rw [← HP.out.1, ← HC.out.1]; exact h2)
          unfold head
          rw [d3]; simp)
        clear h0 h2
        go_wp2_with fail
        go_meet
        exact ⟨by rw [H.out]; rfl, rfl⟩
  case rest =>
    obtain ⟨rfl, rfl⟩ := hcut
    by_cases hh : head d = true
    · have hdn : d.n = n := HP.out.1.symm
      obtain ⟨g0, g1, g2⟩ := head_parts hh
      obtain rfl : n = n2 := by rw [HC.out.1, g1, hdn]
      obtain rfl : n = n3 := by rw [HN.out.1, g2, hdn]
      have HDN := Lib.hid hdn
      have HH := Lib.hid hh
      rw [hh]
      have hn0 : 0 < n := by rw [← hdn]; omega
      clear hh g0 g1 g2 hdn
      go_wp2_with fail
      go_loopw [4] (fun i wr => ∃ k : Nat, 1 ≤ k ∧ k ≤ n ∧ i = .int .i64 (k : Int) ∧ (∀ j : Nat, 1 ≤ j → j < k → (fine1 d (j : Int) && fine2 d (j : Int)) = true) ∧ ((∀ b o, b < w.heap.size + 1 → wr.cell? ⟨b, o, none⟩ = (w.alloc (.cells #[v0, .slice A1 n c1, .slice A2 n c2, .slice A3 n c3, v4, v5, v6, v7, v8, v9, v10, v11, v12] 31)).cell? ⟨b, o, none⟩) ∧ w.heap.size + 1 ≤ wr.heap.size ∧ Below w.heap.size w wr)) (fun i _ => n - (intOf i).toNat)
      case atStart => exact ⟨1, Nat.le_refl _, hn0, rfl, fun j h1 h2 => by omega, fun _ _ _ => rfl, by simp, (Below.refl _ _).alloc (Nat.le_refl _) _⟩
      case round =>
        obtain ⟨k, hk1, hkn, rfl, hall, hkr, hsr, hbr⟩ := hrel
        obtain ⟨w0, rfl⟩ : ∃ w0 : World, w0 = wr := ⟨_, rfl⟩
        have HALL := Lib.hid hall
        clear hall
        by_cases hlt : k < n
        · have HXT := Lib.hid (show isT n (k : Int) = true from isT_iff.2 (by omega))
          obtain ⟨kq, bp, oP, hkq, _, _, rfl, hbp, hcp⟩ := at_cell HP.out HXT.out
          obtain ⟨kq3, bq, oQ, hkq3, _, _, rfl, hbq, hcq⟩ := at_cell HN.out HXT.out
          obtain rfl : k = kq := by omega
          obtain rfl : k = kq3 := by omega
          have HNO := Lib.hid (fun h => nested_no (d := d) hk1 (by rw [HDN.out]; exact hlt) h)
          have HF1 := Lib.hid (show fine1 d (k : Int) = !((at' d.pa (k : Int) != 0 && !isT n (at' d.pa (k : Int))) || (at' d.pa (k : Int) == 0 && at' d.ne (k : Int) != 0) || !listed d (k : Int)) by unfold fine1; rw [HDN.out])
          have HF2 := Lib.hid (show fine2 d (k : Int) = !((at' d.pa (k : Int) != 0 && (kids d (at' d.pa (k : Int))).count (k : Int) != 1) || (isT n (at' d.pa (k : Int)) && (chain n d.pa n (at' d.pa (k : Int))).contains (k : Int))) by unfold fine2 within ups; rw [HDN.out])
          have HKD := Lib.hid (fun z => show (if isT n z = true then chain n d.ne n (at' d.ch z) else []) = kids d z by unfold kids; rw [HDN.out])
          obtain ⟨p, hp⟩ : ∃ p, at' d.pa (k : Int) = p := ⟨_, rfl⟩
          obtain ⟨e, he⟩ : ∃ e, at' d.ne (k : Int) = e := ⟨_, rfl⟩
          rw [hp] at hcp HF1 HF2
          rw [he] at hcq HF1
          have k0 : (0 : Int) ≤ (k : Int) := by omega
          have k1 : (k : Int) < (n : Int) := by omega
          have hbp' : bp < w.heap.size + 1 := by omega
          have hbq' : bq < w.heap.size + 1 := by omega
          clear hp he hkq hkq3
          go_upto_region 8 with (fail)
          go_cut [81] (fun v wx => v = .bool (!fine1 d (k : Int)) ∧ ((∀ b o, b < w.heap.size + 1 → wx.cell? ⟨b, o, none⟩ = (w.alloc (.cells #[v0, .slice (some ⟨bp, oP, none⟩) n c1, .slice A2 n c2, .slice (some ⟨bq, oQ, none⟩) n c3, v4, v5, v6, v7, v8, v9, v10, v11, v12] 31)).cell? ⟨b, o, none⟩) ∧ w.heap.size + 1 ≤ wx.heap.size ∧ Below w.heap.size w wx))
          case first =>
            have HL := Lib.hid (fun W hA hB hC => listed_r (v0 := v0) (v4 := v4) (v5 := v5) (v6 := v6) (v7 := v7) (v8 := v8) (v9 := v9) (v10 := v10) (v11 := v11) (v12 := v12) (A1 := some ⟨bp, oP, none⟩) (A2 := A2) (A3 := some ⟨bq, oQ, none⟩) (n := n) (c1 := c1) (n2 := n) (c2 := c2) (n3 := n) (c3 := c3) d (k : Int) W hA hB hC hn rfl rfl (by rw [HDN.out]; exact HXT.out))
            obtain ⟨bl, hbl⟩ : ∃ bl, listed d (k : Int) = bl := ⟨_, rfl⟩
            rw [hbl] at HL HF1
            clear hbl
            by_cases hp0 : p = 0
            · subst hp0
              by_cases he0 : e = 0
              · subst he0
                have H := Lib.hid (show fine1 d (k : Int) = bl by rw [HF1.out]; simp)
                go_wp2_with (go_at_call 154; refine (HL.out _ (HP.out.below hbr) (HC.out.below hbr) (HN.out.below hbr)).mono ?_; rintro e w1 ⟨rfl, hbi⟩; have hk1 : ∀ b o, b < w.heap.size + 1 → w1.cell? ⟨b, o, none⟩ = (w.alloc (.cells #[v0, .slice (some ⟨bp, oP, none⟩) n c1, .slice A2 n c2, .slice (some ⟨bq, oQ, none⟩) n c3, v4, v5, v6, v7, v8, v9, v10, v11, v12] 31)).cell? ⟨b, o, none⟩ := (fun b o h => (bcell (B := w.heap.size + 1) (hbi.mono hsr) b o h).trans (hkr b o h)); have hs1 : w.heap.size + 1 ≤ w1.heap.size := Nat.le_trans hsr hbi.size; have hb1 : Below w.heap.size w w1 := joinB (Nat.le_refl _) hbr hbi; clear hbi)
                go_meet
                exact ⟨by rw [H.out], hk1, hs1, hb1⟩
              · have r1 : (e != 0) = true := by simp [he0]
                have H := Lib.hid (show fine1 d (k : Int) = false by rw [HF1.out, r1]; simp)
                clear he0
                go_wp2_with fail
                go_meet
                exact ⟨by rw [H.out]; rfl, hkr, hsr, hbr⟩
            · have r0 : (p != 0) = true := by simp [hp0]
              have r1 : (p == 0) = false := by simp [hp0]
              by_cases hT : isT n p = true
              · have HT := Lib.hid hT
                have H := Lib.hid (show fine1 d (k : Int) = bl by rw [HF1.out, r0, r1, hT]; simp)
                clear hT hp0
                go_wp2_with (first | (go_at_call 153; refine (is_r _ _).mono ?_; rintro e w1 ⟨rfl, hbi⟩; have hk1 : ∀ b o, b < w.heap.size + 1 → w1.cell? ⟨b, o, none⟩ = (w.alloc (.cells #[v0, .slice (some ⟨bp, oP, none⟩) n c1, .slice A2 n c2, .slice (some ⟨bq, oQ, none⟩) n c3, v4, v5, v6, v7, v8, v9, v10, v11, v12] 31)).cell? ⟨b, o, none⟩ := (fun b o h => (bcell (B := w.heap.size + 1) (hbi.mono hsr) b o h).trans (hkr b o h)); have hs1 : w.heap.size + 1 ≤ w1.heap.size := Nat.le_trans hsr hbi.size; have hb1 : Below w.heap.size w w1 := joinB (Nat.le_refl _) hbr hbi; clear hbi; rw [HT.out]; clear hkr) | (go_at_call 154; refine (HL.out _ (HP.out.below hb1) (HC.out.below hb1) (HN.out.below hb1)).mono ?_; rintro e w2 ⟨rfl, hbi⟩; have hk2 : ∀ b o, b < w.heap.size + 1 → w2.cell? ⟨b, o, none⟩ = (w.alloc (.cells #[v0, .slice (some ⟨bp, oP, none⟩) n c1, .slice A2 n c2, .slice (some ⟨bq, oQ, none⟩) n c3, v4, v5, v6, v7, v8, v9, v10, v11, v12] 31)).cell? ⟨b, o, none⟩ := (fun b o h => (bcell (B := w.heap.size + 1) (hbi.mono hs1) b o h).trans (hk1 b o h)); have hs2 : w.heap.size + 1 ≤ w2.heap.size := Nat.le_trans hs1 hbi.size; have hb2 : Below w.heap.size w w2 := joinB (Nat.le_refl _) hb1 hbi; clear hbi))
                go_meet
                exact ⟨by rw [H.out], hk2, hs2, hb2⟩
              · have HT := Lib.hid (show isT n p = false by simpa using hT)
                have H := Lib.hid (show fine1 d (k : Int) = false by rw [HF1.out, r0, HT.out]; simp)
                clear hT hp0
                go_wp2_with (go_at_call 153; refine (is_r _ _).mono ?_; rintro e w1 ⟨rfl, hbi⟩; have hk1 : ∀ b o, b < w.heap.size + 1 → w1.cell? ⟨b, o, none⟩ = (w.alloc (.cells #[v0, .slice (some ⟨bp, oP, none⟩) n c1, .slice A2 n c2, .slice (some ⟨bq, oQ, none⟩) n c3, v4, v5, v6, v7, v8, v9, v10, v11, v12] 31)).cell? ⟨b, o, none⟩ := (fun b o h => (bcell (B := w.heap.size + 1) (hbi.mono hsr) b o h).trans (hkr b o h)); have hs1 : w.heap.size + 1 ≤ w1.heap.size := Nat.le_trans hsr hbi.size; have hb1 : Below w.heap.size w w1 := joinB (Nat.le_refl _) hbr hbi; clear hbi; rw [HT.out]; clear hkr)
                go_meet
                exact ⟨by rw [H.out]; rfl, hk1, hs1, hb1⟩
          case rest =>
            obtain ⟨rfl, hkx, hsx, hbx⟩ := hcut
            clear hkr hsr hbr
            by_cases hf1 : fine1 d (k : Int) = true
            · rw [hf1]
              go_upto_region 10 with (fail)
              go_cut [102] (fun v wy => v = .bool (!fine2 d (k : Int)) ∧ ((∀ b o, b < w.heap.size + 1 → wy.cell? ⟨b, o, none⟩ = (w.alloc (.cells #[v0, .slice (some ⟨bp, oP, none⟩) n c1, .slice A2 n c2, .slice (some ⟨bq, oQ, none⟩) n c3, v4, v5, v6, v7, v8, v9, v10, v11, v12] 31)).cell? ⟨b, o, none⟩) ∧ w.heap.size + 1 ≤ wy.heap.size ∧ Below w.heap.size w wy))
              case first =>
                have hpT : p = 0 ∨ isT n p = true := by
                  have h := HF1.out
                  rw [hf1] at h
                  by_cases hp0 : p = 0
                  · exact .inl hp0
                  · right
                    cases hT : isT n p with
                    | true => rfl
                    | false =>
                      rw [hT, show (p != 0) = true by simp [hp0]] at h
                      simp at h
                clear hf1
                by_cases hp0 : p = 0
                · subst hp0
                  have HZ := Lib.hid (isT_zero n)
                  have H := Lib.hid (show fine2 d (k : Int) = true by rw [HF2.out, HZ.out]; simp)
                  clear hpT
                  go_wp2_with (go_at_call 153; refine (is_r _ _).mono ?_; rintro e w1 ⟨rfl, hbi⟩; have hk1 : ∀ b o, b < w.heap.size + 1 → w1.cell? ⟨b, o, none⟩ = (w.alloc (.cells #[v0, .slice (some ⟨bp, oP, none⟩) n c1, .slice A2 n c2, .slice (some ⟨bq, oQ, none⟩) n c3, v4, v5, v6, v7, v8, v9, v10, v11, v12] 31)).cell? ⟨b, o, none⟩ := (fun b o h => (bcell (B := w.heap.size + 1) (hbi.mono hsx) b o h).trans (hkx b o h)); have hs1 : w.heap.size + 1 ≤ w1.heap.size := Nat.le_trans hsx hbi.size; have hb1 : Below w.heap.size w w1 := joinB (Nat.le_refl _) hbx hbi; clear hbi; rw [HZ.out])
                  go_meet
                  exact ⟨by rw [H.out]; rfl, hk1, hs1, hb1⟩
                · have HT := Lib.hid (hpT.resolve_left hp0)
                  have r0 : (p != 0) = true := by simp [hp0]
                  have HKE := Lib.hid (HKD.out p)
                  have HKS := Lib.hid (show (kids d p).length ≤ n from by have := kids_short d p; rw [HDN.out] at this; exact this)
                  obtain ⟨z, hz⟩ : ∃ z, (kids d p).count (k : Int) = z := ⟨_, rfl⟩
                  rw [hz] at HF2
                  have HZ := Lib.hid hz
                  clear hz hp0 hpT
                  by_cases hz1 : z = 1
                  · have r1 : ((z : Int) != 1) = false := by simp [hz1]
                    obtain ⟨cb, hcb⟩ : ∃ cb, (chain n d.pa n p).contains (k : Int) = cb := ⟨_, rfl⟩
                    have HCB := Lib.hid hcb
                    have H := Lib.hid (show fine2 d (k : Int) = !cb by rw [HF2.out, r0, HT.out, hcb, hz1]; simp)
                    clear hz1 hcb
                    go_wp2_with (first
                      | (go_at_call 113; refine (children_r d.ch d.ne p _ (HC.out.below hbx) (HN.out.below hbx) hn).mono ?_; rintro e w1 ⟨v, rfl, hown, hbi⟩; have hk1 : ∀ b o, b < w.heap.size + 1 → w1.cell? ⟨b, o, none⟩ = (w.alloc (.cells #[v0, .slice (some ⟨bp, oP, none⟩) n c1, .slice A2 n c2, .slice (some ⟨bq, oQ, none⟩) n c3, v4, v5, v6, v7, v8, v9, v10, v11, v12] 31)).cell? ⟨b, o, none⟩ := (fun b o h => (bcell (B := w.heap.size + 1) (hbi.mono hsx) b o h).trans (hkx b o h)); have hs1 : w.heap.size + 1 ≤ w1.heap.size := Nat.le_trans hsx hbi.size; have hb1 : Below w.heap.size w w1 := joinB (Nat.le_refl _) hbx hbi; clear hbi; rw [HKE.out] at hown; obtain ⟨Al, cl, rfl, _, _⟩ := hown.shape; have HRl := Lib.hid hown.rd; clear hown hkx)
                      | (go_at_call 155; refine (count_r Al _ cl (kids d p) (k : Int) _ HRl.out (by have := HKS.out; omega)).mono ?_; rintro e w9 ⟨rfl, rfl⟩; rw [HZ.out])
                      | (go_at_call 153; refine (is_r _ _).mono ?_; rintro e w2 ⟨rfl, hbi⟩; have hk2 : ∀ b o, b < w.heap.size + 1 → w2.cell? ⟨b, o, none⟩ = (w.alloc (.cells #[v0, .slice (some ⟨bp, oP, none⟩) n c1, .slice A2 n c2, .slice (some ⟨bq, oQ, none⟩) n c3, v4, v5, v6, v7, v8, v9, v10, v11, v12] 31)).cell? ⟨b, o, none⟩ := (fun b o h => (bcell (B := w.heap.size + 1) (hbi.mono hs1) b o h).trans (hk1 b o h)); have hs2 : w.heap.size + 1 ≤ w2.heap.size := Nat.le_trans hs1 hbi.size; have hb2 : Below w.heap.size w w2 := joinB (Nat.le_refl _) hb1 hbi; clear hbi; rw [HT.out]; clear hk1)
                      | (go_at_call 156; refine (within_r d.pa p (k : Int) _ (HP.out.below hb2) (by omega)).mono ?_; rintro e w3 ⟨rfl, hbi⟩; have hk3 : ∀ b o, b < w.heap.size + 1 → w3.cell? ⟨b, o, none⟩ = (w.alloc (.cells #[v0, .slice (some ⟨bp, oP, none⟩) n c1, .slice A2 n c2, .slice (some ⟨bq, oQ, none⟩) n c3, v4, v5, v6, v7, v8, v9, v10, v11, v12] 31)).cell? ⟨b, o, none⟩ := (fun b o h => (bcell (B := w.heap.size + 1) (hbi.mono hs2) b o h).trans (hk2 b o h)); have hs3 : w.heap.size + 1 ≤ w3.heap.size := Nat.le_trans hs2 hbi.size; have hb3 : Below w.heap.size w w3 := joinB (Nat.le_refl _) hb2 hbi; clear hbi; rw [HCB.out]; clear hk2))
                    go_meet
                    exact ⟨by rw [H.out]; simp, hk3, hs3, hb3⟩
                  · have r1 : ((z : Int) != 1) = true := by simp; omega
                    have H := Lib.hid (show fine2 d (k : Int) = false by rw [HF2.out, r0, show (z != 1) = true by simp [hz1]]; simp)
                    clear hz1
                    go_wp2_with (first
                      | (go_at_call 113; refine (children_r d.ch d.ne p _ (HC.out.below hbx) (HN.out.below hbx) hn).mono ?_; rintro e w1 ⟨v, rfl, hown, hbi⟩; have hk1 : ∀ b o, b < w.heap.size + 1 → w1.cell? ⟨b, o, none⟩ = (w.alloc (.cells #[v0, .slice (some ⟨bp, oP, none⟩) n c1, .slice A2 n c2, .slice (some ⟨bq, oQ, none⟩) n c3, v4, v5, v6, v7, v8, v9, v10, v11, v12] 31)).cell? ⟨b, o, none⟩ := (fun b o h => (bcell (B := w.heap.size + 1) (hbi.mono hsx) b o h).trans (hkx b o h)); have hs1 : w.heap.size + 1 ≤ w1.heap.size := Nat.le_trans hsx hbi.size; have hb1 : Below w.heap.size w w1 := joinB (Nat.le_refl _) hbx hbi; clear hbi; rw [HKE.out] at hown; obtain ⟨Al, cl, rfl, _, _⟩ := hown.shape; have HRl := Lib.hid hown.rd; clear hown hkx)
                      | (go_at_call 155; refine (count_r Al _ cl (kids d p) (k : Int) _ HRl.out (by have := HKS.out; omega)).mono ?_; rintro e w9 ⟨rfl, rfl⟩; rw [HZ.out]))
                    go_meet
                    exact ⟨by rw [H.out]; rfl, hk1, hs1, hb1⟩
              case rest =>
                obtain ⟨rfl, hky, hsy, hby⟩ := hcut
                clear hkx hsx hbx
                by_cases hf2 : fine2 d (k : Int) = true
                · have HOK := Lib.hid (show ∀ j : Nat, 1 ≤ j → j < k + 1 → (fine1 d (j : Int) && fine2 d (j : Int)) = true from fun j h1 h2 => by
                    rcases Nat.lt_or_eq_of_le (Nat.le_of_lt_succ h2) with h | rfl
                    · exact HALL.out j h1 h
                    · rw [hf1, hf2]; rfl)
                  rw [hf2]
                  clear hf1 hf2
                  go_wp2_with fail
                  go_roundw
                  case rel => exact ⟨k + 1, by omega, by omega, by go_num, HOK.out, hky, hsy, hby⟩
                  case measure => simp [intOf]; omega
                · have H := Lib.hid (HNO.out (by rw [show fine2 d (k : Int) = false by simpa using hf2, Bool.and_false]))
                  rw [show fine2 d (k : Int) = false by simpa using hf2]
                  clear hf1 hf2
                  go_wp2_with fail
                  go_ret
                  exact ⟨by rw [H.out]; rfl, hby⟩
            · have H := Lib.hid (HNO.out (by rw [show fine1 d (k : Int) = false by simpa using hf1, Bool.false_and]))
              rw [show fine1 d (k : Int) = false by simpa using hf1]
              clear hf1
              go_wp2_with fail
              go_ret
              exact ⟨by rw [H.out]; rfl, hbx⟩
        · have hkn' : k = n := by omega
          have H := Lib.hid (nested_yes HH.out fun j h1 h2 => HALL.out j h1 (by rw [HDN.out] at h2; omega))
          have d0 : decide (k < n) = false := by simp; omega
          clear hkn'
          go_wp2_with fail
          go_ret
          exact ⟨by rw [H.out]; rfl, hbr⟩
    · have hh' : head d = false := by simpa using hh
      have H := Lib.hid (nested_head hh')
      rw [hh']
      clear hh hh'
      go_wp2_with fail
      go_ret
      exact ⟨by rw [H.out]; rfl, (Below.refl _ _).alloc (Nat.le_refl _) _⟩
end Go.Proofs.Ytncdicagadbafaa.NestZ
