/- reckoned, turned, never of chapter 29. Conditions: lengths of 1048576 at most. -/
import Derived.Test.YtmilnfboglhdgaaPeepY
namespace Go.Proofs.Ytmilnfboglhdgaa.PeepZ
open Go Go.RowKit NestP NestW Sq ValP ValW ValY PeepP PeepW PeepX PeepY

/-- A row of numbers, just made. -/
theorem lit_i {w w1 : World} (ops : List Int) (cs : Array Value) (hcs : cs.toList = ops.map I) (h : w.alloc (.cells cs 3) = w1) (n : Nat) (hn : n = ops.length) : Sq.Rd I w1 (some ⟨w.heap.size, 0, none⟩) n ops ∧ Below w.heap.size w w1 := by
  subst h
  exact ⟨Sq.rd_lit w 3 ops cs hcs n hn, (Below.refl _ _).alloc (Nat.le_refl _) _⟩
theorem i64w {x : Int} (h0 : -1048576 ≤ x) (h1 : x ≤ 4194304) : IntKind.i64.wrap x = x := by rw [IntKind.wrap_i64]; omega
set_option maxRecDepth 100000 in
set_option maxHeartbeats 1000000 in
theorem reckoned_i {A : Option Addr} {n c : Nat} (l : List Ins) (i : Nat) (w : World) (hr : RdI w A n l) (hc : n ≤ c) (hi : i ≤ n) (hn : n ≤ 1048576) :
    Calls Try.prog 23 #[.slice A n c, .int .i64 (i : Int)] w (WayP (way0 l i) w) := by
  have HR := Lib.hid hr
  have HL := Lib.hid (show l.length = n from hr.1.symm)
  clear hr
  obtain ⟨w1, hw1⟩ : ∃ w1, w.alloc (.cells #[.int .i64 1, .int .i64 1, .int .i64 8] 3) = w1 := ⟨_, rfl⟩
  obtain ⟨hl1, hb1⟩ := lit_i [1, 1, 8] #[.int .i64 1, .int .i64 1, .int .i64 8] rfl hw1 3 rfl
  have H1 := Lib.hid hl1
  have HB1 := Lib.hid hb1
  clear hl1 hb1
  cases hq : isO l i [1, 1, 8] with
  | false =>
    have HQ := Lib.hid hq
    have HW := Lib.hid (show way0 l i = none by unfold way0; rw [if_neg (by rw [hq]; simp)])
    clear hq
    go_enter Try.func23, Try.ntmps23
    go_wp2_with (go_at_call 26; refine (is_i l [1, 1, 8] i w1 (HR.out.below HB1.out) H1.out hi hn (by omega)).mono ?_; rintro e w2 ⟨rfl, rfl⟩; rw [HQ.out])
    go_ret2
    rw [HW.out]
    exact WayP.no HB1.out
  | true =>
    have HQ := Lib.hid hq
    have h3 : i + 3 ≤ n := by have h := isO_len hq; rw [HL.out] at h; simpa using h
    obtain ⟨b, o, rfl, hb, hc2⟩ := rd_open (HR.out.below HB1.out) (show 0 < n by omega)
    have k0 := (hc2 i (by omega)).2
    have k1 := (hc2 (i + 1) (by omega)).2
    have k2 := (hc2 (i + 2) (by omega)).2
    have W2 := Lib.hid (show way0 l i = if ar l (i + 2) ≠ 9 ∧ be (ar l (i + 2)) (ar l (i + 1)) = 0 then some (swap l i 3 [(1, bz (ar l (i + 2)) (ar l i) (ar l (i + 1)))]) else none by unfold way0; simp only [hq, true_and])
    obtain ⟨a0, ha0⟩ : ∃ a, ar l i = a := ⟨_, rfl⟩
    obtain ⟨a1, ha1⟩ : ∃ a, ar l (i + 1) = a := ⟨_, rfl⟩
    obtain ⟨a2, ha2⟩ : ∃ a, ar l (i + 2) = a := ⟨_, rfl⟩
    rw [ha0] at k0 W2
    rw [ha1] at k1 W2
    rw [ha2] at k2 W2
    clear hq hc2 ha0 ha1 ha2
    have e0 : (i : Int) < (n : Int) := by omega
    have e1 : (0 : Int) ≤ (i : Int) := by omega
    have e2 : (0 : Int) ≤ (i : Int) + 1 := by omega
    have e3 : (i : Int) + 1 < (n : Int) := by omega
    have e4 : (0 : Int) ≤ (i : Int) + 2 := by omega
    have e5 : (i : Int) + 2 < (n : Int) := by omega
    by_cases h9 : a2 = 9
    · have HW := Lib.hid (show way0 l i = none by rw [W2.out, if_neg (fun h => h.1 h9)])
      have t9 : (a2 == 9) = true := by simpa using h9
      go_enter Try.func23, Try.ntmps23
      go_wp2_with (go_at_call 26; refine (is_i l [1, 1, 8] i w1 (HR.out.below HB1.out) H1.out hi hn (by omega)).mono ?_; rintro e w2 ⟨rfl, rfl⟩; rw [HQ.out])
      go_ret2
      rw [HW.out]
      exact WayP.no HB1.out
    · have t9 : (a2 == 9) = false := by simpa using h9
      have hx1 := i64w (x := (i : Int) + 1) (by omega) (by omega)
      have hx2 := i64w (x := (i : Int) + 2) (by omega) (by omega)
      go_enter Try.func23, Try.ntmps23
      go_upto_region 3 with (go_at_call 26; refine (is_i l [1, 1, 8] i w1 (HR.out.below HB1.out) H1.out hi hn (by omega)).mono ?_; rintro e w2 ⟨rfl, rfl⟩; rw [HQ.out])
      obtain ⟨S, hSd⟩ : ∃ S : World → Prop, (fun U : World => U.cell? ⟨b, o + i * 2 + 1, none⟩ = some (.int .i64 a0) ∧ U.cell? ⟨b, o + (i + 1) * 2 + 1, none⟩ = some (.int .i64 a1) ∧ U.cell? ⟨b, o + (i + 2) * 2 + 1, none⟩ = some (.int .i64 a2)) = S := ⟨_, rfl⟩
      have HSB := Lib.hid (show ∀ U, Below w1.heap.size w1 U → S U from fun U h => by rw [← hSd]; exact ⟨(bcell h b _ hb).trans k0, (bcell h b _ hb).trans k1, (bcell h b _ hb).trans k2⟩)
      have HSC := Lib.hid (show ∀ U, S U → U.cell? ⟨b, o + i * 2 + 1, none⟩ = some (.int .i64 a0) ∧ U.cell? ⟨b, o + (i + 1) * 2 + 1, none⟩ = some (.int .i64 a1) ∧ U.cell? ⟨b, o + (i + 2) * 2 + 1, none⟩ = some (.int .i64 a2) from fun U h => by rw [← hSd] at h; exact h)
      have hS0 : S w1.drew := HSB.out _ (Below.drew (Below.refl _ _))
      have hn1 : ((i : Int) + 1).toNat = i + 1 := by omega
      have hn2 : ((i : Int) + 2).toNat = i + 2 := by omega
      clear hSd k0 k1 k2
      refine wp_region_held_drew (S := S) (by kernel_rfl) hS0 (fun hHeld => ?_)
      refine Rg.take (i := 0) (t := 23) (v := .agg #[.slice none 0 0, .slice none 0 0, .slice none 0 0, .slice none 0 0, .slice none 0 0, .slice none 0 0, .slice none 0 0, .int .u64 0, .int .i64 0, .int .i64 0, .int .i64 0, .int .i64 0, .int .i64 0]) rfl rfl (by kernel_rfl) (by kernel_rfl) (by kernel_rfl) (fun _ _ _ h => h) (by rfl) (by intro w0 hSw; have q1 := hx1; have q2 := hx2; have q3 := hn1; have q4 := hn2; obtain ⟨s0, s1, s2⟩ := HSC.out _ hSw; first | (go_simp; done) | (go_simp; with_reducible rfl)) (by assumption) ?_
      simp only [List.setIfInBounds_toArray, List.set_cons_zero, List.set_cons_succ]
      refine Rg.take (i := 1) (t := 24) rfl rfl (by kernel_rfl) (by kernel_rfl) (by kernel_rfl) (fun _ _ _ h => h) (by rfl) (by intro w0 hSw; have q1 := hx1; have q2 := hx2; have q3 := hn1; have q4 := hn2; obtain ⟨s0, s1, s2⟩ := HSC.out _ hSw; first | (go_simp; done) | (go_simp; with_reducible rfl)) (by assumption) ?_
      simp only [List.setIfInBounds_toArray, List.set_cons_zero, List.set_cons_succ]
      refine Rg.take (i := 2) (t := 25) rfl rfl (by kernel_rfl) (by kernel_rfl) (by kernel_rfl) (fun _ _ _ h => h) (by rfl) (by intro w0 hSw; have q1 := hx1; have q2 := hx2; have q3 := hn1; have q4 := hn2; obtain ⟨s0, s1, s2⟩ := HSC.out _ hSw; first | (go_simp; done) | (go_simp; with_reducible rfl)) (by assumption) ?_
      simp only [List.setIfInBounds_toArray, List.set_cons_zero, List.set_cons_succ]
      refine Rg.take (i := 3) (t := 26) rfl rfl (by kernel_rfl) (by kernel_rfl) (by kernel_rfl) (fun _ _ _ h => h) (by rfl) (by intro w0 hSw; have q1 := hx1; have q2 := hx2; have q3 := hn1; have q4 := hn2; obtain ⟨s0, s1, s2⟩ := HSC.out _ hSw; first | (go_simp; done) | (go_simp; with_reducible rfl)) (by assumption) ?_
      simp only [List.setIfInBounds_toArray, List.set_cons_zero, List.set_cons_succ]
      refine Rg.take (i := 4) (t := 27) rfl rfl (by kernel_rfl) (by kernel_rfl) (by kernel_rfl) (fun _ _ _ h => h) (by rfl) (by intro w0 hSw; have q1 := hx1; have q2 := hx2; have q3 := hn1; have q4 := hn2; obtain ⟨s0, s1, s2⟩ := HSC.out _ hSw; first | (go_simp; done) | (go_simp; with_reducible rfl)) (by assumption) ?_
      simp only [List.setIfInBounds_toArray, List.set_cons_zero, List.set_cons_succ]
      refine Rg.take (i := 5) (t := 28) rfl rfl (by kernel_rfl) (by kernel_rfl) (by kernel_rfl) (fun _ _ _ h => h) (by rfl) (by intro w0 hSw; have q1 := hx1; have q2 := hx2; have q3 := hn1; have q4 := hn2; obtain ⟨s0, s1, s2⟩ := HSC.out _ hSw; first | (go_simp; done) | (go_simp; with_reducible rfl)) (by assumption) ?_
      simp only [List.setIfInBounds_toArray, List.set_cons_zero, List.set_cons_succ]
      refine Rg.take (i := 6) (t := 29) rfl rfl (by kernel_rfl) (by kernel_rfl) (by kernel_rfl) (fun _ _ _ h => h) (by rfl) (by intro w0 hSw; have q1 := hx1; have q2 := hx2; have q3 := hn1; have q4 := hn2; obtain ⟨s0, s1, s2⟩ := HSC.out _ hSw; first | (go_simp; done) | (go_simp; with_reducible rfl)) (by assumption) ?_
      simp only [List.setIfInBounds_toArray, List.set_cons_zero, List.set_cons_succ]
      refine Rg.take (i := 7) (t := 30) rfl rfl (by kernel_rfl) (by kernel_rfl) (by kernel_rfl) (fun _ _ _ h => h) (by rfl) (by intro w0 hSw; have q1 := hx1; have q2 := hx2; have q3 := hn1; have q4 := hn2; obtain ⟨s0, s1, s2⟩ := HSC.out _ hSw; first | (go_simp; done) | (go_simp; with_reducible rfl)) (by assumption) ?_
      simp only [List.setIfInBounds_toArray, List.set_cons_zero, List.set_cons_succ]
      refine Rg.take (i := 8) (t := 31) rfl rfl (by kernel_rfl) (by kernel_rfl) (by kernel_rfl) (fun _ _ _ h => h) (by rfl) (by intro w0 hSw; have q1 := hx1; have q2 := hx2; have q3 := hn1; have q4 := hn2; obtain ⟨s0, s1, s2⟩ := HSC.out _ hSw; first | (go_simp; done) | (go_simp; with_reducible rfl)) (by assumption) ?_
      simp only [List.setIfInBounds_toArray, List.set_cons_zero, List.set_cons_succ]
      refine Rg.take (i := 9) (t := 32) rfl rfl (by kernel_rfl) (by kernel_rfl) (by kernel_rfl) (fun _ _ _ h => h) (by rfl) (by intro w0 hSw; have q1 := hx1; have q2 := hx2; have q3 := hn1; have q4 := hn2; obtain ⟨s0, s1, s2⟩ := HSC.out _ hSw; first | (go_simp; done) | (go_simp; with_reducible rfl)) (by assumption) ?_
      simp only [List.setIfInBounds_toArray, List.set_cons_zero, List.set_cons_succ]
      refine Rg.take (i := 10) (t := 33) rfl rfl (by kernel_rfl) (by kernel_rfl) (by kernel_rfl) (fun _ _ _ h => h) (by rfl) (by intro w0 hSw; have q1 := hx1; have q2 := hx2; have q3 := hn1; have q4 := hn2; obtain ⟨s0, s1, s2⟩ := HSC.out _ hSw; first | (go_simp; done) | (go_simp; with_reducible rfl)) (by assumption) ?_
      simp only [List.setIfInBounds_toArray, List.set_cons_zero, List.set_cons_succ]
      refine Rg.take (i := 11) (t := 34) rfl rfl (by kernel_rfl) (by kernel_rfl) (by kernel_rfl) (fun _ _ _ h => h) (by rfl) (by intro w0 hSw; have q1 := hx1; have q2 := hx2; have q3 := hn1; have q4 := hn2; obtain ⟨s0, s1, s2⟩ := HSC.out _ hSw; first | (go_simp; done) | (go_simp; with_reducible rfl)) (by assumption) ?_
      simp only [List.setIfInBounds_toArray, List.set_cons_zero, List.set_cons_succ]
      refine Rg.take (i := 12) (t := 35) rfl rfl (by kernel_rfl) (by kernel_rfl) (by kernel_rfl) (fun _ _ _ h => h) (by rfl) (by intro w0 hSw; have q1 := hx1; have q2 := hx2; have q3 := hn1; have q4 := hn2; obtain ⟨s0, s1, s2⟩ := HSC.out _ hSw; first | (go_simp; done) | (go_simp; with_reducible rfl)) (by assumption) ?_
      simp only [List.setIfInBounds_toArray, List.set_cons_zero, List.set_cons_succ]
      refine Rg.take (i := 13) (t := 36) rfl rfl (by kernel_rfl) (by kernel_rfl) (by kernel_rfl) (fun _ _ _ h => h) (by rfl) (by intro w0 hSw; have q1 := hx1; have q2 := hx2; have q3 := hn1; have q4 := hn2; obtain ⟨s0, s1, s2⟩ := HSC.out _ hSw; first | (go_simp; done) | (go_simp; with_reducible rfl)) (by assumption) ?_
      simp only [List.setIfInBounds_toArray, List.set_cons_zero, List.set_cons_succ]
      refine Rg.take (i := 14) (t := 37) rfl rfl (by kernel_rfl) (by kernel_rfl) (by kernel_rfl) (fun _ _ _ h => h) (by rfl) (by intro w0 hSw; have q1 := hx1; have q2 := hx2; have q3 := hn1; have q4 := hn2; obtain ⟨s0, s1, s2⟩ := HSC.out _ hSw; first | (go_simp; done) | (go_simp; with_reducible rfl)) (by assumption) ?_
      simp only [List.setIfInBounds_toArray, List.set_cons_zero, List.set_cons_succ]
      refine Rg.take (i := 15) (t := 38) rfl rfl (by kernel_rfl) (by kernel_rfl) (by kernel_rfl) (fun _ _ _ h => h) (by rfl) (by intro w0 hSw; have q1 := hx1; have q2 := hx2; have q3 := hn1; have q4 := hn2; obtain ⟨s0, s1, s2⟩ := HSC.out _ hSw; first | (go_simp; done) | (go_simp; with_reducible rfl)) (by assumption) ?_
      simp only [List.setIfInBounds_toArray, List.set_cons_zero, List.set_cons_succ]
      refine Rg.take (i := 16) (t := 39) rfl rfl (by kernel_rfl) (by kernel_rfl) (by kernel_rfl) (fun _ _ _ h => h) (by rfl) (by intro w0 hSw; have q1 := hx1; have q2 := hx2; have q3 := hn1; have q4 := hn2; obtain ⟨s0, s1, s2⟩ := HSC.out _ hSw; first | (go_simp; done) | (go_simp; with_reducible rfl)) (by assumption) ?_
      simp only [List.setIfInBounds_toArray, List.set_cons_zero, List.set_cons_succ]
      refine Rg.take (i := 17) (t := 40) rfl rfl (by kernel_rfl) (by kernel_rfl) (by kernel_rfl) (fun _ _ _ h => h) (by rfl) (by intro w0 hSw; have q1 := hx1; have q2 := hx2; have q3 := hn1; have q4 := hn2; obtain ⟨s0, s1, s2⟩ := HSC.out _ hSw; first | (go_simp; done) | (go_simp; with_reducible rfl)) (by assumption) ?_
      simp only [List.setIfInBounds_toArray, List.set_cons_zero, List.set_cons_succ]
      refine Rg.one (i := 18) (by kernel_rfl) ?_
      refine Rg.call (i := 18) (t := 41) rfl rfl (by rfl) (by go_simp; exact ⟨rfl, rfl⟩) ?_
      refine (bin_o a2 a0 a1 w1.drew).mono ?_
      rintro e w2 ⟨rfl, hb2⟩
      have HS2 := HSB.out w2 ((Below.drew (Below.refl w1.heap.size w1)).trans hb2)
      have HB2 := Lib.hid (HB1.out.trans (((Below.drew (Below.refl w1.heap.size w1)).trans hb2).mono HB1.out.size))
      clear hb2
      refine ⟨_, rfl, S, fun _ h => h, HS2, ?_⟩
      simp only [List.setIfInBounds_toArray, List.set_cons_zero, List.set_cons_succ]
      refine Rg.take (i := 19) (t := 22) rfl rfl (by kernel_rfl) (by kernel_rfl) (by kernel_rfl) (fun _ _ _ h => h) (by rfl) (by intro w0 hSw; have q1 := hx1; have q2 := hx2; have q3 := hn1; have q4 := hn2; obtain ⟨s0, s1, s2⟩ := HSC.out _ hSw; first | (go_simp; done) | (go_simp; with_reducible rfl)) (by assumption) ?_
      simp only [List.setIfInBounds_toArray, List.set_cons_zero, List.set_cons_succ]
      refine Rg.take (i := 20) (t := 42) rfl rfl (by kernel_rfl) (by kernel_rfl) (by kernel_rfl) (fun _ _ _ h => h) (by rfl) (by intro w0 hSw; have q1 := hx1; have q2 := hx2; have q3 := hn1; have q4 := hn2; obtain ⟨s0, s1, s2⟩ := HSC.out _ hSw; first | (go_simp; done) | (go_simp; with_reducible rfl)) (by assumption) ?_
      simp only [List.setIfInBounds_toArray, List.set_cons_zero, List.set_cons_succ]
      refine Rg.take (i := 21) (t := 43) rfl rfl (by kernel_rfl) (by kernel_rfl) (by kernel_rfl) (fun _ _ _ h => h) (by rfl) (by intro w0 hSw; have q1 := hx1; have q2 := hx2; have q3 := hn1; have q4 := hn2; obtain ⟨s0, s1, s2⟩ := HSC.out _ hSw; first | (go_simp; done) | (go_simp; with_reducible rfl)) (by assumption) ?_
      simp only [List.setIfInBounds_toArray, List.set_cons_zero, List.set_cons_succ]
      refine Rg.take (i := 22) (t := 6) rfl rfl (by kernel_rfl) (by kernel_rfl) (by kernel_rfl) (fun _ _ _ h => h) (by rfl) (by intro w0 hSw; have q1 := hx1; have q2 := hx2; have q3 := hn1; have q4 := hn2; obtain ⟨s0, s1, s2⟩ := HSC.out _ hSw; first | (go_simp; done) | (go_simp; with_reducible rfl)) (by assumption) ?_
      simp only [List.setIfInBounds_toArray, List.set_cons_zero, List.set_cons_succ]
      refine Rg.take (i := 23) (t := 7) rfl rfl (by kernel_rfl) (by kernel_rfl) (by kernel_rfl) (fun _ _ _ h => h) (by rfl) (by intro w0 hSw; have q1 := hx1; have q2 := hx2; have q3 := hn1; have q4 := hn2; obtain ⟨s0, s1, s2⟩ := HSC.out _ hSw; first | (go_simp; done) | (go_simp; with_reducible rfl)) (by assumption) ?_
      simp only [List.setIfInBounds_toArray, List.set_cons_zero, List.set_cons_succ]
      refine wpAnyH_done (by kernel_rfl) ?_ _
      clear hS0
      by_cases he : be a2 a1 = 0
      · have HW := Lib.hid (show way0 l i = some (swap l i 3 [(1, bz a2 a0 a1)]) by rw [W2.out, if_pos ⟨h9, he⟩])
        rw [he]
        go_wp2_with (go_at_call 42; refine (push_i l i 3 (bz a2 a0 a1) w2 (HR.out.below HB2.out) hc h3 hn).mono ?_; rintro e w3 ⟨v, rfl, ho, hb3⟩; have HO := Lib.hid (ho _ rfl); have HB3 := Lib.hid hb3; clear ho hb3)
        go_ret2
        rw [HW.out]
        exact WayP.yes (HO.out.lower HB2.out.size) (HB2.out.trans (HB3.out.mono HB2.out.size))
      · have HW := Lib.hid (show way0 l i = none by rw [W2.out, if_neg (fun h => he h.2)])
        have t0 : (be a2 a1 == 0) = false := by simpa using he
        have t1 : (be a2 a1 != 0) = true := by simpa using he
        go_wp2_with fail
        go_ret2
        rw [HW.out]
        exact WayP.no HB2.out
set_option maxRecDepth 100000 in
set_option maxHeartbeats 1000000 in
theorem turned_i {A : Option Addr} {n c : Nat} (l : List Ins) (i : Nat) (w : World) (hr : RdI w A n l) (hc : n ≤ c) (hi : i ≤ n) (hn : n ≤ 1048576) :
    Calls Try.prog 24 #[.slice A n c, .int .i64 (i : Int)] w (WayP (way1 l i) w) := by
  have HR := Lib.hid hr
  have HL := Lib.hid (show l.length = n from hr.1.symm)
  clear hr
  obtain ⟨w1, hw1⟩ : ∃ w1, w.alloc (.cells #[.int .i64 1] 3) = w1 := ⟨_, rfl⟩
  obtain ⟨hl1, hb1⟩ := lit_i [1] #[.int .i64 1] rfl hw1 1 rfl
  have H1 := Lib.hid hl1
  have HB1 := Lib.hid hb1
  clear hl1 hb1
  cases hq : isO l i [1] with
  | false =>
    have HQ := Lib.hid hq
    have HW := Lib.hid (show way1 l i = none by unfold way1; rw [if_neg (by rw [hq]; simp)])
    clear hq
    go_enter Try.func24, Try.ntmps24
    go_wp2_with (go_at_call 26; refine (is_i l [1] i w1 (HR.out.below HB1.out) H1.out hi hn (by omega)).mono ?_; rintro e w2 ⟨rfl, rfl⟩; rw [HQ.out])
    go_ret2
    rw [HW.out]
    exact WayP.no HB1.out
  | true =>
    have HQ := Lib.hid hq
    have h1 : i + 1 ≤ n := by have h := isO_len hq; rw [HL.out] at h; simpa using h
    have hx1 := i64w (x := (i : Int) + 1) (by omega) (by omega)
    by_cases h2 : i + 1 < n
    · obtain ⟨b, o, rfl, hb, hc2⟩ := rd_open (HR.out.below HB1.out) (show 0 < n by omega)
      have k0 := (hc2 i (by omega)).2
      have k1 := (hc2 (i + 1) h2).1
      have W2 := Lib.hid (show way1 l i = (knownV (op l (i + 1)) (ar l i)).map fun m => swap l i 2 [(1, m)] by unfold way1; rw [if_pos ⟨hq, by rw [HL.out]; exact h2⟩])
      obtain ⟨a0, ha0⟩ : ∃ a, ar l i = a := ⟨_, rfl⟩
      obtain ⟨a1, ha1⟩ : ∃ a, op l (i + 1) = a := ⟨_, rfl⟩
      rw [ha0] at k0 W2
      rw [ha1] at k1 W2
      clear hq hc2 ha0 ha1
      have e0 : (i : Int) < (n : Int) := by omega
      have e1 : (0 : Int) ≤ (i : Int) := by omega
      have e2 : (0 : Int) ≤ (i : Int) + 1 := by omega
      have e3 : (i : Int) + 1 < (n : Int) := by omega
      have t3 : decide ((n : Int) ≤ (i : Int) + 1) = false := decide_eq_false (by omega)
      have hn1 : ((i : Int) + 1).toNat = i + 1 := by omega
      go_enter Try.func24, Try.ntmps24
      go_upto_region 3 with (go_at_call 26; refine (is_i l [1] i w1 (HR.out.below HB1.out) H1.out hi hn (by omega)).mono ?_; rintro e w2 ⟨rfl, rfl⟩; rw [HQ.out])
      obtain ⟨S, hSd⟩ : ∃ S : World → Prop, (fun U : World => U.cell? ⟨b, o + i * 2 + 1, none⟩ = some (.int .i64 a0) ∧ U.cell? ⟨b, o + (i + 1) * 2, none⟩ = some (.int .i64 a1)) = S := ⟨_, rfl⟩
      have HSB := Lib.hid (show ∀ U, Below w1.heap.size w1 U → S U from fun U h => by rw [← hSd]; exact ⟨(bcell h b _ hb).trans k0, (bcell h b _ hb).trans k1⟩)
      have HSC := Lib.hid (show ∀ U, S U → U.cell? ⟨b, o + i * 2 + 1, none⟩ = some (.int .i64 a0) ∧ U.cell? ⟨b, o + (i + 1) * 2, none⟩ = some (.int .i64 a1) from fun U h => by rw [← hSd] at h; exact h)
      have hS0 : S w1.drew := HSB.out _ (Below.drew (Below.refl _ _))
      clear hSd k0 k1
      refine wp_region_held_drew (S := S) (by kernel_rfl) hS0 (fun hHeld => ?_)
      refine Rg.take (i := 0) (t := 21) rfl rfl (by kernel_rfl) (by kernel_rfl) (by kernel_rfl) (fun _ _ _ h => h) (by rfl) (by intro w0 hSw; have q1 := hx1; have q3 := hn1; obtain ⟨s0, s1⟩ := HSC.out _ hSw; first | (go_simp; done) | (go_simp; with_reducible rfl)) (by assumption) ?_
      simp only [List.setIfInBounds_toArray, List.set_cons_zero, List.set_cons_succ]
      refine Rg.take (i := 1) (t := 22) rfl rfl (by kernel_rfl) (by kernel_rfl) (by kernel_rfl) (fun _ _ _ h => h) (by rfl) (by intro w0 hSw; have q1 := hx1; have q3 := hn1; obtain ⟨s0, s1⟩ := HSC.out _ hSw; first | (go_simp; done) | (go_simp; with_reducible rfl)) (by assumption) ?_
      simp only [List.setIfInBounds_toArray, List.set_cons_zero, List.set_cons_succ]
      refine Rg.take (i := 2) (t := 23) rfl rfl (by kernel_rfl) (by kernel_rfl) (by kernel_rfl) (fun _ _ _ h => h) (by rfl) (by intro w0 hSw; have q1 := hx1; have q3 := hn1; obtain ⟨s0, s1⟩ := HSC.out _ hSw; first | (go_simp; done) | (go_simp; with_reducible rfl)) (by assumption) ?_
      simp only [List.setIfInBounds_toArray, List.set_cons_zero, List.set_cons_succ]
      refine Rg.take (i := 3) (t := 24) rfl rfl (by kernel_rfl) (by kernel_rfl) (by kernel_rfl) (fun _ _ _ h => h) (by rfl) (by intro w0 hSw; have q1 := hx1; have q3 := hn1; obtain ⟨s0, s1⟩ := HSC.out _ hSw; first | (go_simp; done) | (go_simp; with_reducible rfl)) (by assumption) ?_
      simp only [List.setIfInBounds_toArray, List.set_cons_zero, List.set_cons_succ]
      refine Rg.take (i := 4) (t := 25) rfl rfl (by kernel_rfl) (by kernel_rfl) (by kernel_rfl) (fun _ _ _ h => h) (by rfl) (by intro w0 hSw; have q1 := hx1; have q3 := hn1; obtain ⟨s0, s1⟩ := HSC.out _ hSw; first | (go_simp; done) | (go_simp; with_reducible rfl)) (by assumption) ?_
      simp only [List.setIfInBounds_toArray, List.set_cons_zero, List.set_cons_succ]
      refine Rg.take (i := 5) (t := 26) rfl rfl (by kernel_rfl) (by kernel_rfl) (by kernel_rfl) (fun _ _ _ h => h) (by rfl) (by intro w0 hSw; have q1 := hx1; have q3 := hn1; obtain ⟨s0, s1⟩ := HSC.out _ hSw; first | (go_simp; done) | (go_simp; with_reducible rfl)) (by assumption) ?_
      simp only [List.setIfInBounds_toArray, List.set_cons_zero, List.set_cons_succ]
      refine Rg.take (i := 6) (t := 27) rfl rfl (by kernel_rfl) (by kernel_rfl) (by kernel_rfl) (fun _ _ _ h => h) (by rfl) (by intro w0 hSw; have q1 := hx1; have q3 := hn1; obtain ⟨s0, s1⟩ := HSC.out _ hSw; first | (go_simp; done) | (go_simp; with_reducible rfl)) (by assumption) ?_
      simp only [List.setIfInBounds_toArray, List.set_cons_zero, List.set_cons_succ]
      refine Rg.take (i := 7) (t := 28) rfl rfl (by kernel_rfl) (by kernel_rfl) (by kernel_rfl) (fun _ _ _ h => h) (by rfl) (by intro w0 hSw; have q1 := hx1; have q3 := hn1; obtain ⟨s0, s1⟩ := HSC.out _ hSw; first | (go_simp; done) | (go_simp; with_reducible rfl)) (by assumption) ?_
      simp only [List.setIfInBounds_toArray, List.set_cons_zero, List.set_cons_succ]
      refine Rg.take (i := 8) (t := 29) rfl rfl (by kernel_rfl) (by kernel_rfl) (by kernel_rfl) (fun _ _ _ h => h) (by rfl) (by intro w0 hSw; have q1 := hx1; have q3 := hn1; obtain ⟨s0, s1⟩ := HSC.out _ hSw; first | (go_simp; done) | (go_simp; with_reducible rfl)) (by assumption) ?_
      simp only [List.setIfInBounds_toArray, List.set_cons_zero, List.set_cons_succ]
      refine Rg.take (i := 9) (t := 30) rfl rfl (by kernel_rfl) (by kernel_rfl) (by kernel_rfl) (fun _ _ _ h => h) (by rfl) (by intro w0 hSw; have q1 := hx1; have q3 := hn1; obtain ⟨s0, s1⟩ := HSC.out _ hSw; first | (go_simp; done) | (go_simp; with_reducible rfl)) (by assumption) ?_
      simp only [List.setIfInBounds_toArray, List.set_cons_zero, List.set_cons_succ]
      refine Rg.take (i := 10) (t := 31) rfl rfl (by kernel_rfl) (by kernel_rfl) (by kernel_rfl) (fun _ _ _ h => h) (by rfl) (by intro w0 hSw; have q1 := hx1; have q3 := hn1; obtain ⟨s0, s1⟩ := HSC.out _ hSw; first | (go_simp; done) | (go_simp; with_reducible rfl)) (by assumption) ?_
      simp only [List.setIfInBounds_toArray, List.set_cons_zero, List.set_cons_succ]
      refine Rg.one (i := 11) (by kernel_rfl) ?_
      refine Rg.call (i := 11) (t := 32) rfl rfl (by rfl) (by go_simp; exact ⟨rfl, rfl⟩) ?_
      refine (known_i a1 a0 w1.drew).mono ?_
      rintro e w2 ⟨rfl, hb2⟩
      have HS2 := HSB.out w2 ((Below.drew (Below.refl w1.heap.size w1)).trans hb2)
      have HB2 := Lib.hid (HB1.out.trans (((Below.drew (Below.refl w1.heap.size w1)).trans hb2).mono HB1.out.size))
      clear hb2
      refine ⟨_, rfl, S, fun _ h => h, HS2, ?_⟩
      simp only [List.setIfInBounds_toArray, List.set_cons_zero, List.set_cons_succ]
      refine Rg.take (i := 12) (t := 20) rfl rfl (by kernel_rfl) (by kernel_rfl) (by kernel_rfl) (fun _ _ _ h => h) (by rfl) (by intro w0 hSw; have q1 := hx1; have q3 := hn1; obtain ⟨s0, s1⟩ := HSC.out _ hSw; first | (go_simp; done) | (go_simp; with_reducible rfl)) (by assumption) ?_
      simp only [List.setIfInBounds_toArray, List.set_cons_zero, List.set_cons_succ]
      refine Rg.take (i := 13) (t := 33) rfl rfl (by kernel_rfl) (by kernel_rfl) (by kernel_rfl) (fun _ _ _ h => h) (by rfl) (by intro w0 hSw; have q1 := hx1; have q3 := hn1; obtain ⟨s0, s1⟩ := HSC.out _ hSw; first | (go_simp; done) | (go_simp; with_reducible rfl)) (by assumption) ?_
      simp only [List.setIfInBounds_toArray, List.set_cons_zero, List.set_cons_succ]
      refine Rg.take (i := 14) (t := 34) rfl rfl (by kernel_rfl) (by kernel_rfl) (by kernel_rfl) (fun _ _ _ h => h) (by rfl) (by intro w0 hSw; have q1 := hx1; have q3 := hn1; obtain ⟨s0, s1⟩ := HSC.out _ hSw; first | (go_simp; done) | (go_simp; with_reducible rfl)) (by assumption) ?_
      simp only [List.setIfInBounds_toArray, List.set_cons_zero, List.set_cons_succ]
      refine Rg.take (i := 15) (t := 6) rfl rfl (by kernel_rfl) (by kernel_rfl) (by kernel_rfl) (fun _ _ _ h => h) (by rfl) (by intro w0 hSw; have q1 := hx1; have q3 := hn1; obtain ⟨s0, s1⟩ := HSC.out _ hSw; first | (go_simp; done) | (go_simp; with_reducible rfl)) (by assumption) ?_
      simp only [List.setIfInBounds_toArray, List.set_cons_zero, List.set_cons_succ]
      refine Rg.take (i := 16) (t := 7) rfl rfl (by kernel_rfl) (by kernel_rfl) (by kernel_rfl) (fun _ _ _ h => h) (by rfl) (by intro w0 hSw; have q1 := hx1; have q3 := hn1; obtain ⟨s0, s1⟩ := HSC.out _ hSw; first | (go_simp; done) | (go_simp; with_reducible rfl)) (by assumption) ?_
      simp only [List.setIfInBounds_toArray, List.set_cons_zero, List.set_cons_succ]
      refine wpAnyH_done (by kernel_rfl) ?_ _
      clear hS0
      cases hk : knownV a1 a0 with
      | some m =>
        have HW := Lib.hid (show way1 l i = some (swap l i 2 [(1, m)]) by rw [W2.out, hk]; rfl)
        go_wp2_with (go_at_call 42; refine (push_i l i 2 m w2 (HR.out.below HB2.out) hc (by omega) hn).mono ?_; rintro e w3 ⟨v, rfl, ho, hb3⟩; have HO := Lib.hid (ho _ rfl); have HB3 := Lib.hid hb3; clear ho hb3)
        go_ret2
        rw [HW.out]
        exact WayP.yes (HO.out.lower HB2.out.size) (HB2.out.trans (HB3.out.mono HB2.out.size))
      | none =>
        have HW := Lib.hid (show way1 l i = none by rw [W2.out, hk]; rfl)
        go_wp2_with fail
        go_ret2
        rw [HW.out]
        exact WayP.no HB2.out
    · have HW := Lib.hid (show way1 l i = none by unfold way1; rw [if_neg (by rw [HL.out]; exact fun h => h2 h.2)])
      have t3 : decide ((n : Int) ≤ (i : Int) + 1) = true := decide_eq_true (by omega)
      clear hq
      go_enter Try.func24, Try.ntmps24
      go_wp2_with (go_at_call 26; refine (is_i l [1] i w1 (HR.out.below HB1.out) H1.out hi hn (by omega)).mono ?_; rintro e w2 ⟨rfl, rfl⟩; rw [HQ.out])
      go_ret2
      rw [HW.out]
      exact WayP.no HB1.out
theorem upto_step {l : List Ins} {j : Nat} (h : j < l.length) : upto l j = if op l j = 38 then j else upto l (j + 1) := by
  unfold upto
  rw [List.drop_eq_getElem_cons h, List.takeWhile_cons, op_lt h]
  unfold lab
  by_cases e : l[j].1 = 38
  · rw [if_pos e]; simp [e]
  · rw [if_neg e]; simp [e]; omega
theorem upto_end {l : List Ins} {j : Nat} (h : l.length ≤ j) : upto l j = j := by
  unfold upto
  rw [List.drop_of_length_le h]; simp
set_option maxRecDepth 100000 in
set_option maxHeartbeats 1000000 in
theorem never_i {A : Option Addr} {n c : Nat} (l : List Ins) (i : Nat) (w : World) (hr : RdI w A n l) (hc : n ≤ c) (hi : i < n) (hn : n ≤ 1048576) :
    Calls Try.prog 28 #[.slice A n c, .int .i64 (i : Int)] w (WayP (way6 l i) w) := by
  have HL := Lib.hid (show l.length = n from hr.1.symm)
  have HR := Lib.hid hr
  obtain ⟨b, o, rfl, hb, hc2⟩ := rd_open hr (show 0 < n by omega)
  have HC := Lib.hid hc2
  clear hr hc2
  have hx1 := i64w (x := (i : Int) + 1) (by omega) (by omega)
  go_enter Try.func28, Try.ntmps28
  go_wp2_with fail
  go_loop [6] (fun iv => ∃ j : Nat, i + 1 ≤ j ∧ j ≤ n ∧ iv = .int .i64 (j : Int) ∧ Hid (upto l j = upto l (i + 1))) (fun iv => n - (intOf iv).toNat)
  case atStart => exact ⟨i + 1, Nat.le_refl _, hi, by congr 1, Lib.hid rfl⟩
  case round =>
    obtain ⟨j, hij, hj, rfl, HT⟩ := hrel
    have done : Hid (upto l (i + 1) = j → way6 l i = if endsB (op l i) = true ∧ j ≠ i + 1 then some (swap l (i + 1) (j - (i + 1)) []) else none) := Lib.hid (fun h => by unfold way6; rw [h, show j - i - 1 = j - (i + 1) by omega])
    by_cases hlt : j < n
    · have c0 := (HC.out j hlt).1
      have HS := Lib.hid (upto_step (show j < l.length by rw [HL.out]; exact hlt))
      obtain ⟨z, hz⟩ : ∃ z, op l j = z := ⟨_, rfl⟩
      rw [hz] at c0 HS
      have k0 : (0 : Int) ≤ (j : Int) := by omega
      have k1 : (j : Int) < (n : Int) := by omega
      clear hz
      cases hz : (z == 38) with
      | false =>
        have HT2 := Lib.hid (show upto l (j + 1) = upto l (i + 1) by rw [← HT.out, HS.out, if_neg (by simpa using hz)])
        have hz2 : (z != 38) = true := by simp only [bne, hz]; rfl
        clear done
        go_wp2_with fail
        go_round
        case rel => exact ⟨j + 1, by omega, by omega, by go_num, HT2⟩
        case measure => simp [intOf]; omega
      | true =>
        have HW := Lib.hid (done.out (by rw [← HT.out, HS.out, if_pos (by simpa using hz)]))
        have hz2 : (z != 38) = false := by simp only [bne, hz]; rfl
        clear HS done HT
        have d0 := (HC.out i hi).1
        have d1 := (HC.out i hi).2
        have i0 : (0 : Int) ≤ (i : Int) := by omega
        have i1 : (i : Int) < (n : Int) := by omega
        obtain ⟨x0, hx0⟩ : ∃ x, op l i = x := ⟨_, rfl⟩
        rw [hx0] at d0 HW
        have CE := Lib.hid (fun w => ends_i (x0, ar l i) w)
        cases he : endsB x0 with
        | false =>
          have HE := Lib.hid he
          go_wp2_with (go_at_call 46; refine (CE.out w).mono ?_; rintro e w2 ⟨rfl, hb2⟩; have HB2 := Lib.hid hb2; clear hb2; rw [HE.out])
          go_ret2
          rw [HW.out, if_neg (by rw [HE.out]; simp)]
          exact WayP.no HB2.out
        | true =>
          have HE := Lib.hid he
          by_cases hji : j = i + 1
          · have HJ := Lib.hid hji
            have t5 : ((j : Int) == (i : Int) + 1) = true := by simp; omega
            clear hji
            go_wp2_with (go_at_call 46; refine (CE.out w).mono ?_; rintro e w2 ⟨rfl, hb2⟩; have HB2 := Lib.hid hb2; clear hb2; rw [HE.out])
            go_ret2
            rw [HW.out, if_neg (fun h => h.2 HJ.out)]
            exact WayP.no HB2.out
          · have HJ := Lib.hid hji
            have t5 : ((j : Int) == (i : Int) + 1) = false := by simp; omega
            clear hji
            have hx2 := i64w (x := (j : Int) - (i : Int)) (by omega) (by omega)
            have hx3 := i64w (x := (j : Int) - (i : Int) - 1) (by omega) (by omega)
            have CW := Lib.hid (fun w hr => with_i (B := none) (m := 0) (d := 0) (A := some ⟨b, o, none⟩) (c := c) l [] (i + 1) (j - (i + 1)) w hr (Sk.Rd.nil w none) hc (by omega) hn (by omega))
            rw [show ((i + 1 : Nat) : Int) = (i : Int) + 1 by omega, show ((j - (i + 1) : Nat) : Int) = (j : Int) - (i : Int) - 1 by omega] at CW
            go_wp2_with (first
              | (go_at_call 46; refine (CE.out w).mono ?_; rintro e w2 ⟨rfl, hb2⟩; have HB2 := Lib.hid hb2; clear hb2; rw [HE.out])
              | (go_at_call 25; refine (CW.out w2 (HR.out.below HB2.out)).mono ?_; rintro e w3 ⟨v, rfl, ho, hb3⟩; have HO := Lib.hid ho; have HB3 := Lib.hid hb3; clear ho hb3))
            go_ret2
            rw [HW.out, if_pos ⟨HE.out, HJ.out⟩]
            exact WayP.yes (HO.out.lower HB2.out.size) (HB2.out.trans (HB3.out.mono HB2.out.size))
    · have HW := Lib.hid (done.out (by rw [← HT.out, upto_end (by rw [HL.out]; omega)]))
      have t1 : decide ((j : Int) < (n : Int)) = false := decide_eq_false (by omega)
      clear done HT
      have d0 := (HC.out i hi).1
      have d1 := (HC.out i hi).2
      have i0 : (0 : Int) ≤ (i : Int) := by omega
      have i1 : (i : Int) < (n : Int) := by omega
      obtain ⟨x0, hx0⟩ : ∃ x, op l i = x := ⟨_, rfl⟩
      rw [hx0] at d0 HW
      have CE := Lib.hid (fun w => ends_i (x0, ar l i) w)
      cases he : endsB x0 with
      | false =>
        have HE := Lib.hid he
        go_wp2_with (go_at_call 46; refine (CE.out w).mono ?_; rintro e w2 ⟨rfl, hb2⟩; have HB2 := Lib.hid hb2; clear hb2; rw [HE.out])
        go_ret2
        rw [HW.out, if_neg (by rw [HE.out]; simp)]
        exact WayP.no HB2.out
      | true =>
        have HE := Lib.hid he
        by_cases hji : j = i + 1
        · have HJ := Lib.hid hji
          have t5 : ((j : Int) == (i : Int) + 1) = true := by simp; omega
          clear hji
          go_wp2_with (go_at_call 46; refine (CE.out w).mono ?_; rintro e w2 ⟨rfl, hb2⟩; have HB2 := Lib.hid hb2; clear hb2; rw [HE.out])
          go_ret2
          rw [HW.out, if_neg (fun h => h.2 HJ.out)]
          exact WayP.no HB2.out
        · have HJ := Lib.hid hji
          have t5 : ((j : Int) == (i : Int) + 1) = false := by simp; omega
          clear hji
          have hx2 := i64w (x := (j : Int) - (i : Int)) (by omega) (by omega)
          have hx3 := i64w (x := (j : Int) - (i : Int) - 1) (by omega) (by omega)
          have CW := Lib.hid (fun w hr => with_i (B := none) (m := 0) (d := 0) (A := some ⟨b, o, none⟩) (c := c) l [] (i + 1) (j - (i + 1)) w hr (Sk.Rd.nil w none) hc (by omega) hn (by omega))
          rw [show ((i + 1 : Nat) : Int) = (i : Int) + 1 by omega, show ((j - (i + 1) : Nat) : Int) = (j : Int) - (i : Int) - 1 by omega] at CW
          go_wp2_with (first
            | (go_at_call 46; refine (CE.out w).mono ?_; rintro e w2 ⟨rfl, hb2⟩; have HB2 := Lib.hid hb2; clear hb2; rw [HE.out])
            | (go_at_call 25; refine (CW.out w2 (HR.out.below HB2.out)).mono ?_; rintro e w3 ⟨v, rfl, ho, hb3⟩; have HO := Lib.hid ho; have HB3 := Lib.hid hb3; clear ho hb3))
          go_ret2
          rw [HW.out, if_pos ⟨HE.out, HJ.out⟩]
          exact WayP.yes (HO.out.lower HB2.out.size) (HB2.out.trans (HB3.out.mono HB2.out.size))
end Go.Proofs.Ytmilnfboglhdgaa.PeepZ
