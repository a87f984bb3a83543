/- The ten ways of chapter 29. Conditions: lengths of 1048576 at most. -/
import Derived.Test.YtmilnfboglhdgaaPeepD
namespace Go.Proofs.Ytmilnfboglhdgaa.PeepE
open Go Go.RowKit NestP NestW Sq ValP ValW ValY PeepP PeepW PeepX PeepY PeepZ PeepC PeepD

theorem past_1 {A : Option Addr} {n c : Nat} (l : List Ins) (i : Nat) (w : World) (hr : RdI w A n l) (hi : i < n) (hn : n ≤ 1048576) :
    Calls Try.prog 30 #[.slice A n c, .int .i64 ((i : Int) + 1)] w fun e w' => e = .returned (.int .i64 (past l (i + 1) : Int)) ∧ w = w' := by
  have h := past_i (c := c) l (i + 1) w hr hi hn
  rw [show ((i + 1 : Nat) : Int) = (i : Int) + 1 by omega] at h
  exact h
set_option maxRecDepth 100000 in
set_option maxHeartbeats 1000000 in
theorem way0_w {A : Option Addr} {n c : Nat} (l : List Ins) (i : Nat) (w : World) (hr : RdI w A n l) (hc : n ≤ c) (hi : i < n) (hn : n ≤ 1048576) :
    Calls Try.prog 21 #[.slice A n c, .int .i64 0, .int .i64 (i : Int)] w (WayP (way l i 0) w) := by
  show Calls _ _ _ _ (WayP (way0 l i) w)
  have HL := Lib.hid (show l.length = n from hr.1.symm)
  obtain ⟨b, o, rfl, hb0, _⟩ := rd_open hr (Nat.lt_of_le_of_lt (Nat.zero_le _) hi)
  obtain ⟨w1, hw1⟩ : ∃ W, (w.alloc (.cells #[.slice (some ⟨b, o, none⟩) n c] 31)).alloc (.cells #[.int .i64 (i : Int)] 3) = W := ⟨_, rfl⟩
  obtain ⟨hx, hbx⟩ := boxes (i := i) (c := c) hr hw1
  have HX := Lib.hid hx
  have HB := Lib.hid hbx
  clear hr hx hbx hb0
  obtain ⟨o0, ho0⟩ : ∃ x, op l i = x := ⟨_, rfl⟩
  obtain ⟨a0, ha0⟩ : ∃ x, ar l i = x := ⟨_, rfl⟩
  have HO0 := Lib.hid ho0
  have HA0 := Lib.hid ha0
  have HCL := Lib.hid (show ∀ U, Bx2 U w.heap.size (w.heap.size + 1) (some ⟨b, o, none⟩) n c i l → U.cell? ⟨b, o + i * 2, none⟩ = some (.int .i64 o0) ∧ U.cell? ⟨b, o + i * 2 + 1, none⟩ = some (.int .i64 a0) from fun U h => by have h2 := rd_at h.rd hi; rw [ho0, ha0] at h2; exact h2)
  clear ho0 ha0
  have i0 : (0 : Int) ≤ (i : Int) := Int.natCast_nonneg _
  have i1 : (i : Int) < (n : Int) := by omega
  have x0 := HX.out.box
  have x1 := HX.out.idx
  have c0 := (HCL.out _ HX.out).1
  have c1 := (HCL.out _ HX.out).2
  go_enter Try.func21, Try.ntmps21
  go_wp2_with (go_at_call 23; refine (reckoned_i l i w1 HX.out.rd hc (Nat.le_of_lt hi) hn).mono ?_; rintro e w2 ⟨v, rfl, ho, hb⟩; have HO := Lib.hid ho; have HB2 := Lib.hid hb; clear ho hb)
  go_ret2
  exact WayP.up ⟨v, rfl, HO.out, HB2.out⟩ HB.out
set_option maxRecDepth 100000 in
set_option maxHeartbeats 1000000 in
theorem way1_w {A : Option Addr} {n c : Nat} (l : List Ins) (i : Nat) (w : World) (hr : RdI w A n l) (hc : n ≤ c) (hi : i < n) (hn : n ≤ 1048576) :
    Calls Try.prog 21 #[.slice A n c, .int .i64 1, .int .i64 (i : Int)] w (WayP (way l i 1) w) := by
  show Calls _ _ _ _ (WayP (way1 l i) w)
  have HL := Lib.hid (show l.length = n from hr.1.symm)
  obtain ⟨b, o, rfl, hb0, _⟩ := rd_open hr (Nat.lt_of_le_of_lt (Nat.zero_le _) hi)
  obtain ⟨w1, hw1⟩ : ∃ W, (w.alloc (.cells #[.slice (some ⟨b, o, none⟩) n c] 31)).alloc (.cells #[.int .i64 (i : Int)] 3) = W := ⟨_, rfl⟩
  obtain ⟨hx, hbx⟩ := boxes (i := i) (c := c) hr hw1
  have HX := Lib.hid hx
  have HB := Lib.hid hbx
  clear hr hx hbx hb0
  obtain ⟨o0, ho0⟩ : ∃ x, op l i = x := ⟨_, rfl⟩
  obtain ⟨a0, ha0⟩ : ∃ x, ar l i = x := ⟨_, rfl⟩
  have HO0 := Lib.hid ho0
  have HA0 := Lib.hid ha0
  have HCL := Lib.hid (show ∀ U, Bx2 U w.heap.size (w.heap.size + 1) (some ⟨b, o, none⟩) n c i l → U.cell? ⟨b, o + i * 2, none⟩ = some (.int .i64 o0) ∧ U.cell? ⟨b, o + i * 2 + 1, none⟩ = some (.int .i64 a0) from fun U h => by have h2 := rd_at h.rd hi; rw [ho0, ha0] at h2; exact h2)
  clear ho0 ha0
  have i0 : (0 : Int) ≤ (i : Int) := Int.natCast_nonneg _
  have i1 : (i : Int) < (n : Int) := by omega
  have x0 := HX.out.box
  have x1 := HX.out.idx
  have c0 := (HCL.out _ HX.out).1
  have c1 := (HCL.out _ HX.out).2
  go_enter Try.func21, Try.ntmps21
  go_wp2_with (go_at_call 24; refine (turned_i l i w1 HX.out.rd hc (Nat.le_of_lt hi) hn).mono ?_; rintro e w2 ⟨v, rfl, ho, hb⟩; have HO := Lib.hid ho; have HB2 := Lib.hid hb; clear ho hb)
  go_ret2
  exact WayP.up ⟨v, rfl, HO.out, HB2.out⟩ HB.out
set_option maxRecDepth 100000 in
set_option maxHeartbeats 1000000 in
theorem way6_w {A : Option Addr} {n c : Nat} (l : List Ins) (i : Nat) (w : World) (hr : RdI w A n l) (hc : n ≤ c) (hi : i < n) (hn : n ≤ 1048576) :
    Calls Try.prog 21 #[.slice A n c, .int .i64 6, .int .i64 (i : Int)] w (WayP (way l i 6) w) := by
  show Calls _ _ _ _ (WayP (way6 l i) w)
  have HL := Lib.hid (show l.length = n from hr.1.symm)
  obtain ⟨b, o, rfl, hb0, _⟩ := rd_open hr (Nat.lt_of_le_of_lt (Nat.zero_le _) hi)
  obtain ⟨w1, hw1⟩ : ∃ W, (w.alloc (.cells #[.slice (some ⟨b, o, none⟩) n c] 31)).alloc (.cells #[.int .i64 (i : Int)] 3) = W := ⟨_, rfl⟩
  obtain ⟨hx, hbx⟩ := boxes (i := i) (c := c) hr hw1
  have HX := Lib.hid hx
  have HB := Lib.hid hbx
  clear hr hx hbx hb0
  obtain ⟨o0, ho0⟩ : ∃ x, op l i = x := ⟨_, rfl⟩
  obtain ⟨a0, ha0⟩ : ∃ x, ar l i = x := ⟨_, rfl⟩
  have HO0 := Lib.hid ho0
  have HA0 := Lib.hid ha0
  have HCL := Lib.hid (show ∀ U, Bx2 U w.heap.size (w.heap.size + 1) (some ⟨b, o, none⟩) n c i l → U.cell? ⟨b, o + i * 2, none⟩ = some (.int .i64 o0) ∧ U.cell? ⟨b, o + i * 2 + 1, none⟩ = some (.int .i64 a0) from fun U h => by have h2 := rd_at h.rd hi; rw [ho0, ha0] at h2; exact h2)
  clear ho0 ha0
  have i0 : (0 : Int) ≤ (i : Int) := Int.natCast_nonneg _
  have i1 : (i : Int) < (n : Int) := by omega
  have x0 := HX.out.box
  have x1 := HX.out.idx
  have c0 := (HCL.out _ HX.out).1
  have c1 := (HCL.out _ HX.out).2
  go_enter Try.func21, Try.ntmps21
  go_wp2_with (go_at_call 28; refine (never_i l i w1 HX.out.rd hc hi hn).mono ?_; rintro e w2 ⟨v, rfl, ho, hb⟩; have HO := Lib.hid ho; have HB2 := Lib.hid hb; clear ho hb)
  go_ret2
  exact WayP.up ⟨v, rfl, HO.out, HB2.out⟩ HB.out
set_option maxRecDepth 100000 in
set_option maxHeartbeats 1000000 in
theorem way8_w {A : Option Addr} {n c : Nat} (l : List Ins) (i : Nat) (w : World) (hr : RdI w A n l) (hc : n ≤ c) (hi : i < n) (hn : n ≤ 1048576) :
    Calls Try.prog 21 #[.slice A n c, .int .i64 8, .int .i64 (i : Int)] w (WayP (way l i 8) w) := by
  show Calls _ _ _ _ (WayP (way8 l i) w)
  have HL := Lib.hid (show l.length = n from hr.1.symm)
  obtain ⟨b, o, rfl, hb0, _⟩ := rd_open hr (Nat.lt_of_le_of_lt (Nat.zero_le _) hi)
  obtain ⟨w1, hw1⟩ : ∃ W, (w.alloc (.cells #[.slice (some ⟨b, o, none⟩) n c] 31)).alloc (.cells #[.int .i64 (i : Int)] 3) = W := ⟨_, rfl⟩
  obtain ⟨hx, hbx⟩ := boxes (i := i) (c := c) hr hw1
  have HX := Lib.hid hx
  have HB := Lib.hid hbx
  clear hr hx hbx hb0
  obtain ⟨o0, ho0⟩ : ∃ x, op l i = x := ⟨_, rfl⟩
  obtain ⟨a0, ha0⟩ : ∃ x, ar l i = x := ⟨_, rfl⟩
  have HO0 := Lib.hid ho0
  have HA0 := Lib.hid ha0
  have HCL := Lib.hid (show ∀ U, Bx2 U w.heap.size (w.heap.size + 1) (some ⟨b, o, none⟩) n c i l → U.cell? ⟨b, o + i * 2, none⟩ = some (.int .i64 o0) ∧ U.cell? ⟨b, o + i * 2 + 1, none⟩ = some (.int .i64 a0) from fun U h => by have h2 := rd_at h.rd hi; rw [ho0, ha0] at h2; exact h2)
  clear ho0 ha0
  have i0 : (0 : Int) ≤ (i : Int) := Int.natCast_nonneg _
  have i1 : (i : Int) < (n : Int) := by omega
  have x0 := HX.out.box
  have x1 := HX.out.idx
  have c0 := (HCL.out _ HX.out).1
  have c1 := (HCL.out _ HX.out).2
  go_enter Try.func21, Try.ntmps21
  go_wp2_with (go_at_call 32; refine (further_i l i w1 HX.out.rd hc hi hn).mono ?_; rintro e w2 ⟨v, rfl, ho, hb⟩; have HO := Lib.hid ho; have HB2 := Lib.hid hb; clear ho hb)
  go_ret2
  exact WayP.up ⟨v, rfl, HO.out, HB2.out⟩ HB.out
set_option maxRecDepth 100000 in
set_option maxHeartbeats 1000000 in
theorem way2_w {A : Option Addr} {n c : Nat} (l : List Ins) (i : Nat) (w : World) (hr : RdI w A n l) (hc : n ≤ c) (hi : i < n) (hn : n ≤ 1048576) :
    Calls Try.prog 21 #[.slice A n c, .int .i64 2, .int .i64 (i : Int)] w (WayP (way l i 2) w) := by
  show Calls _ _ _ _ (WayP (way2 l i) w)
  have HL := Lib.hid (show l.length = n from hr.1.symm)
  obtain ⟨b, o, rfl, hb0, _⟩ := rd_open hr (Nat.lt_of_le_of_lt (Nat.zero_le _) hi)
  obtain ⟨w1, hw1⟩ : ∃ W, (w.alloc (.cells #[.slice (some ⟨b, o, none⟩) n c] 31)).alloc (.cells #[.int .i64 (i : Int)] 3) = W := ⟨_, rfl⟩
  obtain ⟨hx, hbx⟩ := boxes (i := i) (c := c) hr hw1
  have HX := Lib.hid hx
  have HB := Lib.hid hbx
  clear hr hx hbx hb0
  obtain ⟨o0, ho0⟩ : ∃ x, op l i = x := ⟨_, rfl⟩
  obtain ⟨a0, ha0⟩ : ∃ x, ar l i = x := ⟨_, rfl⟩
  have HO0 := Lib.hid ho0
  have HA0 := Lib.hid ha0
  have HCL := Lib.hid (show ∀ U, Bx2 U w.heap.size (w.heap.size + 1) (some ⟨b, o, none⟩) n c i l → U.cell? ⟨b, o + i * 2, none⟩ = some (.int .i64 o0) ∧ U.cell? ⟨b, o + i * 2 + 1, none⟩ = some (.int .i64 a0) from fun U h => by have h2 := rd_at h.rd hi; rw [ho0, ha0] at h2; exact h2)
  clear ho0 ha0
  have i0 : (0 : Int) ≤ (i : Int) := Int.natCast_nonneg _
  have i1 : (i : Int) < (n : Int) := by omega
  have x0 := HX.out.box
  have x1 := HX.out.idx
  have c0 := (HCL.out _ HX.out).1
  have c1 := (HCL.out _ HX.out).2
  obtain ⟨M, hM, hiM, hM2⟩ : ∃ M : Nat, (if (n : Int) - (i : Int) < 2 then (n : Int) - (i : Int) else 2) = (M : Int) ∧ i + M ≤ n ∧ (i + 2 ≤ n → M = 2) := by
    by_cases h : i + 2 ≤ n
    · exact ⟨2, by rw [if_neg (by omega)]; rfl, h, fun _ => rfl⟩
    · exact ⟨1, by rw [if_pos (by omega)]; omega, by omega, fun h2 => absurd h2 h⟩
  have HM2 := Lib.hid hM2
  clear hM2
  have hwn := i64w (x := (n : Int) - (i : Int)) (by omega) (by omega)
  go_enter Try.func21, Try.ntmps21
  go_upto_region 7 with fail
  obtain ⟨S, hSd⟩ : ∃ S : World → Prop, (fun U : World => Bx2 U w.heap.size (w.heap.size + 1) (some ⟨b, o, none⟩) n c i l) = S := ⟨_, rfl⟩
  have HSC := Lib.hid (show ∀ U, S U → Bx2 U w.heap.size (w.heap.size + 1) (some ⟨b, o, none⟩) n c i l from fun U h => by rw [← hSd] at h; exact h)
  have HSI := Lib.hid (show ∀ U, Bx2 U w.heap.size (w.heap.size + 1) (some ⟨b, o, none⟩) n c i l → S U from fun U h => by rw [← hSd]; exact h)
  clear hSd
  have hS0 : S w1.drew := HSI.out _ (HX.out.below (Below.drew (Below.refl _ _)))
  clear x0 x1 c0 c1
  refine wp_region_held_drew (S := S) (by kernel_rfl) hS0 (fun hHeld => ?_)
  refine Rg.take (i := 0) (t := 25) rfl rfl (by kernel_rfl) (by kernel_rfl) (by kernel_rfl) (fun _ _ _ h => h) (by rfl) (by intro w0 hSw; have hbx := HSC.out _ hSw; have x0 := hbx.box; have x1 := hbx.idx; have c0 := (HCL.out _ hbx).1; have c1 := (HCL.out _ hbx).2; have q1 := hwn; have q2 := hM; first | (go_simp; done) | (go_simp; with_reducible rfl)) (by assumption) ?_
  simp only [List.setIfInBounds_toArray, List.set_cons_zero, List.set_cons_succ]
  refine Rg.take (i := 1) (t := 26) rfl rfl (by kernel_rfl) (by kernel_rfl) (by kernel_rfl) (fun _ _ _ h => h) (by rfl) (by intro w0 hSw; have hbx := HSC.out _ hSw; have x0 := hbx.box; have x1 := hbx.idx; have c0 := (HCL.out _ hbx).1; have c1 := (HCL.out _ hbx).2; have q1 := hwn; have q2 := hM; first | (go_simp; done) | (go_simp; with_reducible rfl)) (by assumption) ?_
  simp only [List.setIfInBounds_toArray, List.set_cons_zero, List.set_cons_succ]
  refine Rg.take (i := 2) (t := 27) rfl rfl (by kernel_rfl) (by kernel_rfl) (by kernel_rfl) (fun _ _ _ h => h) (by rfl) (by intro w0 hSw; have hbx := HSC.out _ hSw; have x0 := hbx.box; have x1 := hbx.idx; have c0 := (HCL.out _ hbx).1; have c1 := (HCL.out _ hbx).2; have q1 := hwn; have q2 := hM; first | (go_simp; done) | (go_simp; with_reducible rfl)) (by assumption) ?_
  simp only [List.setIfInBounds_toArray, List.set_cons_zero, List.set_cons_succ]
  refine Rg.take (i := 3) (t := 28) rfl rfl (by kernel_rfl) (by kernel_rfl) (by kernel_rfl) (fun _ _ _ h => h) (by rfl) (by intro w0 hSw; have hbx := HSC.out _ hSw; have x0 := hbx.box; have x1 := hbx.idx; have c0 := (HCL.out _ hbx).1; have c1 := (HCL.out _ hbx).2; have q1 := hwn; have q2 := hM; first | (go_simp; done) | (go_simp; with_reducible rfl)) (by assumption) ?_
  simp only [List.setIfInBounds_toArray, List.set_cons_zero, List.set_cons_succ]
  refine Rg.take (i := 4) (t := 29) rfl rfl (by kernel_rfl) (by kernel_rfl) (by kernel_rfl) (fun _ _ _ h => h) (by rfl) (by intro w0 hSw; have hbx := HSC.out _ hSw; have x0 := hbx.box; have x1 := hbx.idx; have c0 := (HCL.out _ hbx).1; have c1 := (HCL.out _ hbx).2; have q1 := hwn; have q2 := hM; first | (go_simp; done) | (go_simp; with_reducible rfl)) (by assumption) ?_
  simp only [List.setIfInBounds_toArray, List.set_cons_zero, List.set_cons_succ]
  refine Rg.take (i := 5) (t := 30) rfl rfl (by kernel_rfl) (by kernel_rfl) (by kernel_rfl) (fun _ _ _ h => h) (by rfl) (by intro w0 hSw; have hbx := HSC.out _ hSw; have x0 := hbx.box; have x1 := hbx.idx; have c0 := (HCL.out _ hbx).1; have c1 := (HCL.out _ hbx).2; have q1 := hwn; have q2 := hM; first | (go_simp; done) | (go_simp; with_reducible rfl)) (by assumption) ?_
  simp only [List.setIfInBounds_toArray, List.set_cons_zero, List.set_cons_succ]
  refine Rg.take (i := 6) (t := 31) (v := .int .i64 (M : Int)) rfl rfl (by kernel_rfl) (by kernel_rfl) (by kernel_rfl) (fun _ _ _ h => h) (by rfl) (by intro w0 hSw; have hbx := HSC.out _ hSw; have x0 := hbx.box; have x1 := hbx.idx; have c0 := (HCL.out _ hbx).1; have c1 := (HCL.out _ hbx).2; have q1 := hwn; have q2 := hM; first | (go_simp; done) | (go_simp; with_reducible rfl)) (by assumption) ?_
  simp only [List.setIfInBounds_toArray, List.set_cons_zero, List.set_cons_succ]
  refine Rg.take (i := 8) (t := 33) rfl rfl (by kernel_rfl) (by kernel_rfl) (by kernel_rfl) (fun _ _ _ h => h) (by rfl) (by intro w0 hSw; have hbx := HSC.out _ hSw; have x0 := hbx.box; have x1 := hbx.idx; have c0 := (HCL.out _ hbx).1; have c1 := (HCL.out _ hbx).2; have q1 := hwn; have q2 := hM; first | (go_simp; done) | (go_simp; with_reducible rfl)) (by assumption) ?_
  simp only [List.setIfInBounds_toArray, List.set_cons_zero, List.set_cons_succ]
  refine Rg.take (i := 9) (t := 34) rfl rfl (by kernel_rfl) (by kernel_rfl) (by kernel_rfl) (fun _ _ _ h => h) (by rfl) (by intro w0 hSw; have hbx := HSC.out _ hSw; have x0 := hbx.box; have x1 := hbx.idx; have c0 := (HCL.out _ hbx).1; have c1 := (HCL.out _ hbx).2; have q1 := hwn; have q2 := hM; first | (go_simp; done) | (go_simp; with_reducible rfl)) (by assumption) ?_
  simp only [List.setIfInBounds_toArray, List.set_cons_zero, List.set_cons_succ]
  refine Rg.two (i := 7) (j := 10) (by kernel_rfl) ?_ ?_
  · refine Rg.call (i := 7) (t := 32) rfl rfl (by rfl) (by go_simp; exact ⟨rfl, rfl⟩) ?_
    refine (with_i (B := none) (m := 0) (d := 0) l [] i M w1.drew (HX.out.below (Below.drew (Below.refl _ _))).rd (Sk.Rd.nil _ none) hc hiM hn (by omega)).mono ?_
    rintro e w2 ⟨v, rfl, ho, hb2⟩
    have HB2 := Lib.hid (HB.out.trans (((Below.drew (Below.refl w1.heap.size w1)).trans hb2).mono HB.out.size))
    have HX2 := Lib.hid (HX.out.below ((Below.drew (Below.refl w1.heap.size w1)).trans hb2))
    have HO := Lib.hid ho
    have hs2 : S w2 := HSI.out _ HX2.out
    clear ho hb2
    refine ⟨_, rfl, S, fun _ h => h, hs2, ?_⟩
    simp only [List.setIfInBounds_toArray, List.set_cons_zero, List.set_cons_succ]
    refine Rg.one (i := 10) (by kernel_rfl) ?_
    refine Rg.eff (i := 10) (t := 35) rfl rfl (by rfl) (by go_simp; first | exact ⟨rfl, rfl⟩ | exact rfl) (S) (fun _ h => h) (HSI.out _ (HX2.out.below ((Below.refl _ _).alloc (Nat.le_refl _) _))) ?_
    simp only [List.setIfInBounds_toArray, List.set_cons_zero, List.set_cons_succ]
    obtain ⟨w3, hw3⟩ : ∃ W, (w2.alloc (.cells #[.int .i64 10, .int .i64 10, .int .i64 25] 3)) = W := ⟨_, rfl⟩
    rw [hw3]
    have hlw3 : Sq.Rd I w3 (some ⟨w2.heap.size, 0, none⟩) 3 [10, 10, 25] := by rw [← hw3]; exact Sq.rd_lit w2 3 [10, 10, 25] #[.int .i64 10, .int .i64 10, .int .i64 25] rfl 3 rfl
    have hbw3 : Below w2.heap.size w2 w3 := by rw [← hw3]; exact ((Below.refl _ _).alloc (Nat.le_refl _) _)
    clear hw3
    have HX3 := Lib.hid (HX2.out.below hbw3)
    have HOF := Lib.hid ((HO.out.below hbw3).lower HB.out.size)
    have HBF := Lib.hid (HB2.out.trans (hbw3.mono HB2.out.size))
    have hs3 : S w3 := HSI.out _ HX3.out
    refine Rg.one (i := 11) (by kernel_rfl) ?_
    refine Rg.call (i := 11) (t := 36) rfl rfl (by rfl) (by go_simp; exact ⟨rfl, rfl⟩) ?_
    refine (is_i l [10, 10, 25] i w3 HX3.out.rd hlw3 (Nat.le_of_lt hi) hn (by omega)).mono ?_
    rintro e w4 ⟨rfl, rfl⟩
    refine ⟨_, rfl, S, fun _ h => h, hs3, ?_⟩
    simp only [List.setIfInBounds_toArray, List.set_cons_zero, List.set_cons_succ]
    refine Rg.take (i := 12) (t := 6) rfl rfl (by kernel_rfl) (by kernel_rfl) (by kernel_rfl) (fun _ _ _ h => h) (by rfl) (by intro w0 hSw; first | (go_simp; done) | (go_simp; with_reducible rfl)) (by assumption) ?_
    simp only [List.setIfInBounds_toArray, List.set_cons_zero, List.set_cons_succ]
    refine Rg.take (i := 13) (t := 7) rfl rfl (by kernel_rfl) (by kernel_rfl) (by kernel_rfl) (fun _ _ _ h => h) (by rfl) (by intro w0 hSw; first | (go_simp; done) | (go_simp; with_reducible rfl)) (by assumption) ?_
    simp only [List.setIfInBounds_toArray, List.set_cons_zero, List.set_cons_succ]
    refine wpAnyH_done (by kernel_rfl) ?_ _
    clear hs2 hs3 hS0 hlw3 hbw3
    cases hq : isO l i [10, 10, 25] with
    | true =>
      have h3 : i + 3 ≤ n := by have h := isO_len hq; rw [HL.out] at h; simpa using h
      have HW := Lib.hid (show way2 l i = some (swap l i M []) by unfold way2; rw [hq, if_pos rfl, HM2.out (by omega)])
      clear hq
      go_wp2_with fail
      go_ret2
      rw [HW.out]
      exact WayP.yes HOF.out HBF.out
    | false =>
      have HW := Lib.hid (show way2 l i = none by unfold way2; rw [hq, if_neg (by simp)])
      clear hq
      go_wp2_with fail
      go_ret2
      rw [HW.out]
      exact WayP.no HBF.out
  · refine Rg.eff (i := 10) (t := 35) rfl rfl (by rfl) (by go_simp; first | exact ⟨rfl, rfl⟩ | exact rfl) (S) (fun _ h => h) (HSI.out _ (HX.out.below (((Below.refl _ _).alloc (Nat.le_refl _) _).drew))) ?_
    simp only [List.setIfInBounds_toArray, List.set_cons_zero, List.set_cons_succ]
    obtain ⟨w3, hw3⟩ : ∃ W, (w1.alloc (.cells #[.int .i64 10, .int .i64 10, .int .i64 25] 3)).drew = W := ⟨_, rfl⟩
    rw [hw3]
    have hlw3 : Sq.Rd I w3 (some ⟨w1.heap.size, 0, none⟩) 3 [10, 10, 25] := by rw [← hw3]; exact Sq.rd_lit w1 3 [10, 10, 25] #[.int .i64 10, .int .i64 10, .int .i64 25] rfl 3 rfl
    have hbw3 : Below w1.heap.size w1 w3 := by rw [← hw3]; exact ((Below.refl _ _).alloc (Nat.le_refl _) _).drew
    clear hw3
    have HX3 := Lib.hid (HX.out.below hbw3)
    have HB3 := Lib.hid (HB.out.trans (hbw3.mono HB.out.size))
    have hs3 : S w3 := HSI.out _ HX3.out
    refine Rg.one (i := 7) (by kernel_rfl) ?_
    refine Rg.call (i := 7) (t := 32) rfl rfl (by rfl) (by go_simp; exact ⟨rfl, rfl⟩) ?_
    refine (with_i (B := none) (m := 0) (d := 0) l [] i M w3 HX3.out.rd (Sk.Rd.nil _ none) hc hiM hn (by omega)).mono ?_
    rintro e w4 ⟨v, rfl, ho, hb4⟩
    have HX4 := Lib.hid (HX3.out.below hb4)
    have HOF := Lib.hid (ho.lower HB3.out.size)
    have HBF := Lib.hid (HB3.out.trans (hb4.mono HB3.out.size))
    have hs4 : S w4 := HSI.out _ HX4.out
    have hl4 := hlw3.below hb4
    clear ho hb4
    refine ⟨_, rfl, S, fun _ h => h, hs4, ?_⟩
    simp only [List.setIfInBounds_toArray, List.set_cons_zero, List.set_cons_succ]
    refine Rg.one (i := 11) (by kernel_rfl) ?_
    refine Rg.call (i := 11) (t := 36) rfl rfl (by rfl) (by go_simp; exact ⟨rfl, rfl⟩) ?_
    refine (is_i l [10, 10, 25] i w4 HX4.out.rd hl4 (Nat.le_of_lt hi) hn (by omega)).mono ?_
    rintro e w5 ⟨rfl, rfl⟩
    refine ⟨_, rfl, S, fun _ h => h, hs4, ?_⟩
    simp only [List.setIfInBounds_toArray, List.set_cons_zero, List.set_cons_succ]
    refine Rg.take (i := 12) (t := 6) rfl rfl (by kernel_rfl) (by kernel_rfl) (by kernel_rfl) (fun _ _ _ h => h) (by rfl) (by intro w0 hSw; first | (go_simp; done) | (go_simp; with_reducible rfl)) (by assumption) ?_
    simp only [List.setIfInBounds_toArray, List.set_cons_zero, List.set_cons_succ]
    refine Rg.take (i := 13) (t := 7) rfl rfl (by kernel_rfl) (by kernel_rfl) (by kernel_rfl) (fun _ _ _ h => h) (by rfl) (by intro w0 hSw; first | (go_simp; done) | (go_simp; with_reducible rfl)) (by assumption) ?_
    simp only [List.setIfInBounds_toArray, List.set_cons_zero, List.set_cons_succ]
    refine wpAnyH_done (by kernel_rfl) ?_ _
    clear hs3 hs4 hS0 hlw3 hbw3 hl4
    cases hq : isO l i [10, 10, 25] with
    | true =>
      have h3 : i + 3 ≤ n := by have h := isO_len hq; rw [HL.out] at h; simpa using h
      have HW := Lib.hid (show way2 l i = some (swap l i M []) by unfold way2; rw [hq, if_pos rfl, HM2.out (by omega)])
      clear hq
      go_wp2_with fail
      go_ret2
      rw [HW.out]
      exact WayP.yes HOF.out HBF.out
    | false =>
      have HW := Lib.hid (show way2 l i = none by unfold way2; rw [hq, if_neg (by simp)])
      clear hq
      go_wp2_with fail
      go_ret2
      rw [HW.out]
      exact WayP.no HBF.out
set_option maxRecDepth 100000 in
set_option maxHeartbeats 1000000 in
theorem way3_w {A : Option Addr} {n c : Nat} (l : List Ins) (i : Nat) (w : World) (hr : RdI w A n l) (hc : n ≤ c) (hi : i < n) (hn : n ≤ 1048576) :
    Calls Try.prog 21 #[.slice A n c, .int .i64 3, .int .i64 (i : Int)] w (WayP (way l i 3) w) := by
  show Calls _ _ _ _ (WayP (way3 l i) w)
  have HL := Lib.hid (show l.length = n from hr.1.symm)
  obtain ⟨b, o, rfl, hb0, _⟩ := rd_open hr (Nat.lt_of_le_of_lt (Nat.zero_le _) hi)
  obtain ⟨w1, hw1⟩ : ∃ W, (w.alloc (.cells #[.slice (some ⟨b, o, none⟩) n c] 31)).alloc (.cells #[.int .i64 (i : Int)] 3) = W := ⟨_, rfl⟩
  obtain ⟨hx, hbx⟩ := boxes (i := i) (c := c) hr hw1
  have HX := Lib.hid hx
  have HB := Lib.hid hbx
  clear hr hx hbx hb0
  obtain ⟨o0, ho0⟩ : ∃ x, op l i = x := ⟨_, rfl⟩
  obtain ⟨a0, ha0⟩ : ∃ x, ar l i = x := ⟨_, rfl⟩
  have HO0 := Lib.hid ho0
  have HA0 := Lib.hid ha0
  have HCL := Lib.hid (show ∀ U, Bx2 U w.heap.size (w.heap.size + 1) (some ⟨b, o, none⟩) n c i l → U.cell? ⟨b, o + i * 2, none⟩ = some (.int .i64 o0) ∧ U.cell? ⟨b, o + i * 2 + 1, none⟩ = some (.int .i64 a0) from fun U h => by have h2 := rd_at h.rd hi; rw [ho0, ha0] at h2; exact h2)
  clear ho0 ha0
  have i0 : (0 : Int) ≤ (i : Int) := Int.natCast_nonneg _
  have i1 : (i : Int) < (n : Int) := by omega
  have x0 := HX.out.box
  have x1 := HX.out.idx
  have c0 := (HCL.out _ HX.out).1
  have c1 := (HCL.out _ HX.out).2
  obtain ⟨w2, hw2⟩ : ∃ W, w1.alloc (.cells #[.int .i64 1, .int .i64 25] 3) = W := ⟨_, rfl⟩
  obtain ⟨hl2, hb2⟩ := lit_i [1, 25] #[.int .i64 1, .int .i64 25] rfl hw2 2 rfl
  have HI := Lib.hid hl2
  have HY := Lib.hid (HX.out.below hb2)
  have HBY := Lib.hid (HB.out.trans (hb2.mono HB.out.size))
  clear hl2 hb2
  have y0 := HY.out.box
  have y1 := HY.out.idx
  have e0 := (HCL.out _ HY.out).1
  have e1 := (HCL.out _ HY.out).2
  cases hq : isO l i [1, 25] with
  | false =>
    have HQ := Lib.hid hq
    have HW := Lib.hid (show way3 l i = none by unfold way3; rw [hq, if_neg (by simp)])
    clear hq
    go_enter Try.func21, Try.ntmps21
    go_wp2_with (go_at_call 26; refine (is_i l [1, 25] i w2 HY.out.rd HI.out (Nat.le_of_lt hi) hn (by omega)).mono ?_; rintro e w3 ⟨rfl, rfl⟩; rw [HQ.out])
    go_ret2
    rw [HW.out]
    exact WayP.no HBY.out
  | true =>
    have HQ := Lib.hid hq
    have h2 : i + 2 ≤ n := by have h := isO_len hq; rw [HL.out] at h; simpa using h
    cases hz : (notV a0 == 1) with
    | false =>
      have HZ := Lib.hid hz
      have HW := Lib.hid (show way3 l i = none by unfold way3; rw [HA0.out, if_neg (fun h => by have h2 := h.2; simp at hz; exact hz h2)])
      clear hq hz
      go_enter Try.func21, Try.ntmps21
      go_wp2_with (first | (go_at_call 26; refine (is_i l [1, 25] i w2 HY.out.rd HI.out (Nat.le_of_lt hi) hn (by omega)).mono ?_; rintro e w3 ⟨rfl, rfl⟩; rw [HQ.out]) | (go_at_call 27; refine (zero_i (o0, a0) w2).mono ?_; rintro e w3 ⟨rfl, hb⟩; rw [HZ.out]; have HB3 := Lib.hid hb; clear hb))
      go_ret2
      rw [HW.out]
      exact WayP.no (HBY.out.trans (HB3.out.mono HBY.out.size))
    | true =>
      have HZ := Lib.hid hz
      obtain ⟨a1, ha1⟩ : ∃ x, ar l (i + 1) = x := ⟨_, rfl⟩
      have HC1 := Lib.hid (show ∀ U, Bx2 U w.heap.size (w.heap.size + 1) (some ⟨b, o, none⟩) n c i l → U.cell? ⟨b, o + (i + 1) * 2 + 1, none⟩ = some (.int .i64 a1) from fun U h => by have h3 := (rd_at h.rd (show i + 1 < n by omega)).2; rw [ha1] at h3; exact h3)
      have HW := Lib.hid (show way3 l i = some (swap l i 2 [(24, a1)]) by unfold way3; rw [HA0.out, ha1, if_pos ⟨hq, by simpa using hz⟩])
      clear hq hz ha1
      have hwn := i64w (x := (i : Int) + 1) (by omega) (by omega)
      have hn1 : ((i : Int) + 1).toNat = i + 1 := by omega
      have j0 : (0 : Int) ≤ (i : Int) + 1 := by omega
      have j1 : (i : Int) + 1 < (n : Int) := by omega
      go_enter Try.func21, Try.ntmps21
      go_upto_region 10 with (first | (go_at_call 26; refine (is_i l [1, 25] i w2 HY.out.rd HI.out (Nat.le_of_lt hi) hn (by omega)).mono ?_; rintro e w3 ⟨rfl, rfl⟩; rw [HQ.out]) | (go_at_call 27; refine (zero_i (o0, a0) w2).mono ?_; rintro e w3 ⟨rfl, hb⟩; rw [HZ.out]; have HX3 := Lib.hid (HY.out.below hb); have HB3 := Lib.hid (HBY.out.trans (hb.mono HBY.out.size)); clear hb y0 y1 e0 e1 x0 x1 c0 c1; have x0 := HX3.out.box; have x1 := HX3.out.idx))
      obtain ⟨S, hSd⟩ : ∃ S : World → Prop, (fun U : World => Bx2 U w.heap.size (w.heap.size + 1) (some ⟨b, o, none⟩) n c i l) = S := ⟨_, rfl⟩
      have HSC := Lib.hid (show ∀ U, S U → Bx2 U w.heap.size (w.heap.size + 1) (some ⟨b, o, none⟩) n c i l from fun U h => by rw [← hSd] at h; exact h)
      have HSI := Lib.hid (show ∀ U, Bx2 U w.heap.size (w.heap.size + 1) (some ⟨b, o, none⟩) n c i l → S U from fun U h => by rw [← hSd]; exact h)
      clear hSd
      have hS0 : S w3.drew := HSI.out _ (HX3.out.below (Below.drew (Below.refl _ _)))
      clear x0 x1
      refine wp_region_held_drew (S := S) (by kernel_rfl) hS0 (fun hHeld => ?_)
      refine Rg.take (i := 0) (t := 50) rfl rfl (by kernel_rfl) (by kernel_rfl) (by kernel_rfl) (fun _ _ _ h => h) (by rfl) (by intro w0 hSw; have hbx := HSC.out _ hSw; have x0 := hbx.box; have x1 := hbx.idx; have c0 := (HCL.out _ hbx).1; have c1 := (HCL.out _ hbx).2; have d1 := HC1.out _ hbx; have q1 := hwn; have q2 := hn1; first | (go_simp; done) | (go_simp; with_reducible rfl)) (by assumption) ?_
      simp only [List.setIfInBounds_toArray, List.set_cons_zero, List.set_cons_succ]
      refine Rg.take (i := 1) (t := 51) rfl rfl (by kernel_rfl) (by kernel_rfl) (by kernel_rfl) (fun _ _ _ h => h) (by rfl) (by intro w0 hSw; have hbx := HSC.out _ hSw; have x0 := hbx.box; have x1 := hbx.idx; have c0 := (HCL.out _ hbx).1; have c1 := (HCL.out _ hbx).2; have d1 := HC1.out _ hbx; have q1 := hwn; have q2 := hn1; first | (go_simp; done) | (go_simp; with_reducible rfl)) (by assumption) ?_
      simp only [List.setIfInBounds_toArray, List.set_cons_zero, List.set_cons_succ]
      refine Rg.take (i := 2) (t := 52) rfl rfl (by kernel_rfl) (by kernel_rfl) (by kernel_rfl) (fun _ _ _ h => h) (by rfl) (by intro w0 hSw; have hbx := HSC.out _ hSw; have x0 := hbx.box; have x1 := hbx.idx; have c0 := (HCL.out _ hbx).1; have c1 := (HCL.out _ hbx).2; have d1 := HC1.out _ hbx; have q1 := hwn; have q2 := hn1; first | (go_simp; done) | (go_simp; with_reducible rfl)) (by assumption) ?_
      simp only [List.setIfInBounds_toArray, List.set_cons_zero, List.set_cons_succ]
      refine Rg.take (i := 3) (t := 53) rfl rfl (by kernel_rfl) (by kernel_rfl) (by kernel_rfl) (fun _ _ _ h => h) (by rfl) (by intro w0 hSw; have hbx := HSC.out _ hSw; have x0 := hbx.box; have x1 := hbx.idx; have c0 := (HCL.out _ hbx).1; have c1 := (HCL.out _ hbx).2; have d1 := HC1.out _ hbx; have q1 := hwn; have q2 := hn1; first | (go_simp; done) | (go_simp; with_reducible rfl)) (by assumption) ?_
      simp only [List.setIfInBounds_toArray, List.set_cons_zero, List.set_cons_succ]
      refine Rg.take (i := 4) (t := 54) rfl rfl (by kernel_rfl) (by kernel_rfl) (by kernel_rfl) (fun _ _ _ h => h) (by rfl) (by intro w0 hSw; have hbx := HSC.out _ hSw; have x0 := hbx.box; have x1 := hbx.idx; have c0 := (HCL.out _ hbx).1; have c1 := (HCL.out _ hbx).2; have d1 := HC1.out _ hbx; have q1 := hwn; have q2 := hn1; first | (go_simp; done) | (go_simp; with_reducible rfl)) (by assumption) ?_
      simp only [List.setIfInBounds_toArray, List.set_cons_zero, List.set_cons_succ]
      refine Rg.take (i := 5) (t := 55) rfl rfl (by kernel_rfl) (by kernel_rfl) (by kernel_rfl) (fun _ _ _ h => h) (by rfl) (by intro w0 hSw; have hbx := HSC.out _ hSw; have x0 := hbx.box; have x1 := hbx.idx; have c0 := (HCL.out _ hbx).1; have c1 := (HCL.out _ hbx).2; have d1 := HC1.out _ hbx; have q1 := hwn; have q2 := hn1; first | (go_simp; done) | (go_simp; with_reducible rfl)) (by assumption) ?_
      simp only [List.setIfInBounds_toArray, List.set_cons_zero, List.set_cons_succ]
      refine Rg.take (i := 6) (t := 56) rfl rfl (by kernel_rfl) (by kernel_rfl) (by kernel_rfl) (fun _ _ _ h => h) (by rfl) (by intro w0 hSw; have hbx := HSC.out _ hSw; have x0 := hbx.box; have x1 := hbx.idx; have c0 := (HCL.out _ hbx).1; have c1 := (HCL.out _ hbx).2; have d1 := HC1.out _ hbx; have q1 := hwn; have q2 := hn1; first | (go_simp; done) | (go_simp; with_reducible rfl)) (by assumption) ?_
      simp only [List.setIfInBounds_toArray, List.set_cons_zero, List.set_cons_succ]
      refine Rg.take (i := 7) (t := 57) rfl rfl (by kernel_rfl) (by kernel_rfl) (by kernel_rfl) (fun _ _ _ h => h) (by rfl) (by intro w0 hSw; have hbx := HSC.out _ hSw; have x0 := hbx.box; have x1 := hbx.idx; have c0 := (HCL.out _ hbx).1; have c1 := (HCL.out _ hbx).2; have d1 := HC1.out _ hbx; have q1 := hwn; have q2 := hn1; first | (go_simp; done) | (go_simp; with_reducible rfl)) (by assumption) ?_
      simp only [List.setIfInBounds_toArray, List.set_cons_zero, List.set_cons_succ]
      refine Rg.take (i := 8) (t := 58) rfl rfl (by kernel_rfl) (by kernel_rfl) (by kernel_rfl) (fun _ _ _ h => h) (by rfl) (by intro w0 hSw; have hbx := HSC.out _ hSw; have x0 := hbx.box; have x1 := hbx.idx; have c0 := (HCL.out _ hbx).1; have c1 := (HCL.out _ hbx).2; have d1 := HC1.out _ hbx; have q1 := hwn; have q2 := hn1; first | (go_simp; done) | (go_simp; with_reducible rfl)) (by assumption) ?_
      simp only [List.setIfInBounds_toArray, List.set_cons_zero, List.set_cons_succ]
      refine Rg.one (i := 9) (by kernel_rfl) ?_
      refine Rg.eff (i := 9) (t := 59) rfl rfl (by rfl) (by go_simp; first | exact ⟨rfl, rfl⟩ | exact rfl) (S) (fun _ h => h) (HSI.out _ (HX3.out.below (((Below.refl _ _).alloc (Nat.le_refl _) _).drew))) ?_
      simp only [List.setIfInBounds_toArray, List.set_cons_zero, List.set_cons_succ]
      obtain ⟨w5, hw5⟩ : ∃ w5, (w3.alloc (.cells #[.int .i64 24, .int .i64 a1] 30)).drew = w5 := ⟨_, rfl⟩
      rw [hw5]
      have hb5 : Below w3.heap.size w3 w5 := by rw [← hw5]; exact ((Below.refl _ _).alloc (Nat.le_refl _) _).drew
      have hR5 : RdI w5 (some ⟨w3.heap.size, 0, none⟩) 1 [(24, a1)] := by rw [← hw5]; exact Sk.rd_lit w3 30 [(24, a1)] #[.int .i64 24, .int .i64 a1] rfl 1 rfl
      have HB5 := Lib.hid (HB3.out.trans (hb5.mono HB3.out.size))
      have HX5 := Lib.hid (HX3.out.below hb5)
      clear hb5
      refine Rg.one (i := 10) (by kernel_rfl) ?_
      refine Rg.call (i := 10) (t := 60) rfl rfl (by rfl) (by go_simp; exact ⟨rfl, rfl⟩) ?_
      refine (with_i l [(24, a1)] i 2 w5 HX5.out.rd hR5 hc h2 hn (by omega)).mono ?_
      rintro e w6 ⟨v, rfl, ho, hb6⟩
      have HO6 := Lib.hid (ho.lower HB5.out.size)
      have HB6 := Lib.hid (HB5.out.trans (hb6.mono HB5.out.size))
      have HS6 := HSI.out _ (HX5.out.below hb6)
      clear ho hb6 hR5 hw5
      refine ⟨_, rfl, S, fun _ h => h, HS6, ?_⟩
      simp only [List.setIfInBounds_toArray, List.set_cons_zero, List.set_cons_succ]
      refine Rg.take (i := 11) (t := 6) rfl rfl (by kernel_rfl) (by kernel_rfl) (by kernel_rfl) (fun _ _ _ h => h) (by rfl) (by intro w0 hSw; have hbx := HSC.out _ hSw; have x0 := hbx.box; have x1 := hbx.idx; have c0 := (HCL.out _ hbx).1; have c1 := (HCL.out _ hbx).2; have d1 := HC1.out _ hbx; have q1 := hwn; have q2 := hn1; first | (go_simp; done) | (go_simp; with_reducible rfl)) (by assumption) ?_
      simp only [List.setIfInBounds_toArray, List.set_cons_zero, List.set_cons_succ]
      refine Rg.take (i := 12) (t := 7) rfl rfl (by kernel_rfl) (by kernel_rfl) (by kernel_rfl) (fun _ _ _ h => h) (by rfl) (by intro w0 hSw; have hbx := HSC.out _ hSw; have x0 := hbx.box; have x1 := hbx.idx; have c0 := (HCL.out _ hbx).1; have c1 := (HCL.out _ hbx).2; have d1 := HC1.out _ hbx; have q1 := hwn; have q2 := hn1; first | (go_simp; done) | (go_simp; with_reducible rfl)) (by assumption) ?_
      simp only [List.setIfInBounds_toArray, List.set_cons_zero, List.set_cons_succ]
      refine wpAnyH_done (by kernel_rfl) ?_ _
      go_wp2_with fail
      go_ret2
      rw [HW.out]
      exact WayP.yes HO6.out HB6.out
set_option maxRecDepth 100000 in
set_option maxHeartbeats 1000000 in
theorem way4_w {A : Option Addr} {n c : Nat} (l : List Ins) (i : Nat) (w : World) (hr : RdI w A n l) (hc : n ≤ c) (hi : i < n) (hn : n ≤ 1048576) :
    Calls Try.prog 21 #[.slice A n c, .int .i64 4, .int .i64 (i : Int)] w (WayP (way l i 4) w) := by
  show Calls _ _ _ _ (WayP (way4 l i) w)
  have HL := Lib.hid (show l.length = n from hr.1.symm)
  obtain ⟨b, o, rfl, hb0, _⟩ := rd_open hr (Nat.lt_of_le_of_lt (Nat.zero_le _) hi)
  obtain ⟨w1, hw1⟩ : ∃ W, (w.alloc (.cells #[.slice (some ⟨b, o, none⟩) n c] 31)).alloc (.cells #[.int .i64 (i : Int)] 3) = W := ⟨_, rfl⟩
  obtain ⟨hx, hbx⟩ := boxes (i := i) (c := c) hr hw1
  have HX := Lib.hid hx
  have HB := Lib.hid hbx
  clear hr hx hbx hb0
  obtain ⟨o0, ho0⟩ : ∃ x, op l i = x := ⟨_, rfl⟩
  obtain ⟨a0, ha0⟩ : ∃ x, ar l i = x := ⟨_, rfl⟩
  have HO0 := Lib.hid ho0
  have HA0 := Lib.hid ha0
  have HCL := Lib.hid (show ∀ U, Bx2 U w.heap.size (w.heap.size + 1) (some ⟨b, o, none⟩) n c i l → U.cell? ⟨b, o + i * 2, none⟩ = some (.int .i64 o0) ∧ U.cell? ⟨b, o + i * 2 + 1, none⟩ = some (.int .i64 a0) from fun U h => by have h2 := rd_at h.rd hi; rw [ho0, ha0] at h2; exact h2)
  clear ho0 ha0
  have i0 : (0 : Int) ≤ (i : Int) := Int.natCast_nonneg _
  have i1 : (i : Int) < (n : Int) := by omega
  have x0 := HX.out.box
  have x1 := HX.out.idx
  have c0 := (HCL.out _ HX.out).1
  have c1 := (HCL.out _ HX.out).2
  obtain ⟨w2, hw2⟩ : ∃ W, w1.alloc (.cells #[.int .i64 1, .int .i64 25] 3) = W := ⟨_, rfl⟩
  obtain ⟨hl2, hb2⟩ := lit_i [1, 25] #[.int .i64 1, .int .i64 25] rfl hw2 2 rfl
  have HI := Lib.hid hl2
  have HY := Lib.hid (HX.out.below hb2)
  have HBY := Lib.hid (HB.out.trans (hb2.mono HB.out.size))
  clear hl2 hb2
  have y0 := HY.out.box
  have y1 := HY.out.idx
  have e0 := (HCL.out _ HY.out).1
  have e1 := (HCL.out _ HY.out).2
  cases hq : isO l i [1, 25] with
  | false =>
    have HQ := Lib.hid hq
    have HW := Lib.hid (show way4 l i = none by unfold way4; rw [hq, if_neg (by simp)])
    clear hq
    go_enter Try.func21, Try.ntmps21
    go_wp2_with (go_at_call 26; refine (is_i l [1, 25] i w2 HY.out.rd HI.out (Nat.le_of_lt hi) hn (by omega)).mono ?_; rintro e w3 ⟨rfl, rfl⟩; rw [HQ.out])
    go_ret2
    rw [HW.out]
    exact WayP.no HBY.out
  | true =>
    have HQ := Lib.hid hq
    have h2 : i + 2 ≤ n := by have h := isO_len hq; rw [HL.out] at h; simpa using h
    cases hz : (notV a0 == 1) with
    | true =>
      have HZ := Lib.hid hz
      have HW := Lib.hid (show way4 l i = none by unfold way4; rw [HA0.out, if_neg (fun h => by have h2 := h.2; simp at hz; exact h2 hz)])
      clear hq hz
      go_enter Try.func21, Try.ntmps21
      go_wp2_with (first | (go_at_call 26; refine (is_i l [1, 25] i w2 HY.out.rd HI.out (Nat.le_of_lt hi) hn (by omega)).mono ?_; rintro e w3 ⟨rfl, rfl⟩; rw [HQ.out]) | (go_at_call 27; refine (zero_i (o0, a0) w2).mono ?_; rintro e w3 ⟨rfl, hb⟩; rw [HZ.out]; have HB3 := Lib.hid hb; clear hb))
      go_ret2
      rw [HW.out]
      exact WayP.no (HBY.out.trans (HB3.out.mono HBY.out.size))
    | false =>
      have HZ := Lib.hid hz
      have HW := Lib.hid (show way4 l i = some (swap l i 2 []) by unfold way4; rw [HA0.out, if_pos ⟨hq, by simpa using hz⟩])
      clear hq hz
      go_enter Try.func21, Try.ntmps21
      go_wp2_with (first | (go_at_call 26; refine (is_i l [1, 25] i w2 HY.out.rd HI.out (Nat.le_of_lt hi) hn (by omega)).mono ?_; rintro e w3 ⟨rfl, rfl⟩; rw [HQ.out]) | (go_at_call 27; refine (zero_i (o0, a0) w2).mono ?_; rintro e w3 ⟨rfl, hb⟩; rw [HZ.out]; have HX3 := Lib.hid (HY.out.below hb); have HB3 := Lib.hid (HBY.out.trans (hb.mono HBY.out.size)); clear hb y0 y1 e0 e1 x0 x1 c0 c1; have x0 := HX3.out.box; have x1 := HX3.out.idx) | (go_at_call 25; refine (with_i (B := none) (m := 0) (d := 0) l [] i 2 w3 HX3.out.rd (Sk.Rd.nil _ none) hc h2 hn (by omega)).mono ?_; rintro e w9 ⟨v, rfl, ho, hb⟩; have HO := Lib.hid ho; have HB9 := Lib.hid hb; clear ho hb))
      go_ret2
      rw [HW.out]
      exact WayP.yes (HO.out.lower HB3.out.size) (HB3.out.trans (HB9.out.mono HB3.out.size))
set_option maxRecDepth 100000 in
set_option maxHeartbeats 1000000 in
theorem way5_w {A : Option Addr} {n c : Nat} (l : List Ins) (i : Nat) (w : World) (hr : RdI w A n l) (hc : n ≤ c) (hi : i < n) (hn : n ≤ 1048576) :
    Calls Try.prog 21 #[.slice A n c, .int .i64 5, .int .i64 (i : Int)] w (WayP (way l i 5) w) := by
  show Calls _ _ _ _ (WayP (way5 l i) w)
  have HL := Lib.hid (show l.length = n from hr.1.symm)
  obtain ⟨b, o, rfl, hb0, _⟩ := rd_open hr (Nat.lt_of_le_of_lt (Nat.zero_le _) hi)
  obtain ⟨w1, hw1⟩ : ∃ W, (w.alloc (.cells #[.slice (some ⟨b, o, none⟩) n c] 31)).alloc (.cells #[.int .i64 (i : Int)] 3) = W := ⟨_, rfl⟩
  obtain ⟨hx, hbx⟩ := boxes (i := i) (c := c) hr hw1
  have HX := Lib.hid hx
  have HB := Lib.hid hbx
  clear hr hx hbx hb0
  obtain ⟨o0, ho0⟩ : ∃ x, op l i = x := ⟨_, rfl⟩
  obtain ⟨a0, ha0⟩ : ∃ x, ar l i = x := ⟨_, rfl⟩
  have HO0 := Lib.hid ho0
  have HA0 := Lib.hid ha0
  have HCL := Lib.hid (show ∀ U, Bx2 U w.heap.size (w.heap.size + 1) (some ⟨b, o, none⟩) n c i l → U.cell? ⟨b, o + i * 2, none⟩ = some (.int .i64 o0) ∧ U.cell? ⟨b, o + i * 2 + 1, none⟩ = some (.int .i64 a0) from fun U h => by have h2 := rd_at h.rd hi; rw [ho0, ha0] at h2; exact h2)
  clear ho0 ha0
  have i0 : (0 : Int) ≤ (i : Int) := Int.natCast_nonneg _
  have i1 : (i : Int) < (n : Int) := by omega
  have x0 := HX.out.box
  have x1 := HX.out.idx
  have c0 := (HCL.out _ HX.out).1
  have c1 := (HCL.out _ HX.out).2
  obtain ⟨w2, hw2⟩ : ∃ W, w1.alloc (.cells #[.int .i64 1, .int .i64 2] 3) = W := ⟨_, rfl⟩
  obtain ⟨hl2, hb2⟩ := lit_i [1, 2] #[.int .i64 1, .int .i64 2] rfl hw2 2 rfl
  have HI := Lib.hid hl2
  have HY := Lib.hid (HX.out.below hb2)
  have HBY := Lib.hid (HB.out.trans (hb2.mono HB.out.size))
  clear hl2 hb2
  have y0 := HY.out.box
  have y1 := HY.out.idx
  have e0 := (HCL.out _ HY.out).1
  have e1 := (HCL.out _ HY.out).2
  cases hq : isO l i [1, 2] with
  | false =>
    have HQ := Lib.hid hq
    have HW := Lib.hid (show way5 l i = none by unfold way5; rw [hq, if_neg (by simp)])
    clear hq
    go_enter Try.func21, Try.ntmps21
    go_wp2_with (go_at_call 26; refine (is_i l [1, 2] i w2 HY.out.rd HI.out (Nat.le_of_lt hi) hn (by omega)).mono ?_; rintro e w3 ⟨rfl, rfl⟩; rw [HQ.out])
    go_ret2
    rw [HW.out]
    exact WayP.no HBY.out
  | true =>
    have HQ := Lib.hid hq
    have h2 : i + 2 ≤ n := by have h := isO_len hq; rw [HL.out] at h; simpa using h
    have HW := Lib.hid (show way5 l i = some (swap l i 2 []) by unfold way5; rw [hq, if_pos rfl])
    clear hq
    go_enter Try.func21, Try.ntmps21
    go_wp2_with (first | (go_at_call 26; refine (is_i l [1, 2] i w2 HY.out.rd HI.out (Nat.le_of_lt hi) hn (by omega)).mono ?_; rintro e w3 ⟨rfl, rfl⟩; rw [HQ.out]) | (go_at_call 25; refine (with_i (B := none) (m := 0) (d := 0) l [] i 2 w2 HY.out.rd (Sk.Rd.nil _ none) hc h2 hn (by omega)).mono ?_; rintro e w9 ⟨v, rfl, ho, hb⟩; have HO := Lib.hid ho; have HB9 := Lib.hid hb; clear ho hb))
    go_ret2
    rw [HW.out]
    exact WayP.yes (HO.out.lower HBY.out.size) (HBY.out.trans (HB9.out.mono HBY.out.size))
set_option maxRecDepth 100000 in
set_option maxHeartbeats 2000000 in
theorem way7_w {A : Option Addr} {n c : Nat} (l : List Ins) (i : Nat) (w : World) (hr : RdI w A n l) (hc : n ≤ c) (hi : i < n) (hn : n ≤ 1048576) :
    Calls Try.prog 21 #[.slice A n c, .int .i64 7, .int .i64 (i : Int)] w (WayP (way l i 7) w) := by
  show Calls _ _ _ _ (WayP (way7 l i) w)
  have HL := Lib.hid (show l.length = n from hr.1.symm)
  obtain ⟨b, o, rfl, hb0, _⟩ := rd_open hr (Nat.lt_of_le_of_lt (Nat.zero_le _) hi)
  obtain ⟨w1, hw1⟩ : ∃ W, (w.alloc (.cells #[.slice (some ⟨b, o, none⟩) n c] 31)).alloc (.cells #[.int .i64 (i : Int)] 3) = W := ⟨_, rfl⟩
  obtain ⟨hx, hbx⟩ := boxes (i := i) (c := c) hr hw1
  have HX := Lib.hid hx
  have HB := Lib.hid hbx
  clear hr hx hbx hb0
  obtain ⟨o0, ho0⟩ : ∃ x, op l i = x := ⟨_, rfl⟩
  obtain ⟨a0, ha0⟩ : ∃ x, ar l i = x := ⟨_, rfl⟩
  have HO0 := Lib.hid ho0
  have HA0 := Lib.hid ha0
  have HCL := Lib.hid (show ∀ U, Bx2 U w.heap.size (w.heap.size + 1) (some ⟨b, o, none⟩) n c i l → U.cell? ⟨b, o + i * 2, none⟩ = some (.int .i64 o0) ∧ U.cell? ⟨b, o + i * 2 + 1, none⟩ = some (.int .i64 a0) from fun U h => by have h2 := rd_at h.rd hi; rw [ho0, ha0] at h2; exact h2)
  clear ho0 ha0
  have i0 : (0 : Int) ≤ (i : Int) := Int.natCast_nonneg _
  have i1 : (i : Int) < (n : Int) := by omega
  have x0 := HX.out.box
  have x1 := HX.out.idx
  have c0 := (HCL.out _ HX.out).1
  have c1 := (HCL.out _ HX.out).2
  have hwn := i64w (x := (i : Int) + 1) (by omega) (by omega)
  have hn1 : ((i : Int) + 1).toNat = i + 1 := by omega
  by_cases h24 : o0 = 24
  · have t24 : (o0 == 24) = true := by simpa using h24
    have HLAB := Lib.hid (show RdI w1.drew (Slic.cutAt (some ⟨b, o, none⟩) c (i + 1) 2) (past l (i + 1) - (i + 1)) (labs l (i + 1)) by
      have h := rd_cut (HX.out.below (Below.drew (Below.refl _ _))).rd (past_ge l (i + 1)) (past_le HL.out hi) hc
      rw [labs_take] at h
      exact h)
    have hcut := (fun w0 => run_cut (P := Try.prog) 31 30 2 Try.underlying31 (by kernel_rfl) (some ⟨b, o, none⟩) n c (i + 1) (past l (i + 1)) (past_ge l (i + 1)) (Nat.le_trans (past_le HL.out hi) hc) w0)
    rw [show ((i + 1 : Nat) : Int) = (i : Int) + 1 by omega] at hcut
    have HCUT := Lib.hid hcut
    clear hcut
    obtain ⟨q, hq⟩ : ∃ q, (labs l (i + 1)).any (fun x => x.2 == ar l i) = q := ⟨_, rfl⟩
    have HQ := Lib.hid hq
    have W7 := Lib.hid (show way7 l i = if q = true then some (swap l i 1 []) else none by unfold way7; rw [HO0.out, hq, h24]; simp)
    clear hq h24
    go_enter Try.func21, Try.ntmps21
    go_upto_region 20 with fail
    obtain ⟨S, hSd⟩ : ∃ S : World → Prop, (fun U : World => Bx2 U w.heap.size (w.heap.size + 1) (some ⟨b, o, none⟩) n c i l) = S := ⟨_, rfl⟩
    have HSC := Lib.hid (show ∀ U, S U → Bx2 U w.heap.size (w.heap.size + 1) (some ⟨b, o, none⟩) n c i l from fun U h => by rw [← hSd] at h; exact h)
    have HSI := Lib.hid (show ∀ U, Bx2 U w.heap.size (w.heap.size + 1) (some ⟨b, o, none⟩) n c i l → S U from fun U h => by rw [← hSd]; exact h)
    clear hSd
    have hS0 : S w1.drew := HSI.out _ (HX.out.below (Below.drew (Below.refl _ _)))
    clear x0 x1 c0 c1
    refine wp_region_held_drew (S := S) (by kernel_rfl) hS0 (fun hHeld => ?_)
    refine Rg.take (i := 0) (t := 96) rfl rfl (by kernel_rfl) (by kernel_rfl) (by kernel_rfl) (fun _ _ _ h => h) (by rfl) (by intro w0 hSw; have hbx := HSC.out _ hSw; have x0 := hbx.box; have x1 := hbx.idx; have c0 := (HCL.out _ hbx).1; have c1 := (HCL.out _ hbx).2; have q1 := hwn; have q2 := hn1; first | (go_simp; done) | (go_simp; with_reducible rfl)) (by assumption) ?_
    simp only [List.setIfInBounds_toArray, List.set_cons_zero, List.set_cons_succ]
    refine Rg.take (i := 1) (t := 97) rfl rfl (by kernel_rfl) (by kernel_rfl) (by kernel_rfl) (fun _ _ _ h => h) (by rfl) (by intro w0 hSw; have hbx := HSC.out _ hSw; have x0 := hbx.box; have x1 := hbx.idx; have c0 := (HCL.out _ hbx).1; have c1 := (HCL.out _ hbx).2; have q1 := hwn; have q2 := hn1; first | (go_simp; done) | (go_simp; with_reducible rfl)) (by assumption) ?_
    simp only [List.setIfInBounds_toArray, List.set_cons_zero, List.set_cons_succ]
    refine Rg.take (i := 2) (t := 98) rfl rfl (by kernel_rfl) (by kernel_rfl) (by kernel_rfl) (fun _ _ _ h => h) (by rfl) (by intro w0 hSw; have hbx := HSC.out _ hSw; have x0 := hbx.box; have x1 := hbx.idx; have c0 := (HCL.out _ hbx).1; have c1 := (HCL.out _ hbx).2; have q1 := hwn; have q2 := hn1; first | (go_simp; done) | (go_simp; with_reducible rfl)) (by assumption) ?_
    simp only [List.setIfInBounds_toArray, List.set_cons_zero, List.set_cons_succ]
    refine Rg.take (i := 3) (t := 99) rfl rfl (by kernel_rfl) (by kernel_rfl) (by kernel_rfl) (fun _ _ _ h => h) (by rfl) (by intro w0 hSw; have hbx := HSC.out _ hSw; have x0 := hbx.box; have x1 := hbx.idx; have c0 := (HCL.out _ hbx).1; have c1 := (HCL.out _ hbx).2; have q1 := hwn; have q2 := hn1; first | (go_simp; done) | (go_simp; with_reducible rfl)) (by assumption) ?_
    simp only [List.setIfInBounds_toArray, List.set_cons_zero, List.set_cons_succ]
    refine Rg.take (i := 4) (t := 100) rfl rfl (by kernel_rfl) (by kernel_rfl) (by kernel_rfl) (fun _ _ _ h => h) (by rfl) (by intro w0 hSw; have hbx := HSC.out _ hSw; have x0 := hbx.box; have x1 := hbx.idx; have c0 := (HCL.out _ hbx).1; have c1 := (HCL.out _ hbx).2; have q1 := hwn; have q2 := hn1; first | (go_simp; done) | (go_simp; with_reducible rfl)) (by assumption) ?_
    simp only [List.setIfInBounds_toArray, List.set_cons_zero, List.set_cons_succ]
    refine Rg.take (i := 5) (t := 101) (v := .bool true) rfl rfl (by kernel_rfl) (by kernel_rfl) (by kernel_rfl) (fun _ _ _ h => h) (by rfl) (by intro w0 hSw; have hbx := HSC.out _ hSw; have x0 := hbx.box; have x1 := hbx.idx; have c0 := (HCL.out _ hbx).1; have c1 := (HCL.out _ hbx).2; have q1 := hwn; have q2 := hn1; have q3 := t24; first | (go_simp; done) | (go_simp; with_reducible rfl)) (by assumption) ?_
    simp only [List.setIfInBounds_toArray, List.set_cons_zero, List.set_cons_succ]
    refine Rg.take (i := 6) (t := 102) (v := .bool true) rfl rfl (by kernel_rfl) (by kernel_rfl) (by kernel_rfl) (fun _ _ _ h => h) (by rfl) (by intro w0 hSw; have hbx := HSC.out _ hSw; have x0 := hbx.box; have x1 := hbx.idx; have c0 := (HCL.out _ hbx).1; have c1 := (HCL.out _ hbx).2; have q1 := hwn; have q2 := hn1; first | (go_simp; done) | (go_simp; with_reducible rfl)) (by assumption) ?_
    simp only [List.setIfInBounds_toArray, List.set_cons_zero, List.set_cons_succ]
    refine Rg.take (i := 7) (t := 103) rfl rfl (by kernel_rfl) (by kernel_rfl) (by kernel_rfl) (fun _ _ _ h => h) (by rfl) (by intro w0 hSw; have hbx := HSC.out _ hSw; have x0 := hbx.box; have x1 := hbx.idx; have c0 := (HCL.out _ hbx).1; have c1 := (HCL.out _ hbx).2; have q1 := hwn; have q2 := hn1; first | (go_simp; done) | (go_simp; with_reducible rfl)) (by assumption) ?_
    simp only [List.setIfInBounds_toArray, List.set_cons_zero, List.set_cons_succ]
    refine Rg.take (i := 8) (t := 104) rfl rfl (by kernel_rfl) (by kernel_rfl) (by kernel_rfl) (fun _ _ _ h => h) (by rfl) (by intro w0 hSw; have hbx := HSC.out _ hSw; have x0 := hbx.box; have x1 := hbx.idx; have c0 := (HCL.out _ hbx).1; have c1 := (HCL.out _ hbx).2; have q1 := hwn; have q2 := hn1; first | (go_simp; done) | (go_simp; with_reducible rfl)) (by assumption) ?_
    simp only [List.setIfInBounds_toArray, List.set_cons_zero, List.set_cons_succ]
    refine Rg.take (i := 9) (t := 105) (v := .int .i64 ((i : Int) + 1)) rfl rfl (by kernel_rfl) (by kernel_rfl) (by kernel_rfl) (fun _ _ _ h => h) (by rfl) (by intro w0 hSw; have hbx := HSC.out _ hSw; have x0 := hbx.box; have x1 := hbx.idx; have c0 := (HCL.out _ hbx).1; have c1 := (HCL.out _ hbx).2; have q1 := hwn; have q2 := hn1; first | (go_simp; done) | (go_simp; with_reducible rfl)) (by assumption) ?_
    simp only [List.setIfInBounds_toArray, List.set_cons_zero, List.set_cons_succ]
    refine Rg.take (i := 10) (t := 106) rfl rfl (by kernel_rfl) (by kernel_rfl) (by kernel_rfl) (fun _ _ _ h => h) (by rfl) (by intro w0 hSw; have hbx := HSC.out _ hSw; have x0 := hbx.box; have x1 := hbx.idx; have c0 := (HCL.out _ hbx).1; have c1 := (HCL.out _ hbx).2; have q1 := hwn; have q2 := hn1; first | (go_simp; done) | (go_simp; with_reducible rfl)) (by assumption) ?_
    simp only [List.setIfInBounds_toArray, List.set_cons_zero, List.set_cons_succ]
    refine Rg.take (i := 11) (t := 107) rfl rfl (by kernel_rfl) (by kernel_rfl) (by kernel_rfl) (fun _ _ _ h => h) (by rfl) (by intro w0 hSw; have hbx := HSC.out _ hSw; have x0 := hbx.box; have x1 := hbx.idx; have c0 := (HCL.out _ hbx).1; have c1 := (HCL.out _ hbx).2; have q1 := hwn; have q2 := hn1; first | (go_simp; done) | (go_simp; with_reducible rfl)) (by assumption) ?_
    simp only [List.setIfInBounds_toArray, List.set_cons_zero, List.set_cons_succ]
    refine Rg.take (i := 12) (t := 108) (v := .int .i64 ((i : Int) + 1)) rfl rfl (by kernel_rfl) (by kernel_rfl) (by kernel_rfl) (fun _ _ _ h => h) (by rfl) (by intro w0 hSw; have hbx := HSC.out _ hSw; have x0 := hbx.box; have x1 := hbx.idx; have c0 := (HCL.out _ hbx).1; have c1 := (HCL.out _ hbx).2; have q1 := hwn; have q2 := hn1; first | (go_simp; done) | (go_simp; with_reducible rfl)) (by assumption) ?_
    simp only [List.setIfInBounds_toArray, List.set_cons_zero, List.set_cons_succ]
    refine Rg.take (i := 15) (t := 111) rfl rfl (by kernel_rfl) (by kernel_rfl) (by kernel_rfl) (fun _ _ _ h => h) (by rfl) (by intro w0 hSw; have hbx := HSC.out _ hSw; have x0 := hbx.box; have x1 := hbx.idx; have c0 := (HCL.out _ hbx).1; have c1 := (HCL.out _ hbx).2; have q1 := hwn; have q2 := hn1; first | (go_simp; done) | (go_simp; with_reducible rfl)) (by assumption) ?_
    simp only [List.setIfInBounds_toArray, List.set_cons_zero, List.set_cons_succ]
    refine Rg.one (i := 13) (by kernel_rfl) ?_
    refine Rg.call (i := 13) (t := 109) rfl rfl (by rfl) (by go_simp; exact ⟨rfl, rfl⟩) ?_
    refine (past_1 l i w1.drew (HX.out.below (Below.drew (Below.refl _ _))).rd hi hn).mono ?_
    rintro e w2 ⟨rfl, rfl⟩
    refine ⟨_, rfl, S, fun _ h => h, hS0, ?_⟩
    simp only [List.setIfInBounds_toArray, List.set_cons_zero, List.set_cons_succ]
    refine Rg.take (i := 14) (t := 110) (v := .slice (Slic.cutAt (some ⟨b, o, none⟩) c (i + 1) 2) (past l (i + 1) - (i + 1)) (c - (i + 1))) rfl rfl (by kernel_rfl) (by kernel_rfl) (by kernel_rfl) (fun _ _ _ h => h) (by rfl) (by intro w0 hSw; have q5 := HCUT.out w0; first | (go_simp; done) | (go_simp; with_reducible rfl)) (by assumption) ?_
    simp only [List.setIfInBounds_toArray, List.set_cons_zero, List.set_cons_succ]
    refine Rg.one (i := 16) (by kernel_rfl) ?_
    refine Rg.call (i := 16) (t := 112) rfl rfl (by rfl) (by go_simp; exact ⟨rfl, rfl⟩) ?_
    refine (containsFunc_i 31 (.pointer (some ⟨w.heap.size, 0, none⟩)) (.pointer (some ⟨w.heap.size + 1, 0, none⟩)) (labs l (i + 1)) (fun x => x.2 == ar l i) w1.drew HLAB.out (Nat.le_trans (Nat.sub_le _ _) (Nat.le_trans (past_le HL.out hi) hn)) (fun _ _ => rfl) (fun x U hU => way1_i l i x U ((HX.out.below (Below.drew (Below.refl _ _))).below hU) hi hn)).mono ?_
    rintro e w3 ⟨rfl, hb⟩
    rw [HQ.out]
    have HB3 := Lib.hid (HB.out.trans (((Below.drew (Below.refl w1.heap.size w1)).trans hb).mono HB.out.size))
    have HX3 := Lib.hid (HX.out.below ((Below.drew (Below.refl w1.heap.size w1)).trans hb))
    have hs3 : S w3 := HSI.out _ HX3.out
    clear hb
    refine ⟨_, rfl, S, fun _ h => h, hs3, ?_⟩
    simp only [List.setIfInBounds_toArray, List.set_cons_zero, List.set_cons_succ]
    refine Rg.take (i := 17) (t := 113) (v := .bool q) rfl rfl (by kernel_rfl) (by kernel_rfl) (by kernel_rfl) (fun _ _ _ h => h) (by rfl) (by intro w0 hSw; have hbx := HSC.out _ hSw; have x0 := hbx.box; have x1 := hbx.idx; have c0 := (HCL.out _ hbx).1; have c1 := (HCL.out _ hbx).2; have q1 := hwn; have q2 := hn1; first | (go_simp; done) | (go_simp; with_reducible rfl)) (by assumption) ?_
    simp only [List.setIfInBounds_toArray, List.set_cons_zero, List.set_cons_succ]
    refine wpAnyH_done (by kernel_rfl) ?_ _
    clear hs3 hS0
    have x0 := HX3.out.box
    have x1 := HX3.out.idx
    cases q with
    | true =>
      have HW := Lib.hid (show way7 l i = some (swap l i 1 []) by rw [W7.out, if_pos rfl])
      go_wp2_with (go_at_call 25; refine (with_i (B := none) (m := 0) (d := 0) l [] i 1 w3 HX3.out.rd (Sk.Rd.nil _ none) hc hi hn (by omega)).mono ?_; rintro e w9 ⟨v, rfl, ho, hb⟩; have HO := Lib.hid ho; have HB9 := Lib.hid hb; clear ho hb)
      go_ret2
      rw [HW.out]
      exact WayP.yes (HO.out.lower HB3.out.size) (HB3.out.trans (HB9.out.mono HB3.out.size))
    | false =>
      have HW := Lib.hid (show way7 l i = none by rw [W7.out, if_neg (by simp)])
      go_wp2_with fail
      go_ret2
      rw [HW.out]
      exact WayP.no HB3.out
  · have t24 : (o0 == 24) = false := by simpa using h24
    have HW := Lib.hid (show way7 l i = none by unfold way7; rw [HO0.out, if_neg (fun h => h24 h.1)])
    clear h24
    go_enter Try.func21, Try.ntmps21
    go_upto_region 20 with fail
    obtain ⟨S, hSd⟩ : ∃ S : World → Prop, (fun U : World => Bx2 U w.heap.size (w.heap.size + 1) (some ⟨b, o, none⟩) n c i l) = S := ⟨_, rfl⟩
    have HSC := Lib.hid (show ∀ U, S U → Bx2 U w.heap.size (w.heap.size + 1) (some ⟨b, o, none⟩) n c i l from fun U h => by rw [← hSd] at h; exact h)
    have HSI := Lib.hid (show ∀ U, Bx2 U w.heap.size (w.heap.size + 1) (some ⟨b, o, none⟩) n c i l → S U from fun U h => by rw [← hSd]; exact h)
    clear hSd
    have hS0 : S w1.drew := HSI.out _ (HX.out.below (Below.drew (Below.refl _ _)))
    clear x0 x1 c0 c1
    refine wp_region_held_drew (S := S) (by kernel_rfl) hS0 (fun hHeld => ?_)
    refine Rg.take (i := 0) (t := 96) rfl rfl (by kernel_rfl) (by kernel_rfl) (by kernel_rfl) (fun _ _ _ h => h) (by rfl) (by intro w0 hSw; have hbx := HSC.out _ hSw; have x0 := hbx.box; have x1 := hbx.idx; have c0 := (HCL.out _ hbx).1; have c1 := (HCL.out _ hbx).2; have q1 := hwn; have q2 := hn1; first | (go_simp; done) | (go_simp; with_reducible rfl)) (by assumption) ?_
    simp only [List.setIfInBounds_toArray, List.set_cons_zero, List.set_cons_succ]
    refine Rg.take (i := 1) (t := 97) rfl rfl (by kernel_rfl) (by kernel_rfl) (by kernel_rfl) (fun _ _ _ h => h) (by rfl) (by intro w0 hSw; have hbx := HSC.out _ hSw; have x0 := hbx.box; have x1 := hbx.idx; have c0 := (HCL.out _ hbx).1; have c1 := (HCL.out _ hbx).2; have q1 := hwn; have q2 := hn1; first | (go_simp; done) | (go_simp; with_reducible rfl)) (by assumption) ?_
    simp only [List.setIfInBounds_toArray, List.set_cons_zero, List.set_cons_succ]
    refine Rg.take (i := 2) (t := 98) rfl rfl (by kernel_rfl) (by kernel_rfl) (by kernel_rfl) (fun _ _ _ h => h) (by rfl) (by intro w0 hSw; have hbx := HSC.out _ hSw; have x0 := hbx.box; have x1 := hbx.idx; have c0 := (HCL.out _ hbx).1; have c1 := (HCL.out _ hbx).2; have q1 := hwn; have q2 := hn1; first | (go_simp; done) | (go_simp; with_reducible rfl)) (by assumption) ?_
    simp only [List.setIfInBounds_toArray, List.set_cons_zero, List.set_cons_succ]
    refine Rg.take (i := 3) (t := 99) rfl rfl (by kernel_rfl) (by kernel_rfl) (by kernel_rfl) (fun _ _ _ h => h) (by rfl) (by intro w0 hSw; have hbx := HSC.out _ hSw; have x0 := hbx.box; have x1 := hbx.idx; have c0 := (HCL.out _ hbx).1; have c1 := (HCL.out _ hbx).2; have q1 := hwn; have q2 := hn1; first | (go_simp; done) | (go_simp; with_reducible rfl)) (by assumption) ?_
    simp only [List.setIfInBounds_toArray, List.set_cons_zero, List.set_cons_succ]
    refine Rg.take (i := 4) (t := 100) rfl rfl (by kernel_rfl) (by kernel_rfl) (by kernel_rfl) (fun _ _ _ h => h) (by rfl) (by intro w0 hSw; have hbx := HSC.out _ hSw; have x0 := hbx.box; have x1 := hbx.idx; have c0 := (HCL.out _ hbx).1; have c1 := (HCL.out _ hbx).2; have q1 := hwn; have q2 := hn1; first | (go_simp; done) | (go_simp; with_reducible rfl)) (by assumption) ?_
    simp only [List.setIfInBounds_toArray, List.set_cons_zero, List.set_cons_succ]
    refine Rg.take (i := 5) (t := 101) (v := .bool false) rfl rfl (by kernel_rfl) (by kernel_rfl) (by kernel_rfl) (fun _ _ _ h => h) (by rfl) (by intro w0 hSw; have hbx := HSC.out _ hSw; have x0 := hbx.box; have x1 := hbx.idx; have c0 := (HCL.out _ hbx).1; have c1 := (HCL.out _ hbx).2; have q1 := hwn; have q2 := hn1; have q3 := t24; first | (go_simp; done) | (go_simp; with_reducible rfl)) (by assumption) ?_
    simp only [List.setIfInBounds_toArray, List.set_cons_zero, List.set_cons_succ]
    refine Rg.take (i := 6) (t := 102) (v := .bool false) rfl rfl (by kernel_rfl) (by kernel_rfl) (by kernel_rfl) (fun _ _ _ h => h) (by rfl) (by intro w0 hSw; have hbx := HSC.out _ hSw; have x0 := hbx.box; have x1 := hbx.idx; have c0 := (HCL.out _ hbx).1; have c1 := (HCL.out _ hbx).2; have q1 := hwn; have q2 := hn1; first | (go_simp; done) | (go_simp; with_reducible rfl)) (by assumption) ?_
    simp only [List.setIfInBounds_toArray, List.set_cons_zero, List.set_cons_succ]
    refine Rg.pass (i := 7) (t := 103) rfl rfl (by kernel_rfl) (by kernel_rfl) (by kernel_rfl) (fun _ _ _ h => h) (by rfl) (by assumption) ?_
    simp only [List.setIfInBounds_toArray, List.set_cons_zero, List.set_cons_succ]
    refine Rg.pass (i := 8) (t := 104) rfl rfl (by kernel_rfl) (by kernel_rfl) (by kernel_rfl) (fun _ _ _ h => h) (by rfl) (by assumption) ?_
    simp only [List.setIfInBounds_toArray, List.set_cons_zero, List.set_cons_succ]
    refine Rg.pass (i := 9) (t := 105) rfl rfl (by kernel_rfl) (by kernel_rfl) (by kernel_rfl) (fun _ _ _ h => h) (by rfl) (by assumption) ?_
    simp only [List.setIfInBounds_toArray, List.set_cons_zero, List.set_cons_succ]
    refine Rg.pass (i := 10) (t := 106) rfl rfl (by kernel_rfl) (by kernel_rfl) (by kernel_rfl) (fun _ _ _ h => h) (by rfl) (by assumption) ?_
    simp only [List.setIfInBounds_toArray, List.set_cons_zero, List.set_cons_succ]
    refine Rg.pass (i := 11) (t := 107) rfl rfl (by kernel_rfl) (by kernel_rfl) (by kernel_rfl) (fun _ _ _ h => h) (by rfl) (by assumption) ?_
    simp only [List.setIfInBounds_toArray, List.set_cons_zero, List.set_cons_succ]
    refine Rg.pass (i := 12) (t := 108) rfl rfl (by kernel_rfl) (by kernel_rfl) (by kernel_rfl) (fun _ _ _ h => h) (by rfl) (by assumption) ?_
    simp only [List.setIfInBounds_toArray, List.set_cons_zero, List.set_cons_succ]
    refine Rg.pass (i := 13) (t := 109) rfl rfl (by kernel_rfl) (by kernel_rfl) (by kernel_rfl) (fun _ _ _ h => h) (by rfl) (by assumption) ?_
    simp only [List.setIfInBounds_toArray, List.set_cons_zero, List.set_cons_succ]
    refine Rg.pass (i := 14) (t := 110) rfl rfl (by kernel_rfl) (by kernel_rfl) (by kernel_rfl) (fun _ _ _ h => h) (by rfl) (by assumption) ?_
    simp only [List.setIfInBounds_toArray, List.set_cons_zero, List.set_cons_succ]
    refine Rg.pass (i := 15) (t := 111) rfl rfl (by kernel_rfl) (by kernel_rfl) (by kernel_rfl) (fun _ _ _ h => h) (by rfl) (by assumption) ?_
    simp only [List.setIfInBounds_toArray, List.set_cons_zero, List.set_cons_succ]
    refine Rg.pass (i := 16) (t := 112) rfl rfl (by kernel_rfl) (by kernel_rfl) (by kernel_rfl) (fun _ _ _ h => h) (by rfl) (by assumption) ?_
    simp only [List.setIfInBounds_toArray, List.set_cons_zero, List.set_cons_succ]
    refine Rg.take (i := 17) (t := 113) (v := .bool false) rfl rfl (by kernel_rfl) (by kernel_rfl) (by kernel_rfl) (fun _ _ _ h => h) (by rfl) (by intro w0 hSw; have hbx := HSC.out _ hSw; have x0 := hbx.box; have x1 := hbx.idx; have c0 := (HCL.out _ hbx).1; have c1 := (HCL.out _ hbx).2; have q1 := hwn; have q2 := hn1; first | (go_simp; done) | (go_simp; with_reducible rfl)) (by assumption) ?_
    simp only [List.setIfInBounds_toArray, List.set_cons_zero, List.set_cons_succ]
    refine wpAnyH_done (by kernel_rfl) ?_ _
    clear hS0
    go_wp2_with fail
    go_ret2
    rw [HW.out]
    exact WayP.no HB.out.drew
set_option maxRecDepth 100000 in
set_option maxHeartbeats 1000000 in
theorem way9_w {A : Option Addr} {n c : Nat} (l : List Ins) (i : Nat) (w : World) (hr : RdI w A n l) (hc : n ≤ c) (hi : i < n) (hn : n ≤ 1048576) :
    Calls Try.prog 21 #[.slice A n c, .int .i64 9, .int .i64 (i : Int)] w (WayP (way l i 9) w) := by
  show Calls _ _ _ _ (WayP (way9 l i) w)
  have HL := Lib.hid (show l.length = n from hr.1.symm)
  obtain ⟨b, o, rfl, hb0, _⟩ := rd_open hr (Nat.lt_of_le_of_lt (Nat.zero_le _) hi)
  obtain ⟨w1, hw1⟩ : ∃ W, (w.alloc (.cells #[.slice (some ⟨b, o, none⟩) n c] 31)).alloc (.cells #[.int .i64 (i : Int)] 3) = W := ⟨_, rfl⟩
  obtain ⟨hx, hbx⟩ := boxes (i := i) (c := c) hr hw1
  have HX := Lib.hid hx
  have HB := Lib.hid hbx
  clear hr hx hbx hb0
  obtain ⟨o0, ho0⟩ : ∃ x, op l i = x := ⟨_, rfl⟩
  obtain ⟨a0, ha0⟩ : ∃ x, ar l i = x := ⟨_, rfl⟩
  have HO0 := Lib.hid ho0
  have HA0 := Lib.hid ha0
  have HCL := Lib.hid (show ∀ U, Bx2 U w.heap.size (w.heap.size + 1) (some ⟨b, o, none⟩) n c i l → U.cell? ⟨b, o + i * 2, none⟩ = some (.int .i64 o0) ∧ U.cell? ⟨b, o + i * 2 + 1, none⟩ = some (.int .i64 a0) from fun U h => by have h2 := rd_at h.rd hi; rw [ho0, ha0] at h2; exact h2)
  clear ho0 ha0
  have i0 : (0 : Int) ≤ (i : Int) := Int.natCast_nonneg _
  have i1 : (i : Int) < (n : Int) := by omega
  have x0 := HX.out.box
  have x1 := HX.out.idx
  have c0 := (HCL.out _ HX.out).1
  have c1 := (HCL.out _ HX.out).2
  by_cases h38 : o0 = 38
  · have t38 : (o0 == 38) = true := by simpa using h38
    cases hq : l.any (asks (ar l i)) with
    | true =>
      have HQ := Lib.hid hq
      have HW := Lib.hid (show way9 l i = none by unfold way9; rw [hq, if_neg (by simp)])
      clear hq h38
      go_enter Try.func21, Try.ntmps21
      go_wp2_with (go_at_call 29; refine (containsFunc_i 33 (.pointer (some ⟨w.heap.size, 0, none⟩)) (.pointer (some ⟨w.heap.size + 1, 0, none⟩)) l (asks (ar l i)) w1 HX.out.rd hn (fun _ _ => rfl) (fun x U hU => way2_i l i x U (HX.out.below hU) hi hn)).mono ?_; rintro e w2 ⟨rfl, hb⟩; have HX2 := Lib.hid (HX.out.below hb); clear x0 x1 c0 c1 HX; have HX := HX2; clear HX2; have HB2 := Lib.hid (HB.out.trans (hb.mono HB.out.size)); clear HB; have HB := HB2; clear HB2 hb; have x0 := HX.out.box; have x1 := HX.out.idx; have c0 := (HCL.out _ HX.out).1; have c1 := (HCL.out _ HX.out).2; rw [HQ.out])
      go_ret2
      rw [HW.out]
      exact WayP.no HB.out
    | false =>
      have HQ := Lib.hid hq
      have HW := Lib.hid (show way9 l i = some (swap l i 1 []) by unfold way9; rw [hq, HO0.out, if_pos ⟨h38, rfl⟩])
      clear hq h38
      go_enter Try.func21, Try.ntmps21
      go_wp2_with (first | (go_at_call 29; refine (containsFunc_i 33 (.pointer (some ⟨w.heap.size, 0, none⟩)) (.pointer (some ⟨w.heap.size + 1, 0, none⟩)) l (asks (ar l i)) w1 HX.out.rd hn (fun _ _ => rfl) (fun x U hU => way2_i l i x U (HX.out.below hU) hi hn)).mono ?_; rintro e w2 ⟨rfl, hb⟩; have HX2 := Lib.hid (HX.out.below hb); clear x0 x1 c0 c1 HX; have HX := HX2; clear HX2; have HB2 := Lib.hid (HB.out.trans (hb.mono HB.out.size)); clear HB; have HB := HB2; clear HB2 hb; have x0 := HX.out.box; have x1 := HX.out.idx; have c0 := (HCL.out _ HX.out).1; have c1 := (HCL.out _ HX.out).2; rw [HQ.out]) | (go_at_call 25; refine (with_i (B := none) (m := 0) (d := 0) l [] i 1 w2 HX.out.rd (Sk.Rd.nil _ none) hc hi hn (by omega)).mono ?_; rintro e w9 ⟨v, rfl, ho, hb⟩; have HO := Lib.hid ho; have HB9 := Lib.hid hb; clear ho hb))
      go_ret2
      rw [HW.out]
      exact WayP.yes (HO.out.lower HB.out.size) (HB.out.trans (HB9.out.mono HB.out.size))
  · have t38 : (o0 == 38) = false := by simpa using h38
    have HW := Lib.hid (show way9 l i = none by unfold way9; rw [HO0.out, if_neg (fun h => h38 h.1)])
    clear h38
    go_enter Try.func21, Try.ntmps21
    go_wp2_with fail
    go_ret2
    rw [HW.out]
    exact WayP.no HB.out
end Go.Proofs.Ytmilnfboglhdgaa.PeepE
