/- The walks of values, by the program and by the reference: what is around a thing, and operators. -/
import Derived.Test.YtncdicagadbafaaCore
import Derived.Test.YtncdicagadbafaaValW
namespace Go.Proofs.Ytncdicagadbafaa.ValX
open Go Go.RowKit NestP Sq NestW NestX NestY NestZ ValP ValW

set_option maxRecDepth 100000 in
theorem tree1_i {v0 v4 v5 v6 v7 v8 v9 v10 v11 v12 : Value} {A1 A2 A3 : Option Addr} {n c1 n2 c2 n3 c3 : Nat} (d : Wd) (x : Int) (w : World) (hp : Rd I w A1 n d.pa) :
    Calls Try.prog 65 #[.agg #[v0, .slice A1 n c1, .slice A2 n2 c2, .slice A3 n3 c3, v4, v5, v6, v7, v8, v9, v10, v11, v12], .int .i64 1, .int .i64 x] w fun e w' => e = .returned (.tuple #[.int .i64 (if isT n (wr x) = true then at' d.pa (wr x) else 0), .int .i64 (if isT n (wr x) = true then 0 else 11)]) ∧ Below w.heap.size w w' := by
  have HP := Lib.hid hp
  clear hp
  by_cases hT : isT n (wr x) = true
  · rw [if_pos hT, if_pos hT]
    obtain ⟨k, b, o, hk, hk1, hk2, rfl, hb, hcell⟩ := at_cell HP.out hT
    have HT := Lib.hid hT
    have HK := Lib.hid hk
    have k0 : (0 : Int) ≤ (k : Int) := by omega
    have k1 : (k : Int) < (n : Int) := by omega
    have hb1 : b < w.heap.size + 1 := by omega
    rw [hk] at hcell
    have hb0 := hb
    clear hT hk
    go_enter Try.func65, Try.ntmps65
    go_wp2_with (first | ((go_at_call 116; refine (wrap_i _ _).mono ?_; rintro e w1 ⟨rfl, rfl⟩; rw [HK.out])) | ((go_at_call 46; refine (is_n _ _).mono ?_; rintro e w1 ⟨rfl, hbi⟩; rw [← HK.out, HT.out, HK.out]; have hk9 := kept hbi)))
    go_ret2
    exact ⟨by rw [HK.out]; rfl, ((Below.refl _ _).alloc (Nat.le_refl _) _).trans (hbi.mono (by simp))⟩
  · have HT := Lib.hid (show isT n (wr x) = false by simpa using hT)
    rw [if_neg hT, if_neg hT]
    clear hT
    go_enter Try.func65, Try.ntmps65
    go_wp2_with (first | ((go_at_call 116; refine (wrap_i _ _).mono ?_; rintro e w1 ⟨rfl, rfl⟩)) | ((go_at_call 46; refine (is_n _ _).mono ?_; rintro e w1 ⟨rfl, hbi⟩; rw [HT.out])))
    go_ret2
    exact ⟨rfl, ((Below.refl _ _).alloc (Nat.le_refl _) _).trans (hbi.mono (by simp))⟩
set_option maxRecDepth 100000 in
theorem tree2_i {v0 v4 v5 v6 v7 v8 v9 v10 v11 v12 : Value} {A1 A2 A3 : Option Addr} {n c1 n2 c2 n3 c3 : Nat} (d : Wd) (x : Int) (w : World) (hc : Rd I w A2 n2 d.ch) (h2 : n = n2) :
    Calls Try.prog 65 #[.agg #[v0, .slice A1 n c1, .slice A2 n2 c2, .slice A3 n3 c3, v4, v5, v6, v7, v8, v9, v10, v11, v12], .int .i64 2, .int .i64 x] w fun e w' => e = .returned (.tuple #[.int .i64 (if isT n (wr x) = true then at' d.ch (wr x) else 0), .int .i64 (if isT n (wr x) = true then 0 else 11)]) ∧ Below w.heap.size w w' := by
  subst h2
  have HC := Lib.hid hc
  clear hc
  by_cases hT : isT n (wr x) = true
  · rw [if_pos hT, if_pos hT]
    obtain ⟨k, b, o, hk, hk1, hk2, rfl, hb, hcell⟩ := at_cell HC.out hT
    have HT := Lib.hid hT
    have HK := Lib.hid hk
    have k0 : (0 : Int) ≤ (k : Int) := by omega
    have k1 : (k : Int) < (n : Int) := by omega
    have hb1 : b < w.heap.size + 1 := by omega
    rw [hk] at hcell
    have hb0 := hb
    clear hT hk
    go_enter Try.func65, Try.ntmps65
    go_wp2_with (first | ((go_at_call 116; refine (wrap_i _ _).mono ?_; rintro e w1 ⟨rfl, rfl⟩; rw [HK.out])) | ((go_at_call 46; refine (is_n _ _).mono ?_; rintro e w1 ⟨rfl, hbi⟩; rw [← HK.out, HT.out, HK.out]; have hk9 := kept hbi)))
    go_ret2
    exact ⟨by rw [HK.out]; rfl, ((Below.refl _ _).alloc (Nat.le_refl _) _).trans (hbi.mono (by simp))⟩
  · have HT := Lib.hid (show isT n (wr x) = false by simpa using hT)
    rw [if_neg hT, if_neg hT]
    clear hT
    go_enter Try.func65, Try.ntmps65
    go_wp2_with (first | ((go_at_call 116; refine (wrap_i _ _).mono ?_; rintro e w1 ⟨rfl, rfl⟩)) | ((go_at_call 46; refine (is_n _ _).mono ?_; rintro e w1 ⟨rfl, hbi⟩; rw [HT.out])))
    go_ret2
    exact ⟨rfl, ((Below.refl _ _).alloc (Nat.le_refl _) _).trans (hbi.mono (by simp))⟩
set_option maxRecDepth 100000 in
theorem tree3_i {v0 v4 v5 v6 v7 v8 v9 v10 v11 v12 : Value} {A1 A2 A3 : Option Addr} {n c1 n2 c2 n3 c3 : Nat} (d : Wd) (x : Int) (w : World) (hne : Rd I w A3 n3 d.ne) (h3 : n = n3) :
    Calls Try.prog 65 #[.agg #[v0, .slice A1 n c1, .slice A2 n2 c2, .slice A3 n3 c3, v4, v5, v6, v7, v8, v9, v10, v11, v12], .int .i64 3, .int .i64 x] w fun e w' => e = .returned (.tuple #[.int .i64 (if isT n (wr x) = true then at' d.ne (wr x) else 0), .int .i64 (if isT n (wr x) = true then 0 else 11)]) ∧ Below w.heap.size w w' := by
  subst h3
  have HN := Lib.hid hne
  clear hne
  by_cases hT : isT n (wr x) = true
  · rw [if_pos hT, if_pos hT]
    obtain ⟨k, b, o, hk, hk1, hk2, rfl, hb, hcell⟩ := at_cell HN.out hT
    have HT := Lib.hid hT
    have HK := Lib.hid hk
    have k0 : (0 : Int) ≤ (k : Int) := by omega
    have k1 : (k : Int) < (n : Int) := by omega
    have hb1 : b < w.heap.size + 1 := by omega
    rw [hk] at hcell
    have hb0 := hb
    clear hT hk
    go_enter Try.func65, Try.ntmps65
    go_wp2_with (first | ((go_at_call 116; refine (wrap_i _ _).mono ?_; rintro e w1 ⟨rfl, rfl⟩; rw [HK.out])) | ((go_at_call 46; refine (is_n _ _).mono ?_; rintro e w1 ⟨rfl, hbi⟩; rw [← HK.out, HT.out, HK.out]; have hk9 := kept hbi)))
    go_ret2
    exact ⟨by rw [HK.out]; rfl, ((Below.refl _ _).alloc (Nat.le_refl _) _).trans (hbi.mono (by simp))⟩
  · have HT := Lib.hid (show isT n (wr x) = false by simpa using hT)
    rw [if_neg hT, if_neg hT]
    clear hT
    go_enter Try.func65, Try.ntmps65
    go_wp2_with (first | ((go_at_call 116; refine (wrap_i _ _).mono ?_; rintro e w1 ⟨rfl, rfl⟩)) | ((go_at_call 46; refine (is_n _ _).mono ?_; rintro e w1 ⟨rfl, hbi⟩; rw [HT.out])))
    go_ret2
    exact ⟨rfl, ((Below.refl _ _).alloc (Nat.le_refl _) _).trans (hbi.mono (by simp))⟩
set_option maxRecDepth 100000 in
theorem tree0_i {v0 v4 v5 v6 v7 v8 v9 v10 v11 v12 : Value} {A1 A2 A3 : Option Addr} {n c1 n2 c2 n3 c3 : Nat} (k x : Int) (w : World) (hk : k < 1 ∨ 3 < k) :
    Calls Try.prog 65 #[.agg #[v0, .slice A1 n c1, .slice A2 n2 c2, .slice A3 n3 c3, v4, v5, v6, v7, v8, v9, v10, v11, v12], .int .i64 k, .int .i64 x] w fun e w' => e = .returned (.tuple #[.int .i64 0, .int .i64 16]) ∧ Below w.heap.size w w' := by
  have t1 : (k == 1) = false := by simp; omega
  have t2 : (k == 2) = false := by simp; omega
  have t3 : (k == 3) = false := by simp; omega
  go_enter Try.func65, Try.ntmps65
  go_wp2_with fail
  go_ret2
  exact ⟨rfl, by go_grown⟩
set_option maxRecDepth 100000 in
theorem tree1_r {v0 v4 v5 v6 v7 v8 v9 v10 v11 v12 : Value} {A1 A2 A3 : Option Addr} {n c1 n2 c2 n3 c3 : Nat} (d : Wd) (x : Int) (w : World) (hp : Rd I w A1 n d.pa) :
    Calls Try.prog 83 #[.agg #[v0, .slice A1 n c1, .slice A2 n2 c2, .slice A3 n3 c3, v4, v5, v6, v7, v8, v9, v10, v11, v12], .int .i64 1, .int .i64 x] w fun e w' => e = .returned (.tuple #[.int .i64 (if isT n (wr x) = true then at' d.pa (wr x) else 0), .int .i64 (if isT n (wr x) = true then 0 else 11)]) ∧ Below w.heap.size w w' := by
  have HP := Lib.hid hp
  clear hp
  by_cases hT : isT n (wr x) = true
  · rw [if_pos hT, if_pos hT]
    obtain ⟨k, b, o, hk, hk1, hk2, rfl, hb, hcell⟩ := at_cell HP.out hT
    have HT := Lib.hid hT
    have HK := Lib.hid hk
    have k0 : (0 : Int) ≤ (k : Int) := by omega
    have k1 : (k : Int) < (n : Int) := by omega
    have hb1 : b < w.heap.size + 1 := by omega
    rw [hk] at hcell
    have hb0 := hb
    clear hT hk
    go_enter Try.func83, Try.ntmps83
    go_wp2_with (first | ((go_at_call 63; refine (wrap_r _ _).mono ?_; rintro e w1 ⟨rfl, rfl⟩; rw [HK.out])) | ((go_at_call 45; refine (is_o _ _).mono ?_; rintro e w1 ⟨rfl, hbi⟩; rw [← HK.out, HT.out, HK.out]; have hk9 := kept hbi)))
    go_ret2
    exact ⟨by rw [HK.out]; rfl, ((Below.refl _ _).alloc (Nat.le_refl _) _).trans (hbi.mono (by simp))⟩
  · have HT := Lib.hid (show isT n (wr x) = false by simpa using hT)
    rw [if_neg hT, if_neg hT]
    clear hT
    go_enter Try.func83, Try.ntmps83
    go_wp2_with (first | ((go_at_call 63; refine (wrap_r _ _).mono ?_; rintro e w1 ⟨rfl, rfl⟩)) | ((go_at_call 45; refine (is_o _ _).mono ?_; rintro e w1 ⟨rfl, hbi⟩; rw [HT.out])))
    go_ret2
    exact ⟨rfl, ((Below.refl _ _).alloc (Nat.le_refl _) _).trans (hbi.mono (by simp))⟩
set_option maxRecDepth 100000 in
theorem tree2_r {v0 v4 v5 v6 v7 v8 v9 v10 v11 v12 : Value} {A1 A2 A3 : Option Addr} {n c1 n2 c2 n3 c3 : Nat} (d : Wd) (x : Int) (w : World) (hc : Rd I w A2 n2 d.ch) (h2 : n = n2) :
    Calls Try.prog 83 #[.agg #[v0, .slice A1 n c1, .slice A2 n2 c2, .slice A3 n3 c3, v4, v5, v6, v7, v8, v9, v10, v11, v12], .int .i64 2, .int .i64 x] w fun e w' => e = .returned (.tuple #[.int .i64 (if isT n (wr x) = true then at' d.ch (wr x) else 0), .int .i64 (if isT n (wr x) = true then 0 else 11)]) ∧ Below w.heap.size w w' := by
  subst h2
  have HC := Lib.hid hc
  clear hc
  by_cases hT : isT n (wr x) = true
  · rw [if_pos hT, if_pos hT]
    obtain ⟨k, b, o, hk, hk1, hk2, rfl, hb, hcell⟩ := at_cell HC.out hT
    have HT := Lib.hid hT
    have HK := Lib.hid hk
    have k0 : (0 : Int) ≤ (k : Int) := by omega
    have k1 : (k : Int) < (n : Int) := by omega
    have hb1 : b < w.heap.size + 1 := by omega
    rw [hk] at hcell
    have hb0 := hb
    clear hT hk
    go_enter Try.func83, Try.ntmps83
    go_wp2_with (first | ((go_at_call 63; refine (wrap_r _ _).mono ?_; rintro e w1 ⟨rfl, rfl⟩; rw [HK.out])) | ((go_at_call 45; refine (is_o _ _).mono ?_; rintro e w1 ⟨rfl, hbi⟩; rw [← HK.out, HT.out, HK.out]; have hk9 := kept hbi)))
    go_ret2
    exact ⟨by rw [HK.out]; rfl, ((Below.refl _ _).alloc (Nat.le_refl _) _).trans (hbi.mono (by simp))⟩
  · have HT := Lib.hid (show isT n (wr x) = false by simpa using hT)
    rw [if_neg hT, if_neg hT]
    clear hT
    go_enter Try.func83, Try.ntmps83
    go_wp2_with (first | ((go_at_call 63; refine (wrap_r _ _).mono ?_; rintro e w1 ⟨rfl, rfl⟩)) | ((go_at_call 45; refine (is_o _ _).mono ?_; rintro e w1 ⟨rfl, hbi⟩; rw [HT.out])))
    go_ret2
    exact ⟨rfl, ((Below.refl _ _).alloc (Nat.le_refl _) _).trans (hbi.mono (by simp))⟩
set_option maxRecDepth 100000 in
theorem tree3_r {v0 v4 v5 v6 v7 v8 v9 v10 v11 v12 : Value} {A1 A2 A3 : Option Addr} {n c1 n2 c2 n3 c3 : Nat} (d : Wd) (x : Int) (w : World) (hne : Rd I w A3 n3 d.ne) (h3 : n = n3) :
    Calls Try.prog 83 #[.agg #[v0, .slice A1 n c1, .slice A2 n2 c2, .slice A3 n3 c3, v4, v5, v6, v7, v8, v9, v10, v11, v12], .int .i64 3, .int .i64 x] w fun e w' => e = .returned (.tuple #[.int .i64 (if isT n (wr x) = true then at' d.ne (wr x) else 0), .int .i64 (if isT n (wr x) = true then 0 else 11)]) ∧ Below w.heap.size w w' := by
  subst h3
  have HN := Lib.hid hne
  clear hne
  by_cases hT : isT n (wr x) = true
  · rw [if_pos hT, if_pos hT]
    obtain ⟨k, b, o, hk, hk1, hk2, rfl, hb, hcell⟩ := at_cell HN.out hT
    have HT := Lib.hid hT
    have HK := Lib.hid hk
    have k0 : (0 : Int) ≤ (k : Int) := by omega
    have k1 : (k : Int) < (n : Int) := by omega
    have hb1 : b < w.heap.size + 1 := by omega
    rw [hk] at hcell
    have hb0 := hb
    clear hT hk
    go_enter Try.func83, Try.ntmps83
    go_wp2_with (first | ((go_at_call 63; refine (wrap_r _ _).mono ?_; rintro e w1 ⟨rfl, rfl⟩; rw [HK.out])) | ((go_at_call 45; refine (is_o _ _).mono ?_; rintro e w1 ⟨rfl, hbi⟩; rw [← HK.out, HT.out, HK.out]; have hk9 := kept hbi)))
    go_ret2
    exact ⟨by rw [HK.out]; rfl, ((Below.refl _ _).alloc (Nat.le_refl _) _).trans (hbi.mono (by simp))⟩
  · have HT := Lib.hid (show isT n (wr x) = false by simpa using hT)
    rw [if_neg hT, if_neg hT]
    clear hT
    go_enter Try.func83, Try.ntmps83
    go_wp2_with (first | ((go_at_call 63; refine (wrap_r _ _).mono ?_; rintro e w1 ⟨rfl, rfl⟩)) | ((go_at_call 45; refine (is_o _ _).mono ?_; rintro e w1 ⟨rfl, hbi⟩; rw [HT.out])))
    go_ret2
    exact ⟨rfl, ((Below.refl _ _).alloc (Nat.le_refl _) _).trans (hbi.mono (by simp))⟩
set_option maxRecDepth 100000 in
theorem tree0_r {v0 v4 v5 v6 v7 v8 v9 v10 v11 v12 : Value} {A1 A2 A3 : Option Addr} {n c1 n2 c2 n3 c3 : Nat} (k x : Int) (w : World) (hk : k < 1 ∨ 3 < k) :
    Calls Try.prog 83 #[.agg #[v0, .slice A1 n c1, .slice A2 n2 c2, .slice A3 n3 c3, v4, v5, v6, v7, v8, v9, v10, v11, v12], .int .i64 k, .int .i64 x] w fun e w' => e = .returned (.tuple #[.int .i64 0, .int .i64 16]) ∧ Below w.heap.size w w' := by
  by_cases h1 : k < 1
  · have t1 : decide (k < 1) = true := by simp; omega
    go_enter Try.func83, Try.ntmps83
    go_wp2_with fail
    go_ret2
    exact ⟨rfl, by go_grown⟩
  · have t1 : decide (k < 1) = false := by simp; omega
    have t3 : decide (3 < k) = true := by simp; omega
    go_enter Try.func83, Try.ntmps83
    go_wp2_with fail
    go_ret2
    exact ⟨rfl, by go_grown⟩
end Go.Proofs.Ytncdicagadbafaa.ValX
