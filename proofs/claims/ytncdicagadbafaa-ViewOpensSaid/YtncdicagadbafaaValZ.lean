/- The walks of the operators, by the reference. -/
import Derived.Test.YtncdicagadbafaaValX
import Derived.Deep.CutBlock
namespace Go.Proofs.Ytncdicagadbafaa.ValZ
open Go Go.RowKit NestP Sq NestW NestX NestY NestZ ValP ValW ValX

set_option maxRecDepth 100000 in
theorem bin1_r {v0 v4 v5 v6 v7 v8 v9 v10 v11 v12 : Value} {A1 A2 A3 : Option Addr} {n c1 n2 c2 n3 c3 : Nat} (d : Wd) (a b : Int) (w : World) :
    Calls Try.prog 58 #[.agg #[v0, .slice A1 n c1, .slice A2 n2 c2, .slice A3 n3 c3, v4, v5, v6, v7, v8, v9, v10, v11, v12], .int .i64 1, .int .i64 a, .int .i64 b] w fun e w' => e = .returned (.tuple #[.int .i64 (opV (at' d.pa (wr a)) (isT n (wr a)) 1 (wr a) (wr b)), .int .i64 (opE (isT n (wr a)) 1 (wr b))]) ∧ Below w.heap.size w w' := by
  have HV := Lib.hid (show opV (at' d.pa (wr a)) (isT n (wr a)) 1 (wr a) (wr b) = tr (wr a != 0 || wr b != 0) by simp [opV])
  have HE := Lib.hid (show opE (isT n (wr a)) 1 (wr b) = 0 by simp [opE])
  obtain ⟨b1, h1⟩ : ∃ b1, (wr a != 0) = b1 := ⟨_, rfl⟩
  obtain ⟨b2, h2⟩ : ∃ b2, (wr b != 0) = b2 := ⟨_, rfl⟩
  rw [h1, h2] at HV
  cases b1 <;> cases b2
  all_goals
    go_enter Try.func58, Try.ntmps58
    go_wp2_with (first | (go_at_call 63; refine (wrap_r _ _).mono ?_; rintro e w1 ⟨rfl, rfl⟩) | (go_at_call 123; refine (truth_r _ _).mono ?_; rintro e w1 ⟨rfl, rfl⟩))
    go_ret2
    exact ⟨by rw [HV.out, HE.out]; rfl, by go_grown⟩

set_option maxRecDepth 100000 in
theorem bin2_r {v0 v4 v5 v6 v7 v8 v9 v10 v11 v12 : Value} {A1 A2 A3 : Option Addr} {n c1 n2 c2 n3 c3 : Nat} (d : Wd) (a b : Int) (w : World) :
    Calls Try.prog 58 #[.agg #[v0, .slice A1 n c1, .slice A2 n2 c2, .slice A3 n3 c3, v4, v5, v6, v7, v8, v9, v10, v11, v12], .int .i64 2, .int .i64 a, .int .i64 b] w fun e w' => e = .returned (.tuple #[.int .i64 (opV (at' d.pa (wr a)) (isT n (wr a)) 2 (wr a) (wr b)), .int .i64 (opE (isT n (wr a)) 2 (wr b))]) ∧ Below w.heap.size w w' := by
  have HV := Lib.hid (show opV (at' d.pa (wr a)) (isT n (wr a)) 2 (wr a) (wr b) = tr (wr a != 0 && wr b != 0) by simp [opV])
  have HE := Lib.hid (show opE (isT n (wr a)) 2 (wr b) = 0 by simp [opE])
  obtain ⟨b1, h1⟩ : ∃ b1, (wr a != 0) = b1 := ⟨_, rfl⟩
  obtain ⟨b2, h2⟩ : ∃ b2, (wr b != 0) = b2 := ⟨_, rfl⟩
  rw [h1, h2] at HV
  cases b1 <;> cases b2
  all_goals
    go_enter Try.func58, Try.ntmps58
    go_wp2_with (first | (go_at_call 63; refine (wrap_r _ _).mono ?_; rintro e w1 ⟨rfl, rfl⟩) | (go_at_call 123; refine (truth_r _ _).mono ?_; rintro e w1 ⟨rfl, rfl⟩))
    go_ret2
    exact ⟨by rw [HV.out, HE.out]; rfl, by go_grown⟩

set_option maxRecDepth 100000 in
theorem bin3_r {v0 v4 v5 v6 v7 v8 v9 v10 v11 v12 : Value} {A1 A2 A3 : Option Addr} {n c1 n2 c2 n3 c3 : Nat} (d : Wd) (a b : Int) (w : World) :
    Calls Try.prog 58 #[.agg #[v0, .slice A1 n c1, .slice A2 n2 c2, .slice A3 n3 c3, v4, v5, v6, v7, v8, v9, v10, v11, v12], .int .i64 3, .int .i64 a, .int .i64 b] w fun e w' => e = .returned (.tuple #[.int .i64 (opV (at' d.pa (wr a)) (isT n (wr a)) 3 (wr a) (wr b)), .int .i64 (opE (isT n (wr a)) 3 (wr b))]) ∧ Below w.heap.size w w' := by
  have HV := Lib.hid (show opV (at' d.pa (wr a)) (isT n (wr a)) 3 (wr a) (wr b) = tr (wr a == wr b) by simp [opV])
  have HE := Lib.hid (show opE (isT n (wr a)) 3 (wr b) = 0 by simp [opE])
  go_enter Try.func58, Try.ntmps58
  go_wp2_with (first | (go_at_call 63; refine (wrap_r _ _).mono ?_; rintro e w1 ⟨rfl, rfl⟩) | (go_at_call 123; refine (truth_r _ _).mono ?_; rintro e w1 ⟨rfl, rfl⟩))
  go_ret2
  exact ⟨by rw [HV.out, HE.out]; rfl, by go_grown⟩

set_option maxRecDepth 100000 in
theorem bin4_r {v0 v4 v5 v6 v7 v8 v9 v10 v11 v12 : Value} {A1 A2 A3 : Option Addr} {n c1 n2 c2 n3 c3 : Nat} (d : Wd) (a b : Int) (w : World) :
    Calls Try.prog 58 #[.agg #[v0, .slice A1 n c1, .slice A2 n2 c2, .slice A3 n3 c3, v4, v5, v6, v7, v8, v9, v10, v11, v12], .int .i64 4, .int .i64 a, .int .i64 b] w fun e w' => e = .returned (.tuple #[.int .i64 (opV (at' d.pa (wr a)) (isT n (wr a)) 4 (wr a) (wr b)), .int .i64 (opE (isT n (wr a)) 4 (wr b))]) ∧ Below w.heap.size w w' := by
  have HV := Lib.hid (show opV (at' d.pa (wr a)) (isT n (wr a)) 4 (wr a) (wr b) = tr (wr a != wr b) by simp [opV])
  have HE := Lib.hid (show opE (isT n (wr a)) 4 (wr b) = 0 by simp [opE])
  go_enter Try.func58, Try.ntmps58
  go_wp2_with (first | (go_at_call 63; refine (wrap_r _ _).mono ?_; rintro e w1 ⟨rfl, rfl⟩) | (go_at_call 123; refine (truth_r _ _).mono ?_; rintro e w1 ⟨rfl, rfl⟩))
  go_ret2
  exact ⟨by rw [HV.out, HE.out]; rfl, by go_grown⟩

set_option maxRecDepth 100000 in
theorem bin5_r {v0 v4 v5 v6 v7 v8 v9 v10 v11 v12 : Value} {A1 A2 A3 : Option Addr} {n c1 n2 c2 n3 c3 : Nat} (d : Wd) (a b : Int) (w : World) :
    Calls Try.prog 58 #[.agg #[v0, .slice A1 n c1, .slice A2 n2 c2, .slice A3 n3 c3, v4, v5, v6, v7, v8, v9, v10, v11, v12], .int .i64 5, .int .i64 a, .int .i64 b] w fun e w' => e = .returned (.tuple #[.int .i64 (opV (at' d.pa (wr a)) (isT n (wr a)) 5 (wr a) (wr b)), .int .i64 (opE (isT n (wr a)) 5 (wr b))]) ∧ Below w.heap.size w w' := by
  have HV := Lib.hid (show opV (at' d.pa (wr a)) (isT n (wr a)) 5 (wr a) (wr b) = tr (decide (wr a < wr b)) by simp [opV])
  have HE := Lib.hid (show opE (isT n (wr a)) 5 (wr b) = 0 by simp [opE])
  go_enter Try.func58, Try.ntmps58
  go_wp2_with (first | (go_at_call 63; refine (wrap_r _ _).mono ?_; rintro e w1 ⟨rfl, rfl⟩) | (go_at_call 123; refine (truth_r _ _).mono ?_; rintro e w1 ⟨rfl, rfl⟩))
  go_ret2
  exact ⟨by rw [HV.out, HE.out]; rfl, by go_grown⟩

set_option maxRecDepth 100000 in
theorem bin6_r {v0 v4 v5 v6 v7 v8 v9 v10 v11 v12 : Value} {A1 A2 A3 : Option Addr} {n c1 n2 c2 n3 c3 : Nat} (d : Wd) (a b : Int) (w : World) :
    Calls Try.prog 58 #[.agg #[v0, .slice A1 n c1, .slice A2 n2 c2, .slice A3 n3 c3, v4, v5, v6, v7, v8, v9, v10, v11, v12], .int .i64 6, .int .i64 a, .int .i64 b] w fun e w' => e = .returned (.tuple #[.int .i64 (opV (at' d.pa (wr a)) (isT n (wr a)) 6 (wr a) (wr b)), .int .i64 (opE (isT n (wr a)) 6 (wr b))]) ∧ Below w.heap.size w w' := by
  have HV := Lib.hid (show opV (at' d.pa (wr a)) (isT n (wr a)) 6 (wr a) (wr b) = tr (decide (wr a ≤ wr b)) by simp [opV])
  have HE := Lib.hid (show opE (isT n (wr a)) 6 (wr b) = 0 by simp [opE])
  go_enter Try.func58, Try.ntmps58
  go_wp2_with (first | (go_at_call 63; refine (wrap_r _ _).mono ?_; rintro e w1 ⟨rfl, rfl⟩) | (go_at_call 123; refine (truth_r _ _).mono ?_; rintro e w1 ⟨rfl, rfl⟩))
  go_ret2
  exact ⟨by rw [HV.out, HE.out]; rfl, by go_grown⟩

set_option maxRecDepth 100000 in
theorem bin7_r {v0 v4 v5 v6 v7 v8 v9 v10 v11 v12 : Value} {A1 A2 A3 : Option Addr} {n c1 n2 c2 n3 c3 : Nat} (d : Wd) (a b : Int) (w : World) :
    Calls Try.prog 58 #[.agg #[v0, .slice A1 n c1, .slice A2 n2 c2, .slice A3 n3 c3, v4, v5, v6, v7, v8, v9, v10, v11, v12], .int .i64 7, .int .i64 a, .int .i64 b] w fun e w' => e = .returned (.tuple #[.int .i64 (opV (at' d.pa (wr a)) (isT n (wr a)) 7 (wr a) (wr b)), .int .i64 (opE (isT n (wr a)) 7 (wr b))]) ∧ Below w.heap.size w w' := by
  have HV := Lib.hid (show opV (at' d.pa (wr a)) (isT n (wr a)) 7 (wr a) (wr b) = tr (decide (wr b < wr a)) by simp [opV])
  have HE := Lib.hid (show opE (isT n (wr a)) 7 (wr b) = 0 by simp [opE])
  go_enter Try.func58, Try.ntmps58
  go_wp2_with (first | (go_at_call 63; refine (wrap_r _ _).mono ?_; rintro e w1 ⟨rfl, rfl⟩) | (go_at_call 123; refine (truth_r _ _).mono ?_; rintro e w1 ⟨rfl, rfl⟩))
  go_ret2
  exact ⟨by rw [HV.out, HE.out]; rfl, by go_grown⟩

set_option maxRecDepth 100000 in
theorem bin8_r {v0 v4 v5 v6 v7 v8 v9 v10 v11 v12 : Value} {A1 A2 A3 : Option Addr} {n c1 n2 c2 n3 c3 : Nat} (d : Wd) (a b : Int) (w : World) :
    Calls Try.prog 58 #[.agg #[v0, .slice A1 n c1, .slice A2 n2 c2, .slice A3 n3 c3, v4, v5, v6, v7, v8, v9, v10, v11, v12], .int .i64 8, .int .i64 a, .int .i64 b] w fun e w' => e = .returned (.tuple #[.int .i64 (opV (at' d.pa (wr a)) (isT n (wr a)) 8 (wr a) (wr b)), .int .i64 (opE (isT n (wr a)) 8 (wr b))]) ∧ Below w.heap.size w w' := by
  have HV := Lib.hid (show opV (at' d.pa (wr a)) (isT n (wr a)) 8 (wr a) (wr b) = tr (decide (wr b ≤ wr a)) by simp [opV])
  have HE := Lib.hid (show opE (isT n (wr a)) 8 (wr b) = 0 by simp [opE])
  go_enter Try.func58, Try.ntmps58
  go_wp2_with (first | (go_at_call 63; refine (wrap_r _ _).mono ?_; rintro e w1 ⟨rfl, rfl⟩) | (go_at_call 123; refine (truth_r _ _).mono ?_; rintro e w1 ⟨rfl, rfl⟩))
  go_ret2
  exact ⟨by rw [HV.out, HE.out]; rfl, by go_grown⟩

set_option maxRecDepth 100000 in
theorem bin9_r {v0 v4 v5 v6 v7 v8 v9 v10 v11 v12 : Value} {A1 A2 A3 : Option Addr} {n c1 n2 c2 n3 c3 : Nat} (d : Wd) (a b : Int) (w : World) (hp : Rd I w A1 n d.pa) :
    Calls Try.prog 58 #[.agg #[v0, .slice A1 n c1, .slice A2 n2 c2, .slice A3 n3 c3, v4, v5, v6, v7, v8, v9, v10, v11, v12], .int .i64 9, .int .i64 a, .int .i64 b] w fun e w' => e = .returned (.tuple #[.int .i64 (opV (at' d.pa (wr a)) (isT n (wr a)) 9 (wr a) (wr b)), .int .i64 (opE (isT n (wr a)) 9 (wr b))]) ∧ Below w.heap.size w w' := by
  have HP := Lib.hid hp
  clear hp
  by_cases hT : isT n (wr a) = true
  · have HV := Lib.hid (show opV (at' d.pa (wr a)) (isT n (wr a)) 9 (wr a) (wr b) = tr (at' d.pa (wr a) == wr b) by simp [opV, hT])
    have HE := Lib.hid (show opE (isT n (wr a)) 9 (wr b) = 0 by simp [opE, hT])
    obtain ⟨k, bb, o, hk, hk1, hk2, rfl, hb, hcell⟩ := at_cell HP.out hT
    have HT := Lib.hid hT
    have HK := Lib.hid hk
    have k0 : (0 : Int) ≤ (k : Int) := by omega
    have k1 : (k : Int) < (n : Int) := by omega
    have hb1 : bb < w.heap.size + 1 := by omega
    rw [hk] at hcell
    clear hT hk
    go_enter Try.func58, Try.ntmps58
    go_wp2_with (first | ((go_at_call 63; refine (wrap_r _ _).mono ?_; rintro e w1 ⟨rfl, rfl⟩; (try rw [HK.out]))) | (go_at_call 45; refine (is_o _ _).mono ?_; rintro e w1 ⟨rfl, hbi⟩; rw [← HK.out, HT.out, HK.out]; have hk9 := kept hbi) | (go_at_call 123; refine (truth_r _ _).mono ?_; rintro e w1 ⟨rfl, rfl⟩))
    go_ret2
    exact ⟨by rw [HV.out, HE.out, HK.out]; rfl, ((Below.refl _ _).alloc (Nat.le_refl _) _).trans (hbi.mono (by simp))⟩
  · have HV := Lib.hid (show opV (at' d.pa (wr a)) (isT n (wr a)) 9 (wr a) (wr b) = 0 by simp [opV, hT])
    have HE := Lib.hid (show opE (isT n (wr a)) 9 (wr b) = 11 by simp [opE, hT])
    have HT := Lib.hid (show isT n (wr a) = false by simpa using hT)
    clear hT
    go_enter Try.func58, Try.ntmps58
    go_wp2_with (first | (go_at_call 63; refine (wrap_r _ _).mono ?_; rintro e w1 ⟨rfl, rfl⟩) | (go_at_call 45; refine (is_o _ _).mono ?_; rintro e w1 ⟨rfl, hbi⟩; rw [HT.out]) | (go_at_call 123; refine (truth_r _ _).mono ?_; rintro e w1 ⟨rfl, rfl⟩))
    go_ret2
    exact ⟨by rw [HV.out, HE.out]; rfl, ((Below.refl _ _).alloc (Nat.le_refl _) _).trans (hbi.mono (by simp))⟩

set_option maxRecDepth 100000 in
theorem bin10_r {v0 v4 v5 v6 v7 v8 v9 v10 v11 v12 : Value} {A1 A2 A3 : Option Addr} {n c1 n2 c2 n3 c3 : Nat} (d : Wd) (a b : Int) (w : World) :
    Calls Try.prog 58 #[.agg #[v0, .slice A1 n c1, .slice A2 n2 c2, .slice A3 n3 c3, v4, v5, v6, v7, v8, v9, v10, v11, v12], .int .i64 10, .int .i64 a, .int .i64 b] w fun e w' => e = .returned (.tuple #[.int .i64 (opV (at' d.pa (wr a)) (isT n (wr a)) 10 (wr a) (wr b)), .int .i64 (opE (isT n (wr a)) 10 (wr b))]) ∧ Below w.heap.size w w' := by
  have HV := Lib.hid (show opV (at' d.pa (wr a)) (isT n (wr a)) 10 (wr a) (wr b) = wr (wr a + wr b) by simp [opV])
  have HE := Lib.hid (show opE (isT n (wr a)) 10 (wr b) = 0 by simp [opE])
  go_enter Try.func58, Try.ntmps58
  go_wp2_with (first | (go_at_call 63; refine (wrap_r _ _).mono ?_; rintro e w1 ⟨rfl, rfl⟩) | (go_at_call 124; refine (add_r _ _ _).mono ?_; rintro e w1 ⟨rfl, rfl⟩; rw [wr_wr, wr_wr]))
  go_ret2
  exact ⟨by rw [HV.out, HE.out]; rfl, by go_grown⟩

set_option maxRecDepth 100000 in
theorem bin11_r {v0 v4 v5 v6 v7 v8 v9 v10 v11 v12 : Value} {A1 A2 A3 : Option Addr} {n c1 n2 c2 n3 c3 : Nat} (d : Wd) (a b : Int) (w : World) :
    Calls Try.prog 58 #[.agg #[v0, .slice A1 n c1, .slice A2 n2 c2, .slice A3 n3 c3, v4, v5, v6, v7, v8, v9, v10, v11, v12], .int .i64 11, .int .i64 a, .int .i64 b] w fun e w' => e = .returned (.tuple #[.int .i64 (opV (at' d.pa (wr a)) (isT n (wr a)) 11 (wr a) (wr b)), .int .i64 (opE (isT n (wr a)) 11 (wr b))]) ∧ Below w.heap.size w w' := by
  have HV := Lib.hid (show opV (at' d.pa (wr a)) (isT n (wr a)) 11 (wr a) (wr b) = wr (wr a - wr b) by simp [opV])
  have HE := Lib.hid (show opE (isT n (wr a)) 11 (wr b) = 0 by simp [opE])
  go_enter Try.func58, Try.ntmps58
  go_wp2_with (first | (go_at_call 63; refine (wrap_r _ _).mono ?_; rintro e w1 ⟨rfl, rfl⟩) | (go_at_call 125; refine (sub_r _ _ _).mono ?_; rintro e w1 ⟨rfl, rfl⟩; rw [wr_wr, wr_wr]))
  go_ret2
  exact ⟨by rw [HV.out, HE.out]; rfl, by go_grown⟩

set_option maxRecDepth 100000 in
theorem bin12_r {v0 v4 v5 v6 v7 v8 v9 v10 v11 v12 : Value} {A1 A2 A3 : Option Addr} {n c1 n2 c2 n3 c3 : Nat} (d : Wd) (a b : Int) (w : World) :
    Calls Try.prog 58 #[.agg #[v0, .slice A1 n c1, .slice A2 n2 c2, .slice A3 n3 c3, v4, v5, v6, v7, v8, v9, v10, v11, v12], .int .i64 12, .int .i64 a, .int .i64 b] w fun e w' => e = .returned (.tuple #[.int .i64 (opV (at' d.pa (wr a)) (isT n (wr a)) 12 (wr a) (wr b)), .int .i64 (opE (isT n (wr a)) 12 (wr b))]) ∧ Below w.heap.size w w' := by
  have HV := Lib.hid (show opV (at' d.pa (wr a)) (isT n (wr a)) 12 (wr a) (wr b) = wr (wr a * wr b) by simp [opV])
  have HE := Lib.hid (show opE (isT n (wr a)) 12 (wr b) = 0 by simp [opE])
  go_enter Try.func58, Try.ntmps58
  go_wp2_with (first | (go_at_call 63; refine (wrap_r _ _).mono ?_; rintro e w1 ⟨rfl, rfl⟩) | (go_at_call 126; refine (mul_r _ _ _).mono ?_; rintro e w1 ⟨rfl, rfl⟩; rw [wr_wr, wr_wr]))
  go_ret2
  exact ⟨by rw [HV.out, HE.out]; rfl, by go_grown⟩

set_option maxRecDepth 100000 in
theorem bin13_r {v0 v4 v5 v6 v7 v8 v9 v10 v11 v12 : Value} {A1 A2 A3 : Option Addr} {n c1 n2 c2 n3 c3 : Nat} (d : Wd) (a b : Int) (w : World) :
    Calls Try.prog 58 #[.agg #[v0, .slice A1 n c1, .slice A2 n2 c2, .slice A3 n3 c3, v4, v5, v6, v7, v8, v9, v10, v11, v12], .int .i64 13, .int .i64 a, .int .i64 b] w fun e w' => e = .returned (.tuple #[.int .i64 (opV (at' d.pa (wr a)) (isT n (wr a)) 13 (wr a) (wr b)), .int .i64 (opE (isT n (wr a)) 13 (wr b))]) ∧ Below w.heap.size w w' := by
  have HV := Lib.hid (show opV (at' d.pa (wr a)) (isT n (wr a)) 13 (wr a) (wr b) = if wr b = 0 then 0 else dv (wr a) (wr b) by simp [opV])
  have HE := Lib.hid (show opE (isT n (wr a)) 13 (wr b) = if wr b = 0 then 1 else 0 by simp [opE])
  obtain ⟨V, hV⟩ : ∃ V, (if wr b = 0 then 0 else dv (wr a) (wr b)) = V := ⟨_, rfl⟩
  obtain ⟨E, hE⟩ : ∃ E, (if wr b = 0 then 1 else 0 : Int) = E := ⟨_, rfl⟩
  rw [hV] at HV
  rw [hE] at HE
  have HV1 := Lib.hid hV
  have HE1 := Lib.hid hE
  clear hV hE
  go_enter Try.func58, Try.ntmps58
  go_wp2_with (first | (go_at_call 63; refine (wrap_r _ _).mono ?_; rintro e w1 ⟨rfl, rfl⟩) | (go_at_call 127; refine (div_r _ _ _).mono ?_; rintro e w1 ⟨rfl, rfl⟩; rw [wr_wr, wr_wr, HV1.out, HE1.out]))
  go_ret2
  exact ⟨by rw [HV.out, HE.out]; rfl, by go_grown⟩

set_option maxRecDepth 100000 in
theorem bin14_r {v0 v4 v5 v6 v7 v8 v9 v10 v11 v12 : Value} {A1 A2 A3 : Option Addr} {n c1 n2 c2 n3 c3 : Nat} (d : Wd) (a b : Int) (w : World) :
    Calls Try.prog 58 #[.agg #[v0, .slice A1 n c1, .slice A2 n2 c2, .slice A3 n3 c3, v4, v5, v6, v7, v8, v9, v10, v11, v12], .int .i64 14, .int .i64 a, .int .i64 b] w fun e w' => e = .returned (.tuple #[.int .i64 (opV (at' d.pa (wr a)) (isT n (wr a)) 14 (wr a) (wr b)), .int .i64 (opE (isT n (wr a)) 14 (wr b))]) ∧ Below w.heap.size w w' := by
  have HV := Lib.hid (show opV (at' d.pa (wr a)) (isT n (wr a)) 14 (wr a) (wr b) = if wr b = 0 then 0 else md (wr a) (wr b) by simp [opV])
  have HE := Lib.hid (show opE (isT n (wr a)) 14 (wr b) = if wr b = 0 then 1 else 0 by simp [opE])
  obtain ⟨V, hV⟩ : ∃ V, (if wr b = 0 then 0 else md (wr a) (wr b)) = V := ⟨_, rfl⟩
  obtain ⟨E, hE⟩ : ∃ E, (if wr b = 0 then 1 else 0 : Int) = E := ⟨_, rfl⟩
  rw [hV] at HV
  rw [hE] at HE
  have HV1 := Lib.hid hV
  have HE1 := Lib.hid hE
  clear hV hE
  go_enter Try.func58, Try.ntmps58
  go_wp2_with (first | (go_at_call 63; refine (wrap_r _ _).mono ?_; rintro e w1 ⟨rfl, rfl⟩) | (go_at_call 128; refine (mod_r _ _ _).mono ?_; rintro e w1 ⟨rfl, rfl⟩; rw [wr_wr, wr_wr, HV1.out, HE1.out]))
  go_ret2
  exact ⟨by rw [HV.out, HE.out]; rfl, by go_grown⟩
set_option maxRecDepth 100000 in
theorem bin0_r {v0 v4 v5 v6 v7 v8 v9 v10 v11 v12 : Value} {A1 A2 A3 : Option Addr} {n c1 n2 c2 n3 c3 : Nat} (d : Wd) (k a b : Int) (w : World) (hk : k < 1 ∨ 14 < k) :
    Calls Try.prog 58 #[.agg #[v0, .slice A1 n c1, .slice A2 n2 c2, .slice A3 n3 c3, v4, v5, v6, v7, v8, v9, v10, v11, v12], .int .i64 k, .int .i64 a, .int .i64 b] w fun e w' => e = .returned (.tuple #[.int .i64 (opV (at' d.pa (wr a)) (isT n (wr a)) k (wr a) (wr b)), .int .i64 (opE (isT n (wr a)) k (wr b))]) ∧ Below w.heap.size w w' := by
  have HV := Lib.hid (show opV (at' d.pa (wr a)) (isT n (wr a)) k (wr a) (wr b) = 0 by unfold opV; repeat rw [if_neg (by omega)])
  have HE := Lib.hid (show opE (isT n (wr a)) k (wr b) = 16 by unfold opE; repeat rw [if_neg (by omega)])
  have t1 : (k == 1) = false := by simp; omega
  have t2 : (k == 2) = false := by simp; omega
  have t3 : (k == 3) = false := by simp; omega
  have t4 : (k == 4) = false := by simp; omega
  have t5 : (k == 5) = false := by simp; omega
  have t6 : (k == 6) = false := by simp; omega
  have t7 : (k == 7) = false := by simp; omega
  have t8 : (k == 8) = false := by simp; omega
  have t9 : (k == 9) = false := by simp; omega
  have t10 : (k == 10) = false := by simp; omega
  have t11 : (k == 11) = false := by simp; omega
  have t12 : (k == 12) = false := by simp; omega
  have t13 : (k == 13) = false := by simp; omega
  have t14 : (k == 14) = false := by simp; omega
  go_enter Try.func58, Try.ntmps58
  go_wp2_with (go_at_call 63; refine (wrap_r _ _).mono ?_; rintro e w1 ⟨rfl, rfl⟩)
  go_ret2
  exact ⟨by rw [HV.out, HE.out]; rfl, by go_grown⟩
theorem bin_r {v0 v4 v5 v6 v7 v8 v9 v10 v11 v12 : Value} {A1 A2 A3 : Option Addr} {n c1 n2 c2 n3 c3 : Nat} (d : Wd) (k a b : Int) (w : World) (hp : Rd I w A1 n d.pa) :
    Calls Try.prog 58 #[.agg #[v0, .slice A1 n c1, .slice A2 n2 c2, .slice A3 n3 c3, v4, v5, v6, v7, v8, v9, v10, v11, v12], .int .i64 k, .int .i64 a, .int .i64 b] w fun e w' => e = .returned (.tuple #[.int .i64 (opV (at' d.pa (wr a)) (isT n (wr a)) k (wr a) (wr b)), .int .i64 (opE (isT n (wr a)) k (wr b))]) ∧ Below w.heap.size w w' := by
  by_cases hk : k < 1 ∨ 14 < k
  · exact bin0_r d k a b w hk
  · have : k = 1 ∨ k = 2 ∨ k = 3 ∨ k = 4 ∨ k = 5 ∨ k = 6 ∨ k = 7 ∨ k = 8 ∨ k = 9 ∨ k = 10 ∨ k = 11 ∨ k = 12 ∨ k = 13 ∨ k = 14 := by omega
    rcases this with rfl | rfl | rfl | rfl | rfl | rfl | rfl | rfl | rfl | rfl | rfl | rfl | rfl | rfl
    · exact bin1_r d a b w
    · exact bin2_r d a b w
    · exact bin3_r d a b w
    · exact bin4_r d a b w
    · exact bin5_r d a b w
    · exact bin6_r d a b w
    · exact bin7_r d a b w
    · exact bin8_r d a b w
    · exact bin9_r d a b w hp
    · exact bin10_r d a b w
    · exact bin11_r d a b w
    · exact bin12_r d a b w
    · exact bin13_r d a b w
    · exact bin14_r d a b w
end Go.Proofs.Ytncdicagadbafaa.ValZ
