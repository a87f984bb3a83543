/- The walks of values, by the program and by the reference: numbers. -/
import Derived.Test.YtncdicagadbafaaNestZ
import Derived.Test.YtncdicagadbafaaValP
import Derived.IntWalk
namespace Go.Proofs.Ytncdicagadbafaa.ValW
open Go Go.RowKit NestP Sq NestW NestX NestY NestZ ValP

theorem i16_wr (a : Int) : IntKind.i16.wrap a = wr a := by
  unfold wr
  simp [IntKind.wrap, IntKind.bits, IntKind.signed]
  split <;> omega
theorem ret2 {j k : IntKind} {a b c d : Int} (h : a = b) (h' : c = d) : Ending.returned (.tuple #[.int j a, .int k c]) = .returned (.tuple #[.int j b, .int k d]) := by rw [h, h']
theorem wrap_i (a : Int) (w : World) : Calls Try.prog 116 #[.int .i64 a] w fun e w' => e = .returned (.int .i64 (wr a)) ∧ w = w' := by
  have h1 := wr_lo a
  have h2 := wr_hi a
  have H := Lib.hid (i16_wr a)
  have H2 := Lib.hid (show wrap64 (wr a) = wr a by unfold wrap64; omega)
  go_enter Try.func116, Try.ntmps116
  go_wp2_with fail
  go_ret
  refine ⟨ret1 ?_, rfl⟩
  show wrap64 (IntKind.i16.wrap a) = _
  rw [H.out, H2.out]
theorem wrap_r (a : Int) (w : World) : Calls Try.prog 63 #[.int .i64 a] w fun e w' => e = .returned (.int .i64 (wr a)) ∧ w = w' := by
  have hm := wr_tmod a
  have hb : -65535 ≤ a.tmod 65536 ∧ a.tmod 65536 ≤ 65535 := by
    have h1 := Int.tmod_lt_of_pos a (show (0 : Int) < 65536 by omega)
    have h2 := Int.lt_tmod_of_pos a (show (0 : Int) < 65536 by omega)
    omega
  obtain ⟨m, hmm⟩ : ∃ m, a.tmod 65536 = m := ⟨_, rfl⟩
  rw [hmm] at hm hb
  have HM := Lib.hid hm
  obtain ⟨hb0, hb1⟩ := hb
  clear hm
  go_enter Try.func63, Try.ntmps63
  go_wp2_with fail
  all_goals go_ret
  all_goals exact ⟨ret1 (by rw [HM.out]; split <;> (try split) <;> first | rfl | omega), rfl⟩
theorem mul_bd {x y : Int} (hx : -32768 ≤ x) (hx' : x ≤ 32767) (hy : -32768 ≤ y) (hy' : y ≤ 32767) : -1073741824 ≤ x * y ∧ x * y ≤ 1073741824 := by
  have h : (x * y).natAbs ≤ 32768 * 32768 := by
    rw [Int.natAbs_mul]
    exact Nat.mul_le_mul (by omega) (by omega)
  omega
theorem div_mul {x z : Int} (hx : -32768 ≤ x) (hx' : x ≤ 32767) : -65536 ≤ x.tdiv z * z ∧ x.tdiv z * z ≤ 65536 ∧ x - x.tdiv z * z = md x z := by
  have h := Int.tmod_def x z
  have h2 := tmod_small (y := z) hx hx'
  have h3 : md x z = x.tmod z := wr_in h2.1 h2.2
  rw [Int.mul_comm] at h
  omega
theorem add_i (a b : Int) (w : World) :
    Calls Try.prog 118 #[.int .i64 a, .int .i64 b] w fun e w' => e = .returned (.int .i64 (wr (wr a + wr b))) ∧ w = w' := by
  have a1 := wr_lo a
  have a2 := wr_hi a
  have b1 := wr_lo b
  have b2 := wr_hi b
  have c := mul_bd a1 a2 b1 b2
  have c1 := c.1
  have c2 := c.2
  clear c
  go_enter Try.func118, Try.ntmps118
  go_wp2_with (go_at_call 116; refine (wrap_i _ _).mono ?_; rintro e w1 ⟨rfl, rfl⟩)
  go_ret
  exact ⟨rfl, rfl⟩
theorem add_r (a b : Int) (w : World) :
    Calls Try.prog 124 #[.int .i64 a, .int .i64 b] w fun e w' => e = .returned (.int .i64 (wr (wr a + wr b))) ∧ w = w' := by
  have a1 := wr_lo a
  have a2 := wr_hi a
  have b1 := wr_lo b
  have b2 := wr_hi b
  have c := mul_bd a1 a2 b1 b2
  have c1 := c.1
  have c2 := c.2
  clear c
  go_enter Try.func124, Try.ntmps124
  go_wp2_with (go_at_call 63; refine (wrap_r _ _).mono ?_; rintro e w1 ⟨rfl, rfl⟩)
  go_ret
  exact ⟨rfl, rfl⟩
theorem sub_i (a b : Int) (w : World) :
    Calls Try.prog 119 #[.int .i64 a, .int .i64 b] w fun e w' => e = .returned (.int .i64 (wr (wr a - wr b))) ∧ w = w' := by
  have a1 := wr_lo a
  have a2 := wr_hi a
  have b1 := wr_lo b
  have b2 := wr_hi b
  have c := mul_bd a1 a2 b1 b2
  have c1 := c.1
  have c2 := c.2
  clear c
  go_enter Try.func119, Try.ntmps119
  go_wp2_with (go_at_call 116; refine (wrap_i _ _).mono ?_; rintro e w1 ⟨rfl, rfl⟩)
  go_ret
  exact ⟨rfl, rfl⟩
theorem sub_r (a b : Int) (w : World) :
    Calls Try.prog 125 #[.int .i64 a, .int .i64 b] w fun e w' => e = .returned (.int .i64 (wr (wr a - wr b))) ∧ w = w' := by
  have a1 := wr_lo a
  have a2 := wr_hi a
  have b1 := wr_lo b
  have b2 := wr_hi b
  have c := mul_bd a1 a2 b1 b2
  have c1 := c.1
  have c2 := c.2
  clear c
  go_enter Try.func125, Try.ntmps125
  go_wp2_with (go_at_call 63; refine (wrap_r _ _).mono ?_; rintro e w1 ⟨rfl, rfl⟩)
  go_ret
  exact ⟨rfl, rfl⟩
theorem mul_i (a b : Int) (w : World) :
    Calls Try.prog 120 #[.int .i64 a, .int .i64 b] w fun e w' => e = .returned (.int .i64 (wr (wr a * wr b))) ∧ w = w' := by
  have a1 := wr_lo a
  have a2 := wr_hi a
  have b1 := wr_lo b
  have b2 := wr_hi b
  have c := mul_bd a1 a2 b1 b2
  have c1 := c.1
  have c2 := c.2
  clear c
  go_enter Try.func120, Try.ntmps120
  go_wp2_with (go_at_call 116; refine (wrap_i _ _).mono ?_; rintro e w1 ⟨rfl, rfl⟩)
  go_ret
  exact ⟨rfl, rfl⟩
theorem mul_r (a b : Int) (w : World) :
    Calls Try.prog 126 #[.int .i64 a, .int .i64 b] w fun e w' => e = .returned (.int .i64 (wr (wr a * wr b))) ∧ w = w' := by
  have a1 := wr_lo a
  have a2 := wr_hi a
  have b1 := wr_lo b
  have b2 := wr_hi b
  have c := mul_bd a1 a2 b1 b2
  have c1 := c.1
  have c2 := c.2
  clear c
  go_enter Try.func126, Try.ntmps126
  go_wp2_with (go_at_call 63; refine (wrap_r _ _).mono ?_; rintro e w1 ⟨rfl, rfl⟩)
  go_ret
  exact ⟨rfl, rfl⟩
theorem div_i (a b : Int) (w : World) :
    Calls Try.prog 121 #[.int .i64 a, .int .i64 b] w fun e w' => e = .returned (.tuple #[.int .i64 (if wr b = 0 then 0 else dv (wr a) (wr b)), .int .i64 (if wr b = 0 then 1 else 0)]) ∧ w = w' := by
  have a1 := wr_lo a
  have a2 := wr_hi a
  have b1 := wr_lo b
  have b2 := wr_hi b
  by_cases hz : wr b = 0
  · have t0 : (wr b == 0) = true := by simp [hz]
    rw [if_pos hz, if_pos hz]
    clear hz
    go_enter Try.func121, Try.ntmps121
    go_wp2_with (go_at_call 116; refine (wrap_i _ _).mono ?_; rintro e w1 ⟨rfl, rfl⟩)
    go_ret2
    exact ⟨rfl, rfl⟩
  · have t0 : (wr b == 0) = false := by simp [hz]
    rw [if_neg hz, if_neg hz]
    have s := tdiv_small (y := wr b) a1 a2
    have s1 := s.1
    have s2 := s.2
    have q := div_mul (z := wr b) a1 a2
    have q1 := q.1
    have q2 := q.2.1
    have M := Lib.hid q.2.2
    have H := Lib.hid (show dv (wr a) (wr b) = dv (wr a) (wr b) from rfl)
    have r := tmod_small (y := wr b) a1 a2
    have r1 := r.1
    have r2 := r.2
    clear s q r
    go_enter Try.func121, Try.ntmps121
    go_wp2_with (go_at_call 116; refine (wrap_i _ _).mono ?_; rintro e w1 ⟨rfl, rfl⟩)
    go_ret2
    exact ⟨rfl, rfl⟩
theorem mod_i (a b : Int) (w : World) :
    Calls Try.prog 122 #[.int .i64 a, .int .i64 b] w fun e w' => e = .returned (.tuple #[.int .i64 (if wr b = 0 then 0 else md (wr a) (wr b)), .int .i64 (if wr b = 0 then 1 else 0)]) ∧ w = w' := by
  have a1 := wr_lo a
  have a2 := wr_hi a
  have b1 := wr_lo b
  have b2 := wr_hi b
  by_cases hz : wr b = 0
  · have t0 : (wr b == 0) = true := by simp [hz]
    rw [if_pos hz, if_pos hz]
    clear hz
    go_enter Try.func122, Try.ntmps122
    go_wp2_with (go_at_call 116; refine (wrap_i _ _).mono ?_; rintro e w1 ⟨rfl, rfl⟩)
    go_ret2
    exact ⟨rfl, rfl⟩
  · have t0 : (wr b == 0) = false := by simp [hz]
    rw [if_neg hz, if_neg hz]
    have s := tdiv_small (y := wr b) a1 a2
    have s1 := s.1
    have s2 := s.2
    have q := div_mul (z := wr b) a1 a2
    have q1 := q.1
    have q2 := q.2.1
    have M := Lib.hid q.2.2
    have H := Lib.hid (show md (wr a) (wr b) = md (wr a) (wr b) from rfl)
    have r := tmod_small (y := wr b) a1 a2
    have r1 := r.1
    have r2 := r.2
    clear s q r
    go_enter Try.func122, Try.ntmps122
    go_wp2_with (go_at_call 116; refine (wrap_i _ _).mono ?_; rintro e w1 ⟨rfl, rfl⟩)
    go_ret2
    exact ⟨rfl, rfl⟩
theorem div_r (a b : Int) (w : World) :
    Calls Try.prog 127 #[.int .i64 a, .int .i64 b] w fun e w' => e = .returned (.tuple #[.int .i64 (if wr b = 0 then 0 else dv (wr a) (wr b)), .int .i64 (if wr b = 0 then 1 else 0)]) ∧ w = w' := by
  have a1 := wr_lo a
  have a2 := wr_hi a
  have b1 := wr_lo b
  have b2 := wr_hi b
  by_cases hz : wr b = 0
  · have t0 : (wr b == 0) = true := by simp [hz]
    rw [if_pos hz, if_pos hz]
    clear hz
    go_enter Try.func127, Try.ntmps127
    go_wp2_with (go_at_call 63; refine (wrap_r _ _).mono ?_; rintro e w1 ⟨rfl, rfl⟩)
    go_ret2
    exact ⟨rfl, rfl⟩
  · have t0 : (wr b == 0) = false := by simp [hz]
    rw [if_neg hz, if_neg hz]
    have s := tdiv_small (y := wr b) a1 a2
    have s1 := s.1
    have s2 := s.2
    have q := div_mul (z := wr b) a1 a2
    have q1 := q.1
    have q2 := q.2.1
    have M := Lib.hid q.2.2
    have H := Lib.hid (show dv (wr a) (wr b) = dv (wr a) (wr b) from rfl)
    have r := tmod_small (y := wr b) a1 a2
    have r1 := r.1
    have r2 := r.2
    clear s q r
    go_enter Try.func127, Try.ntmps127
    go_wp2_with (go_at_call 63; refine (wrap_r _ _).mono ?_; rintro e w1 ⟨rfl, rfl⟩)
    go_ret2
    exact ⟨rfl, rfl⟩
theorem mod_r (a b : Int) (w : World) :
    Calls Try.prog 128 #[.int .i64 a, .int .i64 b] w fun e w' => e = .returned (.tuple #[.int .i64 (if wr b = 0 then 0 else md (wr a) (wr b)), .int .i64 (if wr b = 0 then 1 else 0)]) ∧ w = w' := by
  have a1 := wr_lo a
  have a2 := wr_hi a
  have b1 := wr_lo b
  have b2 := wr_hi b
  by_cases hz : wr b = 0
  · have t0 : (wr b == 0) = true := by simp [hz]
    rw [if_pos hz, if_pos hz]
    clear hz
    go_enter Try.func128, Try.ntmps128
    go_wp2_with (go_at_call 63; refine (wrap_r _ _).mono ?_; rintro e w1 ⟨rfl, rfl⟩)
    go_ret2
    exact ⟨rfl, rfl⟩
  · have t0 : (wr b == 0) = false := by simp [hz]
    rw [if_neg hz, if_neg hz]
    have s := tdiv_small (y := wr b) a1 a2
    have s1 := s.1
    have s2 := s.2
    have q := div_mul (z := wr b) a1 a2
    have q1 := q.1
    have q2 := q.2.1
    have M := Lib.hid q.2.2
    have H := Lib.hid (show md (wr a) (wr b) = md (wr a) (wr b) from rfl)
    have r := tmod_small (y := wr b) a1 a2
    have r1 := r.1
    have r2 := r.2
    clear s q r
    go_enter Try.func128, Try.ntmps128
    go_wp2_with (go_at_call 63; refine (wrap_r _ _).mono ?_; rintro e w1 ⟨rfl, rfl⟩)
    go_ret2
    exact ⟨ret2 M.out rfl, rfl⟩
theorem truth_i (b : Bool) (w : World) : Calls Try.prog 117 #[.bool b] w fun e w' => e = .returned (.tuple #[.int .i64 (tr b), .int .i64 0]) ∧ w = w' := by
  cases b
  · go_enter Try.func117, Try.ntmps117
    go_wp2_with fail
    go_ret2
    exact ⟨rfl, rfl⟩
  · go_enter Try.func117, Try.ntmps117
    go_wp2_with fail
    go_ret2
    exact ⟨rfl, rfl⟩
theorem truth_r (b : Bool) (w : World) : Calls Try.prog 123 #[.bool b] w fun e w' => e = .returned (.int .i64 (tr b)) ∧ w = w' := by
  cases b
  · go_enter Try.func123, Try.ntmps123
    go_wp2_with fail
    go_ret
    exact ⟨rfl, rfl⟩
  · go_enter Try.func123, Try.ntmps123
    go_wp2_with fail
    go_ret
    exact ⟨rfl, rfl⟩
theorem not_i (a : Int) (w : World) : Calls Try.prog 59 #[.int .i64 a] w fun e w' => e = .returned (.int .i64 (tr (wr a == 0))) ∧ w = w' := by
  obtain ⟨b, hb⟩ : ∃ b, (wr a == 0) = b := ⟨_, rfl⟩
  rw [hb]
  cases b
  · go_enter Try.func59, Try.ntmps59
    go_wp2_with (go_at_call 116; refine (wrap_i _ _).mono ?_; rintro e w1 ⟨rfl, rfl⟩)
    go_ret
    exact ⟨rfl, rfl⟩
  · go_enter Try.func59, Try.ntmps59
    go_wp2_with (go_at_call 116; refine (wrap_i _ _).mono ?_; rintro e w1 ⟨rfl, rfl⟩)
    go_ret
    exact ⟨rfl, rfl⟩
theorem not_r (a : Int) (w : World) : Calls Try.prog 60 #[.int .i64 a] w fun e w' => e = .returned (.int .i64 (tr (wr a == 0))) ∧ w = w' := by
  go_enter Try.func60, Try.ntmps60
  go_wp2_with (first | (go_at_call 63; refine (wrap_r _ _).mono ?_; rintro e w1 ⟨rfl, rfl⟩) | (go_at_call 123; refine (truth_r _ _).mono ?_; rintro e w1 ⟨rfl, rfl⟩))
  go_ret
  exact ⟨rfl, rfl⟩
end Go.Proofs.Ytncdicagadbafaa.ValW
