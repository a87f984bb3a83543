/- The small functions of chapter 29: ends, jumps, zero, is, past. Conditions: lengths of 1048576 at most. -/
import Derived.Test.YtmilnfboglhdgaaPeepW
import Derived.Test.YtmilnfboglhdgaaValW
namespace Go.Proofs.Ytmilnfboglhdgaa.PeepX
open Go Go.RowKit NestP NestW Sq ValP ValW PeepP PeepW

theorem ends_i (x : Ins) (w : World) : Calls Try.prog 46 #[InsV x] w fun e w' => e = .returned (.bool (endsB x.1)) ∧ Below w.heap.size w w' := by
  obtain ⟨o, a⟩ := x
  unfold InsV
  by_cases h1 : o = 24
  · subst h1; go_enter Try.func46, Try.ntmps46; go_wp2_with fail; go_ret; exact ⟨rfl, by go_grown⟩
  by_cases h2 : o = 27
  · subst h2; go_enter Try.func46, Try.ntmps46; go_wp2_with fail; go_ret; exact ⟨rfl, by go_grown⟩
  by_cases h3 : o = 28
  · subst h3; go_enter Try.func46, Try.ntmps46; go_wp2_with fail; go_ret; exact ⟨rfl, by go_grown⟩
  by_cases h4 : o = 29
  · subst h4; go_enter Try.func46, Try.ntmps46; go_wp2_with fail; go_ret; exact ⟨rfl, by go_grown⟩
  by_cases h5 : o = 30
  · subst h5; go_enter Try.func46, Try.ntmps46; go_wp2_with fail; go_ret; exact ⟨rfl, by go_grown⟩
  have H := Lib.hid (show endsB o = false by unfold endsB; simp [h1, h2, h3, h4, h5])
  go_enter Try.func46, Try.ntmps46
  go_wp2_with fail
  go_ret
  exact ⟨by rw [H.out] <;> rfl, by go_grown⟩
theorem jumps_i (x : Ins) (w : World) : Calls Try.prog 34 #[InsV x] w fun e w' => e = .returned (.bool (jumpsB x.1)) ∧ Below w.heap.size w w' := by
  obtain ⟨o, a⟩ := x
  unfold InsV
  by_cases h1 : o = 24
  · subst h1; go_enter Try.func34, Try.ntmps34; go_wp2_with fail; go_ret; exact ⟨rfl, by go_grown⟩
  by_cases h2 : o = 25
  · subst h2; go_enter Try.func34, Try.ntmps34; go_wp2_with fail; go_ret; exact ⟨rfl, by go_grown⟩
  have t1 : (o == 24) = false := by simpa using h1
  have t2 : (o == 25) = false := by simpa using h2
  have H := Lib.hid (show jumpsB o = false by unfold jumpsB; simp [h1, h2])
  go_enter Try.func34, Try.ntmps34
  go_wp2_with fail
  go_ret
  exact ⟨by rw [H.out] <;> rfl, by go_grown⟩
theorem zero_i (x : Ins) (w : World) : Calls Try.prog 27 #[InsV x] w fun e w' => e = .returned (.bool (notV x.2 == 1)) ∧ Below w.heap.size w w' := by
  obtain ⟨o, a⟩ := x
  unfold InsV
  have CN := Lib.hid (fun w => not_i a w)
  go_enter Try.func27, Try.ntmps27
  go_wp2_with (go_at_call 45; refine (CN.out _).mono ?_; rintro e w1 ⟨rfl, rfl⟩)
  go_ret
  exact ⟨rfl, by go_grown⟩

set_option maxRecDepth 100000 in
theorem is_i {A B : Option Addr} {n c m d : Nat} (l : List Ins) (ops : List Int) (i : Nat) (w : World) (hr : RdI w A n l) (ho : Sq.Rd I w B m ops) (hi : i ≤ n) (hn : n ≤ 1048576) (hm : m ≤ 1048576) :
    Calls Try.prog 26 #[.slice A n c, .int .i64 (i : Int), .slice B m d] w fun e w' => e = .returned (.bool (isO l i ops)) ∧ w = w' := by
  have HR := Lib.hid hr
  have HO := Lib.hid ho
  have HL := Lib.hid (show l.length = n ∧ ops.length = m from ⟨hr.1.symm, ho.1.symm⟩)
  clear hr ho
  by_cases hgt : n < i + m
  · have H := Lib.hid (show isO l i ops = false by unfold isO; rw [HL.out.1, HL.out.2, decide_eq_false (by omega)]; rfl)
    have t1 : decide ((n : Int) - (i : Int) < (m : Int)) = true := by simp; omega
    go_enter Try.func26, Try.ntmps26
    go_wp2_with fail
    go_ret
    exact ⟨by rw [H.out] <;> rfl, rfl⟩
  have t1 : decide ((n : Int) - (i : Int) < (m : Int)) = false := by simp; omega
  go_enter Try.func26, Try.ntmps26
  go_wp2_with fail
  go_loop [18] (fun iv => ∃ j : Nat, j ≤ m ∧ iv = .int .i64 (j : Int) ∧ Hid (∀ k, k < j → op l (i + k) = ops.getD k 0)) (fun iv => m - (intOf iv).toNat)
  case atStart => exact ⟨0, Nat.zero_le _, rfl, Lib.hid (fun k hk => absurd hk (by omega))⟩
  case round =>
    obtain ⟨j, hj, rfl, HT⟩ := hrel
    by_cases hlt : j < m
    · obtain ⟨b, o, rfl, hb, hl, hc⟩ := HO.out.at_ hlt
      obtain ⟨b2, o2, rfl, hb2, hl2, hc2⟩ := HR.out.at_ InsE_len (show i + j < n by omega)
      have hq : (op l (i + j) == ops.getD j 0) = (l[i + j].1 == ops[j]) := by rw [op_lt hl2, List.getD_eq_getElem?_getD, List.getElem?_eq_getElem hl]; rfl
      obtain ⟨y, hy⟩ : ∃ y, ops[j] = y := ⟨_, rfl⟩
      have c0 : w.cell? ⟨b2, o2 + (i + j) * 2, none⟩ = some (.int .i64 l[i + j].1) := hc2 0 _ rfl
      obtain ⟨z, hz⟩ : ∃ z, l[i + j].1 = z := ⟨_, rfl⟩
      rw [hy] at hc hq
      rw [hz] at c0 hq
      unfold I at hc
      have k0 : (0 : Int) ≤ (j : Int) := by omega
      have k1 : (j : Int) < (m : Int) := by omega
      have HQ := Lib.hid hq
      clear hy hz hl hl2 hc2 hq
      cases hyz : (z == y) with
      | true =>
        have hzy : z = y := by simpa using hyz
        have HT2 := Lib.hid (show ∀ k, k < j + 1 → op l (i + k) = ops.getD k 0 from fun k hk => by
          rcases Nat.lt_or_ge k j with h | h
          · exact HT.out k h
          · obtain rfl : k = j := by omega
            have h2 := HQ.out
            rw [hyz] at h2
            simpa using h2)
        subst hzy
        clear hyz HQ
        go_wp2_with fail
        go_round
        case rel => exact ⟨j + 1, by omega, by go_num, HT2⟩
        case measure => simp [intOf]; omega
      | false =>
        have H := Lib.hid (show isO l i ops = false by
          unfold isO
          rw [Bool.and_eq_false_iff]
          right
          rw [List.all_eq_false]
          exact ⟨j, List.mem_range.2 (by rw [HL.out.2]; exact hlt), by rw [HQ.out, hyz]; simp⟩)
        have hne : (z != y) = true := by simp only [bne, hyz]; rfl
        go_wp2_with fail
        go_ret
        exact ⟨by rw [H.out] <;> rfl, rfl⟩
    · have H := Lib.hid (show isO l i ops = true by
        unfold isO
        rw [Bool.and_eq_true, decide_eq_true_eq, List.all_eq_true]
        refine ⟨by rw [HL.out.1, HL.out.2]; omega, fun k hk => ?_⟩
        have hk2 := List.mem_range.1 hk
        rw [HL.out.2] at hk2
        rw [HT.out k (by omega)]; simp)
      go_wp2_with fail
      go_ret
      exact ⟨by rw [H.out] <;> rfl, rfl⟩
set_option maxRecDepth 100000 in
theorem past_i {A : Option Addr} {n c : Nat} (l : List Ins) (i : Nat) (w : World) (hr : RdI w A n l) (hi : i ≤ n) (hn : n ≤ 1048576) :
    Calls Try.prog 30 #[.slice A n c, .int .i64 (i : Int)] w fun e w' => e = .returned (.int .i64 (past l i : Int)) ∧ w = w' := by
  have HR := Lib.hid hr
  have HL := Lib.hid (show l.length = n from hr.1.symm)
  clear hr
  go_enter Try.func30, Try.ntmps30
  go_wp2_with fail
  go_loop [1] (fun iv => ∃ j : Nat, j ≤ n ∧ iv = .int .i64 (j : Int) ∧ Hid (past l j = past l i)) (fun iv => n - (intOf iv).toNat)
  case atStart => exact ⟨i, hi, rfl, Lib.hid rfl⟩
  case round =>
    obtain ⟨j, hj, rfl, HT⟩ := hrel
    by_cases hlt : j < n
    · obtain ⟨b2, o2, rfl, hb2, hl2, hc2⟩ := HR.out.at_ InsE_len hlt
      have HP := Lib.hid (show past l j = if (l[j].1 == 38) = true then past l (j + 1) else j by
        unfold past labs
        rw [List.drop_eq_getElem_cons hl2, List.takeWhile_cons]
        unfold lab
        split <;> simp <;> omega)
      have c0 : w.cell? ⟨b2, o2 + j * 2, none⟩ = some (.int .i64 l[j].1) := hc2 0 _ rfl
      obtain ⟨z, hz⟩ : ∃ z, l[j].1 = z := ⟨_, rfl⟩
      rw [hz] at c0 HP
      have k0 : (0 : Int) ≤ (j : Int) := by omega
      have k1 : (j : Int) < (n : Int) := by omega
      clear hz hc2 hl2
      cases hz : (z == 38) with
      | true =>
        have HT2 := Lib.hid (show past l (j + 1) = past l i by rw [← HT.out, HP.out, if_pos hz])
        go_wp2_with fail
        go_round
        case rel => exact ⟨j + 1, by omega, by go_num, HT2⟩
        case measure => simp [intOf]; omega
      | false =>
        have HT2 := Lib.hid (show past l i = j by rw [← HT.out, HP.out, if_neg (by rw [hz]; simp)])
        go_wp2_with fail
        go_ret
        exact ⟨by rw [HT2.out] <;> rfl, rfl⟩
    · have HT2 := Lib.hid (show past l i = j by
        rw [← HT.out]
        unfold past labs
        rw [List.drop_of_length_le (by rw [HL.out]; omega)]; simp)
      have t1 : decide ((j : Int) < (n : Int)) = false := by simp; omega
      go_wp2_with fail
      go_ret
      exact ⟨by rw [HT2.out] <;> rfl, rfl⟩
end Go.Proofs.Ytmilnfboglhdgaa.PeepX
