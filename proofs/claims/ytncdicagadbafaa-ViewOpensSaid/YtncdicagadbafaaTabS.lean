/- clewref04.IsWord, IsText: some truth value, without a panic; clewref19.words. Conditions: the strings read. -/
import Derived.Test.YtncdicagadbafaaTabW
namespace Go.Proofs.Ytncdicagadbafaa.TabS
open Go Go.RowKit NestP NestW NestX NestY ValR Sq WorldD TabD TabW

/-- Some truth value, the world as it was. -/
def SomeB (w : World) (e : Ending) (w' : World) : Prop := ∃ b : Bool, e = .returned (.bool b) ∧ w = w'
/-- Some truth value, in new memory at most. -/
def SomeG (w : World) (e : Ending) (w' : World) : Prop := ∃ b : Bool, e = .returned (.bool b) ∧ Below w.heap.size w w'

theorem small_o (c : Int) (w : World) : Calls Try.prog 178 #[.int .u8 c] w (SomeB w) := by
  obtain ⟨a, ha⟩ : ∃ a, decide (97 ≤ c) = a := ⟨_, rfl⟩
  obtain ⟨b, hb⟩ : ∃ b, decide (c ≤ 122) = b := ⟨_, rfl⟩
  cases a <;> cases b
  all_goals
    go_enter Try.func178, Try.ntmps178
    go_wp2_with fail
    go_ret
    exact ⟨_, rfl, rfl⟩
theorem digit_o (c : Int) (w : World) : Calls Try.prog 179 #[.int .u8 c] w (SomeB w) := by
  obtain ⟨a, ha⟩ : ∃ a, decide (48 ≤ c) = a := ⟨_, rfl⟩
  obtain ⟨b, hb⟩ : ∃ b, decide (c ≤ 57) = b := ⟨_, rfl⟩
  cases a <;> cases b
  all_goals
    go_enter Try.func179, Try.ntmps179
    go_wp2_with fail
    go_ret
    exact ⟨_, rfl, rfl⟩
theorem great_o (c : Int) (w : World) : Calls Try.prog 181 #[.int .u8 c] w (SomeB w) := by
  obtain ⟨a, ha⟩ : ∃ a, decide (65 ≤ c) = a := ⟨_, rfl⟩
  obtain ⟨b, hb⟩ : ∃ b, decide (c ≤ 90) = b := ⟨_, rfl⟩
  cases a <;> cases b
  all_goals
    go_enter Try.func181, Try.ntmps181
    go_wp2_with fail
    go_ret
    exact ⟨_, rfl, rfl⟩
set_option maxRecDepth 100000 in
theorem row_o (c : Int) (w : World) : Calls Try.prog 180 #[.int .u8 c] w (SomeB w) := by
  obtain ⟨a, ha⟩ : ∃ a, (c == (45 : Int)) = a := ⟨_, rfl⟩
  obtain ⟨b, hb⟩ : ∃ b, (c == (39 : Int)) = b := ⟨_, rfl⟩
  cases a <;> cases b
  all_goals
    go_enter Try.func180, Try.ntmps180
    go_wp2_with (first | (go_at_call 178; refine (small_o _ _).mono ?_; rintro e w1 ⟨q1, rfl, rfl⟩; cases q1) | (go_at_call 181; refine (great_o _ _).mono ?_; rintro e w1 ⟨q1, rfl, rfl⟩; cases q1) | (go_at_call 179; refine (digit_o _ _).mono ?_; rintro e w1 ⟨q1, rfl, rfl⟩; cases q1))
    all_goals go_ret
    all_goals exact ⟨_, rfl, rfl⟩

set_option maxRecDepth 100000 in
set_option maxHeartbeats 1000000 in
theorem isText_o (s : ByteArray) (hs : s.size ≤ maxLen) (w : World) : Calls Try.prog 144 #[.string s] w (SomeB w) := by
  unfold maxLen at hs
  obtain ⟨a, ha⟩ : ∃ a, decide ((s.size : Int) ≤ 1024) = a := ⟨_, rfl⟩
  go_enter Try.func144, Try.ntmps144
  go_wp2_with fail
  go_loop [3] (fun i => ∃ k : Nat, k ≤ s.size ∧ i = .int .i64 (k : Int)) (fun i => s.size - (intOf i).toNat)
  case atStart => exact ⟨0, Nat.zero_le _, rfl⟩
  case round =>
    obtain ⟨k, hk, rfl⟩ := hrel
    by_cases hlt : k < s.size
    · go_wp2_with fail
      all_goals first
        | (go_round
           case rel => exact ⟨k + 1, by omega, by go_num⟩
           case measure => simp [intOf]; omega)
        | (go_ret; exact ⟨_, rfl, rfl⟩)
    · go_wp2_with fail
      go_ret
      exact ⟨_, rfl, rfl⟩

set_option maxRecDepth 100000 in
set_option maxHeartbeats 2000000 in
theorem isWord_o (s : ByteArray) (hs : s.size ≤ maxLen) (w : World) : Calls Try.prog 173 #[.string s] w (SomeB w) := by
  unfold maxLen at hs
  by_cases h1 : s.size < 1
  · have t0 : decide ((s.size : Int) < 1) = true := decide_eq_true (by omega)
    go_enter Try.func173, Try.ntmps173
    go_wp2_with fail
    go_ret
    exact ⟨_, rfl, rfl⟩
  have t0 : decide ((s.size : Int) < 1) = false := decide_eq_false (by omega)
  by_cases h2 : 9 < s.size
  · have t1 : decide (9 < (s.size : Int)) = true := decide_eq_true (by omega)
    go_enter Try.func173, Try.ntmps173
    go_wp2_with fail
    go_ret
    exact ⟨_, rfl, rfl⟩
  have t1 : decide (9 < (s.size : Int)) = false := decide_eq_false (by omega)
  have z0 : 0 < s.size := by omega
  go_enter Try.func173, Try.ntmps173
  go_wp2_with (first | (go_at_call 178; refine (small_o _ _).mono ?_; rintro e w1 ⟨q1, rfl, rfl⟩; cases q1) | (go_at_call 179; refine (digit_o _ _).mono ?_; rintro e w1 ⟨q1, rfl, rfl⟩; cases q1))
  all_goals first
    | (go_ret; exact ⟨_, rfl, rfl⟩)
    | (go_loop [3] (fun i => ∃ k : Nat, k ≤ s.size ∧ i = .int .i64 (k : Int)) (fun i => s.size - (intOf i).toNat)
       case atStart => exact ⟨0, Nat.zero_le _, rfl⟩
       case round =>
         obtain ⟨k, hk, rfl⟩ := hrel
         by_cases hlt : k < s.size
         · go_wp2_with (first | (go_at_call 180; refine (row_o _ _).mono ?_; rintro e w1 ⟨q1, rfl, rfl⟩; cases q1) | (go_at_call 181; refine (great_o _ _).mono ?_; rintro e w1 ⟨q1, rfl, rfl⟩; cases q1))
           all_goals first
             | (go_round
                case rel => exact ⟨k + 1, by omega, by go_num⟩
                case measure => simp [intOf]; omega)
             | (go_ret; exact ⟨_, rfl, rfl⟩)
         · go_wp2_with fail
           go_ret
           exact ⟨_, rfl, rfl⟩)

set_option maxRecDepth 100000 in
set_option maxHeartbeats 1000000 in
theorem words_o (s : Sl ByteArray) (most : Int) (w : World) (hr : Rs w s) : Calls Try.prog 146 #[.slice s.a s.n s.c, .int .i64 most] w (SomeB w) := by
  obtain ⟨A, n, c, l⟩ := s
  obtain ⟨h1, h2, h3, h4⟩ := hr
  have h1 : n ≤ c := h1
  have h2 : c ≤ maxLen := h2
  have HR := Lib.hid (show Sq.Rd Value.string w A n l from h3)
  have HS := Lib.hid h4
  unfold maxLen at h2
  show Calls Try.prog 146 #[.slice A n c, .int .i64 most] w (SomeB w)
  clear h3 h4
  obtain ⟨a, ha⟩ : ∃ a, decide ((n : Int) ≤ most) = a := ⟨_, rfl⟩
  go_enter Try.func146, Try.ntmps146
  go_wp2_with fail
  go_loop [5] (fun i => ∃ k : Nat, k ≤ n ∧ i = .int .i64 (k : Int)) (fun i => n - (intOf i).toNat)
  case atStart => exact ⟨0, Nat.zero_le _, rfl⟩
  case round =>
    obtain ⟨k, hk, rfl⟩ := hrel
    by_cases hlt : k < n
    · obtain ⟨b, o, rfl, hb, hl, hcell⟩ := HR.out.at_ hlt
      have k0 : (0 : Int) ≤ (k : Int) := by omega
      have k1 : (k : Int) < (n : Int) := by omega
      have hsz := HS.out l[k] (List.getElem_mem hl)
      obtain ⟨x, hx⟩ : ∃ x, l[k] = x := ⟨_, rfl⟩
      rw [hx] at hcell hsz
      have HZ := Lib.hid hsz
      clear hx hl hsz
      go_wp2_with (go_at_call 173; refine (isWord_o _ HZ.out _).mono ?_; rintro e w1 ⟨q1, rfl, rfl⟩; cases q1)
      all_goals first
        | (go_round
           case rel => exact ⟨k + 1, by omega, by go_num⟩
           case measure => simp [intOf]; omega)
        | (go_ret; exact ⟨_, rfl, rfl⟩)
    · go_wp2_with fail
      go_ret
      exact ⟨_, rfl, rfl⟩
end Go.Proofs.Ytncdicagadbafaa.TabS
