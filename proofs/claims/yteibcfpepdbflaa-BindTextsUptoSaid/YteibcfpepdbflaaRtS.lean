/- clewref04.IsName, IsText, clewref09.Key, the names of chapters 10 and 14: some truth value, without a panic; a name is not empty. Conditions: lengths within the reach. -/
import Derived.Test.YteibcfpepdbflaaBindW
import Derived.Outline
import Derived.Deep.DeepCutAuto
import Derived.IntWalk
import Derived.Deep.QuietTactic
import Derived.BigQuiet
namespace Go.Proofs.Yteibcfpepdbflaa.RtS
open Go Go.RowKit BindP BindD BindO BindW
open Byt (str)

/-- Some truth value, the world as it was. -/
def SomeB (w : World) (e : Ending) (w' : World) : Prop := ∃ b : Bool, e = .returned (.bool b) ∧ w = w'
/-- Some truth value; if it is true, p. -/
def SomeQ (p : Prop) (w : World) (e : Ending) (w' : World) : Prop := ∃ b : Bool, e = .returned (.bool b) ∧ (b = true → p) ∧ w = w'
theorem small_o (c : Int) (w : World) : Calls Try.prog 80 #[.int .u8 c] w (SomeB w) := by
  obtain ⟨a, ha⟩ : ∃ a, decide (97 ≤ c) = a := ⟨_, rfl⟩
  obtain ⟨b, hb⟩ : ∃ b, decide (c ≤ 122) = b := ⟨_, rfl⟩
  cases a <;> cases b
  all_goals
    go_enter Try.func80, Try.ntmps80
    go_wp2_with fail
    go_ret
    exact ⟨_, rfl, rfl⟩
theorem digit_o (c : Int) (w : World) : Calls Try.prog 81 #[.int .u8 c] w (SomeB w) := by
  obtain ⟨a, ha⟩ : ∃ a, decide (48 ≤ c) = a := ⟨_, rfl⟩
  obtain ⟨b, hb⟩ : ∃ b, decide (c ≤ 57) = b := ⟨_, rfl⟩
  cases a <;> cases b
  all_goals
    go_enter Try.func81, Try.ntmps81
    go_wp2_with fail
    go_ret
    exact ⟨_, rfl, rfl⟩
set_option maxRecDepth 100000 in
set_option maxHeartbeats 1000000 in
theorem isText_o (s : ByteArray) (hs : s.size ≤ 4194304) (w : World) : Calls Try.prog 20 #[.string s] w (SomeB w) := by
  obtain ⟨a, ha⟩ : ∃ a, decide ((s.size : Int) ≤ 1024) = a := ⟨_, rfl⟩
  go_enter Try.func20, Try.ntmps20
  go_wp2_with fail
  go_loop [3] (fun i => ∃ k : Nat, k ≤ s.size ∧ i = .int .i64 (k : Int)) (fun i => s.size - (intOf i).toNat)
  case atStart => exact ⟨0, Nat.zero_le _, rfl⟩
  case round =>
    obtain ⟨k, hk, rfl⟩ := hrel
    by_cases hlt : k < s.size
    · go_wp2_with fail
      all_goals first
        | (go_round
           case rel => exact ⟨k + 1, by omega, by go_num⟩
           case measure => simp [intOf]; omega)
        | (go_ret; exact ⟨_, rfl, rfl⟩)
    · go_wp2_with fail
      go_ret
      exact ⟨_, rfl, rfl⟩
set_option maxRecDepth 100000 in
set_option maxHeartbeats 2000000 in
theorem isName_o (s : ByteArray) (hs : s.size ≤ 4194304) (w : World) : Calls Try.prog 54 #[.string s] w (SomeQ (0 < s.size) w) := by
  by_cases h1 : s.size < 1
  · have t0 : decide ((s.size : Int) < 1) = true := decide_eq_true (by omega)
    go_enter Try.func54, Try.ntmps54
    go_wp2_with fail
    go_ret
    exact ⟨_, rfl, (fun h => by cases h), rfl⟩
  have t0 : decide ((s.size : Int) < 1) = false := decide_eq_false (by omega)
  by_cases h2 : 24 < s.size
  · have t1 : decide (24 < (s.size : Int)) = true := decide_eq_true (by omega)
    go_enter Try.func54, Try.ntmps54
    go_wp2_with fail
    go_ret
    exact ⟨_, rfl, (fun h => by cases h), rfl⟩
  have t1 : decide (24 < (s.size : Int)) = false := decide_eq_false (by omega)
  have z0 : 0 < s.size := by omega
  go_enter Try.func54, Try.ntmps54
  go_wp2_with (go_at_call 80; refine (small_o _ _).mono ?_; rintro e w1 ⟨q1, rfl, rfl⟩; cases q1)
  all_goals first
    | (go_ret; exact ⟨_, rfl, (fun h => by cases h), rfl⟩)
    | (go_loop [3] (fun i => ∃ k : Nat, k ≤ s.size ∧ i = .int .i64 (k : Int)) (fun i => s.size - (intOf i).toNat)
       case atStart => exact ⟨0, Nat.zero_le _, rfl⟩
       case round =>
         obtain ⟨k, hk, rfl⟩ := hrel
         by_cases hlt : k < s.size
         · go_wp2_with (first | (go_at_call 80; refine (small_o _ _).mono ?_; rintro e w1 ⟨q1, rfl, rfl⟩; cases q1) | (go_at_call 81; refine (digit_o _ _).mono ?_; rintro e w1 ⟨q1, rfl, rfl⟩; cases q1))
           all_goals first
             | (go_round
                case rel => exact ⟨k + 1, by omega, by go_num⟩
                case measure => simp [intOf]; omega)
             | (go_ret; exact ⟨_, rfl, (fun h => by cases h), rfl⟩)
         · go_wp2_with fail
           go_ret
           exact ⟨_, rfl, (fun _ => by first | trivial | exact z0), rfl⟩)
theorem slice_str (s : ByteArray) (i j : Nat) (J : Int) (hJ : J = (j : Int)) (h : i ≤ j) (hj : j ≤ s.size) (w : World) :
    (Instr.slice 9 (.string s) (some (.int .i64 (i : Int))) (some (.int .i64 J)) none).run Try.prog w = .ok (.string (s.extract i j)) w := by
  subst hJ
  have h1 : (0 : Int) ≤ (j : Int) ∧ (j : Int) ≤ (s.size : Int) := by omega
  have h2 : (0 : Int) ≤ (i : Int) ∧ (i : Int) ≤ (j : Int) := by omega
  simp [Instr.slice, Instr.sliceBounds, Instr.sliceBound, asIntOf, run_underlying Try.underlying9]
  rw [if_pos hj]
  simp only [Result.andThen]
  rw [if_pos h]
def HoldV (w : World) (e : Ending) (w' : World) : Prop := ∃ (n : Int) (b : Bool), e = .returned (.tuple #[.int .i64 n, .bool b]) ∧ w = w'
set_option maxRecDepth 100000 in
set_option maxHeartbeats 2000000 in
theorem holds_o (r s : ByteArray) (hr : r.size ≤ 4096) (w : World) : Calls Try.prog 82 #[.string r, .string s] w (HoldV w) := by
  go_enter Try.func82, Try.ntmps82
  go_wp2_with fail
  go_loop [6, 7, 8] (fun n o i => ∃ (k m : Nat) (x : ByteArray), m ≤ k ∧ k ≤ r.size + 1 ∧ x.size ≤ k ∧ n = .int .i64 (m : Int) ∧ o = .string x ∧ i = .int .i64 (k : Int)) (fun _ _ i => r.size - (intOf i).toNat)
  case atStart => exact ⟨1, 0, _, by omega, by omega, by decide, rfl, rfl, rfl⟩
  case round =>
    obtain ⟨k, m, x, hm, hk, hx, rfl, rfl, rfl⟩ := hrel
    by_cases hlt : k < r.size
    · have hsl := slice_str r k (k + 1) ((k : Int) + 1) (by omega) (by omega) (by omega) w
      have hes : (r.extract k (k + 1)).size ≤ 1 := by rw [ByteArray.size_extract]; omega
      obtain ⟨y, hy⟩ : ∃ y, r.extract k (k + 1) = y := ⟨_, rfl⟩
      rw [hy] at hsl hes
      have HAP := Lib.hid (show (x ++ y).size ≤ k + 1 by rw [ByteArray.size_append]; omega)
      clear hy
      go_wp2_with fail
      all_goals first
        | (go_round
           case rel => first | exact ⟨k + 1, m, _, by omega, by omega, HAP.out, rfl, rfl, by go_num⟩ | exact ⟨k + 1, m + 1, _, by omega, by omega, Nat.zero_le _, by go_num, rfl, by go_num⟩
           case measure => simp [intOf]; omega)
        | (go_ret2; exact ⟨_, _, rfl, rfl⟩)
    · go_wp2_with fail
      go_ret2
      exact ⟨_, _, rfl, rfl⟩
set_option maxRecDepth 100000 in
theorem key_o (s : ByteArray) (w : World) : Calls Try.prog 55 #[.string s] w (SomeB w) := by
  go_enter Try.func55, Try.ntmps55
  go_wp2_with (go_at_call 82; refine (holds_o _ s (by decide +kernel) w).mono ?_; rintro e w1 ⟨n1, b1, rfl, rfl⟩; cases b1)
  all_goals go_ret
  all_goals exact ⟨_, rfl, rfl⟩
theorem name10_o (s : ByteArray) (hs : s.size ≤ 4194304) (w : World) : Calls Try.prog 99 #[.string s] w (SomeQ (0 < s.size) w) := by
  go_enter Try.func99, Try.ntmps99
  go_wp2_with (first | (go_at_call 54; refine (isName_o s hs w).mono ?_; rintro e w1 ⟨b1, rfl, h1, rfl⟩; have H1 := Lib.hid h1; clear h1; cases b1) | (go_at_call 55; refine (key_o s w).mono ?_; rintro e w1 ⟨b1, rfl, rfl⟩; cases b1))
  all_goals go_ret
  all_goals first | exact ⟨_, rfl, (fun _ => H1.out trivial), rfl⟩ | exact ⟨_, rfl, (fun h => by cases h), rfl⟩
theorem name14_o (s : ByteArray) (hs : s.size ≤ 4194304) (w : World) : Calls Try.prog 21 #[.string s] w (SomeQ (0 < s.size) w) := by
  go_enter Try.func21, Try.ntmps21
  go_wp2_with (first | (go_at_call 54; refine (isName_o s hs w).mono ?_; rintro e w1 ⟨b1, rfl, h1, rfl⟩; have H1 := Lib.hid h1; clear h1; cases b1) | (go_at_call 55; refine (key_o s w).mono ?_; rintro e w1 ⟨b1, rfl, rfl⟩; cases b1))
  all_goals go_ret
  all_goals first | exact ⟨_, rfl, (fun _ => H1.out trivial), rfl⟩ | exact ⟨_, rfl, (fun h => by cases h), rfl⟩
end Go.Proofs.Yteibcfpepdbflaa.RtS
