/- clewref04.IsName, IsText, clewref09.Key, the names of chapters 10 and 14: some truth value, without a panic; a name is not empty. Conditions: lengths within the reach. -/
import Derived.Test.YteibcfpepdbflaaBindW
import Derived.Test.YteibcfpepdbflaaBindO
import Derived.Outline
import Derived.Deep.DeepCutAuto
import Derived.IntWalk
import Derived.Deep.QuietTactic
import Derived.BigQuiet
namespace Go.Proofs.Yteibcfpepdbflaa.CkP
open Go Go.RowKit BindP BindD BindO BindW
open Byt (str)

def IsN (t : List Nm) (k : Int) (s : S) : Prop := hasN t s = true ∧ (getN t s).2.1 = k
theorem err_is {t : List Nm} {k : Int} {s : S} (h : errN t k s = 0) : IsN t k s := by
  unfold errN at h
  split at h
  · rename_i h1
    split at h
    · rename_i h2
      exact ⟨h1, h2⟩
    · exact absurd h (by decide)
  · exact absurd h (by decide)
theorem is_num {t : List Nm} {k : Int} {s : S} (h : IsN t k s) : ofN t k s = (getN t s).2.2 := by
  rw [ofN_get, if_pos h.1, if_pos h.2]
def CkX (t : List Nm) (F : List Nat) (lo : List S) (k : Int) (s : S) (m : Nat) : Prop :=
  (k = 3 → s ∈ lo ∨ (hasN t s = true ∧ ((getN t s).2.1 = 3 ∨ (getN t s).2.1 = 4))) ∧ (k = 7 → IsN t 1 s) ∧ (k = 8 → IsN t 2 s) ∧
  (k = 9 → IsN t 6 s ∧ ∀ (i a : Nat), (getN t s).2.2 = (i : Int) → F[i]? = some a → a = m)
mutual
def ckE (t : List Nm) (F : List Nat) (lo : List S) : Pe → Prop
  | .mk k _ _ s ar => CkX t F lo k s ar.length ∧ ckEs t F lo ar
def ckEs (t : List Nm) (F : List Nat) (lo : List S) : List Pe → Prop
  | [] => True
  | a :: l => ckE t F lo a ∧ ckEs t F lo l
end
theorem ckEs_snoc (t : List Nm) (F : List Nat) (lo : List S) : ∀ (l : List Pe) (a : Pe), ckEs t F lo (l ++ [a]) ↔ ckEs t F lo l ∧ ckE t F lo a
  | [], a => by simp [ckEs]
  | x :: l, a => by simp only [List.cons_append, ckEs, ckEs_snoc t F lo l a, and_assoc]
theorem ckEs_take {t : List Nm} {F : List Nat} {lo : List S} {l : List Ex} {i : Nat} (h : i < l.length) : ckEs t F lo (exPs (l.take (i + 1))) ↔ ckEs t F lo (exPs (l.take i)) ∧ ckE t F lo l[i].p := by
  rw [List.take_succ_eq_append_getElem h, exPs_map, List.map_append, ← exPs_map]
  exact ckEs_snoc _ _ _ _ _
def CkO (t : List Nm) (lo : List S) (made : Nat) (k : Int) (s : S) : Prop :=
  (k = 2 → made + 1 ≤ 16) ∧ (k = 11 → made + 2 ≤ 16) ∧ (k = 3 → s ∈ lo ∨ (hasN t s = true ∧ (getN t s).2.1 = 3)) ∧ (k = 4 → IsN t 2 s) ∧
  (k = 5 ∨ k = 6 → IsN t 1 s) ∧ (k = 17 ∨ k = 18 → IsN t 7 s)
def nextL (lo : List S) : Ps → List S
  | .mk k _ s _ _ _ => if k = 2 then lo ++ [s] else lo
mutual
def ckS (t : List Nm) (F : List Nat) (lo : List S) (made : Nat) : Ps → Prop
  | .mk k _ s ar b e => ckEs t F lo ar ∧ CkO t lo made k s ∧ ckB t F (if k = 11 then lo ++ [s] else lo) (if k = 11 then made + 2 else made) b ∧ ckB t F lo ((if k = 11 then made + 2 else made) + locs b) e
def ckB (t : List Nm) (F : List Nat) (lo : List S) (made : Nat) : List Ps → Prop
  | [] => True
  | a :: l => ckS t F lo made a ∧ ckB t F (nextL lo a) (made + locs1 a) l
end
def nextLs (lo : List S) : List Ps → List S
  | [] => lo
  | a :: l => nextLs (nextL lo a) l
theorem nextLs_snoc : ∀ (l : List Ps) (lo : List S) (a : Ps), nextLs lo (l ++ [a]) = nextL (nextLs lo l) a
  | [], _, _ => rfl
  | x :: l, lo, a => nextLs_snoc l (nextL lo x) a
theorem nextL_len (lo : List S) (a : Ps) : (nextL lo a).length ≤ lo.length + 1 := by
  cases a
  simp only [nextL]
  split
  · simp
  · omega
theorem nextLs_len : ∀ (l : List Ps) (lo : List S), (nextLs lo l).length ≤ lo.length + l.length
  | [], lo => by simp [nextLs]
  | a :: l, lo => by
    have h1 := nextLs_len l (nextL lo a)
    have h2 := nextL_len lo a
    unfold nextLs
    rw [List.length_cons]
    omega
theorem ckB_snoc (t : List Nm) (F : List Nat) : ∀ (l : List Ps) (lo : List S) (made : Nat) (a : Ps), ckB t F lo made (l ++ [a]) ↔ ckB t F lo made l ∧ ckS t F (nextLs lo l) (made + locs l) a
  | [], lo, made, a => by simp [ckB, nextLs, locs]
  | x :: l, lo, made, a => by
    simp only [List.cons_append, ckB, ckB_snoc t F l, nextLs, locs, and_assoc, Nat.add_assoc]
end Go.Proofs.Yteibcfpepdbflaa.CkP
namespace Go.Proofs.Yteibcfpepdbflaa.RtS
open Go Go.RowKit BindP BindD BindO BindW
open Byt (str)

def SomeB (w : World) (e : Ending) (w' : World) : Prop := ∃ b : Bool, e = .returned (.bool b) ∧ w = w'
def SomeQ (p : Prop) (w : World) (e : Ending) (w' : World) : Prop := ∃ b : Bool, e = .returned (.bool b) ∧ (b = true → p) ∧ w = w'
theorem small_o (c : Int) (w : World) : Calls Try.prog 80 #[.int .u8 c] w (SomeB w) := by
  obtain ⟨a, ha⟩ : ∃ a, decide (97 ≤ c) = a := ⟨_, rfl⟩
  obtain ⟨b, hb⟩ : ∃ b, decide (c ≤ 122) = b := ⟨_, rfl⟩
  cases a <;> cases b
  all_goals
    go_enter Try.func80, Try.ntmps80
    go_wp2_with fail
    go_ret
    exact ⟨_, rfl, rfl⟩
theorem digit_o (c : Int) (w : World) : Calls Try.prog 81 #[.int .u8 c] w (SomeB w) := by
  obtain ⟨a, ha⟩ : ∃ a, decide (48 ≤ c) = a := ⟨_, rfl⟩
  obtain ⟨b, hb⟩ : ∃ b, decide (c ≤ 57) = b := ⟨_, rfl⟩
  cases a <;> cases b
  all_goals
    go_enter Try.func81, Try.ntmps81
    go_wp2_with fail
    go_ret
    exact ⟨_, rfl, rfl⟩
set_option maxRecDepth 100000 in
set_option maxHeartbeats 1000000 in
theorem isText_o (s : ByteArray) (hs : s.size ≤ 4194304) (w : World) : Calls Try.prog 20 #[.string s] w (SomeB w) := by
  obtain ⟨a, ha⟩ : ∃ a, decide ((s.size : Int) ≤ 1024) = a := ⟨_, rfl⟩
  go_enter Try.func20, Try.ntmps20
  go_wp2_with fail
  go_loop [3] (fun i => ∃ k : Nat, k ≤ s.size ∧ i = .int .i64 (k : Int)) (fun i => s.size - (intOf i).toNat)
  case atStart => exact ⟨0, Nat.zero_le _, rfl⟩
  case round =>
    obtain ⟨k, hk, rfl⟩ := hrel
    by_cases hlt : k < s.size
    · go_wp2_with fail
      all_goals first
        | (go_round
           case rel => exact ⟨k + 1, by omega, by go_num⟩
           case measure => simp [intOf]; omega)
        | (go_ret; exact ⟨_, rfl, rfl⟩)
    · go_wp2_with fail
      go_ret
      exact ⟨_, rfl, rfl⟩
set_option maxRecDepth 100000 in
set_option maxHeartbeats 2000000 in
theorem isName_o (s : ByteArray) (hs : s.size ≤ 4194304) (w : World) : Calls Try.prog 54 #[.string s] w (SomeQ (0 < s.size) w) := by
  by_cases h1 : s.size < 1
  · have t0 : decide ((s.size : Int) < 1) = true := decide_eq_true (by omega)
    go_enter Try.func54, Try.ntmps54
    go_wp2_with fail
    go_ret
    exact ⟨_, rfl, (fun h => by cases h), rfl⟩
  have t0 : decide ((s.size : Int) < 1) = false := decide_eq_false (by omega)
  by_cases h2 : 24 < s.size
  · have t1 : decide (24 < (s.size : Int)) = true := decide_eq_true (by omega)
    go_enter Try.func54, Try.ntmps54
    go_wp2_with fail
    go_ret
    exact ⟨_, rfl, (fun h => by cases h), rfl⟩
  have t1 : decide (24 < (s.size : Int)) = false := decide_eq_false (by omega)
  have z0 : 0 < s.size := by omega
  go_enter Try.func54, Try.ntmps54
  go_wp2_with (go_at_call 80; refine (small_o _ _).mono ?_; rintro e w1 ⟨q1, rfl, rfl⟩; cases q1)
  all_goals first
    | (go_ret; exact ⟨_, rfl, (fun h => by cases h), rfl⟩)
    | (go_loop [3] (fun i => ∃ k : Nat, k ≤ s.size ∧ i = .int .i64 (k : Int)) (fun i => s.size - (intOf i).toNat)
       case atStart => exact ⟨0, Nat.zero_le _, rfl⟩
       case round =>
         obtain ⟨k, hk, rfl⟩ := hrel
         by_cases hlt : k < s.size
         · go_wp2_with (first | (go_at_call 80; refine (small_o _ _).mono ?_; rintro e w1 ⟨q1, rfl, rfl⟩; cases q1) | (go_at_call 81; refine (digit_o _ _).mono ?_; rintro e w1 ⟨q1, rfl, rfl⟩; cases q1))
           all_goals first
             | (go_round
                case rel => exact ⟨k + 1, by omega, by go_num⟩
                case measure => simp [intOf]; omega)
             | (go_ret; exact ⟨_, rfl, (fun h => by cases h), rfl⟩)
         · go_wp2_with fail
           go_ret
           exact ⟨_, rfl, (fun _ => by first | trivial | exact z0), rfl⟩)
theorem slice_str (s : ByteArray) (i j : Nat) (J : Int) (hJ : J = (j : Int)) (h : i ≤ j) (hj : j ≤ s.size) (w : World) :
    (Instr.slice 9 (.string s) (some (.int .i64 (i : Int))) (some (.int .i64 J)) none).run Try.prog w = .ok (.string (s.extract i j)) w := by
  subst hJ
  have h1 : (0 : Int) ≤ (j : Int) ∧ (j : Int) ≤ (s.size : Int) := by omega
  have h2 : (0 : Int) ≤ (i : Int) ∧ (i : Int) ≤ (j : Int) := by omega
  simp [Instr.slice, Instr.sliceBounds, Instr.sliceBound, asIntOf, run_underlying Try.underlying9]
  rw [if_pos hj]
  simp only [Result.andThen]
  rw [if_pos h]
def HoldV (w : World) (e : Ending) (w' : World) : Prop := ∃ (n : Int) (b : Bool), e = .returned (.tuple #[.int .i64 n, .bool b]) ∧ w = w'
set_option maxRecDepth 100000 in
set_option maxHeartbeats 2000000 in
theorem holds_o (r s : ByteArray) (hr : r.size ≤ 4096) (w : World) : Calls Try.prog 82 #[.string r, .string s] w (HoldV w) := by
  go_enter Try.func82, Try.ntmps82
  go_wp2_with fail
  go_loop [6, 7, 8] (fun n o i => ∃ (k m : Nat) (x : ByteArray), m ≤ k ∧ k ≤ r.size + 1 ∧ x.size ≤ k ∧ n = .int .i64 (m : Int) ∧ o = .string x ∧ i = .int .i64 (k : Int)) (fun _ _ i => r.size - (intOf i).toNat)
  case atStart => exact ⟨1, 0, _, by omega, by omega, by decide, rfl, rfl, rfl⟩
  case round =>
    obtain ⟨k, m, x, hm, hk, hx, rfl, rfl, rfl⟩ := hrel
    by_cases hlt : k < r.size
    · have hsl := slice_str r k (k + 1) ((k : Int) + 1) (by omega) (by omega) (by omega) w
      have hes : (r.extract k (k + 1)).size ≤ 1 := by rw [ByteArray.size_extract]; omega
      obtain ⟨y, hy⟩ : ∃ y, r.extract k (k + 1) = y := ⟨_, rfl⟩
      rw [hy] at hsl hes
      have HAP := Lib.hid (show (x ++ y).size ≤ k + 1 by rw [ByteArray.size_append]; omega)
      clear hy
      go_wp2_with fail
      all_goals first
        | (go_round
           case rel => first | exact ⟨k + 1, m, _, by omega, by omega, HAP.out, rfl, rfl, by go_num⟩ | exact ⟨k + 1, m + 1, _, by omega, by omega, Nat.zero_le _, by go_num, rfl, by go_num⟩
           case measure => simp [intOf]; omega)
        | (go_ret2; exact ⟨_, _, rfl, rfl⟩)
    · go_wp2_with fail
      go_ret2
      exact ⟨_, _, rfl, rfl⟩
set_option maxRecDepth 100000 in
theorem key_o (s : ByteArray) (w : World) : Calls Try.prog 55 #[.string s] w (SomeB w) := by
  go_enter Try.func55, Try.ntmps55
  go_wp2_with (go_at_call 82; refine (holds_o _ s (by decide +kernel) w).mono ?_; rintro e w1 ⟨n1, b1, rfl, rfl⟩; cases b1)
  all_goals go_ret
  all_goals exact ⟨_, rfl, rfl⟩
theorem name10_o (s : ByteArray) (hs : s.size ≤ 4194304) (w : World) : Calls Try.prog 99 #[.string s] w (SomeQ (0 < s.size) w) := by
  go_enter Try.func99, Try.ntmps99
  go_wp2_with (first | (go_at_call 54; refine (isName_o s hs w).mono ?_; rintro e w1 ⟨b1, rfl, h1, rfl⟩; have H1 := Lib.hid h1; clear h1; cases b1) | (go_at_call 55; refine (key_o s w).mono ?_; rintro e w1 ⟨b1, rfl, rfl⟩; cases b1))
  all_goals go_ret
  all_goals first | exact ⟨_, rfl, (fun _ => H1.out trivial), rfl⟩ | exact ⟨_, rfl, (fun h => by cases h), rfl⟩
theorem name14_o (s : ByteArray) (hs : s.size ≤ 4194304) (w : World) : Calls Try.prog 21 #[.string s] w (SomeQ (0 < s.size) w) := by
  go_enter Try.func21, Try.ntmps21
  go_wp2_with (first | (go_at_call 54; refine (isName_o s hs w).mono ?_; rintro e w1 ⟨b1, rfl, h1, rfl⟩; have H1 := Lib.hid h1; clear h1; cases b1) | (go_at_call 55; refine (key_o s w).mono ?_; rintro e w1 ⟨b1, rfl, rfl⟩; cases b1))
  all_goals go_ret
  all_goals first | exact ⟨_, rfl, (fun _ => H1.out trivial), rfl⟩ | exact ⟨_, rfl, (fun h => by cases h), rfl⟩
end Go.Proofs.Yteibcfpepdbflaa.RtS
