/- What operators come to in the empty world, and the examples. Conditions: none. -/
import Derived.Test.YtncdicagadbafaaValR
import Derived.Test.YtncdicagadbafaaValY
namespace Go.Proofs.Ytncdicagadbafaa.ValT
open Go Go.RowKit NestP NestW NestX NestY ValP ValW ValX ValR MixP Sq

theorem bin_z (k a b V E : Int) (hV : opV 0 false k (wr a) (wr b) = V) (hE : opE false k (wr b) = E) (w : World) :
    Calls Try.prog 57 #[.agg #[.slice none 0 0, .slice none 0 0, .slice none 0 0, .slice none 0 0, .slice none 0 0, .slice none 0 0, .slice none 0 0, .int .u64 0, .int .i64 0, .int .i64 0, .int .i64 0, .int .i64 0, .int .i64 0], .int .i64 k, .int .i64 a, .int .i64 b] w fun e w' => e = .returned (.tuple #[.int .i64 V, .int .i64 E]) ∧ Below w.heap.size w w' := by
  have h := ValY.bin_i (v0 := .slice none 0 0) (v4 := .slice none 0 0) (v5 := .slice none 0 0) (v6 := .slice none 0 0) (v7 := .int .u64 0) (v8 := .int .i64 0) (v9 := .int .i64 0) (v10 := .int .i64 0) (v11 := .int .i64 0) (v12 := .int .i64 0) (A1 := none) (A2 := none) (A3 := none) (n := 0) (c1 := 0) (n2 := 0) (c2 := 0) (n3 := 0) (c3 := 0) ⟨[], [], [], [], [], [], [], 0, 0, 0, 0, 0, 0⟩ k a b w (Rd.nil w none)
  refine h.mono ?_
  rintro e w' ⟨rfl, hb⟩
  refine ⟨?_, hb⟩
  rw [← hV, ← hE]
  have e1 : at' [] (wr a) = 0 := by simp [at']
  have e2 : isT 0 (wr a) = false := by simp [isT]; omega
  rw [e1, e2]

theorem rd1 : rdV 5 (wr 1) = 1 := by
  rw [show wr 1 = 1 from by decide]
  simp [rdV, be]
theorem rd2 : rdS 5 (wr 1) = nx 5 := by
  rw [show wr 1 = 1 from by decide]
  simp [rdS, bs]
theorem rd3 : rdE (wr 1) = 0 := by decide
theorem random_z (w : World) :
    Calls Try.prog 61 #[.agg #[.slice none 0 0, .slice none 0 0, .slice none 0 0, .slice none 0 0, .slice none 0 0, .slice none 0 0, .slice none 0 0, .int .u64 5, .int .i64 0, .int .i64 0, .int .i64 0, .int .i64 0, .int .i64 0], .int .i64 1] w fun e w' => e = .returned (.tuple #[.int .i64 1, .agg #[.slice none 0 0, .slice none 0 0, .slice none 0 0, .slice none 0 0, .slice none 0 0, .slice none 0 0, .slice none 0 0, .int .u64 (nx 5), .int .i64 0, .int .i64 0, .int .i64 0, .int .i64 0, .int .i64 0], .int .i64 0]) ∧ Below w.heap.size w w' := by
  refine (random_i 5 1 (by unfold U; omega) w).mono ?_
  rintro e w' ⟨rfl, hb⟩
  rw [rd1, rd2, rd3]
  exact ⟨rfl, hb⟩

set_option maxRecDepth 100000 in
theorem awake (w : World) : Calls Try.prog 56 #[] w fun e w' => e = .returned (.bool true) ∧ Below w.heap.size w w' := by
  have q0 : opV 0 false 13 (wr 7) (wr 2) = 3 := by decide +kernel
  have r0 : opE false 13 (wr 2) = 0 := by decide +kernel
  have q1 : opV 0 false 13 (wr 1) (wr 0) = 0 := by decide +kernel
  have r1 : opE false 13 (wr 0) = 1 := by decide +kernel
  have q2 : opV 0 false 5 (wr 65535) (wr 0) = 1 := by decide +kernel
  have r2 : opE false 5 (wr 0) = 0 := by decide +kernel
  have HB : Below w.heap.size w w := Below.refl _ _
  go_enter Try.func56, Try.ntmps56
  go_wp2_with (first | (go_at_call 57; refine (bin_z _ _ _ _ _ rfl rfl _).mono ?_; rintro e w1 ⟨rfl, hw1⟩; have hz := MixV.join HB hw1; clear HB hw1; have HB := hz; clear hz; simp only [q0, q1, q2, r0, r1, r2]) | (go_at_call 61; refine (random_z _).mono ?_; rintro e w4 ⟨rfl, hw4⟩; have hz := MixV.join HB hw4; clear HB hw4; have HB := hz; clear hz))
  go_quiet (first | (go_at_call 59; exact quiet_left (not_i 65536 _)) | (go_at_call 115; exact quiet_left (MixV.next_r 5 (by unfold U; omega) _)))
  go_wp2_with (fail)
  go_ret
  exact ⟨rfl, belowN (HB.alloc HB.size _) _⟩

set_option maxRecDepth 100000 in
theorem truth (a : Int) (w : World) : Calls Try.prog 64 #[.int .i64 a] w fun e w' => e = .returned (.int .i64 (if wr a = 0 then 0 else 1)) ∧ w = w' := by
  by_cases h : wr a = 0
  · rw [if_pos h]
    go_enter Try.func64, Try.ntmps64
    go_wp2_with (go_at_call 63; refine (wrap_r _ _).mono ?_; rintro e w1 ⟨rfl, rfl⟩)
    go_ret
    exact ⟨rfl, rfl⟩
  · rw [if_neg h]
    go_enter Try.func64, Try.ntmps64
    go_wp2_with (go_at_call 63; refine (wrap_r _ _).mono ?_; rintro e w1 ⟨rfl, rfl⟩)
    go_ret
    exact ⟨rfl, rfl⟩
end Go.Proofs.Ytncdicagadbafaa.ValT
