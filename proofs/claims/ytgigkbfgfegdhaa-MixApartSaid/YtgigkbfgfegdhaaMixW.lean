/- The walks of the generator: each function of the program and of the reference returns what the plain mathematics says, and leaves what was there. Conditions: a state lies in the range of uint64. -/
import Derived.Test.YtgigkbfgfegdhaaRows
import Derived.Test.YtgigkbfgfegdhaaMixP
import Derived.Lib.Hide
import Derived.Outline
import Derived.Deep.DeepCutAuto
import Derived.Deep.RegionWith
import Derived.Deep.RegionHeld3
namespace Go.Proofs.Ytgigkbfgfegdhaa.MixW
open Go Go.RowKit MixP

theorem join {w w1 w2 : World} (h : Below w.heap.size w w1) (k : Below w1.heap.size w1 w2) : Below w.heap.size w w2 :=
  h.trans (k.mono h.size)

theorem ret2 {j k : IntKind} {a b c d : Int} (h : a = b) (h' : c = d) : Ending.returned (.tuple #[.int j a, .int k c]) = .returned (.tuple #[.int j b, .int k d]) := by rw [h, h']

theorem one_i (s : Int) (w : World) : Calls Try.prog 19 #[.int .u64 s] w fun e w' => e = .returned (.int .u64 (one s)) ∧ w = w' := by
  by_cases hz : s = 0
  · have hz' : (s == 0) = true := by simp [hz]
    have H := Lib.hid (show one s = 1 from if_pos hz)
    clear hz
    go_enter Try.func19, Try.ntmps19
    go_wp2
    go_ret
    exact ⟨by rw [H.out]; rfl, rfl⟩
  · have hz' : (s == 0) = false := by simp [hz]
    have H := Lib.hid (show one s = s from if_neg hz)
    clear hz
    go_enter Try.func19, Try.ntmps19
    go_wp2
    go_ret
    exact ⟨by rw [H.out]; rfl, rfl⟩

theorem next_i (s : Int) (hs : U s) (w : World) : Calls Try.prog 10 #[.int .u64 s] w fun e w' => e = .returned (.int .u64 (nx s)) ∧ Below w.heap.size w w' := by
  have hu := u_one hs
  have h0 := hu.1
  have h1 := hu.2
  clear hu hs
  have H := Lib.hid (show nx s = x3 (x2 (x1 (one s))) from rfl)
  go_enter Try.func10, Try.ntmps10
  go_wp2_with (first | (go_at_call 19; go_call (one_i _ _) as e w' ⟨rfl, rfl⟩) | go_in)
  go_ret
  exact ⟨rfl, by go_grown⟩

theorem from_i (n : Int) (w : World) : Calls Try.prog 8 #[.int .i64 n] w fun e w' => e = .returned (.int .u64 (fr n)) ∧ w = w' := by
  go_enter Try.func8, Try.ntmps8
  go_wp2_with (go_at_call 19; go_call (one_i _ _) as e w' ⟨rfl, rfl⟩)
  go_ret
  exact ⟨rfl, rfl⟩

theorem value_i (s : Int) (hs : U s) (w : World) : Calls Try.prog 12 #[.int .u64 s] w fun e w' => e = .returned (.int .u32 (va s)) ∧ Below w.heap.size w w' := by
  have hv := va_range s
  have H := Lib.hid hv
  have H2 := Lib.hid (show va s = IntKind.u64.wrap (nx s * 2685821657736338717) / 4294967296 from rfl)
  clear hv
  have H1 := Lib.hid hs
  clear hs
  go_enter Try.func12, Try.ntmps12
  go_wp2_with (go_at_call 10; go_call (next_i _ H1.out _) as e w' ⟨rfl, hb⟩)
  go_ret
  refine ⟨?_, hb⟩
  have := H.out
  rw [show va s = va s % 4294967296 from by omega]
  rfl

set_option maxRecDepth 100000 in
theorem below_i (s n : Int) (hs : U s) (hn : n ≤ 9223372036854775807) (w : World) : Calls Try.prog 15 #[.int .u64 s, .int .i64 n] w fun e w' => e = .returned (.tuple #[.int .i64 (be s n), .int .u64 (bs s n)]) ∧ Below w.heap.size w w' := by
  by_cases h : n < 1
  · have H := Lib.hid (show be s n = 0 from if_pos h)
    have H2 := Lib.hid (show bs s n = s from if_pos h)
    go_enter Try.func15, Try.ntmps15
    go_wp2
    go_ret2
    exact ⟨by rw [H.out, H2.out]; rfl, Below.refl _ _⟩
  · have H := Lib.hid (show be s n = va s % n from if_neg h)
    have H2 := Lib.hid (show bs s n = nx s from if_neg h)
    have h' : 1 ≤ n := by omega
    have hz : ¬ n = 0 := by omega
    have hw : IntKind.u64.wrap n = n := IntWalk.u64_in _ (by omega)
    have hv := va_range s
    have h0 := hv.1
    have h1 : va s ≤ 4294967295 := by omega
    clear hv
    have hm : IntKind.i64.wrap ((IntKind.u64.wrap (va s)).tmod n) = va s % n := by
      rw [IntWalk.u64_in _ (by omega), Int.tmod_eq_emod_of_nonneg h0]
      exact IntWalk.i64_in _ (by have := Int.emod_nonneg (va s) (show n ≠ 0 by omega); have := Int.emod_lt_of_pos (va s) (show 0 < n by omega); omega)
    have HM := Lib.hid hm
    clear hm
    have H1 := Lib.hid hs
    clear hs
    go_enter Try.func15, Try.ntmps15
    go_wp2
    go_region_held3 (fun _ => True) (trivial) (first | (go_at_call 10; go_call (next_i _ H1.out _) as e w' ⟨rfl, hb⟩) | (go_at_call 12; go_call (value_i _ H1.out _) as e w' ⟨rfl, hb1⟩))
    go_wp2
    go_ret2
    exact ⟨by rw [H.out, H2.out]; exact ret2 HM.out rfl, join (join (Below.refl _ _).drew hb1) hb⟩


set_option maxRecDepth 100000 in
theorem skip_i (s k : Int) (hs : U s) (hk : k ≤ 9223372036854775807) (w : World) : Calls Try.prog 17 #[.int .u64 s, .int .i64 k] w fun e w' => e = .returned (.int .u64 (sk s k)) ∧ Below w.heap.size w w' := by
  have H1 := Lib.hid hs
  clear hs
  have hc : k ≤ 0 ∨ 65536 < k ∨ ∃ n : Nat, k = (n : Int) ∧ 0 < n ∧ n ≤ 65536 := by
    rcases Int.lt_or_le 0 k with h | h
    · rcases Int.lt_or_le 65536 k with h' | h'
      · exact .inr (.inl h')
      · exact .inr (.inr ⟨k.toNat, by omega, by omega, by omega⟩)
    · exact .inl h
  rcases hc with hc | hc | ⟨n, rfl, hc0, hc⟩
  · have H := Lib.hid (show sk s k = s from sk_neg s k hc)
    rcases (show k < 0 ∨ k = 0 by omega) with hk0 | rfl
    · go_enter Try.func17, Try.ntmps17
      go_wp2_with fail
      go_rounds 1
      go_ret
      exact ⟨by rw [H.out]; rfl, Below.refl _ _⟩
    · go_enter Try.func17, Try.ntmps17
      go_wp2_with fail
      go_rounds 1
      go_ret
      exact ⟨by rw [H.out]; rfl, Below.refl _ _⟩
  · have H := Lib.hid (show sk s k = steps 65536 s from by unfold sk count; rw [if_neg (by omega), if_pos (by omega)])
    obtain ⟨C, hC⟩ : ∃ C : Nat, C = 65536 := ⟨_, rfl⟩
    rw [← hC] at H
    have HC := Lib.hid (show (65536 : Int) = C by omega)
    have hC1 : C ≤ 100000 := by omega
    clear hC
    go_enter Try.func17, Try.ntmps17
    go_wp2_with fail
    rw [HC.out]
    go_loopw [0, 8] (fun v i wr => ∃ j : Nat, j ≤ C ∧ i = .int .i64 (j : Int) ∧ v = .int .u64 (steps j s) ∧ Below w.heap.size w wr) (fun _ i _ => C - (intOf i).toNat)
    case atStart => exact ⟨0, Nat.zero_le _, rfl, rfl, Below.refl _ _⟩
    case round =>
      obtain ⟨j, hj, rfl, rfl, hb⟩ := hrel
      by_cases hlt : j < C
      · go_wp2_with (go_at_call 10; go_call (next_i _ (u_steps H1.out j) _) as e w' ⟨rfl, hb1⟩)
        go_roundw
        case rel => exact ⟨j + 1, by omega, by go_num, rfl, join hb hb1⟩
        case measure => simp [intOf]; omega
      · have hje : j = C := by omega
        have HE := Lib.hid hje
        clear hje
        go_wp2_with fail
        go_ret
        exact ⟨by rw [H.out, HE.out]; rfl, hb⟩
  · have H := Lib.hid (show sk s n = steps n s from by unfold sk; congr 1; unfold count; split <;> (try split) <;> omega)
    go_enter Try.func17, Try.ntmps17
    go_wp2_with fail
    go_loopw [0, 8] (fun v i wr => ∃ j : Nat, j ≤ n ∧ i = .int .i64 (j : Int) ∧ v = .int .u64 (steps j s) ∧ Below w.heap.size w wr) (fun _ i _ => n - (intOf i).toNat)
    case atStart => exact ⟨0, Nat.zero_le _, rfl, rfl, Below.refl _ _⟩
    case round =>
      obtain ⟨j, hj, rfl, rfl, hb⟩ := hrel
      by_cases hlt : j < n
      · go_wp2_with (go_at_call 10; go_call (next_i _ (u_steps H1.out j) _) as e w' ⟨rfl, hb1⟩)
        go_roundw
        case rel => exact ⟨j + 1, by omega, by go_num, rfl, join hb hb1⟩
        case measure => simp [intOf]; omega
      · have hje : j = n := by omega
        have HE := Lib.hid hje
        clear hje
        go_wp2_with fail
        go_ret
        exact ⟨by rw [H.out, HE.out]; rfl, hb⟩

theorem from_r (n : Int) (w : World) : Calls Try.prog 9 #[.int .i64 n] w fun e w' => e = .returned (.int .u64 (fr n)) ∧ w = w' := by
  by_cases hz : IntKind.u64.wrap (IntKind.u64.wrap (IntKind.u64.wrap n * 2654435769) + 1) = 0
  · have hz' : (IntKind.u64.wrap (IntKind.u64.wrap (IntKind.u64.wrap n * 2654435769) + 1) == 0) = true := by simp [hz]
    have H := Lib.hid (show fr n = 1 from if_pos hz)
    clear hz
    go_enter Try.func9, Try.ntmps9
    go_wp2
    go_ret
    exact ⟨by rw [H.out]; rfl, rfl⟩
  · have hz' : (IntKind.u64.wrap (IntKind.u64.wrap (IntKind.u64.wrap n * 2654435769) + 1) == 0) = false := by simp [hz]
    have H := Lib.hid (show fr n = _ from if_neg hz)
    clear hz
    go_enter Try.func9, Try.ntmps9
    go_wp2
    go_ret
    exact ⟨by rw [H.out]; rfl, rfl⟩

theorem ret1 {j : IntKind} {a b : Int} (h : a = b) : Ending.returned (.int j a) = .returned (.int j b) := by rw [h]

theorem next_r (s : Int) (hs : U s) (w : World) : Calls Try.prog 11 #[.int .u64 s] w fun e w' => e = .returned (.int .u64 (nx s)) ∧ w = w' := by
  have H := Lib.hid (show nx s = x3 (x2 (x1 (one s))) from rfl)
  have H1 := Lib.hid hs
  clear hs
  go_enter Try.func11, Try.ntmps11
  go_upto_if 4 with fail
  go_cut [0] (fun v wx => v = .int .u64 (one s) ∧ wx = w)
  case first =>
    by_cases hz : s = 0
    · have hz' : (s == 0) = true := by simp [hz]
      have H2 := Lib.hid (show one s = 1 from if_pos hz)
      clear hz
      go_wp2
      go_meet
      exact ⟨by rw [H2.out], rfl⟩
    · have hz' : (s == 0) = false := by simp [hz]
      have H2 := Lib.hid (show one s = s from if_neg hz)
      clear hz
      go_wp2
      go_meet
      exact ⟨by rw [H2.out], rfl⟩
  case rest =>
    obtain ⟨rfl, rfl⟩ := hcut
    have hu := u_one H1.out
    have h0 := hu.1
    have h1 := hu.2
    clear hu
    go_wp2
    go_ret
    exact ⟨by rw [H.out]; rfl, rfl⟩

theorem value_r (s : Int) (hs : U s) (w : World) : Calls Try.prog 13 #[.int .u64 s] w fun e w' => e = .returned (.int .u32 (va s)) ∧ w = w' := by
  have hv := va_range s
  have H := Lib.hid hv
  have H2 := Lib.hid (show va s = IntKind.u64.wrap (nx s * 2685821657736338717) / 4294967296 from rfl)
  clear hv
  have H1 := Lib.hid hs
  clear hs
  go_enter Try.func13, Try.ntmps13
  go_wp2_with (go_at_call 11; go_call (next_r _ H1.out _) as e w' ⟨rfl, rfl⟩)
  go_ret
  refine ⟨?_, rfl⟩
  have := H.out
  rw [show va s = va s % 4294967296 from by omega]
  rfl

set_option maxRecDepth 100000 in
theorem below_r (s n : Int) (hs : U s) (hn : n ≤ 9223372036854775807) (w : World) : Calls Try.prog 16 #[.int .u64 s, .int .i64 n] w fun e w' => e = .returned (.tuple #[.int .i64 (be s n), .int .u64 (bs s n)]) ∧ Below w.heap.size w w' := by
  by_cases h : n < 1
  · have H := Lib.hid (show be s n = 0 from if_pos h)
    have H2 := Lib.hid (show bs s n = s from if_pos h)
    go_enter Try.func16, Try.ntmps16
    go_wp2
    go_ret2
    exact ⟨by rw [H.out, H2.out]; rfl, Below.refl _ _⟩
  · have H := Lib.hid (show be s n = va s % n from if_neg h)
    have H2 := Lib.hid (show bs s n = nx s from if_neg h)
    have h' : 1 ≤ n := by omega
    have hz : ¬ n = 0 := by omega
    clear h
    have hv := va_range s
    have h0 := hv.1
    have h1 : va s ≤ 4294967295 := by omega
    clear hv
    have hw : IntKind.i64.wrap (va s) = va s := IntWalk.i64_in _ (by omega)
    have HM := Lib.hid (Int.tmod_eq_emod_of_nonneg (b := n) h0)
    have H1 := Lib.hid hs
    clear hs
    go_enter Try.func16, Try.ntmps16
    go_wp2
    go_region_held3 (fun _ => True) (trivial) (first | (go_at_call 11; go_call (next_r _ H1.out _) as e w' ⟨rfl, rfl⟩) | (go_at_call 13; go_call (value_r _ H1.out _) as e w' ⟨rfl, rfl⟩))
    go_wp2
    go_ret2
    exact ⟨by rw [H.out, H2.out]; exact ret2 HM.out rfl, (Below.refl _ _).drew⟩

set_option maxRecDepth 100000 in
theorem skip_r (s k : Int) (hs : U s) (hk : k ≤ 9223372036854775807) (w : World) : Calls Try.prog 18 #[.int .u64 s, .int .i64 k] w fun e w' => e = .returned (.int .u64 (sk s k)) ∧ Below w.heap.size w w' := by
  have H1 := Lib.hid hs
  clear hs
  have hc : k ≤ 0 ∨ 65536 < k ∨ ∃ n : Nat, k = (n : Int) ∧ 0 < n ∧ n ≤ 65536 := by
    rcases Int.lt_or_le 0 k with h | h
    · rcases Int.lt_or_le 65536 k with h' | h'
      · exact .inr (.inl h')
      · exact .inr (.inr ⟨k.toNat, by omega, by omega, by omega⟩)
    · exact .inl h
  rcases hc with hc | hc | ⟨n, rfl, hc0, hc⟩
  · have H := Lib.hid (show sk s k = s from sk_neg s k hc)
    rcases (show k < 0 ∨ k = 0 by omega) with hk0 | rfl
    · go_enter Try.func18, Try.ntmps18
      go_wp2_with fail
      go_rounds 1
      go_ret
      exact ⟨by rw [H.out]; rfl, Below.refl _ _⟩
    · go_enter Try.func18, Try.ntmps18
      go_wp2_with fail
      go_rounds 1
      go_ret
      exact ⟨by rw [H.out]; rfl, Below.refl _ _⟩
  · have H := Lib.hid (show sk s k = steps 65536 s from by unfold sk count; rw [if_neg (by omega), if_pos (by omega)])
    obtain ⟨C, hC⟩ : ∃ C : Nat, C = 65536 := ⟨_, rfl⟩
    rw [← hC] at H
    have HC := Lib.hid (show (65536 : Int) = C by omega)
    have hC1 : C ≤ 100000 := by omega
    clear hC
    go_enter Try.func18, Try.ntmps18
    go_wp2_with fail
    rw [HC.out]
    go_loopw [0, 5] (fun v i wr => ∃ j : Nat, j ≤ C ∧ i = .int .i64 (j : Int) ∧ v = .int .u64 (steps j s) ∧ Below w.heap.size w wr) (fun _ i _ => C - (intOf i).toNat)
    case atStart => exact ⟨0, Nat.zero_le _, rfl, rfl, Below.refl _ _⟩
    case round =>
      obtain ⟨j, hj, rfl, rfl, hb⟩ := hrel
      by_cases hlt : j < C
      · go_wp2_with (go_at_call 11; go_call (next_r _ (u_steps H1.out j) _) as e w' ⟨rfl, rfl⟩)
        go_roundw
        case rel => exact ⟨j + 1, by omega, by go_num, rfl, hb⟩
        case measure => simp [intOf]; omega
      · have hje : j = C := by omega
        have HE := Lib.hid hje
        clear hje
        go_wp2_with fail
        go_ret
        exact ⟨by rw [H.out, HE.out]; rfl, hb⟩
  · have H := Lib.hid (show sk s n = steps n s from by unfold sk; congr 1; unfold count; split <;> (try split) <;> omega)
    go_enter Try.func18, Try.ntmps18
    go_wp2_with fail
    go_loopw [0, 5] (fun v i wr => ∃ j : Nat, j ≤ n ∧ i = .int .i64 (j : Int) ∧ v = .int .u64 (steps j s) ∧ Below w.heap.size w wr) (fun _ i _ => n - (intOf i).toNat)
    case atStart => exact ⟨0, Nat.zero_le _, rfl, rfl, Below.refl _ _⟩
    case round =>
      obtain ⟨j, hj, rfl, rfl, hb⟩ := hrel
      by_cases hlt : j < n
      · go_wp2_with (go_at_call 11; go_call (next_r _ (u_steps H1.out j) _) as e w' ⟨rfl, rfl⟩)
        go_roundw
        case rel => exact ⟨j + 1, by omega, by go_num, rfl, hb⟩
        case measure => simp [intOf]; omega
      · have hje : j = n := by omega
        have HE := Lib.hid hje
        clear hje
        go_wp2_with fail
        go_ret
        exact ⟨by rw [H.out, HE.out]; rfl, hb⟩

end Go.Proofs.Ytgigkbfgfegdhaa.MixW
