/- The walks of the generator: each function of the program and of the reference returns what the plain mathematics says, and leaves what was there. Conditions: a state lies in the range of uint64. -/
import Derived.Test.YtncdicagadbafaaRows
import Derived.Test.YtncdicagadbafaaMixP
import Derived.Lib.Hide
import Derived.Outline
import Derived.Deep.DeepCutAuto
import Derived.Deep.RegionWith
import Derived.Deep.RegionHeld3
namespace Go.Proofs.Ytncdicagadbafaa.MixV
open Go Go.RowKit MixP

theorem join {w w1 w2 : World} (h : Below w.heap.size w w1) (k : Below w1.heap.size w1 w2) : Below w.heap.size w w2 :=
  h.trans (k.mono h.size)

theorem ret2 {j k : IntKind} {a b c d : Int} (h : a = b) (h' : c = d) : Ending.returned (.tuple #[.int j a, .int k c]) = .returned (.tuple #[.int j b, .int k d]) := by rw [h, h']

theorem one_i (s : Int) (w : World) : Calls Try.prog 174 #[.int .u64 s] w fun e w' => e = .returned (.int .u64 (one s)) ∧ w = w' := by
  by_cases hz : s = 0
  · have hz' : (s == 0) = true := by simp [hz]
    have H := Lib.hid (show one s = 1 from if_pos hz)
    clear hz
    go_enter Try.func174, Try.ntmps174
    go_wp2
    go_ret
    exact ⟨by rw [H.out]; rfl, rfl⟩
  · have hz' : (s == 0) = false := by simp [hz]
    have H := Lib.hid (show one s = s from if_neg hz)
    clear hz
    go_enter Try.func174, Try.ntmps174
    go_wp2
    go_ret
    exact ⟨by rw [H.out]; rfl, rfl⟩

theorem next_i (s : Int) (hs : U s) (w : World) : Calls Try.prog 166 #[.int .u64 s] w fun e w' => e = .returned (.int .u64 (nx s)) ∧ Below w.heap.size w w' := by
  have hu := u_one hs
  have h0 := hu.1
  have h1 := hu.2
  clear hu hs
  have H := Lib.hid (show nx s = x3 (x2 (x1 (one s))) from rfl)
  go_enter Try.func166, Try.ntmps166
  go_wp2_with (first | (go_at_call 174; go_call (one_i _ _) as e w' ⟨rfl, rfl⟩) | go_in)
  go_ret
  exact ⟨rfl, by go_grown⟩

theorem value_i (s : Int) (hs : U s) (w : World) : Calls Try.prog 165 #[.int .u64 s] w fun e w' => e = .returned (.int .u32 (va s)) ∧ Below w.heap.size w w' := by
  have hv := va_range s
  have H := Lib.hid hv
  have H2 := Lib.hid (show va s = IntKind.u64.wrap (nx s * 2685821657736338717) / 4294967296 from rfl)
  clear hv
  have H1 := Lib.hid hs
  clear hs
  go_enter Try.func165, Try.ntmps165
  go_wp2_with (go_at_call 166; go_call (next_i _ H1.out _) as e w' ⟨rfl, hb⟩)
  go_ret
  refine ⟨?_, hb⟩
  have := H.out
  rw [show va s = va s % 4294967296 from by omega]
  rfl

set_option maxRecDepth 100000 in
theorem below_i (s n : Int) (hs : U s) (hn : n ≤ 9223372036854775807) (w : World) : Calls Try.prog 129 #[.int .u64 s, .int .i64 n] w fun e w' => e = .returned (.tuple #[.int .i64 (be s n), .int .u64 (bs s n)]) ∧ Below w.heap.size w w' := by
  by_cases h : n < 1
  · have H := Lib.hid (show be s n = 0 from if_pos h)
    have H2 := Lib.hid (show bs s n = s from if_pos h)
    go_enter Try.func129, Try.ntmps129
    go_wp2
    go_ret2
    exact ⟨by rw [H.out, H2.out]; rfl, Below.refl _ _⟩
  · have H := Lib.hid (show be s n = va s % n from if_neg h)
    have H2 := Lib.hid (show bs s n = nx s from if_neg h)
    have h' : 1 ≤ n := by omega
    have hz : ¬ n = 0 := by omega
    have hw : IntKind.u64.wrap n = n := IntWalk.u64_in _ (by omega)
    have hv := va_range s
    have h0 := hv.1
    have h1 : va s ≤ 4294967295 := by omega
    clear hv
    have hm : IntKind.i64.wrap ((IntKind.u64.wrap (va s)).tmod n) = va s % n := by
      rw [IntWalk.u64_in _ (by omega), Int.tmod_eq_emod_of_nonneg h0]
      exact IntWalk.i64_in _ (by have := Int.emod_nonneg (va s) (show n ≠ 0 by omega); have := Int.emod_lt_of_pos (va s) (show 0 < n by omega); omega)
    have HM := Lib.hid hm
    clear hm
    have H1 := Lib.hid hs
    clear hs
    go_enter Try.func129, Try.ntmps129
    go_wp2
    go_region_held3 (fun _ => True) (trivial) (first | (go_at_call 166; go_call (next_i _ H1.out _) as e w' ⟨rfl, hb⟩) | (go_at_call 165; go_call (value_i _ H1.out _) as e w' ⟨rfl, hb1⟩))
    go_wp2
    go_ret2
    exact ⟨by rw [H.out, H2.out]; exact ret2 HM.out rfl, join (join (Below.refl _ _).drew hb1) hb⟩


theorem ret1 {j : IntKind} {a b : Int} (h : a = b) : Ending.returned (.int j a) = .returned (.int j b) := by rw [h]

theorem next_r (s : Int) (hs : U s) (w : World) : Calls Try.prog 115 #[.int .u64 s] w fun e w' => e = .returned (.int .u64 (nx s)) ∧ w = w' := by
  have H := Lib.hid (show nx s = x3 (x2 (x1 (one s))) from rfl)
  have H1 := Lib.hid hs
  clear hs
  go_enter Try.func115, Try.ntmps115
  go_upto_if 4 with fail
  go_cut [0] (fun v wx => v = .int .u64 (one s) ∧ wx = w)
  case first =>
    by_cases hz : s = 0
    · have hz' : (s == 0) = true := by simp [hz]
      have H2 := Lib.hid (show one s = 1 from if_pos hz)
      clear hz
      go_wp2
      go_meet
      exact ⟨by rw [H2.out], rfl⟩
    · have hz' : (s == 0) = false := by simp [hz]
      have H2 := Lib.hid (show one s = s from if_neg hz)
      clear hz
      go_wp2
      go_meet
      exact ⟨by rw [H2.out], rfl⟩
  case rest =>
    obtain ⟨rfl, rfl⟩ := hcut
    have hu := u_one H1.out
    have h0 := hu.1
    have h1 := hu.2
    clear hu
    go_wp2
    go_ret
    exact ⟨by rw [H.out]; rfl, rfl⟩

theorem value_r (s : Int) (hs : U s) (w : World) : Calls Try.prog 167 #[.int .u64 s] w fun e w' => e = .returned (.int .u32 (va s)) ∧ w = w' := by
  have hv := va_range s
  have H := Lib.hid hv
  have H2 := Lib.hid (show va s = IntKind.u64.wrap (nx s * 2685821657736338717) / 4294967296 from rfl)
  clear hv
  have H1 := Lib.hid hs
  clear hs
  go_enter Try.func167, Try.ntmps167
  go_wp2_with (go_at_call 115; go_call (next_r _ H1.out _) as e w' ⟨rfl, rfl⟩)
  go_ret
  refine ⟨?_, rfl⟩
  have := H.out
  rw [show va s = va s % 4294967296 from by omega]
  rfl

set_option maxRecDepth 100000 in
theorem below_r (s n : Int) (hs : U s) (hn : n ≤ 9223372036854775807) (w : World) : Calls Try.prog 130 #[.int .u64 s, .int .i64 n] w fun e w' => e = .returned (.tuple #[.int .i64 (be s n), .int .u64 (bs s n)]) ∧ Below w.heap.size w w' := by
  by_cases h : n < 1
  · have H := Lib.hid (show be s n = 0 from if_pos h)
    have H2 := Lib.hid (show bs s n = s from if_pos h)
    go_enter Try.func130, Try.ntmps130
    go_wp2
    go_ret2
    exact ⟨by rw [H.out, H2.out]; rfl, Below.refl _ _⟩
  · have H := Lib.hid (show be s n = va s % n from if_neg h)
    have H2 := Lib.hid (show bs s n = nx s from if_neg h)
    have h' : 1 ≤ n := by omega
    have hz : ¬ n = 0 := by omega
    clear h
    have hv := va_range s
    have h0 := hv.1
    have h1 : va s ≤ 4294967295 := by omega
    clear hv
    have hw : IntKind.i64.wrap (va s) = va s := IntWalk.i64_in _ (by omega)
    have HM := Lib.hid (Int.tmod_eq_emod_of_nonneg (b := n) h0)
    have H1 := Lib.hid hs
    clear hs
    go_enter Try.func130, Try.ntmps130
    go_wp2
    go_region_held3 (fun _ => True) (trivial) (first | (go_at_call 115; go_call (next_r _ H1.out _) as e w' ⟨rfl, rfl⟩) | (go_at_call 167; go_call (value_r _ H1.out _) as e w' ⟨rfl, rfl⟩))
    go_wp2
    go_ret2
    exact ⟨by rw [H.out, H2.out]; exact ret2 HM.out rfl, (Below.refl _ _).drew⟩

end Go.Proofs.Ytncdicagadbafaa.MixV
