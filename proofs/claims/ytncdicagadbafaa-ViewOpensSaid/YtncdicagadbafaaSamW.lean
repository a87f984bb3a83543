/- clewref02.Same of two readings of one list, clewref19.Same of two readings of one world. Conditions: lengths within the reach. -/
import Derived.Test.YtncdicagadbafaaWorldD
import Derived.Test.YtncdicagadbafaaNestY
namespace Go.Proofs.Ytncdicagadbafaa.SamW
open Go Go.RowKit NestP NestW NestX NestY Sq WorldD

set_option maxRecDepth 100000 in
theorem same_t {A B : Option Addr} {n m ca cb : Nat} (l : List Int) (w : World) (ha : Rd I w A n l) (hb : Rd I w B m l) (hn : n ≤ 17592186044416) :
    Calls Try.prog 47 #[.slice A n ca, .slice B m cb] w fun e w' => e = .returned (.bool true) ∧ ∃ q, w' = w.drewN q := by
  obtain rfl : n = m := ha.len.trans hb.len.symm
  have HA := Lib.hid ha
  have HB := Lib.hid hb
  clear ha hb
  go_enter Try.func47, Try.ntmps47
  go_wp2_with fail
  go_loopw [5] (fun i wr => ∃ k q : Nat, k ≤ n ∧ i = .int .i64 (k : Int) ∧ wr = w.drewN q) (fun i _ => n - (intOf i).toNat)
  case atStart => exact ⟨0, 0, Nat.zero_le _, rfl, rfl⟩
  case round =>
    obtain ⟨k, q, hk, rfl, rfl⟩ := hrel
    by_cases hlt : k < n
    · obtain ⟨b, o, rfl, hb, hl, hc⟩ := HA.out.at_ hlt
      obtain ⟨b', o', rfl, hb', hl', hc'⟩ := HB.out.at_ hlt
      have k0 : (0 : Int) ≤ (k : Int) := by omega
      have k1 : (k : Int) < (n : Int) := by omega
      obtain ⟨x, hx⟩ : ∃ x, l[k] = x := ⟨_, rfl⟩
      rw [hx] at hc hc'
      unfold I at hc hc'
      clear hx hl hl'
      go_wp2_with fail
      go_quiet (fail)
      go_wp2_with fail
      go_roundw
      case rel => exact ⟨k + 1, _, by omega, by go_num, rfl⟩
      case measure => simp [intOf]; omega
    · have hkn : k = n := by omega
      go_wp2_with fail
      go_ret
      exact ⟨rfl, _, rfl⟩

set_option maxRecDepth 100000 in
set_option maxHeartbeats 2000000 in
theorem wsame_t {v v' : Value} (g : Wd) (w : World) (ha : Wo w v g) (hb : Wo w v' g) :
    Calls Try.prog 31 #[v, v'] w fun e w' => e = .returned (.bool true) ∧ Below w.heap.size w w' := by
  obtain ⟨A0, A1, A2, A3, A4, A5, A6, n0, c0, n1, c1, n2, c2, n3, c3, n4, c4, n5, c5, n6, c6, rfl, ⟨r0, r1, r2, r3, r4, r5, r6⟩, ru, ⟨rw0, rw1, rw2, rw3, rw4⟩, ⟨rb0, rb1, rb2, rb3, rb4, rb5, rb6⟩⟩ := ha
  obtain ⟨B0, B1, B2, B3, B4, B5, B6, m0, d0, m1, d1, m2, d2, m3, d3, m4, d4, m5, d5, m6, d6, rfl, ⟨s0, s1, s2, s3, s4, s5, s6⟩, su, ⟨sw0, sw1, sw2, sw3, sw4⟩, ⟨sb0, sb1, sb2, sb3, sb4, sb5, sb6⟩⟩ := hb
  have HA0 := Lib.hid r0
  have HB0 := Lib.hid s0
  have HM0 := Lib.hid rb0
  have HA1 := Lib.hid r1
  have HB1 := Lib.hid s1
  have HM1 := Lib.hid rb1
  have HA2 := Lib.hid r2
  have HB2 := Lib.hid s2
  have HM2 := Lib.hid rb2
  have HA3 := Lib.hid r3
  have HB3 := Lib.hid s3
  have HM3 := Lib.hid rb3
  have HA4 := Lib.hid r4
  have HB4 := Lib.hid s4
  have HM4 := Lib.hid rb4
  have HA5 := Lib.hid r5
  have HB5 := Lib.hid s5
  have HM5 := Lib.hid rb5
  have HA6 := Lib.hid r6
  have HB6 := Lib.hid s6
  have HM6 := Lib.hid rb6
  clear r0 s0 rb0 sb0 r1 s1 rb1 sb1 r2 s2 rb2 sb2 r3 s3 rb3 sb3 r4 s4 rb4 sb4 r5 s5 rb5 sb5 r6 s6 rb6 sb6 ru su rw0 sw0 rw1 sw1 rw2 sw2 rw3 sw3 rw4 sw4
  go_enter Try.func31, Try.ntmps31
  go_wp2_with (first | (go_at_call 47; with_reducible refine (same_t (A := A0) (B := B0) _ _ (((HA0.out.alloc _).alloc _)) (((HB0.out.alloc _).alloc _)) (Nat.le_trans HM0.out (by omega))).mono ?_; rintro e w1 ⟨rfl, q, rfl⟩) | (go_at_call 47; with_reducible refine (same_t (A := A1) (B := B1) _ _ ((((HA1.out.alloc _).alloc _).drewN _)) ((((HB1.out.alloc _).alloc _).drewN _)) (Nat.le_trans HM1.out (by omega))).mono ?_; rintro e w1 ⟨rfl, q, rfl⟩) | (go_at_call 47; with_reducible refine (same_t (A := A2) (B := B2) _ _ ((((HA2.out.alloc _).alloc _).drewN _)) ((((HB2.out.alloc _).alloc _).drewN _)) (Nat.le_trans HM2.out (by omega))).mono ?_; rintro e w1 ⟨rfl, q, rfl⟩) | (go_at_call 47; with_reducible refine (same_t (A := A3) (B := B3) _ _ ((((HA3.out.alloc _).alloc _).drewN _)) ((((HB3.out.alloc _).alloc _).drewN _)) (Nat.le_trans HM3.out (by omega))).mono ?_; rintro e w1 ⟨rfl, q, rfl⟩) | (go_at_call 47; with_reducible refine (same_t (A := A4) (B := B4) _ _ ((((HA4.out.alloc _).alloc _).drewN _)) ((((HB4.out.alloc _).alloc _).drewN _)) (Nat.le_trans HM4.out (by omega))).mono ?_; rintro e w1 ⟨rfl, q, rfl⟩) | (go_at_call 47; with_reducible refine (same_t (A := A5) (B := B5) _ _ ((((HA5.out.alloc _).alloc _).drewN _)) ((((HB5.out.alloc _).alloc _).drewN _)) (Nat.le_trans HM5.out (by omega))).mono ?_; rintro e w1 ⟨rfl, q, rfl⟩) | (go_at_call 47; with_reducible refine (same_t (A := A6) (B := B6) _ _ ((((HA6.out.alloc _).alloc _).drewN _)) ((((HB6.out.alloc _).alloc _).drewN _)) (Nat.le_trans HM6.out (by omega))).mono ?_; rintro e w1 ⟨rfl, q, rfl⟩))
  go_ret
  exact ⟨rfl, belowN (((Below.refl _ _).alloc (Nat.le_refl _) _).alloc (by simp) _) _⟩
theorem wo_below {w w' : World} {v : Value} {g : Wd} (h : Wo w v g) (hb : Below w.heap.size w w') : Wo w' v g := by
  obtain ⟨A0, A1, A2, A3, A4, A5, A6, n0, c0, n1, c1, n2, c2, n3, c3, n4, c4, n5, c5, n6, c6, rfl, ⟨r0, r1, r2, r3, r4, r5, r6⟩, ru, ⟨rw0, rw1, rw2, rw3, rw4⟩, ⟨rb0, rb1, rb2, rb3, rb4, rb5, rb6⟩⟩ := h
  exact ⟨A0, A1, A2, A3, A4, A5, A6, n0, c0, n1, c1, n2, c2, n3, c3, n4, c4, n5, c5, n6, c6, rfl, ⟨r0.below hb, r1.below hb, r2.below hb, r3.below hb, r4.below hb, r5.below hb, r6.below hb⟩, ru, ⟨rw0, rw1, rw2, rw3, rw4⟩, ⟨rb0, rb1, rb2, rb3, rb4, rb5, rb6⟩⟩
end Go.Proofs.Ytncdicagadbafaa.SamW
