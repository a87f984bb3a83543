/- attr.asked, Has; clewref21.flag, bit, power, Has. Conditions: the world reads; a flag for each thing, from 0 to 65535. -/
import Derived.Test.YtncdicagadbafaaAttrP
import Derived.Test.YtncdicagadbafaaTabX
import Derived.Test.YtncdicagadbafaaCore
namespace Go.Proofs.Ytncdicagadbafaa.AttrW
open Go Go.RowKit NestP NestW NestX NestY ValP ValW ValX ValR Sq WorldD CopP MoveP MvA AttrP TabX MixP Awk AwkP

set_option maxRecDepth 100000 in
set_option maxHeartbeats 1000000 in
theorem asked_i {A0 A1 A2 A3 A4 A5 A6 : Option Addr} {n0 c0 n c1 n2 c2 n3 c3 n4 c4 n5 c5 n6 c6 : Nat} (g : Wd) (x f : Int) (w : World) :
    Calls Try.prog 97 #[.agg #[.slice A0 n0 c0, .slice A1 n c1, .slice A2 n2 c2, .slice A3 n3 c3, .slice A4 n4 c4, .slice A5 n5 c5, .slice A6 n6 c6, .int .u64 g.seed, .int .i64 g.sc, .int .i64 g.tu, .int .i64 g.ov, .int .i64 g.it, .int .i64 g.go], .int .i64 x, .int .i64 f] w fun e w' => e = .returned (.int .i64 (askN n x f)) ∧ Below w.heap.size w w' := by
  obtain ⟨q, hq⟩ : ∃ q, isT n x = q := ⟨_, rfl⟩
  obtain ⟨a, ha⟩ : ∃ a, decide (f < 0) = a := ⟨_, rfl⟩
  obtain ⟨b, hb⟩ : ∃ b, decide (15 < f) = b := ⟨_, rfl⟩
  have HE := Lib.hid (show askN n x f = if q = true then (if a = true ∨ b = true then 5 else 0) else 11 by unfold askN; rw [hq, ← ha, ← hb]; simp only [decide_eq_true_eq])
  have HQ := Lib.hid hq
  clear hq
  cases q <;> cases a <;> cases b
  all_goals
    go_enter Try.func97, Try.ntmps97
    have HX := Lib.hid (Bx.new w #[.slice A0 n0 c0, .slice A1 n c1, .slice A2 n2 c2, .slice A3 n3 c3, .slice A4 n4 c4, .slice A5 n5 c5, .slice A6 n6 c6, .int .u64 g.seed, .int .i64 g.sc, .int .i64 g.tu, .int .i64 g.ov, .int .i64 g.it, .int .i64 g.go] 31)
    obtain ⟨W1, hW1⟩ : ∃ W1, w.alloc (.cells #[.slice A0 n0 c0, .slice A1 n c1, .slice A2 n2 c2, .slice A3 n3 c3, .slice A4 n4 c4, .slice A5 n5 c5, .slice A6 n6 c6, .int .u64 g.seed, .int .i64 g.sc, .int .i64 g.tu, .int .i64 g.ov, .int .i64 g.it, .int .i64 g.go] 31) = W1 := ⟨_, rfl⟩
    rw [hW1] at HX
    obtain ⟨x0, x1, x2, x3, x4, x5, x6, x7, x8, x9, x10, x11, x12, xf⟩ := cells13 HX.out.box
    go_wp2_with (go_at_call 46; refine (is_n _ _).mono ?_; rintro e w1 ⟨rfl, hb1⟩; rw [HQ.out]; have hb2 := Lib.hid (HX.out.on hb1).below)
    go_ret
    exact ⟨by rw [HE.out]; rfl, hb2.out⟩

set_option maxRecDepth 100000 in
set_option maxHeartbeats 1000000 in
theorem flag_i {A0 A1 A2 A3 A4 A5 A6 : Option Addr} {n0 c0 n c1 n2 c2 n3 c3 n4 c4 n5 c5 n6 c6 : Nat} (g : Wd) (x f : Int) (w : World) :
    Calls Try.prog 98 #[.agg #[.slice A0 n0 c0, .slice A1 n c1, .slice A2 n2 c2, .slice A3 n3 c3, .slice A4 n4 c4, .slice A5 n5 c5, .slice A6 n6 c6, .int .u64 g.seed, .int .i64 g.sc, .int .i64 g.tu, .int .i64 g.ov, .int .i64 g.it, .int .i64 g.go], .int .i64 x, .int .i64 f] w fun e w' => e = .returned (.int .i64 (askN n x f)) ∧ Below w.heap.size w w' := by
  obtain ⟨q, hq⟩ : ∃ q, isT n x = q := ⟨_, rfl⟩
  obtain ⟨a, ha⟩ : ∃ a, decide (f < 0) = a := ⟨_, rfl⟩
  obtain ⟨b, hb⟩ : ∃ b, decide (15 < f) = b := ⟨_, rfl⟩
  have HE := Lib.hid (show askN n x f = if q = true then (if a = true ∨ b = true then 5 else 0) else 11 by unfold askN; rw [hq, ← ha, ← hb]; simp only [decide_eq_true_eq])
  have HQ := Lib.hid hq
  clear hq
  cases q <;> cases a <;> cases b
  all_goals
    go_enter Try.func98, Try.ntmps98
    have HX := Lib.hid (Bx.new w #[.slice A0 n0 c0, .slice A1 n c1, .slice A2 n2 c2, .slice A3 n3 c3, .slice A4 n4 c4, .slice A5 n5 c5, .slice A6 n6 c6, .int .u64 g.seed, .int .i64 g.sc, .int .i64 g.tu, .int .i64 g.ov, .int .i64 g.it, .int .i64 g.go] 31)
    obtain ⟨W1, hW1⟩ : ∃ W1, w.alloc (.cells #[.slice A0 n0 c0, .slice A1 n c1, .slice A2 n2 c2, .slice A3 n3 c3, .slice A4 n4 c4, .slice A5 n5 c5, .slice A6 n6 c6, .int .u64 g.seed, .int .i64 g.sc, .int .i64 g.tu, .int .i64 g.ov, .int .i64 g.it, .int .i64 g.go] 31) = W1 := ⟨_, rfl⟩
    rw [hW1] at HX
    obtain ⟨x0, x1, x2, x3, x4, x5, x6, x7, x8, x9, x10, x11, x12, xf⟩ := cells13 HX.out.box
    go_wp2_with (go_at_call 45; refine (is_o _ _).mono ?_; rintro e w1 ⟨rfl, hb1⟩; rw [HQ.out]; have hb2 := Lib.hid (HX.out.on hb1).below)
    go_ret
    exact ⟨by rw [HE.out]; rfl, hb2.out⟩

theorem quo2 {n : Int} (_ : 0 ≤ n) (k : Nat) : (n / 2 ^ k) / 2 = n / 2 ^ (k + 1) := by
  rw [Int.pow_succ, Int.ediv_ediv_of_nonneg (Int.le_of_lt (Int.pow_pos (by omega)))]
set_option maxRecDepth 100000 in
set_option maxHeartbeats 1000000 in
theorem bit_i (n f : Int) (hn : 0 ≤ n ∧ n ≤ 65535) (hf : 0 ≤ f ∧ f ≤ 15) (w : World) :
    Calls Try.prog 99 #[.int .i64 n, .int .i64 f] w fun e w' => e = .returned (.bool (flB n f)) ∧ w = w' := by
  have HN := Lib.hid hn
  clear hn
  obtain ⟨hf0, hf1⟩ := hf
  go_enter Try.func99, Try.ntmps99
  go_wp2_with fail
  go_loop [0, 5] (fun nv i => ∃ (k : Nat) (m : Int), (k : Int) ≤ f ∧ i = .int .i64 (k : Int) ∧ nv = .int .i64 m ∧ Hid (m = n / 2 ^ k) ∧ 0 ≤ m ∧ m ≤ 65535) (fun _ i => f.toNat - (intOf i).toNat)
  case atStart => exact ⟨0, n, hf0, rfl, rfl, Lib.hid (by simp), HN.out.1, HN.out.2⟩
  case round =>
    obtain ⟨k, m, hk, rfl, rfl, HM, hm0, hm1⟩ := hrel
    by_cases hlt : (k : Int) < f
    · have HM2 := Lib.hid (show m / 2 = n / 2 ^ (k + 1) by rw [HM.out]; exact quo2 HN.out.1 k)
      go_wp2_with fail
      go_round
      case rel => exact ⟨k + 1, m / 2, by omega, by go_num, rfl, HM2, by omega, by omega⟩
      case measure => simp [intOf]; omega
    · have hkf : f.toNat = k := by omega
      have HF := Lib.hid (show flB n f = (m % 2 == 1) by unfold flB; rw [hkf, HM.out])
      clear hkf
      have t0 : m.tmod 2 = m % 2 := Int.tmod_eq_emod_of_nonneg hm0
      go_wp2_with fail
      go_ret
      exact ⟨by rw [HF.out] <;> rfl, rfl⟩
set_option maxRecDepth 100000 in
set_option maxHeartbeats 1000000 in
theorem power_i : ∀ (k : Nat), k ≤ 15 → ∀ w : World,
    Calls Try.prog 103 #[.int .i64 (k : Int)] w fun e w' => e = .returned (.int .i64 (2 ^ k)) ∧ w = w'
  | 0, _, w => by
    go_enter Try.func103, Try.ntmps103
    go_wp2_with fail
    go_ret
    exact ⟨rfl, rfl⟩
  | k + 1, hk, w => by
    have HI := Lib.hid (power_i k (by omega))
    have t0 : (((k + 1 : Nat) : Int) == 0) = false := beq_eq_false_iff_ne.2 (by omega)
    have h16 : k = 0 ∨ k = 1 ∨ k = 2 ∨ k = 3 ∨ k = 4 ∨ k = 5 ∨ k = 6 ∨ k = 7 ∨ k = 8 ∨ k = 9 ∨ k = 10 ∨ k = 11 ∨ k = 12 ∨ k = 13 ∨ k = 14 := by omega
    have HP := Lib.hid (show 2 * (2 : Int) ^ k = (2 : Int) ^ (k + 1) by rcases h16 with rfl | rfl | rfl | rfl | rfl | rfl | rfl | rfl | rfl | rfl | rfl | rfl | rfl | rfl | rfl <;> rfl)
    have hpb : (1 : Int) ≤ 2 ^ k ∧ (2 : Int) ^ k ≤ 16384 := by rcases h16 with rfl | rfl | rfl | rfl | rfl | rfl | rfl | rfl | rfl | rfl | rfl | rfl | rfl | rfl | rfl <;> decide
    clear h16
    obtain ⟨p, hp⟩ : ∃ p, (2 : Int) ^ k = p := ⟨_, rfl⟩
    rw [hp] at HP HI hpb
    obtain ⟨hp0, hp1⟩ := hpb
    clear hp
    go_enter Try.func103, Try.ntmps103
    go_wp2_with (go_at_call 103; refine (HI.out _).mono ?_; rintro e w1 ⟨rfl, rfl⟩)
    go_ret
    exact ⟨by rw [← HP.out] <;> rfl, rfl⟩

set_option maxRecDepth 100000 in
set_option maxHeartbeats 2000000 in
theorem has_r {v : Value} (g : Wd) (x f : Int) (w : World) (ho : Wo w v g) (hF : Fl g) :
    Calls Try.prog 26 #[v, .int .i64 x, .int .i64 f] w fun e w' => e = .returned (.tuple #[.bool (hasB g x f), .int .i64 (askN g.n x f)]) ∧ Below w.heap.size w w' := by
  obtain ⟨A0, A1, A2, A3, A4, A5, A6, n0, c0, n, c1, n2, c2, n3, c3, n4, c4, n5, c5, n6, c6, rfl, ⟨r0, r1, r2, r3, r4, r5, r6⟩, hu, hw, hb⟩ := ho
  have hg : g.n = n := r1.len.symm
  have hn4 : n4 = n := r4.len.trans (hF.1.trans hg)
  have HR := Lib.hid r4
  have HB := Lib.hid (hF.at_ x)
  have hbn : n ≤ 17592186043904 := hb.2.1
  clear r0 r1 r2 r3 r4 r5 r6 hu hw hb hF
  obtain rfl : n = n4 := hn4.symm
  rw [hg]
  obtain ⟨E, hE⟩ : ∃ E, askN n x f = E := ⟨_, rfl⟩
  have HE := Lib.hid hE
  have hEE : (E ≠ 0) ∨ E = 0 := (Decidable.em (E = 0)).symm
  have HH := Lib.hid (show hasB g x f = (decide (E = 0) && flB (at' g.fl x) f) by unfold hasB; rw [hg, hE])
  clear hg
  rw [hE, HH.out]
  rcases hEE with hne | rfl
  · have t0 : (E != (0 : Int)) = true := by simpa using hne
    have t1 : decide (E = 0) = false := decide_eq_false hne
    rw [t1]
    clear hE hne t1
    go_enter Try.func26, Try.ntmps26
    have HX := Lib.hid (Bx.new w #[.slice A0 n0 c0, .slice A1 n c1, .slice A2 n2 c2, .slice A3 n3 c3, .slice A4 n c4, .slice A5 n5 c5, .slice A6 n6 c6, .int .u64 g.seed, .int .i64 g.sc, .int .i64 g.tu, .int .i64 g.ov, .int .i64 g.it, .int .i64 g.go] 31)
    obtain ⟨W1, hW1⟩ : ∃ W1, w.alloc (.cells #[.slice A0 n0 c0, .slice A1 n c1, .slice A2 n2 c2, .slice A3 n3 c3, .slice A4 n c4, .slice A5 n5 c5, .slice A6 n6 c6, .int .u64 g.seed, .int .i64 g.sc, .int .i64 g.tu, .int .i64 g.ov, .int .i64 g.it, .int .i64 g.go] 31) = W1 := ⟨_, rfl⟩
    rw [hW1] at HX
    obtain ⟨x0, x1, x2, x3, x4, x5, x6, x7, x8, x9, x10, x11, x12, xf⟩ := cells13 HX.out.box
    go_wp2_with (go_at_call 98; refine (flag_i g _ _ _).mono ?_; rintro e w1 ⟨rfl, hb⟩; rw [HE.out]; have HX2 := Lib.hid (HX.out.on hb); clear HX hb; have HX := HX2; clear HX2; clear x0 x1 x2 x3 x4 x5 x6 x7 x8 x9 x10 x11 x12 xf; obtain ⟨x0, x1, x2, x3, x4, x5, x6, x7, x8, x9, x10, x11, x12, xf⟩ := cells13 HX.out.box)
    go_ret2
    exact ⟨rfl, HX.out.below⟩
  · obtain ⟨hx, hf0, hf1⟩ := ask_ok.1 hE
    obtain ⟨k, b, o, rfl, hk1, hk2, rfl, hbb, hcell⟩ := at_cell HR.out hx
    obtain ⟨m, hm⟩ : ∃ m, at' g.fl (k : Int) = m := ⟨_, rfl⟩
    rw [hm] at hcell HB
    rw [hm]
    have HC := Lib.hid hcell
    have HR2 := Lib.hid (show (decide ((0 : Int) = 0) && flB m f) = flB m f by simp)
    rw [HR2.out]
    have k0 : (0 : Int) ≤ (k : Int) := by omega
    have k1 : (k : Int) < (n : Int) := by omega
    obtain ⟨hm0, hm1⟩ := HB.out
    clear hE hx hm hcell HH
    go_enter Try.func26, Try.ntmps26
    have HX := Lib.hid (Bx.new w #[.slice A0 n0 c0, .slice A1 n c1, .slice A2 n2 c2, .slice A3 n3 c3, .slice (some ⟨b, o, none⟩) n c4, .slice A5 n5 c5, .slice A6 n6 c6, .int .u64 g.seed, .int .i64 g.sc, .int .i64 g.tu, .int .i64 g.ov, .int .i64 g.it, .int .i64 g.go] 31)
    obtain ⟨W1, hW1⟩ : ∃ W1, w.alloc (.cells #[.slice A0 n0 c0, .slice A1 n c1, .slice A2 n2 c2, .slice A3 n3 c3, .slice (some ⟨b, o, none⟩) n c4, .slice A5 n5 c5, .slice A6 n6 c6, .int .u64 g.seed, .int .i64 g.sc, .int .i64 g.tu, .int .i64 g.ov, .int .i64 g.it, .int .i64 g.go] 31) = W1 := ⟨_, rfl⟩
    rw [hW1] at HX
    obtain ⟨x0, x1, x2, x3, x4, x5, x6, x7, x8, x9, x10, x11, x12, xf⟩ := cells13 HX.out.box
    go_wp2_with (first
      | (go_at_call 98; refine (flag_i g _ _ _).mono ?_; rintro e w1 ⟨rfl, hb⟩; rw [HE.out]; have HX2 := Lib.hid (HX.out.on hb); clear HX hb; have HX := HX2; clear HX2; clear x0 x1 x2 x3 x4 x5 x6 x7 x8 x9 x10 x11 x12 xf; obtain ⟨x0, x1, x2, x3, x4, x5, x6, x7, x8, x9, x10, x11, x12, xf⟩ := cells13 HX.out.box; have hc := (HX.out.below.cell (p := ⟨b, o + k, none⟩) hbb).trans HC.out)
      | (go_at_call 99; refine (bit_i _ _ ⟨hm0, hm1⟩ ⟨hf0, hf1⟩ _).mono ?_; rintro e w1 ⟨rfl, rfl⟩))
    go_ret2
    exact ⟨rfl, HX.out.below⟩

set_option maxRecDepth 100000 in
set_option maxHeartbeats 2000000 in
theorem has_i {v : Value} (g : Wd) (x f : Int) (w : World) (ho : Wo w v g) (hF : Fl g) :
    Calls Try.prog 25 #[v, .int .i64 x, .int .i64 f] w fun e w' => e = .returned (.tuple #[.bool (hasB g x f), .int .i64 (askN g.n x f)]) ∧ Below w.heap.size w w' := by
  obtain ⟨A0, A1, A2, A3, A4, A5, A6, n0, c0, n, c1, n2, c2, n3, c3, n4, c4, n5, c5, n6, c6, rfl, ⟨r0, r1, r2, r3, r4, r5, r6⟩, hu, hw, hb⟩ := ho
  have hg : g.n = n := r1.len.symm
  have hn4 : n4 = n := r4.len.trans (hF.1.trans hg)
  have HR := Lib.hid r4
  have HB := Lib.hid (hF.at_ x)
  have hbn : n ≤ 17592186043904 := hb.2.1
  clear r0 r1 r2 r3 r4 r5 r6 hu hw hb hF
  obtain rfl : n = n4 := hn4.symm
  rw [hg]
  obtain ⟨E, hE⟩ : ∃ E, askN n x f = E := ⟨_, rfl⟩
  have HE := Lib.hid hE
  have hEE : (E ≠ 0) ∨ E = 0 := (Decidable.em (E = 0)).symm
  have HH := Lib.hid (show hasB g x f = (decide (E = 0) && flB (at' g.fl x) f) by unfold hasB; rw [hg, hE])
  clear hg
  rw [hE, HH.out]
  rcases hEE with hne | rfl
  · have t0 : (E != (0 : Int)) = true := by simpa using hne
    have t1 : decide (E = 0) = false := decide_eq_false hne
    rw [t1]
    clear hE hne t1
    go_enter Try.func25, Try.ntmps25
    have HX := Lib.hid (Bx.new w #[.slice A0 n0 c0, .slice A1 n c1, .slice A2 n2 c2, .slice A3 n3 c3, .slice A4 n c4, .slice A5 n5 c5, .slice A6 n6 c6, .int .u64 g.seed, .int .i64 g.sc, .int .i64 g.tu, .int .i64 g.ov, .int .i64 g.it, .int .i64 g.go] 31)
    obtain ⟨W1, hW1⟩ : ∃ W1, w.alloc (.cells #[.slice A0 n0 c0, .slice A1 n c1, .slice A2 n2 c2, .slice A3 n3 c3, .slice A4 n c4, .slice A5 n5 c5, .slice A6 n6 c6, .int .u64 g.seed, .int .i64 g.sc, .int .i64 g.tu, .int .i64 g.ov, .int .i64 g.it, .int .i64 g.go] 31) = W1 := ⟨_, rfl⟩
    rw [hW1] at HX
    obtain ⟨x0, x1, x2, x3, x4, x5, x6, x7, x8, x9, x10, x11, x12, xf⟩ := cells13 HX.out.box
    go_wp2_with (go_at_call 97; refine (asked_i g _ _ _).mono ?_; rintro e w1 ⟨rfl, hb⟩; rw [HE.out]; have HX2 := Lib.hid (HX.out.on hb); clear HX hb; have HX := HX2; clear HX2; clear x0 x1 x2 x3 x4 x5 x6 x7 x8 x9 x10 x11 x12 xf; obtain ⟨x0, x1, x2, x3, x4, x5, x6, x7, x8, x9, x10, x11, x12, xf⟩ := cells13 HX.out.box)
    go_ret2
    exact ⟨rfl, HX.out.below⟩
  · obtain ⟨hx, hf0, hf1⟩ := ask_ok.1 hE
    obtain ⟨k, b, o, rfl, hk1, hk2, rfl, hbb, hcell⟩ := at_cell HR.out hx
    obtain ⟨m, hm⟩ : ∃ m, at' g.fl (k : Int) = m := ⟨_, rfl⟩
    rw [hm] at hcell HB
    rw [hm]
    have HC := Lib.hid hcell
    have HR2 := Lib.hid (show (decide ((0 : Int) = 0) && flB m f) = flB m f by simp)
    rw [HR2.out]
    have k0 : (0 : Int) ≤ (k : Int) := by omega
    have k1 : (k : Int) < (n : Int) := by omega
    obtain ⟨hm0, hm1⟩ := HB.out
    clear hE hx hm hcell HH
    go_enter Try.func25, Try.ntmps25
    have HX := Lib.hid (Bx.new w #[.slice A0 n0 c0, .slice A1 n c1, .slice A2 n2 c2, .slice A3 n3 c3, .slice (some ⟨b, o, none⟩) n c4, .slice A5 n5 c5, .slice A6 n6 c6, .int .u64 g.seed, .int .i64 g.sc, .int .i64 g.tu, .int .i64 g.ov, .int .i64 g.it, .int .i64 g.go] 31)
    obtain ⟨W1, hW1⟩ : ∃ W1, w.alloc (.cells #[.slice A0 n0 c0, .slice A1 n c1, .slice A2 n2 c2, .slice A3 n3 c3, .slice (some ⟨b, o, none⟩) n c4, .slice A5 n5 c5, .slice A6 n6 c6, .int .u64 g.seed, .int .i64 g.sc, .int .i64 g.tu, .int .i64 g.ov, .int .i64 g.it, .int .i64 g.go] 31) = W1 := ⟨_, rfl⟩
    rw [hW1] at HX
    obtain ⟨x0, x1, x2, x3, x4, x5, x6, x7, x8, x9, x10, x11, x12, xf⟩ := cells13 HX.out.box
    go_wp2_with (first
      | (go_at_call 97; refine (asked_i g _ _ _).mono ?_; rintro e w1 ⟨rfl, hb⟩; rw [HE.out]; have HX2 := Lib.hid (HX.out.on hb); clear HX hb; have HX := HX2; clear HX2; clear x0 x1 x2 x3 x4 x5 x6 x7 x8 x9 x10 x11 x12 xf; obtain ⟨x0, x1, x2, x3, x4, x5, x6, x7, x8, x9, x10, x11, x12, xf⟩ := cells13 HX.out.box; have hc := (HX.out.below.cell (p := ⟨b, o + k, none⟩) hbb).trans HC.out)
      | fail)
    go_ret2
    exact ⟨by rw [← and1 f ⟨hm0, hm1⟩] <;> rfl, HX.out.below⟩

end Go.Proofs.Ytncdicagadbafaa.AttrW
