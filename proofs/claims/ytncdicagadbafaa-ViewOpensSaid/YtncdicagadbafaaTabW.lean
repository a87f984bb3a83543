/- The small functions of clewref19 that read api.Tables: from, thing, text, routine, values, words, bits; clewref01.Is. Conditions: the tables read. -/
import Derived.Test.YtncdicagadbafaaTabD
import Derived.Test.YtncdicagadbafaaValR
namespace Go.Proofs.Ytncdicagadbafaa.TabW
open Go Go.RowKit NestP NestW NestX NestY ValR Sq WorldD TabD

def fromB (n lo hi : Int) : Bool := decide (lo ≤ n) && decide (n ≤ hi)
def isV (n : Int) : Bool := fromB n (-32768) 32767
def thingB (t : TbV) (n : Int) : Bool := fromB n 1 ((t.th.n : Int) - 1)
def textB (t : TbV) (n : Int) (no : Bool) : Bool := fromB n 0 ((t.tx.n : Int) - 1) || (no && (n == -1))
def routB (t : TbV) (n : Int) (no : Bool) : Bool := (no && (n == -1)) || (fromB n 0 ((t.pm.n : Int) - 1) && (at' t.pm.l n == 0))
def bitsF (n : Int) : Int := 2 ^ (min n.toNat 16)
theorem fromB_iff {n lo hi : Int} : fromB n lo hi = true ↔ lo ≤ n ∧ n ≤ hi := by unfold fromB; simp

theorem from_i (n lo hi : Int) (w : World) : Calls Try.prog 94 #[.int .i64 n, .int .i64 lo, .int .i64 hi] w fun e w' => e = .returned (.bool (fromB n lo hi)) ∧ w = w' := by
  obtain ⟨a, ha⟩ : ∃ a, decide (lo ≤ n) = a := ⟨_, rfl⟩
  obtain ⟨b, hb⟩ : ∃ b, decide (n ≤ hi) = b := ⟨_, rfl⟩
  rw [show fromB n lo hi = (a && b) by unfold fromB; rw [ha, hb]]
  cases a <;> cases b
  all_goals
    go_enter Try.func94, Try.ntmps94
    go_wp2_with fail
    go_ret
    exact ⟨rfl, rfl⟩
theorem isV_i (n : Int) (w : World) : Calls Try.prog 93 #[.int .i64 n] w fun e w' => e = .returned (.bool (isV n)) ∧ w = w' := by
  obtain ⟨a, ha⟩ : ∃ a, decide (-32768 ≤ n) = a := ⟨_, rfl⟩
  obtain ⟨b, hb⟩ : ∃ b, decide (n ≤ 32767) = b := ⟨_, rfl⟩
  rw [show isV n = (a && b) by unfold isV fromB; rw [ha, hb]]
  cases a <;> cases b
  all_goals
    go_enter Try.func93, Try.ntmps93
    go_wp2_with fail
    go_ret
    exact ⟨rfl, rfl⟩
set_option maxRecDepth 100000 in
set_option maxHeartbeats 1000000 in
theorem thing_i (t : TbV) (n : Int) (w : World) (hr : TbR w t) :
    Calls Try.prog 147 #[.agg #[.int .i64 t.ti, .int .i64 t.au, .int .i64 t.rl, .int .i64 t.mx, .slice t.tx.a t.tx.n t.tx.c, .int .i64 t.fl, .slice t.pr.a t.pr.n t.pr.c, .slice t.gl.a t.gl.n t.gl.c, .slice t.th.a t.th.n t.th.c, .slice t.ac.a t.ac.n t.ac.c, .slice t.de.a t.de.n t.de.c, .slice t.fu.a t.fu.n t.fu.c, .slice t.da.a t.da.n t.da.c, .slice t.pm.a t.pm.n t.pm.c, .slice t.lo.a t.lo.n t.lo.c], .int .i64 n] w fun e w' => e = .returned (.bool (thingB t n)) ∧ Below w.heap.size w w' := by
  have bth : t.th.n ≤ 9223372036854775807 := by have h1 := hr.2.2.2.1.1; have h2 := hr.2.2.2.1.2.1; unfold maxLen at h2; omega
  have HQ := Lib.hid (show fromB n 1 ((t.th.n : Int) - 1) = thingB t n from rfl)
  clear hr
  go_enter Try.func147, Try.ntmps147
  go_wp2_with (go_at_call 94; refine (from_i _ _ _ _).mono ?_; rintro e w1 ⟨rfl, rfl⟩; rw [HQ.out])
  go_ret
  exact ⟨rfl, by go_grown⟩
set_option maxRecDepth 100000 in
set_option maxHeartbeats 1000000 in
theorem text_i (t : TbV) (n : Int) (no : Bool) (w : World) (hr : TbR w t) :
    Calls Try.prog 143 #[.agg #[.int .i64 t.ti, .int .i64 t.au, .int .i64 t.rl, .int .i64 t.mx, .slice t.tx.a t.tx.n t.tx.c, .int .i64 t.fl, .slice t.pr.a t.pr.n t.pr.c, .slice t.gl.a t.gl.n t.gl.c, .slice t.th.a t.th.n t.th.c, .slice t.ac.a t.ac.n t.ac.c, .slice t.de.a t.de.n t.de.c, .slice t.fu.a t.fu.n t.fu.c, .slice t.da.a t.da.n t.da.c, .slice t.pm.a t.pm.n t.pm.c, .slice t.lo.a t.lo.n t.lo.c], .int .i64 n, .bool no] w fun e w' => e = .returned (.bool (textB t n no)) ∧ Below w.heap.size w w' := by
  have btx : t.tx.n ≤ 9223372036854775807 := by have h1 := hr.1.1; have h2 := hr.1.2.1; unfold maxLen at h2; omega
  obtain ⟨q, hq⟩ : ∃ q, fromB n 0 ((t.tx.n : Int) - 1) = q := ⟨_, rfl⟩
  obtain ⟨b, hb⟩ : ∃ b, (n == (-1 : Int)) = b := ⟨_, rfl⟩
  rw [show textB t n no = (q || (no && b)) by unfold textB; rw [hq, hb]]
  have HQ := Lib.hid hq
  clear hr hq
  cases q <;> cases no <;> cases b
  all_goals
    go_enter Try.func143, Try.ntmps143
    go_wp2_with (go_at_call 94; refine (from_i _ _ _ _).mono ?_; rintro e w1 ⟨rfl, rfl⟩; rw [HQ.out])
    go_ret
    exact ⟨rfl, by go_grown⟩
set_option maxRecDepth 100000 in
set_option maxHeartbeats 1000000 in
theorem rout_i (t : TbV) (n : Int) (no : Bool) (w : World) (hr : TbR w t) :
    Calls Try.prog 152 #[.agg #[.int .i64 t.ti, .int .i64 t.au, .int .i64 t.rl, .int .i64 t.mx, .slice t.tx.a t.tx.n t.tx.c, .int .i64 t.fl, .slice t.pr.a t.pr.n t.pr.c, .slice t.gl.a t.gl.n t.gl.c, .slice t.th.a t.th.n t.th.c, .slice t.ac.a t.ac.n t.ac.c, .slice t.de.a t.de.n t.de.c, .slice t.fu.a t.fu.n t.fu.c, .slice t.da.a t.da.n t.da.c, .slice t.pm.a t.pm.n t.pm.c, .slice t.lo.a t.lo.n t.lo.c], .int .i64 n, .bool no] w fun e w' => e = .returned (.bool (routB t n no)) ∧ Below w.heap.size w w' := by
  have bpm : t.pm.n ≤ 9223372036854775807 := by have h1 := hr.2.2.2.2.2.2.2.2.1.1; have h2 := hr.2.2.2.2.2.2.2.2.1.2.1; unfold maxLen at h2; omega
  have HR := Lib.hid hr.2.2.2.2.2.2.2.2.1.2.2
  obtain ⟨q, hq⟩ : ∃ q, fromB n 0 ((t.pm.n : Int) - 1) = q := ⟨_, rfl⟩
  obtain ⟨b, hb⟩ : ∃ b, (n == (-1 : Int)) = b := ⟨_, rfl⟩
  have HQ := Lib.hid hq
  clear hr
  cases q with
  | false =>
    rw [show routB t n no = (no && b) by unfold routB; rw [hq, hb]; simp]
    clear hq
    cases no <;> cases b
    all_goals
      go_enter Try.func152, Try.ntmps152
      go_wp2_with (go_at_call 94; refine (from_i _ _ _ _).mono ?_; rintro e w1 ⟨rfl, rfl⟩; rw [HQ.out])
      go_ret
      exact ⟨rfl, by go_grown⟩
  | true =>
    have hn := fromB_iff.1 hq
    obtain ⟨i, rfl⟩ := Int.eq_ofNat_of_zero_le hn.1
    have i0 : (0 : Int) ≤ (i : Int) := by omega
    have i1 : (i : Int) < (t.pm.n : Int) := by omega
    obtain ⟨bb, o, hA, hlt, hl, hcell⟩ := HR.out.at_ (show i < t.pm.n by omega)
    rw [← at_lt hl] at hcell
    obtain ⟨p, hp⟩ : ∃ p, at' t.pm.l (i : Int) = p := ⟨_, rfl⟩
    obtain ⟨z, hz⟩ : ∃ z, (p == (0 : Int)) = z := ⟨_, rfl⟩
    rw [hp] at hcell
    unfold I at hcell
    rw [show routB t (i : Int) no = ((no && b) || z) by unfold routB; rw [hq, hb, hp, hz]; simp]
    rw [hA]
    clear hq hp hl hn hA
    cases no <;> cases b <;> cases z
    all_goals
      go_enter Try.func152, Try.ntmps152
      go_wp2_with (go_at_call 94; refine (from_i _ _ _ _).mono ?_; rintro e w1 ⟨rfl, rfl⟩; rw [HQ.out])
      go_ret
      exact ⟨rfl, by go_grown⟩

def valuesB (l : List Int) : Bool := l.all isV
set_option maxRecDepth 100000 in
theorem values_i (A : Option Addr) (m c : Nat) (l : List Int) (w : World) (hr : Sq.Rd I w A m l) (hm : m ≤ 9223372036854775807) :
    Calls Try.prog 90 #[.slice A m c] w fun e w' => e = .returned (.bool (valuesB l)) ∧ w = w' := by
  have HR := Lib.hid hr
  clear hr
  go_enter Try.func90, Try.ntmps90
  go_wp2_with fail
  go_loop [3] (fun i => ∃ k : Nat, k ≤ m ∧ i = .int .i64 (k : Int) ∧ Hid (valuesB (l.take k) = true)) (fun i => m - (intOf i).toNat)
  case atStart => exact ⟨0, Nat.zero_le _, rfl, Lib.hid rfl⟩
  case round =>
    obtain ⟨k, hk, rfl, HT⟩ := hrel
    by_cases hlt : k < m
    · obtain ⟨b, o, rfl, hb, hl, hcell⟩ := HR.out.at_ hlt
      have k0 : (0 : Int) ≤ (k : Int) := by omega
      have k1 : (k : Int) < (m : Int) := by omega
      have HS := Lib.hid (show valuesB (l.take (k + 1)) = isV l[k] by rw [List.take_succ_eq_append_getElem hl]; unfold valuesB; rw [List.all_append]; have := HT.out; unfold valuesB at this; rw [this]; simp)
      have HA := Lib.hid (show isV l[k] = false → valuesB l = false from fun h => by unfold valuesB; rw [List.all_eq_false]; exact ⟨l[k], List.getElem_mem hl, by rw [h]; simp⟩)
      obtain ⟨x, hx⟩ : ∃ x, l[k] = x := ⟨_, rfl⟩
      rw [hx] at hcell HS HA
      unfold I at hcell
      clear hx hl
      obtain ⟨q, hq⟩ : ∃ q, isV x = q := ⟨_, rfl⟩
      have HQ := Lib.hid hq
      clear hq
      cases q with
      | true =>
        go_wp2_with (go_at_call 93; refine (isV_i _ _).mono ?_; rintro e w' ⟨rfl, rfl⟩; rw [HQ.out])
        go_round
        case rel => exact ⟨k + 1, by omega, by go_num, Lib.hid (by rw [HS.out, HQ.out])⟩
        case measure => simp [intOf]; omega
      | false =>
        go_wp2_with (go_at_call 93; refine (isV_i _ _).mono ?_; rintro e w' ⟨rfl, rfl⟩; rw [HQ.out])
        go_ret
        exact ⟨by rw [HA.out HQ.out]; rfl, rfl⟩
    · have hkm : k = m := by omega
      have HF := Lib.hid (show valuesB l = true by rw [← HT.out, List.take_of_length_le (by rw [← HR.out.len]; omega)])
      clear hkm
      go_wp2_with fail
      go_ret
      exact ⟨by rw [HF.out]; rfl, rfl⟩

theorem two_step {n : Nat} (h : n < 16) : (2 : Int) * 2 ^ n = 2 ^ (n + 1) ∧ (2 : Int) ^ n ≤ 32768 ∧ (0 : Int) < 2 ^ n := by
  have h' : n = 0 ∨ n = 1 ∨ n = 2 ∨ n = 3 ∨ n = 4 ∨ n = 5 ∨ n = 6 ∨ n = 7 ∨ n = 8 ∨ n = 9 ∨ n = 10 ∨ n = 11 ∨ n = 12 ∨ n = 13 ∨ n = 14 ∨ n = 15 := by omega
  rcases h' with rfl | rfl | rfl | rfl | rfl | rfl | rfl | rfl | rfl | rfl | rfl | rfl | rfl | rfl | rfl | rfl <;> decide
set_option maxRecDepth 100000 in
theorem bits_i (n : Int) (w : World) : Calls Try.prog 92 #[.int .i64 n] w fun e w' => e = .returned (.int .i64 (bitsF n)) ∧ w = w' := by
  go_enter Try.func92, Try.ntmps92
  go_wp2_with fail
  go_loop [3, 4] (fun p i => ∃ (k : Nat) (x : Int), k ≤ min n.toNat 16 ∧ i = .int .i64 (k : Int) ∧ p = .int .i64 x ∧ Hid (x = 2 ^ k)) (fun _ i => 16 - (intOf i).toNat)
  case atStart => exact ⟨0, 1, Nat.zero_le _, rfl, rfl, Lib.hid rfl⟩
  case round =>
    obtain ⟨k, x, hk, rfl, rfl, HX⟩ := hrel
    by_cases h1 : k < min n.toNat 16
    · have t0 : decide ((k : Int) < n) = true := decide_eq_true (by omega)
      have t1 : decide ((k : Int) < 16) = true := decide_eq_true (by omega)
      obtain ⟨h2, h3, h4⟩ := two_step (show k < 16 by omega)
      have hx1 : 0 < x := by rw [HX.out]; exact h4
      have hx2 : x ≤ 32768 := by rw [HX.out]; exact h3
      have HY := Lib.hid (show 2 * x = 2 ^ (k + 1) by rw [HX.out]; exact h2)
      clear h2 h3 h4
      go_wp2_with fail
      go_round
      case rel => exact ⟨k + 1, 2 * x, by omega, by go_num, rfl, HY⟩
      case measure => simp [intOf]; omega
    · have HF := Lib.hid (show x = bitsF n by unfold bitsF; rw [HX.out]; congr 1; omega)
      by_cases h2 : (k : Int) < n
      · have t0 : decide ((k : Int) < n) = true := decide_eq_true h2
        have t1 : decide ((k : Int) < 16) = false := decide_eq_false (by omega)
        go_wp2_with fail
        go_ret
        exact ⟨by rw [← HF.out]; rfl, rfl⟩
      · have t0 : decide ((k : Int) < n) = false := decide_eq_false h2
        go_wp2_with fail
        go_ret
        exact ⟨by rw [← HF.out]; rfl, rfl⟩
end Go.Proofs.Ytncdicagadbafaa.TabW
