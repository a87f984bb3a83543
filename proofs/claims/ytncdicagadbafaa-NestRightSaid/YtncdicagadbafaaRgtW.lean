/- nest.Right's parts: the test of one number, slices.IndexFunc and ContainsFunc of it, nest.ends. Conditions: the lists of a world can be read. -/
import Derived.Test.YtncdicagadbafaaValR
namespace Go.Proofs.Ytncdicagadbafaa.RgtW
open Go Go.RowKit NestP NestW NestX NestY ValP ValW ValX ValR Sq

/-- Is a number outside? -/
def out (n : Nat) (x : Int) : Bool := decide (x < 0) || decide ((n : Int) ≤ x)
theorem out_eq {n : Nat} {x : Int} {b : Bool} (h : (decide (x < 0) || decide ((n : Int) ≤ x)) = b) : out n x = b := h

theorem clo_i (x : Int) (n B : Nat) (w : World) (hc : w.cell? ⟨B, 0, none⟩ = some (.int .i64 (n : Int))) :
    Calls Try.prog 140 #[.int .i64 x, .pointer (some ⟨B, 0, none⟩)] w fun e w' => e = .returned (.bool (out n x)) ∧ w = w' := by
  by_cases h : x < 0
  · have t0 : decide (x < 0) = true := decide_eq_true h
    have E := Lib.hid (show out n x = true by unfold out; simp [h])
    clear h
    go_enter Try.func140, Try.ntmps140
    go_wp2_with fail
    go_ret
    exact ⟨by rw [E.out]; rfl, rfl⟩
  · have t0 : decide (x < 0) = false := decide_eq_false h
    by_cases h2 : (n : Int) ≤ x
    · have t1 : decide ((n : Int) ≤ x) = true := decide_eq_true h2
      have E := Lib.hid (show out n x = true by unfold out; simp [h2])
      clear h h2
      go_enter Try.func140, Try.ntmps140
      go_wp2_with fail
      go_ret
      exact ⟨by rw [E.out]; rfl, rfl⟩
    · have t1 : decide ((n : Int) ≤ x) = false := decide_eq_false h2
      have E := Lib.hid (show out n x = false by unfold out; simp [h, h2])
      clear h h2
      go_enter Try.func140, Try.ntmps140
      go_wp2_with fail
      go_ret
      exact ⟨by rw [E.out]; rfl, rfl⟩

/-- What IndexFunc tells: a place from 0 on if one is outside; else -1. -/
def Ix (b : Bool) (w : World) (e : Ending) (w' : World) : Prop := ∃ r : Int, decide (0 ≤ r) = b ∧ e = .returned (.int .i64 r) ∧ w = w'
set_option maxRecDepth 100000 in
theorem ixf_i (A : Option Addr) (m c n B : Nat) (l : List Int) (w : World) (hr : Rd I w A m l) (hm : m ≤ 17592186044416) (hc : w.cell? ⟨B, 0, none⟩ = some (.int .i64 (n : Int))) :
    Calls Try.prog 171 #[.slice A m c, .func (.func 140) #[] #[.pointer (some ⟨B, 0, none⟩)]] w (Ix (l.any (out n)) w) := by
  have HR := Lib.hid hr
  clear hr
  go_enter Try.func171, Try.ntmps171
  go_wp2_with fail
  go_loop [8] (fun i => ∃ k : Nat, k ≤ m ∧ i = .int .i64 (k : Int) ∧ (l.take k).any (out n) = false) (fun i => m - (intOf i).toNat)
  case atStart => exact ⟨0, Nat.zero_le _, rfl, rfl⟩
  case round =>
    obtain ⟨k, hk, rfl, ht⟩ := hrel
    have HT := Lib.hid ht
    clear ht
    by_cases hlt : k < m
    · obtain ⟨b, o, rfl, hb, hl, hcell⟩ := HR.out.at_ hlt
      have k0 : (0 : Int) ≤ (k : Int) := by omega
      have k1 : (k : Int) < (m : Int) := by omega
      have HS := Lib.hid (show (l.take (k + 1)).any (out n) = out n l[k] by rw [List.take_succ_eq_append_getElem hl, List.any_append, HT.out]; simp)
      have HA := Lib.hid (show out n l[k] = true → l.any (out n) = true from fun h => List.any_eq_true.2 ⟨l[k], List.getElem_mem hl, h⟩)
      obtain ⟨x, hx⟩ : ∃ x, l[k] = x := ⟨_, rfl⟩
      rw [hx] at hcell HS HA
      unfold I at hcell
      clear hx hl
      cases hq : out n x with
      | false =>
        have HQ := Lib.hid hq
        clear hq
        go_wp2_with (go_at_call 140; refine (clo_i _ n B _ hc).mono ?_; rintro e w' ⟨rfl, rfl⟩; rw [HQ.out])
        go_round
        case rel => exact ⟨k + 1, by omega, by go_num, by rw [HS.out, HQ.out]⟩
        case measure => simp [intOf]; omega
      | true =>
        have HQ := Lib.hid hq
        clear hq
        go_wp2_with (go_at_call 140; refine (clo_i _ n B _ hc).mono ?_; rintro e w' ⟨rfl, rfl⟩; rw [HQ.out])
        go_ret
        exact ⟨(k : Int), by rw [HA.out HQ.out]; simp, rfl, rfl⟩
    · have hkm : k = m := by omega
      have HF := Lib.hid (show l.any (out n) = false by rw [← HT.out, List.take_of_length_le (by rw [← HR.out.len]; omega)])
      clear hkm
      go_wp2_with fail
      go_ret
      exact ⟨-1, by rw [HF.out]; rfl, rfl, rfl⟩
set_option maxRecDepth 100000 in
theorem ctf_i (A : Option Addr) (m c n B : Nat) (l : List Int) (w : World) (hr : Rd I w A m l) (hm : m ≤ 17592186044416) (hc : w.cell? ⟨B, 0, none⟩ = some (.int .i64 (n : Int))) :
    Calls Try.prog 139 #[.slice A m c, .func (.func 140) #[] #[.pointer (some ⟨B, 0, none⟩)]] w fun e w' => e = .returned (.bool (l.any (out n))) ∧ w = w' := by
  have HR := Lib.hid hr
  clear hr
  obtain ⟨q, hq⟩ : ∃ q, l.any (out n) = q := ⟨_, rfl⟩
  have HQ := Lib.hid hq
  rw [hq]
  clear hq
  go_enter Try.func139, Try.ntmps139
  go_wp2_with (go_at_call 171; refine (ixf_i _ _ _ n B l _ HR.out hm hc).mono ?_; rintro e w' ⟨r, hr0, rfl, rfl⟩; rw [HQ.out] at hr0)
  go_ret
  exact ⟨rfl, rfl⟩

def endsB (pa : List Int) (n : Nat) : Bool := (List.range (n - 1)).all fun i => iter pa n ((i + 1 : Nat) : Int) == 0
set_option maxRecDepth 100000 in
set_option maxHeartbeats 800000 in
theorem ends_i {v0 v2 v3 v4 v5 v6 v7 v8 v9 v10 v11 v12 : Value} {A1 : Option Addr} {n c1 : Nat} (pa : List Int) (w : World) (hp : Rd I w A1 n pa) (hn : n ≤ 17592186044416) (h1 : 1 ≤ n) (hin : ∀ x, 0 ≤ at' pa x ∧ at' pa x < n) :
    Calls Try.prog 142 #[.agg #[v0, .slice A1 n c1, v2, v3, v4, v5, v6, v7, v8, v9, v10, v11, v12]] w fun e w' => e = .returned (.bool (endsB pa n)) ∧ Below w.heap.size w w' := by
  have HP := Lib.hid hp
  have HI := Lib.hid hin
  clear hp hin
  go_enter Try.func142, Try.ntmps142
  go_wp2_with fail
  go_loop [3] (fun xv => ∃ k : Nat, 1 ≤ k ∧ k ≤ n ∧ xv = .int .i64 (k : Int) ∧ ∀ i, i + 1 < k → iter pa n ((i + 1 : Nat) : Int) = 0) (fun xv => n - (intOf xv).toNat)
  case atStart => exact ⟨1, Nat.le_refl _, h1, rfl, fun i hi => by omega⟩
  case round =>
    obtain ⟨k, hk1, hk2, rfl, hall⟩ := hrel
    have HA := Lib.hid hall
    clear hall
    by_cases hlt : k < n
    · have k1 : (k : Int) < (n : Int) := by omega
      go_wp2_with fail
      go_loop [4, 16] (fun u i => ∃ (j m : Nat), j ≤ n ∧ m < n ∧ i = .int .i64 (j : Int) ∧ u = .int .i64 (m : Int) ∧ iter pa (n - j) (m : Int) = iter pa n (k : Int)) (fun _ i => n - (intOf i).toNat)
      case atStart => exact ⟨0, k, Nat.zero_le _, hlt, rfl, rfl, rfl⟩
      case round =>
        obtain ⟨j, m, hj, hm, rfl, rfl, hit⟩ := hrel
        have HT := Lib.hid hit
        clear hit
        by_cases hjn : j < n
        · obtain ⟨b, o, rfl, hb, hl, hcell⟩ := HP.out.at_ hm
          have m0 : (0 : Int) ≤ (m : Int) := by omega
          have m1 : (m : Int) < (n : Int) := by omega
          have HS := Lib.hid (show iter pa (n - (j + 1)) (at' pa (m : Int)) = iter pa n (k : Int) by rw [← HT.out, show n - j = (n - (j + 1)) + 1 by omega]; rfl)
          have hat := at_lt hl
          rw [← hat] at hcell
          obtain ⟨m', hm'⟩ := Int.eq_ofNat_of_zero_le (HI.out (m : Int)).1
          have hm2 : m' < n := by have := (HI.out (m : Int)).2; omega
          rw [hm'] at hcell HS
          unfold I at hcell
          clear hat hm' hl
          go_wp2_with fail
          go_round
          case rel => exact ⟨j + 1, m', by omega, hm2, by go_num, rfl, HS.out⟩
          case measure => simp [intOf]; omega
        · have HF := Lib.hid (show (m : Int) = iter pa n (k : Int) by rw [← HT.out, show n - j = 0 by omega]; rfl)
          have d0 : decide (j < n) = false := decide_eq_false hjn
          by_cases hm0 : m = 0
          · have HZ := Lib.hid (show iter pa n (k : Int) = 0 by rw [← HF.out, hm0]; rfl)
            subst hm0
            go_wp2_with fail
            go_round
            case rel => exact ⟨k + 1, by omega, by omega, by go_num, fun i hi => by
              by_cases h : i + 1 = k
              · rw [h]; exact HZ.out
              · exact HA.out i (by omega)⟩
            case measure => simp [intOf]; omega
          · have HZ := Lib.hid (show endsB pa n = false by
              unfold endsB
              rw [List.all_eq_false]
              refine ⟨k - 1, List.mem_range.2 (by omega), ?_⟩
              rw [show k - 1 + 1 = k by omega, ← HF.out]
              simp
              omega)
            have t0 : ((m : Int) != 0) = true := by simp; omega
            go_wp2_with fail
            go_ret
            exact ⟨by rw [HZ.out]; rfl, (Below.refl _ _).alloc (Nat.le_refl _) _⟩
    · have d0 : decide (k < n) = false := decide_eq_false hlt
      have HZ := Lib.hid (show endsB pa n = true by
        unfold endsB
        rw [List.all_eq_true]
        intro i hi
        have := List.mem_range.1 hi
        rw [HA.out i (by omega)]
        rfl)
      go_wp2_with fail
      go_ret
      exact ⟨by rw [HZ.out]; rfl, (Below.refl _ _).alloc (Nat.le_refl _) _⟩
end Go.Proofs.Ytncdicagadbafaa.RgtW
