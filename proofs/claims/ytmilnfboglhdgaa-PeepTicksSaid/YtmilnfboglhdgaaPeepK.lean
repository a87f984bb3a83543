/- Same, All, Best of the reference of chapter 29; slices.Equal over instructions; All, Best of the program. Conditions: lengths of 4096 at most. -/
import Derived.Test.YtmilnfboglhdgaaPeepJ
namespace Go.Proofs.Ytmilnfboglhdgaa.PeepK
open Go Go.RowKit NestP NestW Sq ValP ValW ValY ValZ PeepP PeepW PeepX PeepY PeepZ PeepC PeepD PeepF PeepG PeepH PeepI PeepJ

theorem eq_step {a b : List Ins} {j : Nat} (ha : j < a.length) (hb : j < b.length) (h : a[j] = b[j]) (h0 : a.take j = b.take j) : a.take (j + 1) = b.take (j + 1) := by
  rw [List.take_succ_eq_append_getElem ha, List.take_succ_eq_append_getElem hb, h0, h]
theorem ins_ne {x y : Ins} (h : x ≠ y) : (x.1 == y.1) = false ∨ ((x.1 == y.1) = true ∧ (x.2 == y.2) = false) := by
  obtain ⟨a, b⟩ := x
  obtain ⟨c, d⟩ := y
  by_cases h1 : a = c
  · right
    refine ⟨by simpa using h1, ?_⟩
    simp only [beq_eq_false_iff_ne]
    intro h2
    exact h (by rw [h1, h2])
  · left
    simpa using h1
set_option maxRecDepth 100000 in
set_option maxHeartbeats 1000000 in
theorem same_r {A B : Option Addr} {n c m d : Nat} (a b : List Ins) (w : World) (ha : RdI w A n a) (hb : RdI w B m b) (hn : n ≤ 1048576) (hm : m ≤ 1048576) :
    Calls Try.prog 8 #[.slice A n c, .slice B m d] w fun e w' => e = .returned (.bool (decide (a = b))) ∧ Below w.heap.size w w' := by
  have HA := Lib.hid ha
  have HB := Lib.hid hb
  have HL := Lib.hid (show a.length = n ∧ b.length = m from ⟨ha.1.symm, hb.1.symm⟩)
  clear ha hb
  by_cases hnm : n = m
  · subst hnm
    have t1 : ((n : Int) != (n : Int)) = false := by simp
    go_enter Try.func8, Try.ntmps8
    go_wp2_with fail
    go_loopw [5] (fun iv wr => ∃ j : Nat, j ≤ n ∧ iv = .int .i64 (j : Int) ∧ Hid (a.take j = b.take j) ∧ Below w.heap.size w wr) (fun iv _ => n - (intOf iv).toNat)
    case atStart => exact ⟨0, Nat.zero_le _, rfl, Lib.hid (by simp), Below.refl _ _⟩
    case round =>
      obtain ⟨j, hj, rfl, HT, hbw⟩ := hrel
      have HBW := Lib.hid hbw
      by_cases hlt : j < n
      · obtain ⟨b1, o1, rfl, hb1, hl1, hc1⟩ := (HA.out.below hbw).at_ InsE_len hlt
        obtain ⟨b2, o2, rfl, hb2, hl2, hc2⟩ := (HB.out.below hbw).at_ InsE_len hlt
        have k0 : (0 : Int) ≤ (j : Int) := by omega
        have k1 : (j : Int) < (n : Int) := by omega
        have HE := Lib.hid (show a[j] = b[j] → a.take (j + 1) = b.take (j + 1) from fun h => eq_step hl1 hl2 h HT.out)
        have HNE := Lib.hid (show a[j] ≠ b[j] → decide (a = b) = false from fun h => decide_eq_false (fun e => h (by subst e; rfl)))
        obtain ⟨x, hx⟩ : ∃ x, a[j] = x := ⟨_, rfl⟩
        obtain ⟨y, hy⟩ : ∃ y, b[j] = y := ⟨_, rfl⟩
        have c0 : wr.cell? ⟨b1, o1 + j * 2, none⟩ = some (.int .i64 x.1) := by rw [← hx]; exact hc1 0 _ rfl
        have c1 : wr.cell? ⟨b1, o1 + j * 2 + 1, none⟩ = some (.int .i64 x.2) := by rw [← hx]; exact hc1 1 _ rfl
        have d0 : wr.cell? ⟨b2, o2 + j * 2, none⟩ = some (.int .i64 y.1) := by rw [← hy]; exact hc2 0 _ rfl
        have d1 : wr.cell? ⟨b2, o2 + j * 2 + 1, none⟩ = some (.int .i64 y.2) := by rw [← hy]; exact hc2 1 _ rfl
        rw [hx, hy] at HE HNE
        clear hx hy hc1 hc2 hl1 hl2 hb1 hb2 hbw
        by_cases hxy : x = y
        · subst hxy
          have HT2 := Lib.hid (HE.out rfl)
          go_upto_region 6 with fail
          go_quiet (fail)
          go_wp2_with fail
          go_roundw
          case rel => exact ⟨j + 1, by omega, by go_num, HT2, belowN HBW.out _⟩
          case measure => simp [intOf]; omega
        · have HF := Lib.hid (HNE.out hxy)
          rcases ins_ne hxy with h1 | ⟨h1, h2⟩
          · clear hxy
            go_upto_region 6 with fail
            go_quiet (fail)
            go_wp2_with fail
            go_ret
            exact ⟨by rw [HF.out] <;> rfl, belowN HBW.out _⟩
          · clear hxy
            go_upto_region 6 with fail
            go_quiet (fail)
            go_wp2_with fail
            go_ret
            exact ⟨by rw [HF.out] <;> rfl, belowN HBW.out _⟩
      · have HF := Lib.hid (show decide (a = b) = true from decide_eq_true (by
          have h := HT.out
          rw [List.take_of_length_le (by rw [HL.out.1]; omega), List.take_of_length_le (by rw [HL.out.2]; omega)] at h
          exact h))
        have t2 : decide ((j : Int) < (n : Int)) = false := decide_eq_false (by omega)
        clear hbw
        go_wp2_with fail
        go_ret
        exact ⟨by rw [HF.out] <;> rfl, HBW.out⟩
  · have HF := Lib.hid (show decide (a = b) = false from decide_eq_false (fun e => hnm (by rw [← HL.out.1, ← HL.out.2, e])))
    have t1 : ((n : Int) != (m : Int)) = true := by simp; omega
    have t2 : ((n : Int) == (m : Int)) = false := by simp; omega
    clear hnm
    go_enter Try.func8, Try.ntmps8
    go_wp2_with fail
    go_ret
    exact ⟨by rw [HF.out] <;> rfl, Below.refl _ _⟩
set_option maxRecDepth 100000 in
set_option maxHeartbeats 1000000 in
theorem equal_i {A B : Option Addr} {n c m d : Nat} (a b : List Ins) (w : World) (ha : RdI w A n a) (hb : RdI w B m b) (hn : n ≤ 1048576) (hm : m ≤ 1048576) :
    Calls Try.prog 20 #[.slice A n c, .slice B m d] w fun e w' => e = .returned (.bool (decide (a = b))) ∧ Below w.heap.size w w' := by
  have HA := Lib.hid ha
  have HB := Lib.hid hb
  have HL := Lib.hid (show a.length = n ∧ b.length = m from ⟨ha.1.symm, hb.1.symm⟩)
  clear ha hb
  by_cases hnm : n = m
  · subst hnm
    have t1 : ((n : Int) != (n : Int)) = false := by simp
    go_enter Try.func20, Try.ntmps20
    go_wp2_with fail
    go_loopw [13] (fun iv wr => ∃ j : Nat, j ≤ n ∧ iv = .int .i64 (j : Int) ∧ Hid (a.take j = b.take j) ∧ Below w.heap.size w wr) (fun iv _ => n - (intOf iv).toNat)
    case atStart => exact ⟨0, Nat.zero_le _, rfl, Lib.hid (by simp), Below.refl _ _⟩
    case round =>
      obtain ⟨j, hj, rfl, HT, hbw⟩ := hrel
      have HBW := Lib.hid hbw
      by_cases hlt : j < n
      · obtain ⟨b1, o1, rfl, hb1, hl1, hc1⟩ := (HA.out.below hbw).at_ InsE_len hlt
        obtain ⟨b2, o2, rfl, hb2, hl2, hc2⟩ := (HB.out.below hbw).at_ InsE_len hlt
        have k0 : (0 : Int) ≤ (j : Int) := by omega
        have k1 : (j : Int) < (n : Int) := by omega
        have HE := Lib.hid (show a[j] = b[j] → a.take (j + 1) = b.take (j + 1) from fun h => eq_step hl1 hl2 h HT.out)
        have HNE := Lib.hid (show a[j] ≠ b[j] → decide (a = b) = false from fun h => decide_eq_false (fun e => h (by subst e; rfl)))
        obtain ⟨x, hx⟩ : ∃ x, a[j] = x := ⟨_, rfl⟩
        obtain ⟨y, hy⟩ : ∃ y, b[j] = y := ⟨_, rfl⟩
        have c0 : wr.cell? ⟨b1, o1 + j * 2, none⟩ = some (.int .i64 x.1) := by rw [← hx]; exact hc1 0 _ rfl
        have c1 : wr.cell? ⟨b1, o1 + j * 2 + 1, none⟩ = some (.int .i64 x.2) := by rw [← hx]; exact hc1 1 _ rfl
        have d0 : wr.cell? ⟨b2, o2 + j * 2, none⟩ = some (.int .i64 y.1) := by rw [← hy]; exact hc2 0 _ rfl
        have d1 : wr.cell? ⟨b2, o2 + j * 2 + 1, none⟩ = some (.int .i64 y.2) := by rw [← hy]; exact hc2 1 _ rfl
        rw [hx, hy] at HE HNE
        clear hx hy hc1 hc2 hl1 hl2 hb1 hb2 hbw
        by_cases hxy : x = y
        · subst hxy
          have HT2 := Lib.hid (HE.out rfl)
          go_upto_region 6 with fail
          go_quiet (fail)
          go_wp2_with fail
          go_roundw
          case rel => exact ⟨j + 1, by omega, by go_num, HT2, belowN HBW.out _⟩
          case measure => simp [intOf]; omega
        · have HF := Lib.hid (HNE.out hxy)
          rcases ins_ne hxy with h1 | ⟨h1, h2⟩
          · clear hxy
            go_upto_region 6 with fail
            go_quiet (fail)
            go_wp2_with fail
            go_ret
            exact ⟨by rw [HF.out] <;> rfl, belowN HBW.out _⟩
          · clear hxy
            go_upto_region 6 with fail
            go_quiet (fail)
            go_wp2_with fail
            go_ret
            exact ⟨by rw [HF.out] <;> rfl, belowN HBW.out _⟩
      · have HF := Lib.hid (show decide (a = b) = true from decide_eq_true (by
          have h := HT.out
          rw [List.take_of_length_le (by rw [HL.out.1]; omega), List.take_of_length_le (by rw [HL.out.2]; omega)] at h
          exact h))
        have t2 : decide ((j : Int) < (n : Int)) = false := decide_eq_false (by omega)
        clear hbw
        go_wp2_with fail
        go_ret
        exact ⟨by rw [HF.out] <;> rfl, HBW.out⟩
  · have HF := Lib.hid (show decide (a = b) = false from decide_eq_false (fun e => hnm (by rw [← HL.out.1, ← HL.out.2, e])))
    have t1 : ((n : Int) != (m : Int)) = true := by simp; omega
    have t2 : ((n : Int) == (m : Int)) = false := by simp; omega
    clear hnm
    go_enter Try.func20, Try.ntmps20
    go_wp2_with fail
    go_ret
    exact ⟨by rw [HF.out] <;> rfl, Below.refl _ _⟩
/-- A slice that holds what is yet to be made better. -/
def Cur (l : List Ins) (N : Nat) (j : Nat) (w : World) (mv : Value) (wr : World) : Prop := ∃ (cur : List Ins) (A : Option Addr) (c : Nat), mv = .slice A cur.length c ∧ cur.length ≤ c ∧ c ≤ maxLen ∧ cur.length ≤ l.length ∧ RdI wr A cur.length cur ∧ all (N - j) cur = all N l ∧ Below w.heap.size w wr
theorem all_done {l : List Ins} (h : once l = none) : ∀ k, all k l = l
  | 0 => rfl
  | k + 1 => by rw [all, h]
theorem all_step {l m : List Ins} (h : once l = some m) {N j : Nat} (hj : j < N) : all (N - j) l = all (N - (j + 1)) m := by
  rw [show N - j = N - (j + 1) + 1 by omega, all, h]
theorem ranges {n N j : Nat} (hn : n ≤ 4096) (hN : N = 16 * n) (hj : j < N) : (0 : Int) ≤ (j : Int) ∧ (j : Int) < (N : Int) ∧ IntKind.i64.wrap ((j : Int) + 1) = (j : Int) + 1 := by
  refine ⟨by omega, by omega, ?_⟩
  rw [IntKind.wrap_i64]; omega
set_option maxRecDepth 100000 in
set_option maxHeartbeats 1000000 in
theorem All_i {A : Option Addr} {n c : Nat} (l : List Ins) (w : World) (hr : RdI w A n l) (hc : n ≤ c) (hcm : c ≤ maxLen) (hn : n ≤ 4096) :
    Calls Try.prog 13 #[.slice A n c] w (Gave (all (16 * l.length) l) w) := by
  obtain rfl := hr.1
  have HR := Lib.hid hr
  clear hr
  obtain ⟨N, hN⟩ : ∃ N, 16 * l.length = N := ⟨_, rfl⟩
  have HN := Lib.hid hN
  have hw16 := i64w (x := 16 * (l.length : Int)) (by omega) (by omega)
  have hcast : 16 * (l.length : Int) = (N : Int) := by omega
  rw [hN]
  rw [hcast] at hw16
  obtain ⟨n, hnl⟩ : ∃ n, l.length = n := ⟨_, rfl⟩
  have HNL := Lib.hid hnl
  have C0 := Lib.hid (show Cur l N 0 w (.slice A l.length c) w from ⟨l, A, c, rfl, hc, hcm, Nat.le_refl _, HR.out, rfl, Below.refl _ _⟩)
  rw [hnl] at hcast C0 hn ⊢
  clear hN
  go_enter Try.func13, Try.ntmps13
  go_wp2_with fail
  clear hcast hw16 hnl
  go_loopw [3, 9] (fun mv iv wr => ∃ j : Nat, j ≤ N ∧ iv = .int .i64 (j : Int) ∧ Cur l N j w mv wr) (fun _ iv _ => N - (intOf iv).toNat)
  case atStart => exact ⟨0, Nat.zero_le _, rfl, C0.out⟩
  case round =>
    obtain ⟨j, hj, rfl, cur, A1, c1, rfl, h1, h2, h3, h4, h5, h6⟩ := hrel
    have HRc := Lib.hid h4
    have HBc := Lib.hid h6
    have H5 := Lib.hid h5
    have H3 := Lib.hid (show cur.length ≤ 1048576 by rw [HNL.out] at h3; omega)
    have H3a := Lib.hid h3
    have H2 := Lib.hid h2
    obtain ⟨k, hk⟩ : ∃ k, cur.length = k := ⟨_, rfl⟩
    have HK := Lib.hid hk
    have GO := Lib.hid (once_i (c := c1) cur wr h4 h1 H3.out)
    have GC := Lib.hid (fun (U : World) (h : Below wr.heap.size wr U) => clone_i (c := c1) cur U (h4.below h) H3.out)
    have GE := Lib.hid (clone_i (c := c1) cur wr h4 H3.out)
    rw [hk] at h1 GO GC GE ⊢
    clear h2 h3 h4 h5 h6 hk
    by_cases hlt : j < N
    · obtain ⟨k0, k1, k2⟩ := ranges hn (show N = 16 * n by rw [← HN.out, HNL.out]) hlt
      cases ho : once cur with
      | none =>
        have HO := Lib.hid ho
        have HA := Lib.hid (show all N l = cur by rw [← H5.out, all_done ho])
        clear ho
        go_wp2_with (first
          | (go_at_call 17; refine GO.out.mono ?_; rintro e w1 ⟨v, rfl, _, hv, hb⟩; obtain rfl := hv HO.out; rw [HO.out]; have HB := Lib.hid hb; clear hb hv)
          | (go_at_call 18; refine (GC.out w1 HB.out).mono ?_; rintro e w2 ⟨v, rfl, ho2, hb⟩; have HV := Lib.hid ho2; have HB2 := Lib.hid (HB.out.trans (hb.mono HB.out.size)); have HB3 := Lib.hid (HBc.out.trans (HB2.out.mono HBc.out.size)); have HS := Lib.hid (Nat.le_trans HBc.out.size HB.out.size); clear ho2 hb))
        go_ret
        exact ⟨v, rfl, by rw [HA.out]; exact HV.out.lower HS.out, HB3.out⟩
      | some m =>
        have HO := Lib.hid ho
        have HM := Lib.hid (once_len ho)
        have HA := Lib.hid (all_step ho hlt)
        clear ho
        go_wp2_with (go_at_call 17; refine GO.out.mono ?_; rintro e w1 ⟨v, rfl, hv, _, hb⟩; rw [HO.out]; have HV := Lib.hid (own_ex (hv m HO.out)); have HB := Lib.hid (HBc.out.trans (hb.mono HBc.out.size)); clear hb hv)
        go_roundw
        case rel =>
          obtain ⟨A2, c2, hv, q1, q2, q3⟩ := HV.out
          exact ⟨j + 1, by omega, by go_num, m, A2, c2, hv, q1, q2, Nat.le_trans HM.out H3a.out, q3, HA.out.symm.trans H5.out, HB.out⟩
        case measure => simp [intOf]; omega
    · obtain rfl : j = N := by omega
      have HA := Lib.hid (show all j l = cur by rw [← H5.out, Nat.sub_self]; rfl)
      go_wp2_with (go_at_call 18; refine GE.out.mono ?_; rintro e w2 ⟨v, rfl, ho2, hb⟩; have HV := Lib.hid ho2; have HB3 := Lib.hid (HBc.out.trans (hb.mono HBc.out.size)); clear ho2 hb)
      go_ret
      exact ⟨v, rfl, by rw [HA.out]; exact HV.out.lower HBc.out.size, HB3.out⟩
set_option maxRecDepth 100000 in
set_option maxHeartbeats 1000000 in
theorem All_r {A : Option Addr} {n c : Nat} (l : List Ins) (w : World) (hr : RdI w A n l) (hc : n ≤ c) (hcm : c ≤ maxLen) (hn : n ≤ 4096) :
    Calls Try.prog 14 #[.slice A n c] w (Reads (all (16 * l.length) l) w) := by
  obtain rfl := hr.1
  have HR := Lib.hid hr
  clear hr
  obtain ⟨N, hN⟩ : ∃ N, 16 * l.length = N := ⟨_, rfl⟩
  have HN := Lib.hid hN
  have hw16 := i64w (x := 16 * (l.length : Int)) (by omega) (by omega)
  have hcast : 16 * (l.length : Int) = (N : Int) := by omega
  rw [hN]
  rw [hcast] at hw16
  obtain ⟨n, hnl⟩ : ∃ n, l.length = n := ⟨_, rfl⟩
  have HNL := Lib.hid hnl
  have C0 := Lib.hid (show Cur l N 0 w (.slice A l.length c) w from ⟨l, A, c, rfl, hc, hcm, Nat.le_refl _, HR.out, rfl, Below.refl _ _⟩)
  rw [hnl] at hcast C0 hn ⊢
  clear hN
  go_enter Try.func14, Try.ntmps14
  go_wp2_with fail
  clear hcast hw16 hnl
  go_loopw [0, 4] (fun mv iv wr => ∃ j : Nat, j ≤ N ∧ iv = .int .i64 (j : Int) ∧ Cur l N j w mv wr) (fun _ iv _ => N - (intOf iv).toNat)
  case atStart => exact ⟨0, Nat.zero_le _, rfl, C0.out⟩
  case round =>
    obtain ⟨j, hj, rfl, cur, A1, c1, rfl, h1, h2, h3, h4, h5, h6⟩ := hrel
    have HRc := Lib.hid h4
    have HBc := Lib.hid h6
    have H5 := Lib.hid h5
    have H3 := Lib.hid (show cur.length ≤ 1048576 by rw [HNL.out] at h3; omega)
    have H3a := Lib.hid h3
    have H12 := Lib.hid (show cur.length ≤ c1 ∧ c1 ≤ maxLen from ⟨h1, h2⟩)
    obtain ⟨k, hk⟩ : ∃ k, cur.length = k := ⟨_, rfl⟩
    have HK := Lib.hid hk
    have GO := Lib.hid (once_r (c := c1) cur wr h4 h1 H3.out)
    rw [hk] at GO ⊢
    clear h1 h2 h3 h4 h5 h6 hk
    by_cases hlt : j < N
    · obtain ⟨k0, k1, k2⟩ := ranges hn (show N = 16 * n by rw [← HN.out, HNL.out]) hlt
      cases ho : once cur with
      | none =>
        have HO := Lib.hid ho
        have HA := Lib.hid (show all N l = cur by rw [← H5.out, all_done ho])
        clear ho
        go_wp2_with (go_at_call 19; refine GO.out.mono ?_; rintro e w1 ⟨v, rfl, _, hv, hb⟩; obtain rfl := hv HO.out; rw [HO.out]; have HB := Lib.hid hb; clear hb hv)
        go_ret
        rw [HA.out]
        exact ⟨A1, c1, by rw [HK.out]; rfl, H12.out.1, H12.out.2, HRc.out.below HB.out, HBc.out.trans (HB.out.mono HBc.out.size)⟩
      | some m =>
        have HO := Lib.hid ho
        have HM := Lib.hid (once_len ho)
        have HA := Lib.hid (all_step ho hlt)
        clear ho
        go_wp2_with (go_at_call 19; refine GO.out.mono ?_; rintro e w1 ⟨v, rfl, hv, _, hb⟩; rw [HO.out]; have HV := Lib.hid (own_ex (hv m HO.out)); have HB := Lib.hid (HBc.out.trans (hb.mono HBc.out.size)); clear hb hv)
        go_roundw
        case rel =>
          obtain ⟨A2, c2, hv, q1, q2, q3⟩ := HV.out
          exact ⟨j + 1, by omega, by go_num, m, A2, c2, hv, q1, q2, Nat.le_trans HM.out H3a.out, q3, HA.out.symm.trans H5.out, HB.out⟩
        case measure => simp [intOf]; omega
    · obtain rfl : j = N := by omega
      have HA := Lib.hid (show all j l = cur by rw [← H5.out, Nat.sub_self]; rfl)
      go_wp2_with fail
      go_ret
      rw [HA.out]
      exact ⟨A1, c1, by rw [HK.out]; rfl, H12.out.1, H12.out.2, HRc.out, HBc.out⟩
set_option maxRecDepth 100000 in
theorem Best_i {A : Option Addr} {n c : Nat} (l : List Ins) (w : World) (hr : RdI w A n l) (hc : n ≤ c) (hn : n ≤ 4096) :
    Calls Try.prog 11 #[.slice A n c] w fun e w' => e = .returned (.bool (decide (l = onceL l))) ∧ Below w.heap.size w w' := by
  have HR := Lib.hid hr
  have GO := Lib.hid (Once_i l w hr hc (by omega))
  have HM := Lib.hid (show (onceL l).length ≤ 4096 by have h := onceL_len l; rw [← hr.1] at h; omega)
  clear hr
  go_enter Try.func11, Try.ntmps11
  go_wp2_with (first
    | (go_at_call 9; refine GO.out.mono ?_; rintro e w1 ⟨v, rfl, ho, hb⟩; have HB := Lib.hid hb; have HV := Lib.hid (own_ex ho); obtain ⟨A1, c1, rfl, _, _, _⟩ := HV.out; have HV2 := Lib.hid ho.rd; clear ho hb)
    | (go_at_call 20; refine (equal_i l (onceL l) w1 (HR.out.below HB.out) HV2.out (by omega) (Nat.le_trans HM.out (by omega))).mono ?_; rintro e w2 ⟨rfl, hb⟩; have HB2 := Lib.hid (HB.out.trans (hb.mono HB.out.size)); clear hb))
  go_ret
  exact ⟨rfl, HB2.out⟩
set_option maxRecDepth 100000 in
theorem Best_r {A : Option Addr} {n c : Nat} (l : List Ins) (w : World) (hr : RdI w A n l) (hc : n ≤ c) (hcm : c ≤ maxLen) (hn : n ≤ 4096) :
    Calls Try.prog 12 #[.slice A n c] w fun e w' => e = .returned (.bool (decide (onceL l = l))) ∧ Below w.heap.size w w' := by
  have HR := Lib.hid hr
  have GO := Lib.hid (Once_r l w hr hc hcm (by omega))
  have HM := Lib.hid (show (onceL l).length ≤ 4096 by have h := onceL_len l; rw [← hr.1] at h; omega)
  clear hr
  go_enter Try.func12, Try.ntmps12
  go_wp2_with (first
    | (go_at_call 10; refine GO.out.mono ?_; rintro e w1 ⟨A1, c1, rfl, _, _, hv, hb⟩; have HB := Lib.hid hb; have HV2 := Lib.hid hv; clear hv hb)
    | (go_at_call 8; refine (same_r (onceL l) l w1 HV2.out (HR.out.below HB.out) (Nat.le_trans HM.out (by omega)) (by omega)).mono ?_; rintro e w2 ⟨rfl, hb⟩; have HB2 := Lib.hid (HB.out.trans (hb.mono HB.out.size)); clear hb))
  go_ret
  exact ⟨rfl, HB2.out⟩
end Go.Proofs.Ytmilnfboglhdgaa.PeepK
