/- The small functions of the reference of chapter 29: at, swap, push, behind, where, asked, Same; slices.Equal. Conditions: lengths of 1048576 at most. -/
import Derived.Test.YtmilnfboglhdgaaPeepF
namespace Go.Proofs.Ytmilnfboglhdgaa.PeepG
open Go Go.RowKit NestP NestW Sq ValP ValW ValY PeepP PeepW PeepX PeepY PeepZ PeepC PeepD PeepF

set_option maxRecDepth 100000 in
theorem at_r {A : Option Addr} {n c : Nat} (l : List Ins) (k : Nat) (w : World) (hr : RdI w A n l) (_ : n ≤ 1048576) :
    Calls Try.prog 38 #[.slice A n c, .int .i64 (k : Int)] w fun e w' => e = .returned (.int .i64 (op l k)) ∧ w = w' := by
  have k0 : decide ((k : Int) < 0) = false := decide_eq_false (by omega)
  have k1 : (0 : Int) ≤ (k : Int) := Int.natCast_nonneg _
  by_cases h : k < n
  · obtain ⟨b, o, rfl, hb, hc⟩ := rd_open hr (Nat.lt_of_le_of_lt (Nat.zero_le _) h)
    have c0 := (hc k h).1
    have k2 : (k : Int) < (n : Int) := by omega
    have k3 : decide ((n : Int) ≤ (k : Int)) = false := decide_eq_false (by omega)
    have k4 : decide (n ≤ k) = false := decide_eq_false (by omega)
    clear hr hc hb
    go_enter Try.func38, Try.ntmps38
    go_wp2_with fail
    go_ret
    exact ⟨rfl, rfl⟩
  · have H := Lib.hid (show op l k = 0 from op_none (by rw [← hr.1]; omega))
    have k3 : decide ((n : Int) ≤ (k : Int)) = true := decide_eq_true (by omega)
    have k4 : decide (n ≤ k) = true := decide_eq_true (by omega)
    clear hr h
    go_enter Try.func38, Try.ntmps38
    go_wp2_with fail
    go_ret
    exact ⟨by rw [H.out] <;> rfl, rfl⟩
theorem at_r1 {A : Option Addr} {n c : Nat} (l : List Ins) (k : Nat) (w : World) (hr : RdI w A n l) (hn : n ≤ 1048576) :
    Calls Try.prog 38 #[.slice A n c, .int .i64 ((k : Int) + 1)] w fun e w' => e = .returned (.int .i64 (op l (k + 1))) ∧ w = w' := by
  have h := at_r (c := c) l (k + 1) w hr hn
  rw [show ((k + 1 : Nat) : Int) = (k : Int) + 1 by omega] at h
  exact h
theorem at_r2 {A : Option Addr} {n c : Nat} (l : List Ins) (k : Nat) (w : World) (hr : RdI w A n l) (hn : n ≤ 1048576) :
    Calls Try.prog 38 #[.slice A n c, .int .i64 ((k : Int) + 2)] w fun e w' => e = .returned (.int .i64 (op l (k + 2))) ∧ w = w' := by
  have h := at_r (c := c) l (k + 2) w hr hn
  rw [show ((k + 2 : Nat) : Int) = (k : Int) + 2 by omega] at h
  exact h

set_option maxRecDepth 100000 in
set_option maxHeartbeats 1000000 in
theorem swap_r {A B : Option Addr} {n c m d : Nat} (l b : List Ins) (i k : Nat) (w : World) (hr : RdI w A n l) (hb : RdI w B m b) (hc : n ≤ c) (hi : i + k ≤ n) (hn : n ≤ 1048576) (hm : m ≤ 1048576) :
    Calls Try.prog 40 #[.slice A n c, .int .i64 (i : Int), .int .i64 (k : Int), .slice B m d] w (Gave (swap l i k b) w) := by
  have HR := Lib.hid hr
  have HB := Lib.hid hb
  have HL := Lib.hid (show l.length = n ∧ b.length = m from ⟨hr.1.symm, hb.1.symm⟩)
  have HLT := Lib.hid (show (l.take i).length = i by rw [List.length_take, HL.out.1]; omega)
  have hic : i ≤ c := by omega
  have hx := i64w (x := (i : Int) + (k : Int)) (by omega) (by omega)
  have hs1 : ∀ w0, (Instr.slice 22 (.slice A n c) none (some (.int .i64 (i : Int))) none).run Try.prog w0 = .ok (.slice A i c) w0 := fun w0 => Slic.run_high 22 30 2 Try.underlying22 (by kernel_rfl) A n c i hic w0
  have hs2 : ∀ w0, (Instr.slice 22 (.slice A n c) (some (.int .i64 ((i : Int) + (k : Int)))) none none).run Try.prog w0 = .ok (.slice (Slic.cutAt A c (i + k) 2) (n - (i + k)) (c - (i + k))) w0 := fun w0 => by
    have h := Slic.run_low (P := Try.prog) 22 30 2 Try.underlying22 (by kernel_rfl) A n c (i + k) hi w0
    rw [show ((i + k : Nat) : Int) = (i : Int) + (k : Int) by omega] at h
    exact h
  clear hr hb
  go_enter Try.func40, Try.ntmps40
  go_wp2_with (first
    | (at_builtin; refine Sk.wpList_append elI rfl (.tmp 10) (.tmp 13) rfl rfl (Sk.own_nil w w.heap.size) A i c (l.take i) rfl (HR.out.high i (by omega)) (by simp [maxLen]; omega) (by simp; omega) (Nat.le_refl _) ?_; intro v1 w1 ho hb _ _ _; have HO1 := Lib.hid ho; have HB1 := Lib.hid hb; clear ho hb)
    | (at_builtin; refine Sk.wpList_append elI rfl (.tmp 15) (.tmp 16) rfl rfl HO1.out B m d b rfl (HB.out.below HB1.out) (by simp only [List.nil_append, HLT.out]; simp [maxLen]; omega) (by simp only [List.nil_append, HLT.out]; omega) HB1.out.size ?_; intro v2 w2 ho hb _ _ _; have HO2 := Lib.hid ho; have HB2 := Lib.hid (HB1.out.trans hb); clear ho hb)
    | (at_builtin; refine Sk.wpList_append elI rfl (.tmp 18) (.tmp 23) rfl rfl HO2.out _ _ _ (l.drop (i + k)) rfl ((HR.out.below HB2.out).low InsE_len (i + k) c hi hc) (by simp only [List.nil_append, List.length_append, HLT.out, HL.out.2]; simp [maxLen]; omega) (by simp only [List.nil_append, List.length_append, HLT.out, HL.out.2]; omega) HB2.out.size ?_; intro v3 w3 ho hb _ _ _; have HO3 := Lib.hid ho; have HB3 := Lib.hid (HB2.out.trans hb); clear ho hb))
  go_ret
  exact ⟨v3, rfl, by have h := HO3.out; simpa [swap] using h, HB3.out⟩
theorem push_r (x : Int) (w : World) : Calls Try.prog 50 #[.int .i64 x] w (Gave [(1, wr x)] w) := by
  go_enter Try.func50, Try.ntmps50
  have HO := Lib.hid (show OwnI (w.alloc (.cells #[.int .i64 1, .int .i64 (wr x)] 30)) w.heap.size (.slice (some ⟨w.heap.size, 0, none⟩) 1 1) [(1, wr x)] from Sk.own_lit w [(1, wr x)] _ InsE_len rfl (by simp [maxLen]) (Nat.le_refl _) 1 rfl)
  go_wp2_with (go_at_call 53; refine (wrap_r x w).mono ?_; rintro e w1 ⟨rfl, rfl⟩)
  go_ret
  exact ⟨_, rfl, HO.out, (Below.refl _ _).alloc (Nat.le_refl _) _⟩
theorem neg_r (x : Int) (w : World) : Calls Try.prog 51 #[.int .i64 x] w fun e w' => e = .returned (.int .i64 (wr (-(wr x)))) ∧ w = w' := by
  have h0 := wr_lo x
  have h1 := wr_hi x
  go_enter Try.func51, Try.ntmps51
  go_wp2_with (go_at_call 53; refine (wrap_r _ _).mono ?_; rintro e w1 ⟨rfl, rfl⟩)
  go_ret
  exact ⟨rfl, rfl⟩

set_option maxRecDepth 100000 in
theorem behind_r {A : Option Addr} {n c : Nat} (l : List Ins) (i : Nat) (w : World) (hr : RdI w A n l) (hi : i ≤ n) (hn : n ≤ 1048576) :
    Calls Try.prog 54 #[.slice A n c, .int .i64 (i : Int)] w fun e w' => e = .returned (.int .i64 (past l i : Int)) ∧ w = w' := by
  have HR := Lib.hid hr
  have HL := Lib.hid (show l.length = n from hr.1.symm)
  clear hr
  go_enter Try.func54, Try.ntmps54
  go_wp2_with fail
  go_loop [1] (fun iv => ∃ j : Nat, j ≤ n ∧ iv = .int .i64 (j : Int) ∧ Hid (past l j = past l i)) (fun iv => n - (intOf iv).toNat)
  case atStart => exact ⟨i, hi, rfl, Lib.hid rfl⟩
  case round =>
    obtain ⟨j, hj, rfl, HT⟩ := hrel
    by_cases hlt : j < n
    · obtain ⟨b2, o2, rfl, hb2, hl2, hc2⟩ := HR.out.at_ InsE_len hlt
      have HP := Lib.hid (show past l j = if (l[j].1 == 38) = true then past l (j + 1) else j by
        unfold past labs
        rw [List.drop_eq_getElem_cons hl2, List.takeWhile_cons]
        unfold lab
        split <;> simp <;> omega)
      have c0 : w.cell? ⟨b2, o2 + j * 2, none⟩ = some (.int .i64 l[j].1) := hc2 0 _ rfl
      obtain ⟨z, hz⟩ : ∃ z, l[j].1 = z := ⟨_, rfl⟩
      rw [hz] at c0 HP
      have k0 : (0 : Int) ≤ (j : Int) := by omega
      have k1 : (j : Int) < (n : Int) := by omega
      clear hz hc2 hl2
      cases hz : (z == 38) with
      | true =>
        have HT2 := Lib.hid (show past l (j + 1) = past l i by rw [← HT.out, HP.out, if_pos hz])
        go_wp2_with fail
        go_round
        case rel => exact ⟨j + 1, by omega, by go_num, HT2⟩
        case measure => simp [intOf]; omega
      | false =>
        have HT2 := Lib.hid (show past l i = j by rw [← HT.out, HP.out, if_neg (by rw [hz]; simp)])
        go_wp2_with fail
        go_ret
        exact ⟨by rw [HT2.out] <;> rfl, rfl⟩
    · have HT2 := Lib.hid (show past l i = j by
        rw [← HT.out]
        unfold past labs
        rw [List.drop_of_length_le (by rw [HL.out]; omega)]; simp)
      have t1 : decide ((j : Int) < (n : Int)) = false := by simp; omega
      go_wp2_with fail
      go_ret
      exact ⟨by rw [HT2.out] <;> rfl, rfl⟩
/-- Where the first one stands that p is true of, or -1. -/
def findV (l : List Ins) (p : Ins → Bool) : Int := match l.findIdx? p with | some j => (j : Int) | none => -1
theorem find_here {l : List Ins} {p : Ins → Bool} {j : Nat} (hl : j < l.length) (h : p l[j] = true) (h0 : ∀ x ∈ l.take j, p x = false) : l.findIdx? p = some j := by
  rw [List.findIdx?_eq_some_iff_getElem]
  refine ⟨hl, h, fun k hk => ?_⟩
  have hk2 : k < (l.take j).length := by rw [List.length_take]; omega
  have h1 := h0 _ (List.getElem_mem hk2)
  rw [List.getElem_take] at h1
  rw [h1]; simp
theorem find_not {l : List Ins} {p : Ins → Bool} {j : Nat} (hl : l.length ≤ j) (h0 : ∀ x ∈ l.take j, p x = false) : l.findIdx? p = none := by
  rw [List.findIdx?_eq_none_iff]
  intro x hx
  rw [List.take_of_length_le hl] at h0
  exact h0 x hx
theorem take_more {l : List Ins} {p : Ins → Bool} {j : Nat} (hl : j < l.length) (h : p l[j] = false) (h0 : ∀ x ∈ l.take j, p x = false) : ∀ x ∈ l.take (j + 1), p x = false := by
  intro x hx
  rw [List.take_succ_eq_append_getElem hl, List.mem_append, List.mem_singleton] at hx
  rcases hx with hx | rfl
  · exact h0 x hx
  · exact h
set_option maxRecDepth 100000 in
theorem where_r {A : Option Addr} {n c : Nat} (l : List Ins) (a : Int) (w : World) (hr : RdI w A n l) (hn : n ≤ 1048576) :
    Calls Try.prog 55 #[.slice A n c, .int .i64 a] w fun e w' => e = .returned (.int .i64 (findV l (spot a))) ∧ w = w' := by
  have HR := Lib.hid hr
  have HL := Lib.hid (show l.length = n from hr.1.symm)
  clear hr
  go_enter Try.func55, Try.ntmps55
  go_wp2_with fail
  go_loop [5] (fun iv => ∃ j : Nat, j ≤ n ∧ iv = .int .i64 (j : Int) ∧ Hid (∀ x ∈ l.take j, spot a x = false)) (fun iv => n - (intOf iv).toNat)
  case atStart => exact ⟨0, Nat.zero_le _, rfl, Lib.hid (by simp)⟩
  case round =>
    obtain ⟨j, hj, rfl, HT⟩ := hrel
    by_cases hlt : j < n
    · obtain ⟨b2, o2, rfl, hb2, hl2, hc2⟩ := HR.out.at_ InsE_len hlt
      have HP := Lib.hid (show (spot a l[j] = true → findV l (spot a) = (j : Int)) ∧ (spot a l[j] = false → ∀ x ∈ l.take (j + 1), spot a x = false) from ⟨fun h => by unfold findV; rw [find_here hl2 h HT.out], fun h => take_more hl2 h HT.out⟩)
      have c0 : w.cell? ⟨b2, o2 + j * 2, none⟩ = some (.int .i64 l[j].1) := hc2 0 _ rfl
      have c1 : w.cell? ⟨b2, o2 + j * 2 + 1, none⟩ = some (.int .i64 l[j].2) := hc2 1 _ rfl
      obtain ⟨z, hz⟩ : ∃ z, l[j] = z := ⟨_, rfl⟩
      rw [hz] at c0 c1 HP
      obtain ⟨zo, za⟩ := z
      have k0 : (0 : Int) ≤ (j : Int) := by omega
      have k1 : (j : Int) < (n : Int) := by omega
      clear hz hc2 hl2
      simp only at c0 c1
      cases h38 : (zo == 38) with
      | true =>
        cases ha : (za == a) with
        | true =>
          have HF := Lib.hid (HP.out.1 (by unfold spot; simp only [h38, ha]; rfl))
          go_wp2_with fail
          go_ret
          exact ⟨by rw [HF.out] <;> rfl, rfl⟩
        | false =>
          have HT2 := Lib.hid (HP.out.2 (by unfold spot; simp only [h38, ha]; rfl))
          go_wp2_with fail
          go_round
          case rel => exact ⟨j + 1, by omega, by go_num, HT2⟩
          case measure => simp [intOf]; omega
      | false =>
        have HT2 := Lib.hid (HP.out.2 (by unfold spot; simp only [h38]; rfl))
        go_wp2_with fail
        go_round
        case rel => exact ⟨j + 1, by omega, by go_num, HT2⟩
        case measure => simp [intOf]; omega
    · have HF := Lib.hid (show findV l (spot a) = -1 by unfold findV; rw [find_not (by rw [HL.out]; omega) HT.out])
      have t1 : decide ((j : Int) < (n : Int)) = false := by simp; omega
      go_wp2_with fail
      go_ret
      exact ⟨by rw [HF.out] <;> rfl, rfl⟩
set_option maxRecDepth 100000 in
theorem asked_r {A : Option Addr} {n c : Nat} (l : List Ins) (a : Int) (w : World) (hr : RdI w A n l) (hn : n ≤ 1048576) :
    Calls Try.prog 39 #[.slice A n c, .int .i64 a] w fun e w' => e = .returned (.bool (l.any (asks a))) ∧ w = w' := by
  have HR := Lib.hid hr
  have HL := Lib.hid (show l.length = n from hr.1.symm)
  clear hr
  go_enter Try.func39, Try.ntmps39
  go_wp2_with fail
  go_loop [5] (fun iv => ∃ j : Nat, j ≤ n ∧ iv = .int .i64 (j : Int) ∧ Hid (∀ x ∈ l.take j, asks a x = false)) (fun iv => n - (intOf iv).toNat)
  case atStart => exact ⟨0, Nat.zero_le _, rfl, Lib.hid (by simp)⟩
  case round =>
    obtain ⟨j, hj, rfl, HT⟩ := hrel
    by_cases hlt : j < n
    · obtain ⟨b2, o2, rfl, hb2, hl2, hc2⟩ := HR.out.at_ InsE_len hlt
      have HP := Lib.hid (show (asks a l[j] = true → l.any (asks a) = true) ∧ (asks a l[j] = false → ∀ x ∈ l.take (j + 1), asks a x = false) from ⟨fun h => List.any_eq_true.2 ⟨_, List.getElem_mem hl2, h⟩, fun h => take_more hl2 h HT.out⟩)
      have c0 : w.cell? ⟨b2, o2 + j * 2, none⟩ = some (.int .i64 l[j].1) := hc2 0 _ rfl
      have c1 : w.cell? ⟨b2, o2 + j * 2 + 1, none⟩ = some (.int .i64 l[j].2) := hc2 1 _ rfl
      obtain ⟨z, hz⟩ : ∃ z, l[j] = z := ⟨_, rfl⟩
      rw [hz] at c0 c1 HP
      obtain ⟨zo, za⟩ := z
      have k0 : (0 : Int) ≤ (j : Int) := by omega
      have k1 : (j : Int) < (n : Int) := by omega
      clear hz hc2 hl2
      simp only at c0 c1
      have on : asks a (zo, za) = true → Hid (l.any (asks a) = true) := fun h => Lib.hid (HP.out.1 h)
      have off : asks a (zo, za) = false → Hid (∀ x ∈ l.take (j + 1), asks a x = false) := fun h => Lib.hid (HP.out.2 h)
      have HON := Lib.hid on
      have HOFF := Lib.hid off
      clear on off
      cases h24 : (zo == 24) with
      | true =>
        cases ha : (za == a) with
        | true =>
          have HF := HON.out (by unfold asks jumpsB; simp only [h24, ha]; rfl)
          go_wp2_with fail
          go_ret
          exact ⟨by rw [HF.out] <;> rfl, rfl⟩
        | false =>
          have HT2 := HOFF.out (by unfold asks jumpsB; simp only [h24, ha]; rfl)
          go_wp2_with fail
          go_round
          case rel => exact ⟨j + 1, by omega, by go_num, HT2⟩
          case measure => simp [intOf]; omega
      | false =>
        cases h25 : (zo == 25) with
        | true =>
          cases ha : (za == a) with
          | true =>
            have HF := HON.out (by unfold asks jumpsB; simp only [h24, h25, ha]; rfl)
            go_wp2_with fail
            go_ret
            exact ⟨by rw [HF.out] <;> rfl, rfl⟩
          | false =>
            have HT2 := HOFF.out (by unfold asks jumpsB; simp only [h24, h25, ha]; rfl)
            go_wp2_with fail
            go_round
            case rel => exact ⟨j + 1, by omega, by go_num, HT2⟩
            case measure => simp [intOf]; omega
        | false =>
          have HT2 := HOFF.out (by unfold asks jumpsB; simp only [h24, h25]; rfl)
          go_wp2_with fail
          go_round
          case rel => exact ⟨j + 1, by omega, by go_num, HT2⟩
          case measure => simp [intOf]; omega
    · have HF := Lib.hid (show l.any (asks a) = false by
        rw [List.any_eq_false]
        intro x hx
        have h := HT.out
        rw [List.take_of_length_le (by rw [HL.out]; omega)] at h
        rw [h x hx]; simp)
      have t1 : decide ((j : Int) < (n : Int)) = false := by simp; omega
      go_wp2_with fail
      go_ret
      exact ⟨by rw [HF.out] <;> rfl, rfl⟩
end Go.Proofs.Ytmilnfboglhdgaa.PeepG
