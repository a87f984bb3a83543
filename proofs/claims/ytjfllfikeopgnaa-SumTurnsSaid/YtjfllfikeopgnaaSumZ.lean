/- The walks that lay a sum behind bytes, and take it away. -/
import Derived.Test.YtjfllfikeopgnaaSumY
import Derived.Lib.SliceRun
namespace Go.Proofs.Ytjfllfikeopgnaa.SumZ
open Go Go.RowKit SumP Sq SumW SumX SumY

theorem byte_enc (n : Nat) : encB (UInt8.ofNat n) = .int .u8 ((n : Int) % 256) := by
  unfold encB
  rw [UInt8.toNat_ofNat']
  congr 1

theorem own_up {w1 w2 : World} {B : Nat} {v : Value} {l : List UInt8} (h : Own encB EB w2 w1.heap.size v l) (hb : B ≤ w1.heap.size) : Own encB EB w2 B v l := h.lower hb

set_option maxRecDepth 100000 in
theorem byte_r (A : Option Addr) (k c : Nat) (l : List UInt8) (m : Nat) (w : World) (hr : Rd encB w A k l) (hk : k ≤ 1073741824) (hm : m ≤ 4294967295) :
    Calls Try.prog 23 #[.slice A k c, .int .i64 (m : Int)] w fun e w' => ∃ v, e = .returned v ∧ Own encB EB w' w.heap.size v (l ++ [UInt8.ofNat m]) ∧ Below w.heap.size w w' := by
  have R := Lib.hid hr
  have L := Lib.hid hr.1
  clear hr
  have hm0 : (0 : Int) ≤ (m : Int) % 256 := by omega
  have hm1 : (m : Int) % 256 < 256 := by omega
  have h0 := Lib.hid (own_lit elB w ([] : List UInt8) #[] rfl (by unfold maxLen; simp) (Nat.le_refl _) 0 rfl)
  have R0 := Lib.hid (R.out.alloc (.cells #[] EB))
  go_enter Try.func23, Try.ntmps23
  go_wp2_with (first
    | (at_builtin; refine wpList_append elB rfl (.tmp 12) (.tmp 13) rfl rfl h0.out A k c l rfl R0.out (by simp [maxLen]; omega) (by simp; omega) (by simp) ?_; rintro v1 w1 hown1 hb1 hg1 ho1; rw [List.nil_append] at hown1; have HO1 := Lib.hid (hown1.alloc (.cells #[.int .u8 ((m : Int) % 256)] EB)); have R1 := Lib.hid (rd_lit (enc := encB) w1 EB [UInt8.ofNat m] #[.int .u8 ((m : Int) % 256)] (by rw [List.map_cons, byte_enc]; rfl) 1 rfl); clear hown1 hg1 ho1; have hz1 := hb1.size; have hle : w.heap.size ≤ w1.heap.size := by (simp at hz1; omega))
    | (at_builtin; refine wpList_append elB rfl (.tmp 14) (.tmp 17) rfl rfl HO1.out (some ⟨w1.heap.size, 0, none⟩) 1 1 [UInt8.ofNat m] rfl R1.out (by rw [← L.out]; simp [maxLen]; omega) (by rw [← L.out]; omega) (by simp; omega) ?_; rintro v2 w2 hown2 hb2 hg2 ho2; have HO2 := Lib.hid hown2; clear hown2 hg2 ho2))
  go_ret
  refine ⟨_, rfl, HO2.out, ?_⟩
  exact ((((Below.refl _ _).alloc (Nat.le_refl _) _).trans hb1).alloc hle _).trans hb2

theorem byte_r' (A : Option Addr) (k c : Nat) (l : List UInt8) (m : Int) (b : UInt8) (w : World) (hr : Rd encB w A k l) (hk : k ≤ 1073741824) (h0 : 0 ≤ m) (hm : m ≤ 4294967295) (hb : UInt8.ofNat m.toNat = b) :
    Calls Try.prog 23 #[.slice A k c, .int .i64 m] w fun e w' => ∃ v, e = .returned v ∧ Own encB EB w' w.heap.size v (l ++ [b]) ∧ Below w.heap.size w w' := by
  have := byte_r A k c l m.toNat w hr hk (by omega)
  rw [hb, Int.toNat_of_nonneg h0] at this
  exact this

theorem q1 (n : Nat) : UInt8.ofNat ((n : Int) / 16777216).toNat = UInt8.ofNat (n / 16777216) := by congr 1
theorem qm (a : Nat) : UInt8.ofNat ((a : Int) % 256).toNat = UInt8.ofNat a := by
  apply UInt8.toNat_inj.1
  rw [UInt8.toNat_ofNat', UInt8.toNat_ofNat']
  omega
theorem q2 (n : Nat) : UInt8.ofNat ((n : Int) / 65536 % 256).toNat = UInt8.ofNat (n / 65536) := qm (n / 65536)
theorem q3 (n : Nat) : UInt8.ofNat ((n : Int) / 256 % 256).toNat = UInt8.ofNat (n / 256) := qm (n / 256)
theorem q4 (n : Nat) : UInt8.ofNat ((n : Int) % 256).toNat = UInt8.ofNat n := qm n

set_option maxRecDepth 100000 in
theorem long_r (A : Option Addr) (k c : Nat) (l : List UInt8) (n : Nat) (w : World) (hr : Rd encB w A k l) (hk : k ≤ 1000000) (hn : n ≤ 4294967295) :
    Calls Try.prog 21 #[.slice A k c, .int .u32 (n : Int)] w fun e w' => ∃ v, e = .returned v ∧ Own encB EB w' w.heap.size v (l ++ quad n) ∧ Below w.heap.size w w' := by
  have R := Lib.hid hr
  have L := Lib.hid hr.1
  clear hr
  go_enter Try.func21, Try.ntmps21
  go_wp2_with fail
  refine (byte_r' A k c l _ _ _ R.out (by omega) (by omega) (by omega) (q1 n)).mono ?_
  rintro e w1 ⟨v1, rfl, hown, hb1⟩
  obtain ⟨A1, c1, rfl, _, _⟩ := hown.shape
  have R1 := Lib.hid hown.rd
  have hk1 : (l ++ [UInt8.ofNat (n / 16777216)]).length ≤ 1000001 := by rw [List.length_append, ← L.out]; simp; omega
  clear hown
  obtain ⟨k1, hk1e⟩ : ∃ k1, (l ++ [UInt8.ofNat (n / 16777216)]).length = k1 := ⟨_, rfl⟩
  rw [hk1e] at R1 hk1 ⊢
  clear hk1e
  go_wp2_with fail
  refine (byte_r' A1 k1 c1 _ _ _ _ R1.out (by omega) (by omega) (by omega) (q2 n)).mono ?_
  rintro e w2 ⟨v2, rfl, hown, hb2⟩
  obtain ⟨A2, c2, rfl, _, _⟩ := hown.shape
  have R2 := Lib.hid hown.rd
  have hk2 : (l ++ [UInt8.ofNat (n / 16777216)] ++ [UInt8.ofNat (n / 65536)]).length ≤ 1000002 := by rw [List.length_append, List.length_append, ← L.out]; simp; omega
  clear hown
  obtain ⟨k2, hk2e⟩ : ∃ k2, (l ++ [UInt8.ofNat (n / 16777216)] ++ [UInt8.ofNat (n / 65536)]).length = k2 := ⟨_, rfl⟩
  rw [hk2e] at R2 hk2 ⊢
  clear hk2e
  go_wp2_with fail
  refine (byte_r' A2 k2 c2 _ _ _ _ R2.out (by omega) (by omega) (by omega) (q3 n)).mono ?_
  rintro e w3 ⟨v3, rfl, hown, hb3⟩
  obtain ⟨A3, c3, rfl, _, _⟩ := hown.shape
  have R3 := Lib.hid hown.rd
  have hk3 : (l ++ [UInt8.ofNat (n / 16777216)] ++ [UInt8.ofNat (n / 65536)] ++ [UInt8.ofNat (n / 256)]).length ≤ 1000003 := by rw [List.length_append, List.length_append, List.length_append, ← L.out]; simp; omega
  clear hown
  obtain ⟨k3, hk3e⟩ : ∃ k3, (l ++ [UInt8.ofNat (n / 16777216)] ++ [UInt8.ofNat (n / 65536)] ++ [UInt8.ofNat (n / 256)]).length = k3 := ⟨_, rfl⟩
  rw [hk3e] at R3 hk3 ⊢
  clear hk3e
  go_wp2_with fail
  refine (byte_r' A3 k3 c3 _ _ _ _ R3.out (by omega) (by omega) (by omega) (q4 n)).mono ?_
  rintro e w4 ⟨v4, rfl, hown, hb4⟩
  have HO := Lib.hid hown
  clear hown
  go_wp2_with fail
  go_ret
  have hs1 := hb1.size
  have hs2 := hb2.size
  have hs3 := hb3.size
  refine ⟨_, rfl, ?_, Sq.join (Sq.join (Sq.join hb1 hb2) hb3) hb4⟩
  have := HO.out.lower (C := w.heap.size) (by omega)
  simpa [quad] using this

set_option maxRecDepth 100000 in
theorem behind_i (A1 A2 : Option Addr) (n1 c1 n2 c2 : Nat) (l1 l2 : List UInt8) (w : World) (r1 : Rd encB w A1 n1 l1) (r2 : Rd encB w A2 n2 l2) (hn1 : n1 ≤ 1073741824) (hn2 : n2 ≤ 1073741824) :
    Calls Try.prog 24 #[.slice A1 n1 c1, .slice A2 n2 c2] w fun e w' => ∃ v, e = .returned v ∧ Own encB EB w' w.heap.size v (l1 ++ l2) ∧ Below w.heap.size w w' := by
  have hb0 : Below w.heap.size w (w.alloc (.cells #[.slice A1 n1 c1, .slice A2 n2 c2] 22)) := (Below.refl _ _).alloc (Nat.le_refl _) _
  have R1 := Lib.hid (r1.below hb0)
  have R2 := Lib.hid (r2.below hb0)
  have HB0 := Lib.hid hb0
  clear r1 r2 hb0
  go_enter Try.func24, Try.ntmps24
  go_wp2_with fail
  refine (concat2 w.heap.size A1 A2 n1 c1 n2 c2 l1 l2 _ (by simp) (by exact cell_of_row _ _ 0 #[.slice A1 n1 c1, .slice A2 n2 c2] 22 (0, 0) (heap_alloc_last _ _)) (by exact cell_of_row _ _ 1 #[.slice A1 n1 c1, .slice A2 n2 c2] 22 (0, 0) (heap_alloc_last _ _)) R1.out R2.out hn1 hn2).mono ?_
  rintro e w1 ⟨v, rfl, hown, hb1⟩
  have HO := Lib.hid hown
  clear hown
  go_wp2_with fail
  go_ret
  exact ⟨_, rfl, HO.out.lower (by simp), HB0.out.trans (hb1.mono (by simp))⟩

set_option maxRecDepth 100000 in
theorem long_i (A : Option Addr) (k c : Nat) (l : List UInt8) (n : Nat) (w : World) (hr : Rd encB w A k l) (hk : k ≤ 1000000) (hn : n ≤ 4294967295) :
    Calls Try.prog 22 #[.slice A k c, .int .u32 (n : Int)] w fun e w' => ∃ v, e = .returned v ∧ Own encB EB w' w.heap.size v (l ++ quad n) ∧ Below w.heap.size w w' := by
  have R := Lib.hid (hr.alloc (.cells #[.int .u8 ((n : Int) / 16777216), .int .u8 ((n : Int) / 65536 % 256), .int .u8 ((n : Int) / 256 % 256), .int .u8 ((n : Int) % 256)] EB))
  have RQ := Lib.hid (rd_lit (enc := encB) w EB (quad n) #[.int .u8 ((n : Int) / 16777216), .int .u8 ((n : Int) / 65536 % 256), .int .u8 ((n : Int) / 256 % 256), .int .u8 ((n : Int) % 256)]
    (by
      unfold quad
      simp only [List.map_cons, List.map_nil, byte_enc]
      have e1 : ((n : Int) / 16777216) = ((n / 16777216 : Nat) : Int) % 256 := by omega
      have e2 : ((n : Int) / 65536 % 256) = ((n / 65536 : Nat) : Int) % 256 := by omega
      have e3 : ((n : Int) / 256 % 256) = ((n / 256 : Nat) : Int) % 256 := by omega
      rw [e1, e2, e3]) 4 rfl)
  clear hr
  go_enter Try.func22, Try.ntmps22
  go_wp2_with fail
  refine (behind_i A (some ⟨w.heap.size, 0, none⟩) k c 4 4 l (quad n) _ R.out RQ.out (by omega) (by omega)).mono ?_
  rintro e w1 ⟨v, rfl, hown, hb1⟩
  have HO := Lib.hid hown
  clear hown
  go_wp2_with fail
  go_ret
  exact ⟨_, rfl, HO.out.lower (by simp), ((Below.refl _ _).alloc (Nat.le_refl _) _).trans (hb1.mono (by simp))⟩

set_option maxRecDepth 100000 in
/-- slices.Clone. -/
theorem clone_i (A : Option Addr) (k c : Nat) (l : List UInt8) (w : World) (hr : Rd encB w A k l) (hk : k ≤ 1073741824) :
    Calls Try.prog 19 #[.slice A k c] w fun e w' => ∃ v, e = .returned v ∧ Own encB EB w' w.heap.size v l ∧ Below w.heap.size w w' := by
  have hnil := fun W => Lib.run_eql_slice_nil (P := Try.prog) W 22 5 A k c 0 0 Try.underlying22
  rcases A with _ | a
  · have hl : l = [] := by
      rcases Nat.eq_zero_or_pos k with h0 | h0
      · exact List.length_eq_zero_iff.1 (by rw [← hr.1]; exact h0)
      · obtain ⟨b, o, e, _⟩ := hr.2 h0; cases e
    subst hl
    clear hr
    go_enter Try.func19, Try.ntmps19
    go_wp2_with fail
    go_ret
    exact ⟨_, rfl, own_nil _ _, Below.refl _ _⟩
  · have h0 := Lib.hid (own_lit elB w ([] : List UInt8) #[] rfl (by unfold maxLen; simp) (Nat.le_refl _) 0 rfl)
    have R0 := Lib.hid (hr.alloc (.cells #[] EB))
    clear hr
    go_enter Try.func19, Try.ntmps19
    go_wp2_with (at_builtin; refine wpList_append elB rfl _ _ rfl rfl h0.out (some a) k c l rfl R0.out (by simp [maxLen]; omega) (by simp; omega) (by simp) ?_; rintro v1 w1 hown1 hb1 hg1 ho1; rw [List.nil_append] at hown1; have HO1 := Lib.hid hown1; clear hown1 hg1 ho1)
    go_ret
    exact ⟨_, rfl, HO1.out, ((Below.refl _ _).alloc (Nat.le_refl _) _).trans hb1⟩

theorem list_ext {a b : List UInt8} (hl : a.length = b.length) (h : ∀ i (hi : i < a.length) (hj : i < b.length), a[i] = b[i]) : a = b := List.ext_getElem hl h

set_option maxRecDepth 100000 in
/-- slices.Equal. -/
theorem equal_i (A1 A2 : Option Addr) (n1 c1 n2 c2 : Nat) (l1 l2 : List UInt8) (w : World) (r1 : Rd encB w A1 n1 l1) (r2 : Rd encB w A2 n2 l2) (hn1 : n1 ≤ 1073741824) :
    Calls Try.prog 20 #[.slice A1 n1 c1, .slice A2 n2 c2] w fun e w' => e = .returned (.bool (decide (l1 = l2))) ∧ Below w.heap.size w w' := by
  have R1 := Lib.hid r1
  have R2 := Lib.hid r2
  by_cases hn : n1 = n2
  · subst hn
    clear r1 r2
    go_enter Try.func20, Try.ntmps20
    go_wp2_with fail
    go_loopw [5, 13] (fun _ i wr => ∃ k : Nat, k ≤ n1 ∧ i = .int .i64 (k : Int) ∧ (∀ i, i < k → l1[i]? = l2[i]?) ∧ ∃ q, wr = w.drewN q) (fun _ i _ => n1 - (intOf i).toNat)
    case atStart => exact ⟨0, Nat.zero_le _, rfl, fun i hi => by omega, 0, rfl⟩
    case round =>
      obtain ⟨k, hk, rfl, hall, q, rfl⟩ := hrel
      have HALL := Lib.hid hall
      clear hall
      by_cases hlt : k < n1
      · obtain ⟨b, o, rfl, hb, hl, hc⟩ := R1.out.at_ hlt
        obtain ⟨b', o', rfl, hb', hl', hc'⟩ := R2.out.at_ hlt
        have k0 : (0 : Int) ≤ (k : Int) := by omega
        have k1 : (k : Int) < (n1 : Int) := by omega
        have HE1 := Lib.hid (List.getElem?_eq_getElem hl)
        have HE2 := Lib.hid (List.getElem?_eq_getElem hl')
        obtain ⟨x, hx⟩ : ∃ x, l1[k] = x := ⟨_, rfl⟩
        obtain ⟨y, hy⟩ : ∃ y, l2[k] = y := ⟨_, rfl⟩
        rw [hx] at hc HE1
        rw [hy] at hc' HE2
        clear hx hy hl hl' hb hb'
        unfold encB at hc hc'
        by_cases hxy : x = y
        · subst hxy
          go_wp2_with fail
          go_quiet (fail)
          go_wp2_with fail
          go_roundw
          case rel =>
            refine ⟨k + 1, by omega, by go_num, fun i hi => ?_, _, rfl⟩
            rcases Nat.lt_or_eq_of_le (Nat.le_of_lt_succ hi) with h | rfl
            · exact HALL.out i h
            · rw [HE1.out, HE2.out]
          case measure => simp [intOf]; omega
        · have hne : ((x.toNat : Int) != (y.toNat : Int)) = true := by
            rw [bne_iff_ne]; intro h; exact hxy (UInt8.toNat_inj.1 (by omega))
          have HF := Lib.hid (show decide (l1 = l2) = false from decide_eq_false fun h => by
            have h1 := HE1.out
            rw [h, HE2.out] at h1
            injection h1 with h1
            exact hxy h1.symm)
          clear hxy
          go_wp2_with fail
          go_quiet (fail)
          go_wp2_with fail
          go_ret
          exact ⟨by rw [HF.out]; rfl, belowN (belowN (Below.refl _ _) _) _⟩
      · have hkn : k = n1 := by omega
        have HT := Lib.hid (show decide (l1 = l2) = true from decide_eq_true (by
          refine List.ext_getElem? fun i => ?_
          rcases Nat.lt_or_ge i k with h | h
          · exact HALL.out i h
          · rw [List.getElem?_eq_none (by rw [← R1.out.1]; omega), List.getElem?_eq_none (by rw [← R2.out.1]; omega)]))
        have d0 : decide (k < n1) = false := by simp; omega
        clear hkn
        go_wp2_with fail
        go_ret
        exact ⟨by rw [HT.out]; rfl, belowN (Below.refl _ _) _⟩
  · have HF := Lib.hid (show decide (l1 = l2) = false from decide_eq_false fun h => by
      have h1 := r1.1
      have h2 := r2.1
      rw [h] at h1
      omega)
    have hne : ((n1 : Int) != (n2 : Int)) = true := by rw [bne_iff_ne]; omega
    clear r1 r2 hn
    go_enter Try.func20, Try.ntmps20
    go_wp2_with fail
    go_ret
    exact ⟨by rw [HF.out]; rfl, Below.refl _ _⟩

theorem on_le (l : List UInt8) : on 0 l ≤ 4294967295 := by have := on_lt (s := 0) l (by omega); omega

theorem seal_i (A : Option Addr) (k c : Nat) (l : List UInt8) (w : World) (hr : Rd encB w A k l) (hk : k ≤ 1000000) :
    Calls Try.prog 16 #[.slice A k c] w fun e w' => ∃ v, e = .returned v ∧ Own encB EB w' w.heap.size v (shut l) ∧ Below w.heap.size w w' := by
  have R := Lib.hid hr
  clear hr
  go_enter Try.func16, Try.ntmps16
  go_wp2_with fail
  refine (of_i A k c l _ R.out (by unfold maxLen; omega)).mono ?_
  rintro e w1 ⟨rfl, hb1⟩
  have R1 := Lib.hid (R.out.below hb1)
  go_wp2_with fail
  refine (long_i A k c l _ _ R1.out hk (on_le l)).mono ?_
  rintro e w2 ⟨v, rfl, hown, hb2⟩
  have HO := Lib.hid hown
  clear hown
  go_wp2_with fail
  go_ret
  exact ⟨_, rfl, HO.out.lower hb1.size, Sq.join hb1 hb2⟩

theorem seal_r (A : Option Addr) (k c : Nat) (l : List UInt8) (w : World) (hr : Rd encB w A k l) (hk : k ≤ 1000000) :
    Calls Try.prog 17 #[.slice A k c] w fun e w' => ∃ v, e = .returned v ∧ Own encB EB w' w.heap.size v (shut l) ∧ Below w.heap.size w w' := by
  have R := Lib.hid hr
  have L := Lib.hid hr.1
  have h0 := Lib.hid (own_nil (enc := encB) (E := EB) w w.heap.size)
  clear hr
  go_enter Try.func17, Try.ntmps17
  go_wp2_with (at_builtin; refine wpList_append elB rfl _ _ rfl rfl h0.out A k c l rfl R.out (by simp [maxLen]; omega) (by simp; omega) (Nat.le_refl _) ?_; rintro v1 w1 hown1 hb1 hg1 ho1; rw [List.nil_append] at hown1; have HO1 := Lib.hid hown1; clear hown1 hg1 ho1)
  have R1 := Lib.hid (R.out.below hb1)
  refine (of_r A k c l _ R1.out (by unfold maxLen; omega)).mono ?_
  rintro e w2 ⟨rfl, rfl⟩
  obtain ⟨A1, c1, rfl, _, _⟩ := HO1.out.shape
  have RO := Lib.hid HO1.out.rd
  rw [← L.out] at RO HO1 ⊢
  go_wp2_with fail
  refine (long_r A1 k c1 l _ _ RO.out hk (on_le l)).mono ?_
  rintro e w3 ⟨v, rfl, hown, hb2⟩
  have HO := Lib.hid hown
  clear hown
  go_wp2_with fail
  go_ret
  exact ⟨_, rfl, HO.out.lower hb1.size, Sq.join hb1 hb2⟩
end Go.Proofs.Ytjfllfikeopgnaa.SumZ
