/- The walks of the reference along a world's lists: from a thing up, and along its children. Conditions: the lists of a world can be read. -/
import Derived.Test.YtncdicagadbafaaNestW
namespace Go.Proofs.Ytncdicagadbafaa.NestX
open Go Go.RowKit NestP Sq NestW

theorem at_cell {w : World} {A : Option Addr} {n : Nat} {l : List Int} (hr : Rd I w A n l) {x : Int} (h : isT n x = true) : ∃ (k b o : Nat), x = (k : Int) ∧ 1 ≤ k ∧ k < n ∧ A = some ⟨b, o, none⟩ ∧ b < w.heap.size ∧ w.cell? ⟨b, o + k, none⟩ = some (.int .i64 (at' l x)) := by
  have h' := isT_iff.1 h
  obtain ⟨k, rfl⟩ := Int.eq_ofNat_of_zero_le (show 0 ≤ x by omega)
  obtain ⟨b, o, rfl, hb, hl, hc⟩ := hr.at_ (show k < n by omega)
  exact ⟨k, b, o, rfl, by omega, by omega, rfl, hb, by rw [at_lt hl]; exact hc⟩
theorem chain_yes {n : Nat} {l : List Int} {k : Nat} {c : Int} (h : isT n c = true) : chain n l (k + 1) c = c :: chain n l k (at' l c) := by rw [chain, if_pos h]
theorem chain_no {n : Nat} {l : List Int} {k : Nat} {c : Int} (h : isT n c = false) : chain n l k c = [] := by
  cases k with
  | zero => rfl
  | succ k => rw [chain, if_neg (by rw [h]; simp)]
theorem chain_zero {n : Nat} {l : List Int} {c : Int} : chain n l 0 c = [] := rfl

set_option maxRecDepth 100000 in
set_option maxHeartbeats 400000 in
theorem within_r {v0 v4 v5 v6 v7 v8 v9 v10 v11 v12 : Value} {A1 A2 A3 : Option Addr} {n c1 n2 c2 n3 c3 : Nat} (pa : List Int) (x y : Int) (w : World) (hp : Rd I w A1 n pa) (hn : n ≤ 17592186044416) :
    Calls Try.prog 156 #[.agg #[v0, .slice A1 n c1, .slice A2 n2 c2, .slice A3 n3 c3, v4, v5, v6, v7, v8, v9, v10, v11, v12], .int .i64 x, .int .i64 y] w fun e w' => e = .returned (.bool ((chain n pa n x).contains y)) ∧ Below w.heap.size w w' := by
  have HP := Lib.hid hp
  clear hp
  go_enter Try.func156, Try.ntmps156
  go_wp2_with fail
  go_loopw [1, 7] (fun xv i wr => ∃ (j : Nat) (x' : Int), j ≤ n ∧ i = .int .i64 (j : Int) ∧ xv = .int .i64 x' ∧ (chain n pa (n - j) x').contains y = (chain n pa n x).contains y ∧ Below (w.heap.size + 1) (w.alloc (.cells #[v0, .slice A1 n c1, .slice A2 n2 c2, .slice A3 n3 c3, v4, v5, v6, v7, v8, v9, v10, v11, v12] 31)) wr) (fun _ i _ => n - (intOf i).toNat)
  case atStart => exact ⟨0, x, Nat.zero_le _, rfl, rfl, rfl, Below.refl _ _⟩
  case round =>
    obtain ⟨j, x', hj, rfl, rfl, hc, hbr⟩ := hrel
    have hk := bcell hbr
    have hsz := hbr.size
    rw [World.size_alloc] at hsz
    have HC := Lib.hid hc
    have hbW := Lib.hid ((((Below.refl w.heap.size w).alloc (Nat.le_refl _) (.cells #[v0, .slice A1 n c1, .slice A2 n2 c2, .slice A3 n3 c3, v4, v5, v6, v7, v8, v9, v10, v11, v12] 31))).trans (hbr.mono (by omega)))
    clear hc
    by_cases hlt : j < n
    · by_cases hT : isT n x' = true
      · obtain ⟨k, b, o, rfl, hk1, hk2, rfl, hb, hcell⟩ := at_cell HP.out hT
        have HCY := Lib.hid (show chain n pa (n - j) (k : Int) = (k : Int) :: chain n pa (n - (j + 1)) (at' pa k) by rw [show n - j = (n - (j + 1)) + 1 by omega, chain_yes hT])
        have HT := Lib.hid hT
        have hb1 : b < w.heap.size + 1 := by omega
        have k0 : (0 : Int) ≤ (k : Int) := by omega
        have k1 : (k : Int) < (n : Int) := by omega
        clear hT
        by_cases hxy : (k : Int) = y
        · have t0 : ((k : Int) == y) = true := beq_iff_eq.2 hxy
          have HF := Lib.hid (show (chain n pa n x).contains y = true by rw [← HC.out, HCY.out, List.contains_cons]; simp [hxy])
          clear hxy
          go_wp2_with (go_at_call 153; refine (is_r _ _).mono ?_; rintro e w1 ⟨rfl, hbi⟩; rw [HT.out]; have hk1 := bcell (B := w.heap.size + 1) (hbi.mono hsz))
          go_ret
          exact ⟨by rw [HF.out]; rfl, joinB (Nat.le_refl _) hbW.out hbi⟩
        · have t0 : ((k : Int) == y) = false := beq_eq_false_iff_ne.2 hxy
          have HF := Lib.hid (show (chain n pa (n - (j + 1)) (at' pa k)).contains y = (chain n pa n x).contains y by
            rw [← HC.out, HCY.out, List.contains_cons]
            have : (y == (k : Int)) = false := beq_eq_false_iff_ne.2 fun h => hxy h.symm
            rw [this, Bool.false_or])
          clear hxy
          go_wp2_with (go_at_call 153; refine (is_r _ _).mono ?_; rintro e w1 ⟨rfl, hbi⟩; rw [HT.out]; have hk1 := bcell (B := w.heap.size + 1) (hbi.mono hsz))
          go_roundw
          case rel => exact ⟨j + 1, _, by omega, by go_num, rfl, HF.out, hbr.trans (hbi.mono hsz)⟩
          case measure => simp [intOf]; omega
      · have HT := Lib.hid (show isT n x' = false by simpa using hT)
        have HF := Lib.hid (show (chain n pa n x).contains y = false by rw [← HC.out, chain_no HT.out]; rfl)
        clear hT
        go_wp2_with (go_at_call 153; refine (is_r _ _).mono ?_; rintro e w1 ⟨rfl, hbi⟩; rw [HT.out])
        go_ret
        exact ⟨by rw [HF.out]; rfl, joinB (Nat.le_refl _) hbW.out hbi⟩
    · have hjn : j = n := by omega
      have HF := Lib.hid (show (chain n pa n x).contains y = false by rw [← HC.out, hjn, Nat.sub_self]; rfl)
      have d0 : decide (j < n) = false := by simp; omega
      clear hjn
      go_wp2_with fail
      go_ret
      exact ⟨by rw [HF.out]; rfl, hbW.out⟩

set_option maxRecDepth 100000 in
set_option maxHeartbeats 400000 in
theorem top_r {v0 v4 v5 v6 v7 v8 v9 v10 v11 v12 : Value} {A1 A2 A3 : Option Addr} {n c1 n2 c2 n3 c3 : Nat} (pa : List Int) (x : Int) (w : World) (hp : Rd I w A1 n pa) (hn : n ≤ 17592186044416) :
    Calls Try.prog 157 #[.agg #[v0, .slice A1 n c1, .slice A2 n2 c2, .slice A3 n3 c3, v4, v5, v6, v7, v8, v9, v10, v11, v12], .int .i64 x] w fun e w' => e = .returned (.int .i64 ((chain n pa n x).getLastD 0)) ∧ Below w.heap.size w w' := by
  have HP := Lib.hid hp
  clear hp
  go_enter Try.func157, Try.ntmps157
  go_wp2_with fail
  go_loopw [1, 5, 6] (fun xv t i wr => ∃ (j : Nat) (x' t' : Int), j ≤ n ∧ i = .int .i64 (j : Int) ∧ xv = .int .i64 x' ∧ t = .int .i64 t' ∧ (chain n pa (n - j) x').getLastD t' = (chain n pa n x).getLastD 0 ∧ Below (w.heap.size + 1) (w.alloc (.cells #[v0, .slice A1 n c1, .slice A2 n2 c2, .slice A3 n3 c3, v4, v5, v6, v7, v8, v9, v10, v11, v12] 31)) wr) (fun _ _ i _ => n - (intOf i).toNat)
  case atStart => exact ⟨0, x, 0, Nat.zero_le _, rfl, rfl, rfl, rfl, Below.refl _ _⟩
  case round =>
    obtain ⟨j, x', t', hj, rfl, rfl, rfl, hc, hbr⟩ := hrel
    have hk := bcell hbr
    have hsz := hbr.size
    rw [World.size_alloc] at hsz
    have HC := Lib.hid hc
    have hbW := Lib.hid ((((Below.refl w.heap.size w).alloc (Nat.le_refl _) (.cells #[v0, .slice A1 n c1, .slice A2 n2 c2, .slice A3 n3 c3, v4, v5, v6, v7, v8, v9, v10, v11, v12] 31))).trans (hbr.mono (by omega)))
    clear hc
    by_cases hlt : j < n
    · by_cases hT : isT n x' = true
      · obtain ⟨k, b, o, rfl, hk1, hk2, rfl, hb, hcell⟩ := at_cell HP.out hT
        have HCY := Lib.hid (show (chain n pa (n - (j + 1)) (at' pa k)).getLastD (k : Int) = (chain n pa n x).getLastD 0 by
          rw [← HC.out, show n - j = (n - (j + 1)) + 1 by omega, chain_yes hT, List.getLastD_cons])
        have HT := Lib.hid hT
        have hb1 : b < w.heap.size + 1 := by omega
        have k0 : (0 : Int) ≤ (k : Int) := by omega
        have k1 : (k : Int) < (n : Int) := by omega
        clear hT
        go_wp2_with (go_at_call 153; refine (is_r _ _).mono ?_; rintro e w1 ⟨rfl, hbi⟩; rw [HT.out]; have hk1 := bcell (B := w.heap.size + 1) (hbi.mono hsz))
        go_roundw
        case rel => exact ⟨j + 1, _, _, by omega, by go_num, rfl, rfl, HCY.out, hbr.trans (hbi.mono hsz)⟩
        case measure => simp [intOf]; omega
      · have HT := Lib.hid (show isT n x' = false by simpa using hT)
        have HF := Lib.hid (show t' = (chain n pa n x).getLastD 0 by rw [← HC.out, chain_no HT.out]; rfl)
        clear hT
        go_wp2_with (go_at_call 153; refine (is_r _ _).mono ?_; rintro e w1 ⟨rfl, hbi⟩; rw [HT.out])
        go_ret
        exact ⟨by rw [← HF.out]; rfl, joinB (Nat.le_refl _) hbW.out hbi⟩
    · have hjn : j = n := by omega
      have HF := Lib.hid (show t' = (chain n pa n x).getLastD 0 by rw [← HC.out, hjn, Nat.sub_self]; rfl)
      have d0 : decide (j < n) = false := by simp; omega
      clear hjn
      go_wp2_with fail
      go_ret
      exact ⟨by rw [← HF.out]; rfl, hbW.out⟩

set_option maxRecDepth 100000 in
theorem count_r (A : Option Addr) (m c : Nat) (l : List Int) (x : Int) (w : World) (hr : Rd I w A m l) (hm : m ≤ 17592186044416) :
    Calls Try.prog 155 #[.slice A m c, .int .i64 x] w fun e w' => e = .returned (.int .i64 (l.count x : Int)) ∧ w = w' := by
  have HR := Lib.hid hr
  clear hr
  go_enter Try.func155, Try.ntmps155
  go_wp2_with fail
  go_loop [5, 6] (fun q i => ∃ (j q' : Nat), j ≤ m ∧ i = .int .i64 (j : Int) ∧ q = .int .i64 (q' : Int) ∧ q' = (l.take j).count x ∧ q' ≤ j) (fun _ i => m - (intOf i).toNat)
  case atStart => exact ⟨0, 0, Nat.zero_le _, rfl, rfl, rfl, Nat.le_refl _⟩
  case round =>
    obtain ⟨j, q', hj, rfl, rfl, hq, hqj⟩ := hrel
    have HQ := Lib.hid hq
    clear hq
    by_cases hlt : j < m
    · obtain ⟨b, o, rfl, hb, hl, hc⟩ := HR.out.at_ hlt
      have HS := Lib.hid (show (l.take (j + 1)).count x = q' + if (l[j] == x) = true then 1 else 0 by
        rw [List.take_succ_eq_append_getElem hl, List.count_append, ← HQ.out, List.count_singleton])
      obtain ⟨y, hy⟩ : ∃ y, l[j] = y := ⟨_, rfl⟩
      rw [hy] at hc HS
      have k0 : (0 : Int) ≤ (j : Int) := by omega
      have k1 : (j : Int) < (m : Int) := by omega
      clear hy hl
      by_cases hxy : (y == x) = true
      · have HS2 := Lib.hid (show (l.take (j + 1)).count x = q' + 1 by rw [HS.out, if_pos hxy])
        go_wp2_with fail
        go_round
        case rel => exact ⟨j + 1, q' + 1, by omega, by go_num, by go_num, HS2.out.symm, by omega⟩
        case measure => simp [intOf]; omega
      · have hxy' : (y == x) = false := by simpa using hxy
        have HS2 := Lib.hid (show (l.take (j + 1)).count x = q' by rw [HS.out, if_neg hxy]; rfl)
        clear hxy
        go_wp2_with fail
        go_round
        case rel => exact ⟨j + 1, q', by omega, by go_num, rfl, HS2.out.symm, by omega⟩
        case measure => simp [intOf]; omega
    · have hjm : j = m := by omega
      have HF := Lib.hid (show l.count x = q' by rw [HQ.out, hjm, HR.out.1, List.take_length])
      have d0 : decide (j < m) = false := by simp; omega
      clear hjm
      go_wp2_with fail
      go_ret
      exact ⟨by rw [HF.out]; rfl, rfl⟩

set_option maxRecDepth 100000 in
set_option maxHeartbeats 400000 in
theorem children_r {v0 v4 v5 v6 v7 v8 v9 v10 v11 v12 : Value} {A1 A2 A3 : Option Addr} {n c1 n2 c2 n3 c3 : Nat} (ch ne : List Int) (x : Int) (w : World) (hc : Rd I w A2 n2 ch) (hne : Rd I w A3 n3 ne) (hn : n ≤ 17592186043904) :
    Calls Try.prog 113 #[.agg #[v0, .slice A1 n c1, .slice A2 n2 c2, .slice A3 n3 c3, v4, v5, v6, v7, v8, v9, v10, v11, v12], .int .i64 x] w fun e w' => ∃ v, e = .returned v ∧ Own I 3 w' w.heap.size v (if isT n x = true then chain n ne n (at' ch x) else []) ∧ Below w.heap.size w w' := by
  have HC := Lib.hid hc
  have HN := Lib.hid hne
  have hka : ∀ b o, b < w.heap.size + 1 → (w.alloc (.cells #[v0, .slice A1 n c1, .slice A2 n2 c2, .slice A3 n3 c3, v4, v5, v6, v7, v8, v9, v10, v11, v12] 31)).cell? ⟨b, o, none⟩ = (w.alloc (.cells #[v0, .slice A1 n c1, .slice A2 n2 c2, .slice A3 n3 c3, v4, v5, v6, v7, v8, v9, v10, v11, v12] 31)).cell? ⟨b, o, none⟩ := fun _ _ _ => rfl
  clear hka
  clear hc hne
  by_cases hT : isT n x = true
  · have HT := Lib.hid hT
    rw [if_pos hT]
    clear hT
    go_enter Try.func113, Try.ntmps113
    go_wp2_with fail
    refine (is_r _ _).mono ?_
    rintro e w1 ⟨rfl, hb1⟩
    rw [HT.out]
    have hk1 := kept hb1
    have hs1 := hb1.size
    rw [World.size_alloc] at hs1
    have HB1 := Lib.hid (((Below.refl w.heap.size w).alloc (Nat.le_refl _) (.cells #[v0, .slice A1 n c1, .slice A2 n2 c2, .slice A3 n3 c3, v4, v5, v6, v7, v8, v9, v10, v11, v12] 31)).trans (hb1.mono (by simp)))
    have HC1 := Lib.hid (HC.out.below HB1.out)
    go_wp2_with fail
    refine (at_r A2 n2 c2 ch x _ HC1.out).mono ?_
    rintro e w1' ⟨rfl, rfl⟩
    go_wp2_with fail
    have HB1' := Lib.hid (show Below (w.heap.size + 1) (w.alloc (.cells #[v0, .slice A1 n c1, .slice A2 n2 c2, .slice A3 n3 c3, v4, v5, v6, v7, v8, v9, v10, v11, v12] 31)) w1 from hb1.mono (by simp))
    go_loopw [5, 6, 7] (fun v cv i wr => ∃ (j : Nat) (c : Int) (out : List Int), j ≤ n ∧ i = .int .i64 (j : Int) ∧ cv = .int .i64 c ∧ Own I 3 wr w.heap.size v out ∧ out.length = j ∧ out ++ chain n ne (n - j) c = chain n ne n (at' ch x) ∧ (∀ b o, b < w.heap.size + 1 → wr.cell? ⟨b, o, none⟩ = (w.alloc (.cells #[v0, .slice A1 n c1, .slice A2 n2 c2, .slice A3 n3 c3, v4, v5, v6, v7, v8, v9, v10, v11, v12] 31)).cell? ⟨b, o, none⟩) ∧ Below w.heap.size w wr ∧ w.heap.size + 1 ≤ wr.heap.size ∧ (∀ g, v.ownBlock = some g → w.heap.size < g)) (fun _ _ i _ => n - (intOf i).toNat)
    case atStart => exact ⟨0, _, [], Nat.zero_le _, rfl, rfl, own_nil _ _, rfl, rfl, hk1, HB1.out, hs1, fun g h => by cases h⟩
    case round =>
      obtain ⟨j, c, out, hj, rfl, rfl, ho, hol, hcat, hkr, hbr, hsr, hgr⟩ := hrel
      have HO := Lib.hid ho
      have HL := Lib.hid hol
      have HCAT := Lib.hid hcat
      have HG := Lib.hid hgr
      clear ho hol hcat hgr hk1 hs1
      by_cases hlt : j < n
      · by_cases hTc : isT n c = true
        · have HTc := Lib.hid hTc
          have HS := Lib.hid (show out ++ [c] ++ chain n ne (n - (j + 1)) (at' ne c) = chain n ne n (at' ch x) by
            rw [← HCAT.out, show n - j = (n - (j + 1)) + 1 by omega, chain_yes hTc, List.append_assoc]; rfl)
          have HNr := Lib.hid (HN.out.below hbr)
          clear hTc
          go_wp2_with (first
            | (go_at_call 153; refine (is_r _ _).mono ?_; rintro e w2 ⟨rfl, hbi⟩; rw [HTc.out]; have hki := bcell (B := w.heap.size + 1) (hbi.mono hsr); have hki2 : ∀ b o, b < w.heap.size + 1 → w2.cell? ⟨b, o, none⟩ = (w.alloc (.cells #[v0, .slice A1 n c1, .slice A2 n2 c2, .slice A3 n3 c3, v4, v5, v6, v7, v8, v9, v10, v11, v12] 31)).cell? ⟨b, o, none⟩ := (fun b o h => (hki b o h).trans (hkr b o h)); clear hki; have HO2 := Lib.hid (HO.out.below hbi); have hs2 : w.heap.size + 1 ≤ w2.heap.size := Nat.le_trans hsr hbi.size)
            | (at_builtin; refine wpList_append elI rfl _ _ rfl rfl (HO2.out.alloc (.cells #[.int .i64 c] 3)) (some ⟨w2.heap.size, 0, none⟩) 1 1 [c] rfl (rd_lit (enc := I) w2 3 [c] _ rfl 1 rfl) (by rw [HL.out]; simp only [maxLen]; omega) (by rw [HL.out]; omega) (by simp; omega) ?_; rintro v3 w3 O3 b3 g3 o3; have HO3 := Lib.hid O3; have hk3 : ∀ b o, b < w.heap.size + 1 → w3.cell? ⟨b, o, none⟩ = (w.alloc (.cells #[v0, .slice A1 n c1, .slice A2 n2 c2, .slice A3 n3 c3, v4, v5, v6, v7, v8, v9, v10, v11, v12] 31)).cell? ⟨b, o, none⟩ := (fun b o h => (World.cell?_of_block (g3.block b (by simp; omega) (fun e => by have := HG.out _ e.symm; omega))).trans ((World.cell?_alloc_lt w2 _ ⟨b, o, none⟩ (by show b < w2.heap.size; omega)).trans (hki2 b o h))); have hs3 : w.heap.size + 1 ≤ w3.heap.size := (by have := b3.size; simp at this; omega); have HG3 := Lib.hid (show ∀ g, v3.ownBlock = some g → w.heap.size < g from fun g h => by (rcases o3 with o3 | o3 <;> rw [o3] at h; exact HG.out g h; simp at h; omega)); have HB3 := Lib.hid (show Below w.heap.size w w3 from (((hbr.trans (hbi.mono (by omega))).alloc (by omega) _).trans b3)); have HN3 := Lib.hid (HN.out.below HB3.out); clear O3 g3 o3 b3)
            | (go_at_call 163; refine (at_r A3 n3 c3 ne c _ HN3.out).mono ?_; rintro e w4 ⟨rfl, rfl⟩))
          go_roundw
          case rel => exact ⟨j + 1, _, out ++ [c], by omega, by go_num, rfl, HO3.out, by rw [List.length_append, HL.out]; rfl, HS.out, hk3, HB3.out, hs3, HG3.out⟩
          case measure => simp [intOf]; omega
        · have HTc := Lib.hid (show isT n c = false by simpa using hTc)
          have HF := Lib.hid (show out = chain n ne n (at' ch x) by rw [← HCAT.out, chain_no HTc.out, List.append_nil])
          clear hTc
          go_wp2_with (go_at_call 153; refine (is_r _ _).mono ?_; rintro e w2 ⟨rfl, hbi⟩; rw [HTc.out]; have HO2 := Lib.hid (HO.out.below hbi))
          go_ret
          exact ⟨_, rfl, by rw [← HF.out]; exact HO2.out, joinB (Nat.le_refl _) hbr hbi⟩
      · have hjn : j = n := by omega
        have HF := Lib.hid (show out = chain n ne n (at' ch x) by rw [← HCAT.out, hjn, Nat.sub_self, chain_zero, List.append_nil])
        have d0 : decide (j < n) = false := by simp; omega
        clear hjn
        go_wp2_with fail
        go_ret
        exact ⟨_, rfl, by rw [← HF.out]; exact HO.out, hbr⟩
  · have HT := Lib.hid (show isT n x = false by simpa using hT)
    rw [if_neg hT]
    clear hT
    go_enter Try.func113, Try.ntmps113
    go_wp2_with fail
    refine (is_r _ _).mono ?_
    rintro e w1 ⟨rfl, hb1⟩
    rw [HT.out]
    go_wp2_with fail
    go_ret
    exact ⟨_, rfl, own_nil _ _, ((Below.refl w.heap.size w).alloc (Nat.le_refl _) _).trans (hb1.mono (by simp))⟩
end Go.Proofs.Ytncdicagadbafaa.NestX
