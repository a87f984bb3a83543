/- clewref20.Within, Top, Below. Conditions: the lists of a world can be read; for Below: things are within things as they must be, at most 1024 of them. -/
import Derived.Test.YtncdicagadbafaaRngB
import Derived.Test.YtncdicagadbafaaValL
namespace Go.Proofs.Ytncdicagadbafaa.NstR
open Go Go.RowKit NestP NestW NestX NestY ValP ValW ValX ValR Sq RngB

set_option maxRecDepth 100000 in
set_option maxHeartbeats 400000 in
theorem within_o {v0 v4 v5 v6 v7 v8 v9 v10 v11 v12 : Value} {A1 A2 A3 : Option Addr} {n c1 n2 c2 n3 c3 : Nat} (pa : List Int) (x y : Int) (w : World) (hp : Rd I w A1 n pa) (hn : n ≤ 17592186044416) :
    Calls Try.prog 53 #[.agg #[v0, .slice A1 n c1, .slice A2 n2 c2, .slice A3 n3 c3, v4, v5, v6, v7, v8, v9, v10, v11, v12], .int .i64 x, .int .i64 y] w fun e w' => e = .returned (.bool ((chain n pa n x).contains y)) ∧ Below w.heap.size w w' := by
  have HP := Lib.hid hp
  clear hp
  go_enter Try.func53, Try.ntmps53
  go_wp2_with fail
  go_loopw [1, 7] (fun xv i wr => ∃ (j : Nat) (x' : Int), j ≤ n ∧ i = .int .i64 (j : Int) ∧ xv = .int .i64 x' ∧ (chain n pa (n - j) x').contains y = (chain n pa n x).contains y ∧ Below (w.heap.size + 1) (w.alloc (.cells #[v0, .slice A1 n c1, .slice A2 n2 c2, .slice A3 n3 c3, v4, v5, v6, v7, v8, v9, v10, v11, v12] 31)) wr) (fun _ i _ => n - (intOf i).toNat)
  case atStart => exact ⟨0, x, Nat.zero_le _, rfl, rfl, rfl, Below.refl _ _⟩
  case round =>
    obtain ⟨j, x', hj, rfl, rfl, hc, hbr⟩ := hrel
    have hk := bcell hbr
    have hsz := hbr.size
    rw [World.size_alloc] at hsz
    have HC := Lib.hid hc
    have hbW := Lib.hid ((((Below.refl w.heap.size w).alloc (Nat.le_refl _) (.cells #[v0, .slice A1 n c1, .slice A2 n2 c2, .slice A3 n3 c3, v4, v5, v6, v7, v8, v9, v10, v11, v12] 31))).trans (hbr.mono (by omega)))
    clear hc
    by_cases hlt : j < n
    · by_cases hT : isT n x' = true
      · obtain ⟨k, b, o, rfl, hk1, hk2, rfl, hb, hcell⟩ := at_cell HP.out hT
        have HCY := Lib.hid (show chain n pa (n - j) (k : Int) = (k : Int) :: chain n pa (n - (j + 1)) (at' pa k) by rw [show n - j = (n - (j + 1)) + 1 by omega, chain_yes hT])
        have HT := Lib.hid hT
        have hb1 : b < w.heap.size + 1 := by omega
        have k0 : (0 : Int) ≤ (k : Int) := by omega
        have k1 : (k : Int) < (n : Int) := by omega
        clear hT
        by_cases hxy : (k : Int) = y
        · have t0 : ((k : Int) == y) = true := beq_iff_eq.2 hxy
          have HF := Lib.hid (show (chain n pa n x).contains y = true by rw [← HC.out, HCY.out, List.contains_cons]; simp [hxy])
          clear hxy
          go_wp2_with (go_at_call 45; refine (is_o _ _).mono ?_; rintro e w1 ⟨rfl, hbi⟩; rw [HT.out]; have hk1 := bcell (B := w.heap.size + 1) (hbi.mono hsz))
          go_ret
          exact ⟨by rw [HF.out]; rfl, joinB (Nat.le_refl _) hbW.out hbi⟩
        · have t0 : ((k : Int) == y) = false := beq_eq_false_iff_ne.2 hxy
          have HF := Lib.hid (show (chain n pa (n - (j + 1)) (at' pa k)).contains y = (chain n pa n x).contains y by
            rw [← HC.out, HCY.out, List.contains_cons]
            have : (y == (k : Int)) = false := beq_eq_false_iff_ne.2 fun h => hxy h.symm
            rw [this, Bool.false_or])
          clear hxy
          go_wp2_with (go_at_call 45; refine (is_o _ _).mono ?_; rintro e w1 ⟨rfl, hbi⟩; rw [HT.out]; have hk1 := bcell (B := w.heap.size + 1) (hbi.mono hsz))
          go_roundw
          case rel => exact ⟨j + 1, _, by omega, by go_num, rfl, HF.out, hbr.trans (hbi.mono hsz)⟩
          case measure => simp [intOf]; omega
      · have HT := Lib.hid (show isT n x' = false by simpa using hT)
        have HF := Lib.hid (show (chain n pa n x).contains y = false by rw [← HC.out, chain_no HT.out]; rfl)
        clear hT
        go_wp2_with (go_at_call 45; refine (is_o _ _).mono ?_; rintro e w1 ⟨rfl, hbi⟩; rw [HT.out])
        go_ret
        exact ⟨by rw [HF.out]; rfl, joinB (Nat.le_refl _) hbW.out hbi⟩
    · have hjn : j = n := by omega
      have HF := Lib.hid (show (chain n pa n x).contains y = false by rw [← HC.out, hjn, Nat.sub_self]; rfl)
      have d0 : decide (j < n) = false := by simp; omega
      clear hjn
      go_wp2_with fail
      go_ret
      exact ⟨by rw [HF.out]; rfl, hbW.out⟩

set_option maxRecDepth 100000 in
set_option maxHeartbeats 400000 in
theorem top_o {v0 v4 v5 v6 v7 v8 v9 v10 v11 v12 : Value} {A1 A2 A3 : Option Addr} {n c1 n2 c2 n3 c3 : Nat} (pa : List Int) (x : Int) (w : World) (hp : Rd I w A1 n pa) (hn : n ≤ 17592186044416) :
    Calls Try.prog 55 #[.agg #[v0, .slice A1 n c1, .slice A2 n2 c2, .slice A3 n3 c3, v4, v5, v6, v7, v8, v9, v10, v11, v12], .int .i64 x] w fun e w' => e = .returned (.int .i64 ((chain n pa n x).getLastD 0)) ∧ Below w.heap.size w w' := by
  have HP := Lib.hid hp
  clear hp
  go_enter Try.func55, Try.ntmps55
  go_wp2_with fail
  go_loopw [1, 5, 6] (fun xv t i wr => ∃ (j : Nat) (x' t' : Int), j ≤ n ∧ i = .int .i64 (j : Int) ∧ xv = .int .i64 x' ∧ t = .int .i64 t' ∧ (chain n pa (n - j) x').getLastD t' = (chain n pa n x).getLastD 0 ∧ Below (w.heap.size + 1) (w.alloc (.cells #[v0, .slice A1 n c1, .slice A2 n2 c2, .slice A3 n3 c3, v4, v5, v6, v7, v8, v9, v10, v11, v12] 31)) wr) (fun _ _ i _ => n - (intOf i).toNat)
  case atStart => exact ⟨0, x, 0, Nat.zero_le _, rfl, rfl, rfl, rfl, Below.refl _ _⟩
  case round =>
    obtain ⟨j, x', t', hj, rfl, rfl, rfl, hc, hbr⟩ := hrel
    have hk := bcell hbr
    have hsz := hbr.size
    rw [World.size_alloc] at hsz
    have HC := Lib.hid hc
    have hbW := Lib.hid ((((Below.refl w.heap.size w).alloc (Nat.le_refl _) (.cells #[v0, .slice A1 n c1, .slice A2 n2 c2, .slice A3 n3 c3, v4, v5, v6, v7, v8, v9, v10, v11, v12] 31))).trans (hbr.mono (by omega)))
    clear hc
    by_cases hlt : j < n
    · by_cases hT : isT n x' = true
      · obtain ⟨k, b, o, rfl, hk1, hk2, rfl, hb, hcell⟩ := at_cell HP.out hT
        have HCY := Lib.hid (show (chain n pa (n - (j + 1)) (at' pa k)).getLastD (k : Int) = (chain n pa n x).getLastD 0 by
          rw [← HC.out, show n - j = (n - (j + 1)) + 1 by omega, chain_yes hT, List.getLastD_cons])
        have HT := Lib.hid hT
        have hb1 : b < w.heap.size + 1 := by omega
        have k0 : (0 : Int) ≤ (k : Int) := by omega
        have k1 : (k : Int) < (n : Int) := by omega
        clear hT
        go_wp2_with (go_at_call 45; refine (is_o _ _).mono ?_; rintro e w1 ⟨rfl, hbi⟩; rw [HT.out]; have hk1 := bcell (B := w.heap.size + 1) (hbi.mono hsz))
        go_roundw
        case rel => exact ⟨j + 1, _, _, by omega, by go_num, rfl, rfl, HCY.out, hbr.trans (hbi.mono hsz)⟩
        case measure => simp [intOf]; omega
      · have HT := Lib.hid (show isT n x' = false by simpa using hT)
        have HF := Lib.hid (show t' = (chain n pa n x).getLastD 0 by rw [← HC.out, chain_no HT.out]; rfl)
        clear hT
        go_wp2_with (go_at_call 45; refine (is_o _ _).mono ?_; rintro e w1 ⟨rfl, hbi⟩; rw [HT.out])
        go_ret
        exact ⟨by rw [← HF.out]; rfl, joinB (Nat.le_refl _) hbW.out hbi⟩
    · have hjn : j = n := by omega
      have HF := Lib.hid (show t' = (chain n pa n x).getLastD 0 by rw [← HC.out, hjn, Nat.sub_self]; rfl)
      have d0 : decide (j < n) = false := by simp; omega
      clear hjn
      go_wp2_with fail
      go_ret
      exact ⟨by rw [← HF.out]; rfl, hbW.out⟩

set_option maxRecDepth 100000 in
set_option maxHeartbeats 4000000 in
theorem below_o {v0 v4 v5 v6 v7 v8 v9 v10 v11 v12 : Value} {A1 A2 A3 : Option Addr} {n c1 c2 c3 : Nat} (g : Wd) (hG : NestP.Good g) (hg : g.n = n) (hn : n ≤ 1024) : ∀ (k : Nat) (x : Int) (w : World), g.n ≤ k + (ups g x).length → Rd I w A1 n g.pa → Rd I w A2 n g.ch → Rd I w A3 n g.ne →
    Calls Try.prog 51 #[.agg #[v0, .slice A1 n c1, .slice A2 n c2, .slice A3 n c3, v4, v5, v6, v7, v8, v9, v10, v11, v12], .int .i64 x] w fun e w' => ∃ v, e = .returned v ∧ Sq.Own I 3 w' w.heap.size v (below g k x) ∧ Below w.heap.size w w' := by
  intro k
  induction k with
  | zero =>
    intro x w hx _ _ _
    have := hG.ups_len x
    have := hG.pos
    omega
  | succ k ih =>
    intro x w hx hp1 hp2 hp3
    have HIH := Lib.hid ih
    have HP1 := Lib.hid hp1
    have HP2 := Lib.hid hp2
    have HP3 := Lib.hid hp3
    have HKL := Lib.hid (show (kids g x).length ≤ n from hg ▸ kids_short g x)
    have HBL := Lib.hid (show ∀ c ∈ kids g x, g.n ≤ k + (ups g c).length ∧ (below g k c).length ≤ n from fun c hc => by
      have h1 : g.n ≤ k + (ups g c).length := by rw [hG.depth_kid hc]; omega
      exact ⟨h1, hg ▸ below_len hG h1⟩)
    have HBE := Lib.hid (show below g (k + 1) x = flat g k (kids g x) from rfl)
    clear ih hx hp1 hp2 hp3
    obtain ⟨L, hL⟩ : ∃ L, kids g x = L := ⟨_, rfl⟩
    obtain ⟨m, hm⟩ : ∃ m, L.length = m := ⟨_, rfl⟩
    have HL := Lib.hid hL
    have HM := Lib.hid hm
    have hmn : m ≤ n := by have := HKL.out; rw [hL, hm] at this; exact this
    clear hL hm
    go_enter Try.func51, Try.ntmps51
    go_wp2_with (go_at_call 49; refine (ValL.children_o g x _ (HP1.out.alloc _) (HP2.out.alloc _) (HP3.out.alloc _) (by omega)).mono ?_; rintro e w1 ⟨Ak, ck, rfl, hr, hb⟩; rw [HL.out, HM.out] at hr; rw [HL.out, HM.out]; have HR := Lib.hid hr; have HB1 := Lib.hid (((Below.refl w.heap.size w).alloc (Nat.le_refl _) (.cells #[v0, .slice A1 n c1, .slice A2 n c2, .slice A3 n c3, v4, v5, v6, v7, v8, v9, v10, v11, v12] 31)).trans (hb.mono (by simp))); have h0 := (hb.block w.heap.size (by simp)).trans (World.alloc_heap_new w (.cells #[v0, .slice A1 n c1, .slice A2 n c2, .slice A3 n c3, v4, v5, v6, v7, v8, v9, v10, v11, v12] 31)); have s0 : w.heap.size < w1.heap.size := (by have := hb.size; simp at this; omega); clear hb hr)
    go_loopw [5, 7] (fun v i wr => ∃ j : Nat, j ≤ m ∧ i = .int .i64 (j : Int) ∧ Sq.Own I 3 wr w1.heap.size v (flat g k (L.take j)) ∧ Below w1.heap.size w1 wr) (fun _ i _ => m - (intOf i).toNat)
    case atStart => exact ⟨0, Nat.zero_le _, rfl, own_nil _ _, Below.refl _ _⟩
    case round =>
      obtain ⟨j, hj, rfl, ho, hB⟩ := hrel
      have HO := Lib.hid ho
      have HB := Lib.hid hB
      have hr0 := (hB.block _ s0).trans h0
      obtain ⟨x0, x1, x2, x3, x4, x5, x6, x7, x8, x9, x10, x11, x12, xf⟩ := cells13 hr0
      by_cases hlt : j < m
      · obtain ⟨b, o, rfl, hb, hl, hcell⟩ := HR.out.at_ hlt
        obtain ⟨c, hc⟩ : ∃ c, L[j] = c := ⟨_, rfl⟩
        have hcm : c ∈ kids g x := by rw [HL.out, ← hc]; exact List.getElem_mem hl
        have HT := Lib.hid (show L.take (j + 1) = L.take j ++ [c] by rw [List.take_succ_eq_append_getElem hl, hc])
        have HLN := Lib.hid (show (flat g k (L.take j)).length ≤ 1024 * 1025 from Nat.le_trans (flat_len (M := n) fun d hd => (HBL.out d (by rw [HL.out]; exact List.mem_of_mem_take hd)).2) (Nat.mul_le_mul (Nat.le_trans (List.length_take_le ..) (by omega)) (by omega)))
        have HC := Lib.hid (HBL.out c hcm)
        rw [hc] at hcell
        unfold I at hcell
        have hcr := (bcell hB b (o + j) hb).trans hcell
        have k0 : (0 : Int) ≤ (j : Int) := by omega
        have k1 : (j : Int) < (m : Int) := by omega
        clear hc hl hcm ho hB
        go_wp2_with (at_builtin; refine wpList_append elI rfl _ _ rfl rfl (HO.out.alloc (.cells #[.int .i64 c] 3)) (some ⟨wr.heap.size, 0, none⟩) 1 1 [c] rfl (rd_lit (enc := I) wr 3 [c] _ rfl 1 rfl) (by have := HLN.out; unfold maxLen; omega) (by have := HLN.out; omega) (by have := HB.out.size; simp; omega) ?_; rintro v3 w3 O3 b3 g3 o3; have HO3 := Lib.hid O3; have hB3 := ((HB.out.alloc HB.out.size (.cells #[.int .i64 c] 3)).trans b3); have HB3 := Lib.hid hB3; have h3 := (hB3.block _ s0).trans h0; have hc3 := (bcell hB3 b (o + j) hb).trans hcell; clear O3 b3 g3 o3 HO hB3 x0 x1 x2 x3 x4 x5 x6 x7 x8 x9 x10 x11 x12 xf; obtain ⟨x0, x1, x2, x3, x4, x5, x6, x7, x8, x9, x10, x11, x12, xf⟩ := cells13 h3)
        refine wp_region_held_drew (S := (fun U => U.heap[w.heap.size]? = some (.cells #[v0, .slice A1 n c1, .slice A2 n c2, .slice A3 n c3, v4, v5, v6, v7, v8, v9, v10, v11, v12] 31 (0, 0)) ∧ U.cell? ⟨b, o + j, none⟩ = some (.int .i64 c))) (by kernel_rfl) ⟨h3, hc3⟩ (fun hHeld => ?_)
        refine Rg.take (i := 0) (t := 24) (v := v3) rfl rfl (by kernel_rfl) (by kernel_rfl) (by kernel_rfl) (fun _ _ _ h => h) (by rfl) (by intro w0 hSw; first | (go_simp; done) | (go_simp; with_reducible rfl)) (by assumption) ?_
        simp only [List.setIfInBounds_toArray, List.set_cons_zero, List.set_cons_succ]
        refine Rg.take (i := 1) (t := 25) (v := .agg #[v0, .slice A1 n c1, .slice A2 n c2, .slice A3 n c3, v4, v5, v6, v7, v8, v9, v10, v11, v12]) rfl rfl (by kernel_rfl) (by kernel_rfl) (by kernel_rfl) (fun _ _ _ h => h) (by rfl) (by intro w0 hSw; obtain ⟨x0, x1, x2, x3, x4, x5, x6, x7, x8, x9, x10, x11, x12, xf⟩ := cells13 hSw.1; first | (go_simp; done) | (go_simp; with_reducible rfl)) (by assumption) ?_
        simp only [List.setIfInBounds_toArray, List.set_cons_zero, List.set_cons_succ]
        refine Rg.take (i := 2) (t := 26) (v := .slice (some ⟨b, o, none⟩) m ck) rfl rfl (by kernel_rfl) (by kernel_rfl) (by kernel_rfl) (fun _ _ _ h => h) (by rfl) (by intro w0 hSw; first | (go_simp; done) | (go_simp; with_reducible rfl)) (by assumption) ?_
        simp only [List.setIfInBounds_toArray, List.set_cons_zero, List.set_cons_succ]
        refine Rg.take (i := 3) (t := 27) (v := .int .i64 (j : Int)) rfl rfl (by kernel_rfl) (by kernel_rfl) (by kernel_rfl) (fun _ _ _ h => h) (by rfl) (by intro w0 hSw; first | (go_simp; done) | (go_simp; with_reducible rfl)) (by assumption) ?_
        simp only [List.setIfInBounds_toArray, List.set_cons_zero, List.set_cons_succ]
        refine Rg.take (i := 4) (t := 28) (v := .pointer (some ⟨b, o + j, none⟩)) rfl rfl (by kernel_rfl) (by kernel_rfl) (by kernel_rfl) (fun _ _ _ h => h) (by rfl) (by intro w0 hSw; first | (go_simp; done) | (go_simp; with_reducible rfl)) (by assumption) ?_
        simp only [List.setIfInBounds_toArray, List.set_cons_zero, List.set_cons_succ]
        refine Rg.take (i := 5) (t := 29) (v := .int .i64 c) rfl rfl (by kernel_rfl) (by kernel_rfl) (by kernel_rfl) (fun _ _ _ h => h) (by rfl) (by intro w0 hSw; have z := hSw.2; first | (go_simp; done) | (go_simp; with_reducible rfl)) (by assumption) ?_
        simp only [List.setIfInBounds_toArray, List.set_cons_zero, List.set_cons_succ]
        refine Rg.one (i := 6) (by kernel_rfl) ?_
        refine Rg.call (i := 6) (t := 30) rfl rfl (by rfl) (by go_simp; exact ⟨rfl, rfl⟩) ?_
        refine (HIH.out c w3.drew HC.out.1 (HP1.out.below (HB1.out.trans ((Below.drew HB3.out).mono HB1.out.size))) (HP2.out.below (HB1.out.trans ((Below.drew HB3.out).mono HB1.out.size))) (HP3.out.below (HB1.out.trans ((Below.drew HB3.out).mono HB1.out.size)))).mono ?_
        rintro e w5 ⟨v5, rfl, ho5, hb5⟩
        have hB5 := (Below.drew HB3.out).trans (hb5.mono HB3.out.size)
        have HO4 := ((HO3.out).drew).below hb5
        obtain ⟨A5, c5, rfl, _, _⟩ := ho5.shape
        have g5 := (hB5.block _ s0).trans h0
        have gc5 := (bcell hB5 b (o + j) hb).trans hcell
        refine ⟨_, rfl, (fun U => U.heap[w.heap.size]? = some (.cells #[v0, .slice A1 n c1, .slice A2 n c2, .slice A3 n c3, v4, v5, v6, v7, v8, v9, v10, v11, v12] 31 (0, 0)) ∧ U.cell? ⟨b, o + j, none⟩ = some (.int .i64 c)), fun _ h => h, ⟨g5, gc5⟩, ?_⟩
        simp only [List.setIfInBounds_toArray, List.set_cons_zero, List.set_cons_succ]
        refine Rg.one (i := 7) (by kernel_rfl) ?_
        refine RgIn.app elI (i := 7) (t := 31) (.tmp 24) (.tmp 30) rfl rfl (by rfl) rfl rfl HO4 A5 _ c5 (below g k c) rfl ho5.rd (by have h1 := HLN.out; have h2 := HC.out.2; rw [List.length_append, List.length_singleton]; unfold maxLen; omega) (by have h1 := HLN.out; have h2 := HC.out.2; rw [List.length_append, List.length_singleton]; omega) hB5.size ?_
        intro v6 w6 ho6 hb6 hg6 _
        have HB6 := Lib.hid (hB5.trans hb6)
        have HO6 := Lib.hid ho6
        refine ⟨⟨(hb6.block _ s0).trans g5, (bcell hb6 b (o + j) hb).trans gc5⟩, ?_⟩
        have g6 := (hb6.block _ s0).trans g5
        have gc6 := (bcell hb6 b (o + j) hb).trans gc5
        have gS6 := And.intro g6 gc6
        simp only [List.setIfInBounds_toArray, List.set_cons_zero, List.set_cons_succ]
        refine Rg.take (i := 8) (t := 5) (v := v6) rfl rfl (by kernel_rfl) (by kernel_rfl) (by kernel_rfl) (fun _ _ _ h => h) (by rfl) (by intro w0 hSw; first | (go_simp; done) | (go_simp; with_reducible rfl)) (by assumption) ?_
        simp only [List.setIfInBounds_toArray, List.set_cons_zero, List.set_cons_succ]
        refine wpAnyH_done (by kernel_rfl) ?_ _
        go_wp2_with fail
        go_roundw
        case rel => exact ⟨j + 1, by omega, by go_num, by rw [HT.out, flat_snoc]; exact HO6.out, HB6.out⟩
        case measure => simp [intOf]; omega
      · have hjm : m = j := by omega
        subst hjm
        have HF := Lib.hid (show flat g k (L.take m) = below g (k + 1) x by rw [HBE.out, HL.out, List.take_of_length_le (by rw [HM.out]; exact Nat.le_refl _)])
        clear ho hB
        go_wp2_with fail
        go_ret
        exact ⟨_, rfl, by rw [← HF.out]; exact HO.out.lower (by omega), HB1.out.trans (HB.out.mono HB1.out.size)⟩
theorem within_ow {v : Value} {w : World} (g : Wd) (x y : Int) (ho : WorldD.Wo w v g) :
    Calls Try.prog 53 #[v, .int .i64 x, .int .i64 y] w fun e w' => e = .returned (.bool (within g x y)) ∧ Below w.heap.size w w' := by
  obtain ⟨A0, A1, A2, A3, A4, A5, A6, n0, c0, n, c1, n2, c2, n3, c3, n4, c4, n5, c5, n6, c6, rfl, ⟨r0, r1, r2, r3, r4, r5, r6⟩, hu, hw, hb⟩ := ho
  refine (within_o g.pa x y w r1 (by omega)).mono ?_
  rintro e w' ⟨rfl, hb⟩
  refine ⟨?_, hb⟩
  unfold within ups
  rw [show g.n = n from r1.len.symm]
theorem top_ow {v : Value} {w : World} (g : Wd) (x : Int) (ho : WorldD.Wo w v g) :
    Calls Try.prog 55 #[v, .int .i64 x] w fun e w' => e = .returned (.int .i64 (top g x)) ∧ Below w.heap.size w w' := by
  obtain ⟨A0, A1, A2, A3, A4, A5, A6, n0, c0, n, c1, n2, c2, n3, c3, n4, c4, n5, c5, n6, c6, rfl, ⟨r0, r1, r2, r3, r4, r5, r6⟩, hu, hw, hb⟩ := ho
  refine (top_o g.pa x w r1 (by omega)).mono ?_
  rintro e w' ⟨rfl, hb⟩
  refine ⟨?_, hb⟩
  unfold top ups
  rw [show g.n = n from r1.len.symm]
theorem below_ow {v : Value} {w : World} (g : Wd) (hG : NestP.Good g) (hn : g.n ≤ 1024) (x : Int) (ho : WorldD.Wo w v g) :
    Calls Try.prog 51 #[v, .int .i64 x] w fun e w' => ∃ A c, e = .returned (.slice A (below g g.n x).length c) ∧ Rd I w' A (below g g.n x).length (below g g.n x) ∧ Below w.heap.size w w' := by
  obtain ⟨A0, A1, A2, A3, A4, A5, A6, n0, c0, n, c1, n2, c2, n3, c3, n4, c4, n5, c5, n6, c6, rfl, ⟨r0, r1, r2, r3, r4, r5, r6⟩, hu, hw, hb⟩ := ho
  have hg : g.n = n := r1.len.symm
  obtain rfl : n2 = n := r2.len.trans (hG.chl.trans hg)
  obtain rfl : n3 = n2 := r3.len.trans (hG.nel.trans hg)
  refine (below_o g hG hg (by omega) g.n x w (by omega) r1 r2 r3).mono ?_
  rintro e w' ⟨u, rfl, ho, hb'⟩
  obtain ⟨A, c, rfl, _, _⟩ := ho.shape
  exact ⟨A, c, rfl, ho.rd, hb'⟩
end Go.Proofs.Ytncdicagadbafaa.NstR
