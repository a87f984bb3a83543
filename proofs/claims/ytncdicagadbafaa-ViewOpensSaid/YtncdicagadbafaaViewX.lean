/- clewref23.reached. Conditions: the world reads, things are within things as they must be, at most 1024 of them; a flag for each thing, from 0 to 65535. -/
import Derived.Test.YtncdicagadbafaaVB
import Derived.Test.YtncdicagadbafaaViewW
import Derived.Test.YtncdicagadbafaaReg
import Derived.Test.YtncdicagadbafaaRgIn
namespace Go.Proofs.Ytncdicagadbafaa.ViewX
open Go Go.RowKit NestP NestW NestX NestY ValP ValW ValX ValR Sq WorldD CopP MoveP LvP MvA AttrP AttrW AttrX AttrY AttrZ AttrU AttrV AttrQ TabD TabW TabX TabB TabR MixP AwkP WoC ViewP ViewW RngB

set_option maxRecDepth 100000 in
set_option maxHeartbeats 8000000 in
theorem reached_o {v : Value} (g : Wd) (hG : NestP.Good g) (hF : Fl g) (hn : g.n ≤ 1024) : ∀ (k : Nat) (x : Int) (w : World), k ≤ 1024 → g.n ≤ k + (ups g x).length → Wo w v g →
    Calls Try.prog 134 #[v, .int .i64 x, .int .i64 (k : Int)] w fun e w' => ∃ u, e = .returned u ∧ Sq.Own I 3 w' w.heap.size u (reach g k x) ∧ Below w.heap.size w w' := by
  intro k
  induction k with
  | zero =>
    intro x w _ hx _
    have := hG.ups_len x
    have := hG.pos
    omega
  | succ k ih =>
    intro x w hk64 hx ho
    have HIH := Lib.hid ih
    have HF := Lib.hid hF
    have HKL := Lib.hid (show (kids g x).length ≤ g.n from kids_short g x)
    have HBL := Lib.hid (show ∀ c ∈ kids g x, g.n ≤ k + (ups g c).length ∧ (reach g k c).length ≤ g.n ∧ (below g k c).length ≤ g.n from fun c hc => by
      have h1 : g.n ≤ k + (ups g c).length := by rw [hG.depth_kid hc]; omega
      have h2 := below_len hG h1
      exact ⟨h1, Nat.le_trans (reach_sub g k c).length_le h2, h2⟩)
    have HBE := Lib.hid (show reach g (k + 1) x = fore g k (kids g x) from rfl)
    obtain ⟨K, hK⟩ : ∃ K : Int, ((k + 1 : Nat) : Int) = K := ⟨_, rfl⟩
    have hK0 : 0 < K := by omega
    have hK1 : IntKind.i64.wrap (K - 1) = (k : Int) := by rw [show K - 1 = (k : Int) by omega]; exact IntWalk.i64_in _ (by omega)
    rw [hK]
    clear ih hx hF hK
    obtain ⟨L, hL⟩ : ∃ L, kids g x = L := ⟨_, rfl⟩
    obtain ⟨m, hm⟩ : ∃ m, L.length = m := ⟨_, rfl⟩
    have HL := Lib.hid hL
    have HM := Lib.hid hm
    have hmn : m ≤ 1024 := by have := HKL.out; rw [hL, hm] at this; omega
    clear hL hm
    have hx := ho
    obtain ⟨A0, A1, A2, A3, A4, A5, A6, n0, c0, n, c1, n2, c2, n3, c3, n4, c4, n5, c5, n6, c6, rfl, _⟩ := hx
    go_enter Try.func134, Try.ntmps134
    obtain ⟨w0, hW⟩ : ∃ w0, w.alloc (.cells #[.slice A0 n0 c0, .slice A1 n c1, .slice A2 n2 c2, .slice A3 n3 c3, .slice A4 n4 c4, .slice A5 n5 c5, .slice A6 n6 c6, .int .u64 g.seed, .int .i64 g.sc, .int .i64 g.tu, .int .i64 g.ov, .int .i64 g.it, .int .i64 g.go] 31) = w0 := ⟨_, rfl⟩
    have HA : w0.heap[w.heap.size]? = some (.cells #[.slice A0 n0 c0, .slice A1 n c1, .slice A2 n2 c2, .slice A3 n3 c3, .slice A4 n4 c4, .slice A5 n5 c5, .slice A6 n6 c6, .int .u64 g.seed, .int .i64 g.sc, .int .i64 g.tu, .int .i64 g.ov, .int .i64 g.it, .int .i64 g.go] 31 (0, 0)) := by rw [← hW]; exact World.alloc_heap_new w _
    have LA : w.heap.size < w0.heap.size := by rw [← hW]; simp
    have hB : Below w.heap.size w w0 := by rw [← hW]; exact (Below.refl _ _).alloc (Nat.le_refl _) _
    have HB := Lib.hid hB
    have HOv := Lib.hid (SamW.wo_below ho hB)
    clear hB ho
    obtain ⟨x0, x1, x2, x3, x4, x5, x6, x7, x8, x9, x10, x11, x12, xf⟩ := cells13 HA
    go_wp2_with (go_at_call 49; (with_reducible refine (childreno_w g x HOv.out).mono ?_); rintro e w1 ⟨Ak, ck, rfl, hr, hb⟩; rw [HL.out, HM.out] at hr; rw [HL.out, HM.out]; have HR := Lib.hid hr; clear hr; clear hW x0 x1 x2 x3 x4 x5 x6 x7 x8 x9 x10 x11 x12 xf; have hc : Below w0.heap.size w0 w1 := hb; have H2 := (hc.block _ LA).trans HA; have L2 := Nat.lt_of_lt_of_le LA hc.size; clear HA LA; have HA := H2; have LA := L2; clear H2 L2; have H2 := Lib.hid (SamW.wo_below HOv.out hc); clear HOv; have HOv := H2; clear H2; have H2 := Lib.hid (HB.out.trans (hc.mono HB.out.size)); clear HB; have HB := H2; clear H2; clear hc hb)
    have HWo := HOv
    have HB1 := HB
    clear HOv HB
    go_loopw [7, 9] (fun v i wr => ∃ j : Nat, j ≤ m ∧ i = .int .i64 (j : Int) ∧ Sq.Own I 3 wr w1.heap.size v (fore g k (L.take j)) ∧ Below w1.heap.size w1 wr) (fun _ i _ => m - (intOf i).toNat)
    case atStart => exact ⟨0, Nat.zero_le _, rfl, own_nil _ _, Below.refl _ _⟩
    case round =>
      obtain ⟨j, hj, rfl, ho, hB⟩ := hrel
      have HO := Lib.hid ho
      have HB := Lib.hid hB
      by_cases hlt : j < m
      · obtain ⟨b, o, rfl, hb, hl, hcell⟩ := HR.out.at_ hlt
        obtain ⟨c, hc⟩ : ∃ c, L[j] = c := ⟨_, rfl⟩
        have hcm : c ∈ kids g x := by rw [HL.out, ← hc]; exact List.getElem_mem hl
        obtain ⟨q3, hq3⟩ : ∃ q, hasB g c 3 = q := ⟨_, rfl⟩
        obtain ⟨q2, hq2⟩ : ∃ q, showsB g c = q := ⟨_, rfl⟩
        have HQ3 := Lib.hid hq3
        have HQ2 := Lib.hid hq2
        have HP := Lib.hid (show fore g k (L.take (j + 1)) = fore g k (L.take j) ++ (if q3 = true then [] else c :: (if q2 = true then reach g k c else [])) by rw [List.take_succ_eq_append_getElem hl, hc, fore_snoc, hq3, hq2])
        have HLN := Lib.hid (show (fore g k (L.take j)).length ≤ 1024 * 1025 from Nat.le_trans (fore_sub g k (L.take j)).length_le (Nat.le_trans (flat_len (M := 1024) fun d hd => Nat.le_trans (HBL.out d (by rw [HL.out]; exact List.mem_of_mem_take hd)).2.2 hn) (Nat.mul_le_mul (Nat.le_trans (List.length_take_le ..) (by omega)) (by omega))))
        have HC := Lib.hid (show g.n ≤ k + (ups g c).length ∧ (reach g k c).length ≤ 1024 from ⟨(HBL.out c hcm).1, Nat.le_trans (HBL.out c hcm).2.1 hn⟩)
        rw [hc] at hcell
        unfold I at hcell
        have HS := Lib.hid (show ∀ U, Below w1.heap.size w1 U → (fun U => U.heap[w.heap.size]? = some (.cells #[.slice A0 n0 c0, .slice A1 n c1, .slice A2 n2 c2, .slice A3 n3 c3, .slice A4 n4 c4, .slice A5 n5 c5, .slice A6 n6 c6, .int .u64 g.seed, .int .i64 g.sc, .int .i64 g.tu, .int .i64 g.ov, .int .i64 g.it, .int .i64 g.go] 31 (0, 0)) ∧ U.cell? ⟨b, o + j, none⟩ = some (.int .i64 c)) U from fun U hU => ⟨(hU.block _ LA).trans HA, (bcell hU b (o + j) hb).trans hcell⟩)
        have k0 : (0 : Int) ≤ (j : Int) := by omega
        have k1 : (j : Int) < (m : Int) := by omega
        clear hc hl hcm ho hB hcell hq3 hq2
        go_wp2_with fail
        have hS : (fun U => U.heap[w.heap.size]? = some (.cells #[.slice A0 n0 c0, .slice A1 n c1, .slice A2 n2 c2, .slice A3 n3 c3, .slice A4 n4 c4, .slice A5 n5 c5, .slice A6 n6 c6, .int .u64 g.seed, .int .i64 g.sc, .int .i64 g.tu, .int .i64 g.ov, .int .i64 g.it, .int .i64 g.go] 31 (0, 0)) ∧ U.cell? ⟨b, o + j, none⟩ = some (.int .i64 c)) wr.drew := HS.out wr.drew (Below.drew HB.out)
        refine wp_region_held_drew (S := (fun U => U.heap[w.heap.size]? = some (.cells #[.slice A0 n0 c0, .slice A1 n c1, .slice A2 n2 c2, .slice A3 n3 c3, .slice A4 n4 c4, .slice A5 n5 c5, .slice A6 n6 c6, .int .u64 g.seed, .int .i64 g.sc, .int .i64 g.tu, .int .i64 g.ov, .int .i64 g.it, .int .i64 g.go] 31 (0, 0)) ∧ U.cell? ⟨b, o + j, none⟩ = some (.int .i64 c))) (by kernel_rfl) hS (fun hHeld => ?_)
        refine Rg.take (i := 0) (t := 23) rfl rfl (by kernel_rfl) (by kernel_rfl) (by kernel_rfl) (fun _ _ _ h => h) (by rfl) (by intro w0 hSw; obtain ⟨x0, x1, x2, x3, x4, x5, x6, x7, x8, x9, x10, x11, x12, xf⟩ := cells13 hSw.1; first | (go_simp; done) | (go_simp; with_reducible rfl)) (by assumption) ?_
        simp only [List.setIfInBounds_toArray, List.set_cons_zero, List.set_cons_succ]
        refine Rg.take (i := 1) (t := 24) (v := .slice (some ⟨b, o, none⟩) m ck) rfl rfl (by kernel_rfl) (by kernel_rfl) (by kernel_rfl) (fun _ _ _ h => h) (by rfl) (by intro w0 hSw; first | (go_simp; done) | (go_simp; with_reducible rfl)) (by assumption) ?_
        simp only [List.setIfInBounds_toArray, List.set_cons_zero, List.set_cons_succ]
        refine Rg.take (i := 2) (t := 25) (v := .int .i64 (j : Int)) rfl rfl (by kernel_rfl) (by kernel_rfl) (by kernel_rfl) (fun _ _ _ h => h) (by rfl) (by intro w0 hSw; first | (go_simp; done) | (go_simp; with_reducible rfl)) (by assumption) ?_
        simp only [List.setIfInBounds_toArray, List.set_cons_zero, List.set_cons_succ]
        refine Rg.take (i := 3) (t := 26) (v := .pointer (some ⟨b, o + j, none⟩)) rfl rfl (by kernel_rfl) (by kernel_rfl) (by kernel_rfl) (fun _ _ _ h => h) (by rfl) (by intro w0 hSw; first | (go_simp; done) | (go_simp; with_reducible rfl)) (by assumption) ?_
        simp only [List.setIfInBounds_toArray, List.set_cons_zero, List.set_cons_succ]
        refine Rg.take (i := 4) (t := 27) (v := .int .i64 c) rfl rfl (by kernel_rfl) (by kernel_rfl) (by kernel_rfl) (fun _ _ _ h => h) (by rfl) (by intro w0 hSw; have z := hSw.2; first | (go_simp; done) | (go_simp; with_reducible rfl)) (by assumption) ?_
        simp only [List.setIfInBounds_toArray, List.set_cons_zero, List.set_cons_succ]
        refine Rg.one (i := 5) (by kernel_rfl) ?_
        refine Rg.call (i := 5) (t := 28) rfl rfl (by rfl) (by go_simp; exact ⟨rfl, rfl⟩) ?_
        refine (hasr_v g c 3 wr.drew (SamW.wo_below HWo.out (Below.drew HB.out)) HF.out (by omega)).mono ?_
        rintro e w3 ⟨rfl, hb3⟩
        have HB3 := Lib.hid ((Below.drew HB.out).trans (hb3.mono (Below.drew HB.out).size))
        have HO3 := Lib.hid (HO.out.drew.below hb3)
        have hS3 : (fun U => U.heap[w.heap.size]? = some (.cells #[.slice A0 n0 c0, .slice A1 n c1, .slice A2 n2 c2, .slice A3 n3 c3, .slice A4 n4 c4, .slice A5 n5 c5, .slice A6 n6 c6, .int .u64 g.seed, .int .i64 g.sc, .int .i64 g.tu, .int .i64 g.ov, .int .i64 g.it, .int .i64 g.go] 31 (0, 0)) ∧ U.cell? ⟨b, o + j, none⟩ = some (.int .i64 c)) w3 := HS.out w3 HB3.out
        refine ⟨_, rfl, (fun U => U.heap[w.heap.size]? = some (.cells #[.slice A0 n0 c0, .slice A1 n c1, .slice A2 n2 c2, .slice A3 n3 c3, .slice A4 n4 c4, .slice A5 n5 c5, .slice A6 n6 c6, .int .u64 g.seed, .int .i64 g.sc, .int .i64 g.tu, .int .i64 g.ov, .int .i64 g.it, .int .i64 g.go] 31 (0, 0)) ∧ U.cell? ⟨b, o + j, none⟩ = some (.int .i64 c)), fun _ h => h, hS3, ?_⟩
        simp only [List.setIfInBounds_toArray, List.set_cons_zero, List.set_cons_succ]
        refine wpAnyH_done (by kernel_rfl) ?_ _
        clear hS
        rw [HQ3.out]
        cases q3 with
        | true =>
          go_wp2_with fail
          go_roundw
          case rel => exact ⟨j + 1, by omega, by go_num, by rw [HP.out, if_pos rfl, List.append_nil]; exact HO3.out, HB3.out⟩
          case measure => simp [intOf]; omega
        | false =>
          have z3 := hS3.2
          go_wp2_with (at_builtin; refine wpList_append elI rfl _ _ rfl rfl (HO3.out.alloc (.cells #[.int .i64 c] 3)) (some ⟨w3.heap.size, 0, none⟩) 1 1 [c] rfl (rd_lit (enc := I) w3 3 [c] _ rfl 1 rfl) (by have := HLN.out; unfold maxLen; omega) (by have := HLN.out; omega) (by have := HB3.out.size; simp; omega) ?_; rintro v4 w4 O4 b4 _ _; have HO4 := Lib.hid O4; have HB4 := Lib.hid ((HB3.out.alloc HB3.out.size _).trans b4); clear O4 b4)
          have hS : (fun U => U.heap[w.heap.size]? = some (.cells #[.slice A0 n0 c0, .slice A1 n c1, .slice A2 n2 c2, .slice A3 n3 c3, .slice A4 n4 c4, .slice A5 n5 c5, .slice A6 n6 c6, .int .u64 g.seed, .int .i64 g.sc, .int .i64 g.tu, .int .i64 g.ov, .int .i64 g.it, .int .i64 g.go] 31 (0, 0)) ∧ U.cell? ⟨b, o + j, none⟩ = some (.int .i64 c)) w4.drew := HS.out w4.drew (Below.drew HB4.out)
          clear z3 hS3
          refine wp_region_held_drew (S := (fun U => U.heap[w.heap.size]? = some (.cells #[.slice A0 n0 c0, .slice A1 n c1, .slice A2 n2 c2, .slice A3 n3 c3, .slice A4 n4 c4, .slice A5 n5 c5, .slice A6 n6 c6, .int .u64 g.seed, .int .i64 g.sc, .int .i64 g.tu, .int .i64 g.ov, .int .i64 g.it, .int .i64 g.go] 31 (0, 0)) ∧ U.cell? ⟨b, o + j, none⟩ = some (.int .i64 c))) (by kernel_rfl) hS (fun hHeld => ?_)
          refine Rg.take (i := 0) (t := 36) rfl rfl (by kernel_rfl) (by kernel_rfl) (by kernel_rfl) (fun _ _ _ h => h) (by rfl) (by intro w0 hSw; obtain ⟨x0, x1, x2, x3, x4, x5, x6, x7, x8, x9, x10, x11, x12, xf⟩ := cells13 hSw.1; first | (go_simp; done) | (go_simp; with_reducible rfl)) (by assumption) ?_
          simp only [List.setIfInBounds_toArray, List.set_cons_zero, List.set_cons_succ]
          refine Rg.take (i := 1) (t := 37) (v := .slice (some ⟨b, o, none⟩) m ck) rfl rfl (by kernel_rfl) (by kernel_rfl) (by kernel_rfl) (fun _ _ _ h => h) (by rfl) (by intro w0 hSw; first | (go_simp; done) | (go_simp; with_reducible rfl)) (by assumption) ?_
          simp only [List.setIfInBounds_toArray, List.set_cons_zero, List.set_cons_succ]
          refine Rg.take (i := 2) (t := 38) (v := .int .i64 (j : Int)) rfl rfl (by kernel_rfl) (by kernel_rfl) (by kernel_rfl) (fun _ _ _ h => h) (by rfl) (by intro w0 hSw; first | (go_simp; done) | (go_simp; with_reducible rfl)) (by assumption) ?_
          simp only [List.setIfInBounds_toArray, List.set_cons_zero, List.set_cons_succ]
          refine Rg.take (i := 3) (t := 39) (v := .pointer (some ⟨b, o + j, none⟩)) rfl rfl (by kernel_rfl) (by kernel_rfl) (by kernel_rfl) (fun _ _ _ h => h) (by rfl) (by intro w0 hSw; first | (go_simp; done) | (go_simp; with_reducible rfl)) (by assumption) ?_
          simp only [List.setIfInBounds_toArray, List.set_cons_zero, List.set_cons_succ]
          refine Rg.take (i := 4) (t := 40) (v := .int .i64 c) rfl rfl (by kernel_rfl) (by kernel_rfl) (by kernel_rfl) (fun _ _ _ h => h) (by rfl) (by intro w0 hSw; have z := hSw.2; first | (go_simp; done) | (go_simp; with_reducible rfl)) (by assumption) ?_
          simp only [List.setIfInBounds_toArray, List.set_cons_zero, List.set_cons_succ]
          refine Rg.one (i := 5) (by kernel_rfl) ?_
          refine Rg.call (i := 5) (t := 41) rfl rfl (by rfl) (by go_simp; exact ⟨rfl, rfl⟩) ?_
          refine (showsr_v g c w4.drew (SamW.wo_below HWo.out (Below.drew HB4.out)) HF.out).mono ?_
          rintro e w5 ⟨rfl, hb5⟩
          have HB5 := Lib.hid ((Below.drew HB4.out).trans (hb5.mono (Below.drew HB4.out).size))
          have HO5 := Lib.hid (HO4.out.drew.below hb5)
          have hS5 : (fun U => U.heap[w.heap.size]? = some (.cells #[.slice A0 n0 c0, .slice A1 n c1, .slice A2 n2 c2, .slice A3 n3 c3, .slice A4 n4 c4, .slice A5 n5 c5, .slice A6 n6 c6, .int .u64 g.seed, .int .i64 g.sc, .int .i64 g.tu, .int .i64 g.ov, .int .i64 g.it, .int .i64 g.go] 31 (0, 0)) ∧ U.cell? ⟨b, o + j, none⟩ = some (.int .i64 c)) w5 := HS.out w5 HB5.out
          refine ⟨_, rfl, (fun U => U.heap[w.heap.size]? = some (.cells #[.slice A0 n0 c0, .slice A1 n c1, .slice A2 n2 c2, .slice A3 n3 c3, .slice A4 n4 c4, .slice A5 n5 c5, .slice A6 n6 c6, .int .u64 g.seed, .int .i64 g.sc, .int .i64 g.tu, .int .i64 g.ov, .int .i64 g.it, .int .i64 g.go] 31 (0, 0)) ∧ U.cell? ⟨b, o + j, none⟩ = some (.int .i64 c)), fun _ h => h, hS5, ?_⟩
          simp only [List.setIfInBounds_toArray, List.set_cons_zero, List.set_cons_succ]
          refine wpAnyH_done (by kernel_rfl) ?_ _
          clear hS
          rw [HQ2.out]
          cases q2 with
          | false =>
            go_wp2_with fail
            go_roundw
            case rel => exact ⟨j + 1, by omega, by go_num, by rw [HP.out, if_neg (by simp), if_neg (by simp)]; exact HO5.out, HB5.out⟩
            case measure => simp [intOf]; omega
          | true =>
            go_wp2_with fail
            have hS : (fun U => U.heap[w.heap.size]? = some (.cells #[.slice A0 n0 c0, .slice A1 n c1, .slice A2 n2 c2, .slice A3 n3 c3, .slice A4 n4 c4, .slice A5 n5 c5, .slice A6 n6 c6, .int .u64 g.seed, .int .i64 g.sc, .int .i64 g.tu, .int .i64 g.ov, .int .i64 g.it, .int .i64 g.go] 31 (0, 0)) ∧ U.cell? ⟨b, o + j, none⟩ = some (.int .i64 c)) w5.drew := HS.out w5.drew (Below.drew HB5.out)
            clear hS5
            refine wp_region_held_drew (S := (fun U => U.heap[w.heap.size]? = some (.cells #[.slice A0 n0 c0, .slice A1 n c1, .slice A2 n2 c2, .slice A3 n3 c3, .slice A4 n4 c4, .slice A5 n5 c5, .slice A6 n6 c6, .int .u64 g.seed, .int .i64 g.sc, .int .i64 g.tu, .int .i64 g.ov, .int .i64 g.it, .int .i64 g.go] 31 (0, 0)) ∧ U.cell? ⟨b, o + j, none⟩ = some (.int .i64 c))) (by kernel_rfl) hS (fun hHeld => ?_)
            refine Rg.take (i := 0) (t := 42) (v := v4) rfl rfl (by kernel_rfl) (by kernel_rfl) (by kernel_rfl) (fun _ _ _ h => h) (by rfl) (by intro w0 hSw; first | (go_simp; done) | (go_simp; with_reducible rfl)) (by assumption) ?_
            simp only [List.setIfInBounds_toArray, List.set_cons_zero, List.set_cons_succ]
            refine Rg.take (i := 1) (t := 43) rfl rfl (by kernel_rfl) (by kernel_rfl) (by kernel_rfl) (fun _ _ _ h => h) (by rfl) (by intro w0 hSw; obtain ⟨x0, x1, x2, x3, x4, x5, x6, x7, x8, x9, x10, x11, x12, xf⟩ := cells13 hSw.1; first | (go_simp; done) | (go_simp; with_reducible rfl)) (by assumption) ?_
            simp only [List.setIfInBounds_toArray, List.set_cons_zero, List.set_cons_succ]
            refine Rg.take (i := 2) (t := 44) (v := .slice (some ⟨b, o, none⟩) m ck) rfl rfl (by kernel_rfl) (by kernel_rfl) (by kernel_rfl) (fun _ _ _ h => h) (by rfl) (by intro w0 hSw; first | (go_simp; done) | (go_simp; with_reducible rfl)) (by assumption) ?_
            simp only [List.setIfInBounds_toArray, List.set_cons_zero, List.set_cons_succ]
            refine Rg.take (i := 3) (t := 45) (v := .int .i64 (j : Int)) rfl rfl (by kernel_rfl) (by kernel_rfl) (by kernel_rfl) (fun _ _ _ h => h) (by rfl) (by intro w0 hSw; first | (go_simp; done) | (go_simp; with_reducible rfl)) (by assumption) ?_
            simp only [List.setIfInBounds_toArray, List.set_cons_zero, List.set_cons_succ]
            refine Rg.take (i := 4) (t := 46) (v := .pointer (some ⟨b, o + j, none⟩)) rfl rfl (by kernel_rfl) (by kernel_rfl) (by kernel_rfl) (fun _ _ _ h => h) (by rfl) (by intro w0 hSw; first | (go_simp; done) | (go_simp; with_reducible rfl)) (by assumption) ?_
            simp only [List.setIfInBounds_toArray, List.set_cons_zero, List.set_cons_succ]
            refine Rg.take (i := 5) (t := 47) (v := .int .i64 c) rfl rfl (by kernel_rfl) (by kernel_rfl) (by kernel_rfl) (fun _ _ _ h => h) (by rfl) (by intro w0 hSw; have z := hSw.2; first | (go_simp; done) | (go_simp; with_reducible rfl)) (by assumption) ?_
            simp only [List.setIfInBounds_toArray, List.set_cons_zero, List.set_cons_succ]
            refine Rg.take (i := 6) (t := 48) (v := .int .i64 K) rfl rfl (by kernel_rfl) (by kernel_rfl) (by kernel_rfl) (fun _ _ _ h => h) (by rfl) (by intro w0 hSw; first | (go_simp; done) | (go_simp; with_reducible rfl)) (by assumption) ?_
            simp only [List.setIfInBounds_toArray, List.set_cons_zero, List.set_cons_succ]
            refine Rg.take (i := 7) (t := 49) (v := .int .i64 (k : Int)) rfl rfl (by kernel_rfl) (by kernel_rfl) (by kernel_rfl) (fun _ _ _ h => h) (by rfl) (by intro w0 hSw; first | (go_simp; done) | (go_simp; with_reducible rfl)) (by assumption) ?_
            simp only [List.setIfInBounds_toArray, List.set_cons_zero, List.set_cons_succ]
            refine Rg.one (i := 8) (by kernel_rfl) ?_
            refine Rg.call (i := 8) (t := 50) rfl rfl (by rfl) (by go_simp; exact ⟨rfl, rfl⟩) ?_
            refine (HIH.out c w5.drew (by omega) HC.out.1 (SamW.wo_below HWo.out (Below.drew HB5.out))).mono ?_
            rintro e w6 ⟨u6, rfl, ho6, hb6⟩
            have HB6 := Lib.hid ((Below.drew HB5.out).trans (hb6.mono HB5.out.size))
            have HO6 := Lib.hid (HO5.out.drew.below hb6)
            obtain ⟨A6b, c6b, rfl, _, _⟩ := ho6.shape
            have hS6 : (fun U => U.heap[w.heap.size]? = some (.cells #[.slice A0 n0 c0, .slice A1 n c1, .slice A2 n2 c2, .slice A3 n3 c3, .slice A4 n4 c4, .slice A5 n5 c5, .slice A6 n6 c6, .int .u64 g.seed, .int .i64 g.sc, .int .i64 g.tu, .int .i64 g.ov, .int .i64 g.it, .int .i64 g.go] 31 (0, 0)) ∧ U.cell? ⟨b, o + j, none⟩ = some (.int .i64 c)) w6 := HS.out w6 HB6.out
            refine ⟨_, rfl, (fun U => U.heap[w.heap.size]? = some (.cells #[.slice A0 n0 c0, .slice A1 n c1, .slice A2 n2 c2, .slice A3 n3 c3, .slice A4 n4 c4, .slice A5 n5 c5, .slice A6 n6 c6, .int .u64 g.seed, .int .i64 g.sc, .int .i64 g.tu, .int .i64 g.ov, .int .i64 g.it, .int .i64 g.go] 31 (0, 0)) ∧ U.cell? ⟨b, o + j, none⟩ = some (.int .i64 c)), fun _ h => h, hS6, ?_⟩
            simp only [List.setIfInBounds_toArray, List.set_cons_zero, List.set_cons_succ]
            clear hS
            refine Rg.one (i := 9) (by kernel_rfl) ?_
            refine RgIn.app elI (i := 9) (t := 51) (.tmp 42) (.tmp 50) rfl rfl (by rfl) rfl rfl HO6.out A6b _ c6b (reach g k c) rfl ho6.rd (by have h1 := HLN.out; have h2 := HC.out.2; rw [List.length_append, List.length_singleton]; unfold maxLen; omega) (by have h1 := HLN.out; have h2 := HC.out.2; rw [List.length_append, List.length_singleton]; omega) HB6.out.size ?_
            intro v7 w7 ho7 hb7 _ _
            have HB7 := Lib.hid (HB6.out.trans hb7)
            have HO7 := Lib.hid ho7
            have hS7 : (fun U => U.heap[w.heap.size]? = some (.cells #[.slice A0 n0 c0, .slice A1 n c1, .slice A2 n2 c2, .slice A3 n3 c3, .slice A4 n4 c4, .slice A5 n5 c5, .slice A6 n6 c6, .int .u64 g.seed, .int .i64 g.sc, .int .i64 g.tu, .int .i64 g.ov, .int .i64 g.it, .int .i64 g.go] 31 (0, 0)) ∧ U.cell? ⟨b, o + j, none⟩ = some (.int .i64 c)) w7 := HS.out w7 HB7.out
            refine ⟨hS7, ?_⟩
            clear hS6
            simp only [List.setIfInBounds_toArray, List.set_cons_zero, List.set_cons_succ]
            refine Rg.take (i := 10) (t := 7) (v := v7) rfl rfl (by kernel_rfl) (by kernel_rfl) (by kernel_rfl) (fun _ _ _ h => h) (by rfl) (by intro w0 hSw; first | (go_simp; done) | (go_simp; with_reducible rfl)) (by assumption) ?_
            simp only [List.setIfInBounds_toArray, List.set_cons_zero, List.set_cons_succ]
            refine wpAnyH_done (by kernel_rfl) ?_ _
            go_wp2_with fail
            go_roundw
            case rel => exact ⟨j + 1, by omega, by go_num, by rw [HP.out, if_neg (by simp)]; (first | rw [if_pos rfl] | rw [if_pos trivial]); have h := HO7.out; rw [List.append_assoc] at h; exact h, HB7.out⟩
            case measure => simp [intOf]; omega
      · have hjm : m = j := by omega
        subst hjm
        have HF2 := Lib.hid (show fore g k (L.take m) = reach g (k + 1) x by rw [HBE.out, HL.out, List.take_of_length_le (by rw [HM.out]; exact Nat.le_refl _)])
        clear ho hB
        go_wp2_with fail
        go_ret
        exact ⟨_, rfl, by rw [← HF2.out]; exact HO.out.lower HB1.out.size, HB1.out.trans (HB.out.mono HB1.out.size)⟩
end Go.Proofs.Ytncdicagadbafaa.ViewX
