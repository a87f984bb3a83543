/- clewref23.Lit, Carried, Visible, Sees. Conditions: the world reads, things are within things as they must be, at most 128 of them; a flag for each thing, from 0 to 65535. -/
import Derived.Test.YtncdicagadbafaaVB
import Derived.Test.YtncdicagadbafaaViewX
namespace Go.Proofs.Ytncdicagadbafaa.ViewY
open Go Go.RowKit NestP NestW NestX NestY ValP ValW ValX ValR Sq WorldD CopP MoveP LvP MvA AttrP AttrW AttrX AttrY AttrZ AttrU AttrV AttrQ TabD TabW TabX TabB TabR MixP AwkP WoC ViewP ViewW RngB

theorem red (g : Wd) (n : Nat) (h : g.n = n) (x : Int) : reach g n x = reach g g.n x := by rw [h]
set_option maxRecDepth 100000 in
set_option maxHeartbeats 4000000 in
theorem carried_r {v : Value} (t : TbV) (g : Wd) (hG : NestP.Good g) (hF : Fl g) (hn : g.n ≤ 128) (w : World) (ho : Wo w v g) :
    Calls Try.prog 74 #[.agg #[.int .i64 t.ti, .int .i64 t.au, .int .i64 t.rl, .int .i64 t.mx, .slice t.tx.a t.tx.n t.tx.c, .int .i64 t.fl, .slice t.pr.a t.pr.n t.pr.c, .slice t.gl.a t.gl.n t.gl.c, .slice t.th.a t.th.n t.th.c, .slice t.ac.a t.ac.n t.ac.c, .slice t.de.a t.de.n t.de.c, .slice t.fu.a t.fu.n t.fu.c, .slice t.da.a t.da.n t.da.c, .slice t.pm.a t.pm.n t.pm.c, .slice t.lo.a t.lo.n t.lo.c], v] w fun e w' => ∃ u, e = .returned u ∧ Sq.Own I 3 w' w.heap.size u (carried g) ∧ Below w.heap.size w w' := by
  have HF := Lib.hid hF
  have hx := ho
  obtain ⟨A0, A1, A2, A3, A4, A5, A6, n0, c0, n, c1, n2, c2, n3, c3, n4, c4, n5, c5, n6, c6, rfl, ⟨_, r1, _⟩, _⟩ := hx
  have hg : g.n = n := r1.len.symm
  have hn128 : n ≤ 128 := by omega
  have bn : n ≤ 9223372036854775807 := by omega
  clear hF r1
  go_enter Try.func74, Try.ntmps74
  obtain ⟨w0, hW⟩ : ∃ w0, (w.alloc (.cells #[.int .i64 t.ti, .int .i64 t.au, .int .i64 t.rl, .int .i64 t.mx, .slice t.tx.a t.tx.n t.tx.c, .int .i64 t.fl, .slice t.pr.a t.pr.n t.pr.c, .slice t.gl.a t.gl.n t.gl.c, .slice t.th.a t.th.n t.th.c, .slice t.ac.a t.ac.n t.ac.c, .slice t.de.a t.de.n t.de.c, .slice t.fu.a t.fu.n t.fu.c, .slice t.da.a t.da.n t.da.c, .slice t.pm.a t.pm.n t.pm.c, .slice t.lo.a t.lo.n t.lo.c] 28)).alloc (.cells #[.slice A0 n0 c0, .slice A1 n c1, .slice A2 n2 c2, .slice A3 n3 c3, .slice A4 n4 c4, .slice A5 n5 c5, .slice A6 n6 c6, .int .u64 g.seed, .int .i64 g.sc, .int .i64 g.tu, .int .i64 g.ov, .int .i64 g.it, .int .i64 g.go] 31) = w0 := ⟨_, rfl⟩
  obtain ⟨_, HT, HA, hB⟩ := MvR.alloc2 hW
  have hs : w0.heap.size = w.heap.size + 1 + 1 := by rw [← hW]; simp
  have LT : w.heap.size < w0.heap.size := by omega
  have LA : w.heap.size + 1 < w0.heap.size := by omega
  have HB := Lib.hid hB
  have HOv := Lib.hid (SamW.wo_below ho hB)
  clear hs hB ho
  obtain ⟨t0, t1, t2, t3, t4, t5, t6, t7, t8, t9, t10, t11, t12, t13, t14, tf⟩ := cells15 HT
  obtain ⟨x0, x1, x2, x3, x4, x5, x6, x7, x8, x9, x10, x11, x12, xf⟩ := cells13 HA
  have HB0 := HB
  go_wp2_with (go_at_call 134; refine (ViewX.reached_o g hG HF.out (by omega) n 1 _ (by omega) (by omega) HOv.out).mono ?_; rintro e w1 ⟨u, rfl, ho, hb⟩; clear hW t0 t1 t2 t3 t4 t5 t6 t7 t8 t9 t10 t11 t12 t13 t14 tf x0 x1 x2 x3 x4 x5 x6 x7 x8 x9 x10 x11 x12 xf; have hc : Below w0.heap.size w0 w1 := hb; have H2 := (hc.block _ LT).trans HT; have L2 := Nat.lt_of_lt_of_le LT hc.size; clear HT LT; have HT := H2; have LT := L2; clear H2 L2; have H2 := (hc.block _ LA).trans HA; have L2 := Nat.lt_of_lt_of_le LA hc.size; clear HA LA; have HA := H2; have LA := L2; clear H2 L2; have H2 := Lib.hid (SamW.wo_below HOv.out hc); clear HOv; have HOv := H2; clear H2; have H2 := Lib.hid (HB.out.trans (hc.mono HB.out.size)); clear HB; have HB := H2; clear H2; clear hc hb; have HRO := Lib.hid ho; clear ho)
  go_ret
  exact ⟨_, rfl, by have h := HRO.out; rw [red g n hg] at h; exact h.lower (by have h2 := HB0.out.size; omega), HB.out⟩
set_option maxRecDepth 100000 in
set_option maxHeartbeats 4000000 in
theorem lit_r {v : Value} (t : TbV) (g : Wd) (hG : NestP.Good g) (hF : Fl g) (hn : g.n ≤ 128) (w : World) (ho : Wo w v g) :
    Calls Try.prog 71 #[.agg #[.int .i64 t.ti, .int .i64 t.au, .int .i64 t.rl, .int .i64 t.mx, .slice t.tx.a t.tx.n t.tx.c, .int .i64 t.fl, .slice t.pr.a t.pr.n t.pr.c, .slice t.gl.a t.gl.n t.gl.c, .slice t.th.a t.th.n t.th.c, .slice t.ac.a t.ac.n t.ac.c, .slice t.de.a t.de.n t.de.c, .slice t.fu.a t.fu.n t.fu.c, .slice t.da.a t.da.n t.da.c, .slice t.pm.a t.pm.n t.pm.c, .slice t.lo.a t.lo.n t.lo.c], v] w fun e w' => e = .returned (.bool (litB g)) ∧ Below w.heap.size w w' := by
  obtain ⟨H, hH⟩ : ∃ H, here g = H := ⟨_, rfl⟩
  obtain ⟨q0, hq0⟩ : ∃ q, hasB g H 0 = q := ⟨_, rfl⟩
  obtain ⟨L, hL⟩ : ∃ L, reach g g.n H = L := ⟨_, rfl⟩
  obtain ⟨m, hm⟩ : ∃ m, L.length = m := ⟨_, rfl⟩
  have hm128 : m ≤ 128 := by have := reach_len hG H; rw [hL, hm] at this; omega
  have HLIT := Lib.hid (show litB g = (q0 || L.any fun e => hasB g e 0) by unfold litB; rw [hH, hq0, hL])
  have HH := Lib.hid hH
  have HQ0 := Lib.hid hq0
  have HL := Lib.hid hL
  have HM := Lib.hid hm
  clear hH hq0 hL hm
  have HF := Lib.hid hF
  have hx := ho
  obtain ⟨A0, A1, A2, A3, A4, A5, A6, n0, c0, n, c1, n2, c2, n3, c3, n4, c4, n5, c5, n6, c6, rfl, ⟨_, r1, _⟩, _⟩ := hx
  have hg : g.n = n := r1.len.symm
  have hn128 : n ≤ 128 := by omega
  have bn : n ≤ 9223372036854775807 := by omega
  clear hF r1
  go_enter Try.func71, Try.ntmps71
  obtain ⟨w0, hW⟩ : ∃ w0, (w.alloc (.cells #[.int .i64 t.ti, .int .i64 t.au, .int .i64 t.rl, .int .i64 t.mx, .slice t.tx.a t.tx.n t.tx.c, .int .i64 t.fl, .slice t.pr.a t.pr.n t.pr.c, .slice t.gl.a t.gl.n t.gl.c, .slice t.th.a t.th.n t.th.c, .slice t.ac.a t.ac.n t.ac.c, .slice t.de.a t.de.n t.de.c, .slice t.fu.a t.fu.n t.fu.c, .slice t.da.a t.da.n t.da.c, .slice t.pm.a t.pm.n t.pm.c, .slice t.lo.a t.lo.n t.lo.c] 28)).alloc (.cells #[.slice A0 n0 c0, .slice A1 n c1, .slice A2 n2 c2, .slice A3 n3 c3, .slice A4 n4 c4, .slice A5 n5 c5, .slice A6 n6 c6, .int .u64 g.seed, .int .i64 g.sc, .int .i64 g.tu, .int .i64 g.ov, .int .i64 g.it, .int .i64 g.go] 31) = w0 := ⟨_, rfl⟩
  obtain ⟨_, HT, HA, hB⟩ := MvR.alloc2 hW
  have hs : w0.heap.size = w.heap.size + 1 + 1 := by rw [← hW]; simp
  have LT : w.heap.size < w0.heap.size := by omega
  have LA : w.heap.size + 1 < w0.heap.size := by omega
  have HB := Lib.hid hB
  have HOv := Lib.hid (SamW.wo_below ho hB)
  clear hs hB ho
  obtain ⟨t0, t1, t2, t3, t4, t5, t6, t7, t8, t9, t10, t11, t12, t13, t14, tf⟩ := cells15 HT
  obtain ⟨x0, x1, x2, x3, x4, x5, x6, x7, x8, x9, x10, x11, x12, xf⟩ := cells13 HA
  go_wp2_with (first
    | (go_at_call 69; (with_reducible refine (here_r g _ HOv.out).mono ?_); rintro e w1 ⟨rfl, hb⟩; rw [HH.out]; clear hW t0 t1 t2 t3 t4 t5 t6 t7 t8 t9 t10 t11 t12 t13 t14 tf x0 x1 x2 x3 x4 x5 x6 x7 x8 x9 x10 x11 x12 xf; have hc : Below w0.heap.size w0 w1 := hb; have H2 := (hc.block _ LT).trans HT; have L2 := Nat.lt_of_lt_of_le LT hc.size; clear HT LT; have HT := H2; have LT := L2; clear H2 L2; have H2 := (hc.block _ LA).trans HA; have L2 := Nat.lt_of_lt_of_le LA hc.size; clear HA LA; have HA := H2; have LA := L2; clear H2 L2; have H2 := Lib.hid (SamW.wo_below HOv.out hc); clear HOv; have HOv := H2; clear H2; have H2 := Lib.hid (HB.out.trans (hc.mono HB.out.size)); clear HB; have HB := H2; clear H2; clear hc hb; obtain ⟨x0, x1, x2, x3, x4, x5, x6, x7, x8, x9, x10, x11, x12, xf⟩ := cells13 HA)
    | (go_at_call 133; (with_reducible refine (hasr_v g H 0 _ HOv.out HF.out (by omega)).mono ?_); rintro e w2 ⟨rfl, hb⟩; rw [HQ0.out]; clear x0 x1 x2 x3 x4 x5 x6 x7 x8 x9 x10 x11 x12 xf; have hc : Below w1.heap.size w1 w2 := hb; have H2 := (hc.block _ LT).trans HT; have L2 := Nat.lt_of_lt_of_le LT hc.size; clear HT LT; have HT := H2; have LT := L2; clear H2 L2; have H2 := (hc.block _ LA).trans HA; have L2 := Nat.lt_of_lt_of_le LA hc.size; clear HA LA; have HA := H2; have LA := L2; clear H2 L2; have H2 := Lib.hid (SamW.wo_below HOv.out hc); clear HOv; have HOv := H2; clear H2; have H2 := Lib.hid (HB.out.trans (hc.mono HB.out.size)); clear HB; have HB := H2; clear H2; clear hc hb; obtain ⟨x0, x1, x2, x3, x4, x5, x6, x7, x8, x9, x10, x11, x12, xf⟩ := cells13 HA)
    | (go_at_call 134; refine (ViewX.reached_o g hG HF.out (by omega) n H _ (by omega) (by omega) HOv.out).mono ?_; rintro e w3 ⟨u, rfl, ho, hb⟩; clear x0 x1 x2 x3 x4 x5 x6 x7 x8 x9 x10 x11 x12 xf; have hc : Below w2.heap.size w2 w3 := hb; have H2 := (hc.block _ LT).trans HT; have L2 := Nat.lt_of_lt_of_le LT hc.size; clear HT LT; have HT := H2; have LT := L2; clear H2 L2; have H2 := (hc.block _ LA).trans HA; have L2 := Nat.lt_of_lt_of_le LA hc.size; clear HA LA; have HA := H2; have LA := L2; clear H2 L2; have H2 := Lib.hid (SamW.wo_below HOv.out hc); clear HOv; have HOv := H2; clear H2; have H2 := Lib.hid (HB.out.trans (hc.mono HB.out.size)); clear HB; have HB := H2; clear H2; clear hc hb; rw [red g n hg] at ho; obtain ⟨Ar, cr, rfl, _, _⟩ := ho.shape; have HRO := Lib.hid ho.rd; clear ho; rw [HL.out] at HRO ⊢; rw [HM.out] at HRO ⊢))
  go_loopw [6, 8] (fun lv iv wr => ∃ (j : Nat) (l : Bool), j ≤ m ∧ iv = .int .i64 (j : Int) ∧ lv = .bool l ∧ Hid (l = (q0 || (L.take j).any fun e => hasB g e 0)) ∧ Below w3.heap.size w3 wr) (fun _ iv _ => m - (intOf iv).toNat)
  case atStart => exact ⟨0, q0, Nat.zero_le _, rfl, rfl, Lib.hid (by simp), Below.refl _ _⟩
  case round =>
    obtain ⟨j, l, hj, rfl, rfl, HE, hBw⟩ := hrel
    have HBw := Lib.hid hBw
    by_cases hlt : j < m
    · obtain ⟨b, o, rfl, hbb, hl, hcell⟩ := HRO.out.at_ hlt
      obtain ⟨c, hc⟩ : ∃ c, L[j] = c := ⟨_, rfl⟩
      obtain ⟨q, hq⟩ : ∃ q, hasB g c 0 = q := ⟨_, rfl⟩
      have HQ := Lib.hid hq
      have HT := Lib.hid (show (q0 || (L.take (j + 1)).any fun e => hasB g e 0) = (l || q) by rw [List.take_succ_eq_append_getElem hl, hc, List.any_append, HE.out, ← Bool.or_assoc]; simp [hq])
      rw [hc] at hcell
      unfold I at hcell
      have HS := Lib.hid (show ∀ U, Below w3.heap.size w3 U → (fun U => U.heap[w.heap.size + 1]? = some (.cells #[.slice A0 n0 c0, .slice A1 n c1, .slice A2 n2 c2, .slice A3 n3 c3, .slice A4 n4 c4, .slice A5 n5 c5, .slice A6 n6 c6, .int .u64 g.seed, .int .i64 g.sc, .int .i64 g.tu, .int .i64 g.ov, .int .i64 g.it, .int .i64 g.go] 31 (0, 0)) ∧ U.cell? ⟨b, o + j, none⟩ = some (.int .i64 c)) U from fun U hU => ⟨(hU.block _ LA).trans HA, (bcell hU b (o + j) hbb).trans hcell⟩)
      have k0 : (0 : Int) ≤ (j : Int) := by omega
      have k1 : (j : Int) < (m : Int) := by omega
      clear hc hl hBw hcell hq
      go_wp2_with fail
      have hS : (fun U => U.heap[w.heap.size + 1]? = some (.cells #[.slice A0 n0 c0, .slice A1 n c1, .slice A2 n2 c2, .slice A3 n3 c3, .slice A4 n4 c4, .slice A5 n5 c5, .slice A6 n6 c6, .int .u64 g.seed, .int .i64 g.sc, .int .i64 g.tu, .int .i64 g.ov, .int .i64 g.it, .int .i64 g.go] 31 (0, 0)) ∧ U.cell? ⟨b, o + j, none⟩ = some (.int .i64 c)) wr.drew := HS.out wr.drew (Below.drew HBw.out)
      cases l with
      | false =>
          refine wp_region_held_drew (S := (fun U => U.heap[w.heap.size + 1]? = some (.cells #[.slice A0 n0 c0, .slice A1 n c1, .slice A2 n2 c2, .slice A3 n3 c3, .slice A4 n4 c4, .slice A5 n5 c5, .slice A6 n6 c6, .int .u64 g.seed, .int .i64 g.sc, .int .i64 g.tu, .int .i64 g.ov, .int .i64 g.it, .int .i64 g.go] 31 (0, 0)) ∧ U.cell? ⟨b, o + j, none⟩ = some (.int .i64 c))) (by kernel_rfl) hS (fun hHeld => ?_)
          refine Rg.take (i := 0) (t := 26) (v := .bool false) rfl rfl (by kernel_rfl) (by kernel_rfl) (by kernel_rfl) (fun _ _ _ h => h) (by rfl) (by intro w0 hSw; first | (go_simp; done) | (go_simp; with_reducible rfl)) (by assumption) ?_
          simp only [List.setIfInBounds_toArray, List.set_cons_zero, List.set_cons_succ]
          refine Rg.take (i := 1) (t := 27) (v := .bool false) rfl rfl (by kernel_rfl) (by kernel_rfl) (by kernel_rfl) (fun _ _ _ h => h) (by rfl) (by intro w0 hSw; first | (go_simp; done) | (go_simp; with_reducible rfl)) (by assumption) ?_
          simp only [List.setIfInBounds_toArray, List.set_cons_zero, List.set_cons_succ]
          refine Rg.take (i := 2) (t := 28) rfl rfl (by kernel_rfl) (by kernel_rfl) (by kernel_rfl) (fun _ _ _ h => h) (by rfl) (by intro w0 hSw; obtain ⟨x0, x1, x2, x3, x4, x5, x6, x7, x8, x9, x10, x11, x12, xf⟩ := cells13 hSw.1; first | (go_simp; done) | (go_simp; with_reducible rfl)) (by assumption) ?_
          simp only [List.setIfInBounds_toArray, List.set_cons_zero, List.set_cons_succ]
          refine Rg.take (i := 3) (t := 29) (v := .slice (some ⟨b, o, none⟩) m cr) rfl rfl (by kernel_rfl) (by kernel_rfl) (by kernel_rfl) (fun _ _ _ h => h) (by rfl) (by intro w0 hSw; first | (go_simp; done) | (go_simp; with_reducible rfl)) (by assumption) ?_
          simp only [List.setIfInBounds_toArray, List.set_cons_zero, List.set_cons_succ]
          refine Rg.take (i := 4) (t := 30) (v := .int .i64 (j : Int)) rfl rfl (by kernel_rfl) (by kernel_rfl) (by kernel_rfl) (fun _ _ _ h => h) (by rfl) (by intro w0 hSw; first | (go_simp; done) | (go_simp; with_reducible rfl)) (by assumption) ?_
          simp only [List.setIfInBounds_toArray, List.set_cons_zero, List.set_cons_succ]
          refine Rg.take (i := 5) (t := 31) (v := .pointer (some ⟨b, o + j, none⟩)) rfl rfl (by kernel_rfl) (by kernel_rfl) (by kernel_rfl) (fun _ _ _ h => h) (by rfl) (by intro w0 hSw; first | (go_simp; done) | (go_simp; with_reducible rfl)) (by assumption) ?_
          simp only [List.setIfInBounds_toArray, List.set_cons_zero, List.set_cons_succ]
          refine Rg.take (i := 6) (t := 32) (v := .int .i64 c) rfl rfl (by kernel_rfl) (by kernel_rfl) (by kernel_rfl) (fun _ _ _ h => h) (by rfl) (by intro w0 hSw; have z := hSw.2; first | (go_simp; done) | (go_simp; with_reducible rfl)) (by assumption) ?_
          simp only [List.setIfInBounds_toArray, List.set_cons_zero, List.set_cons_succ]
          refine Rg.one (i := 7) (by kernel_rfl) ?_
          refine Rg.call (i := 7) (t := 33) rfl rfl (by rfl) (by go_simp; exact ⟨rfl, rfl⟩) ?_
          refine (hasr_v g c 0 wr.drew (SamW.wo_below HOv.out (Below.drew HBw.out)) HF.out (by omega)).mono ?_
          rintro e w5 ⟨rfl, hb5⟩
          rw [HQ.out]
          have HB5 := Lib.hid ((Below.drew HBw.out).trans (hb5.mono HBw.out.size))
          have hS5 : (fun U => U.heap[w.heap.size + 1]? = some (.cells #[.slice A0 n0 c0, .slice A1 n c1, .slice A2 n2 c2, .slice A3 n3 c3, .slice A4 n4 c4, .slice A5 n5 c5, .slice A6 n6 c6, .int .u64 g.seed, .int .i64 g.sc, .int .i64 g.tu, .int .i64 g.ov, .int .i64 g.it, .int .i64 g.go] 31 (0, 0)) ∧ U.cell? ⟨b, o + j, none⟩ = some (.int .i64 c)) w5 := HS.out w5 HB5.out
          refine ⟨_, rfl, (fun U => U.heap[w.heap.size + 1]? = some (.cells #[.slice A0 n0 c0, .slice A1 n c1, .slice A2 n2 c2, .slice A3 n3 c3, .slice A4 n4 c4, .slice A5 n5 c5, .slice A6 n6 c6, .int .u64 g.seed, .int .i64 g.sc, .int .i64 g.tu, .int .i64 g.ov, .int .i64 g.it, .int .i64 g.go] 31 (0, 0)) ∧ U.cell? ⟨b, o + j, none⟩ = some (.int .i64 c)), fun _ h => h, hS5, ?_⟩
          simp only [List.setIfInBounds_toArray, List.set_cons_zero, List.set_cons_succ]
          refine Rg.take (i := 8) (t := 34) (v := .bool q) rfl rfl (by kernel_rfl) (by kernel_rfl) (by kernel_rfl) (fun _ _ _ h => h) (by rfl) (by intro w0 hSw; first | (go_simp; done) | (go_simp; with_reducible rfl)) (by assumption) ?_
          simp only [List.setIfInBounds_toArray, List.set_cons_zero, List.set_cons_succ]
          refine Rg.take (i := 9) (t := 6) (v := .bool q) rfl rfl (by kernel_rfl) (by kernel_rfl) (by kernel_rfl) (fun _ _ _ h => h) (by rfl) (by intro w0 hSw; first | (go_simp; done) | (go_simp; with_reducible rfl)) (by assumption) ?_
          simp only [List.setIfInBounds_toArray, List.set_cons_zero, List.set_cons_succ]
          refine wpAnyH_done (by kernel_rfl) ?_ _
          clear hS
          go_wp2_with fail
          go_roundw
          case rel => exact ⟨j + 1, q, by omega, by go_num, rfl, Lib.hid (by rw [HT.out]; simp), HB5.out⟩
          case measure => simp [intOf]; omega
      | true =>
          refine wp_region_held_drew (S := (fun U => U.heap[w.heap.size + 1]? = some (.cells #[.slice A0 n0 c0, .slice A1 n c1, .slice A2 n2 c2, .slice A3 n3 c3, .slice A4 n4 c4, .slice A5 n5 c5, .slice A6 n6 c6, .int .u64 g.seed, .int .i64 g.sc, .int .i64 g.tu, .int .i64 g.ov, .int .i64 g.it, .int .i64 g.go] 31 (0, 0)) ∧ U.cell? ⟨b, o + j, none⟩ = some (.int .i64 c))) (by kernel_rfl) hS (fun hHeld => ?_)
          refine Rg.take (i := 0) (t := 26) (v := .bool true) rfl rfl (by kernel_rfl) (by kernel_rfl) (by kernel_rfl) (fun _ _ _ h => h) (by rfl) (by intro w0 hSw; first | (go_simp; done) | (go_simp; with_reducible rfl)) (by assumption) ?_
          simp only [List.setIfInBounds_toArray, List.set_cons_zero, List.set_cons_succ]
          refine Rg.take (i := 1) (t := 27) (v := .bool true) rfl rfl (by kernel_rfl) (by kernel_rfl) (by kernel_rfl) (fun _ _ _ h => h) (by rfl) (by intro w0 hSw; first | (go_simp; done) | (go_simp; with_reducible rfl)) (by assumption) ?_
          simp only [List.setIfInBounds_toArray, List.set_cons_zero, List.set_cons_succ]
          refine Rg.pass (i := 2) (t := 28) rfl rfl (by kernel_rfl) (by kernel_rfl) (by kernel_rfl) (fun _ _ _ h => h) (by rfl) (by assumption) ?_
          simp only [List.setIfInBounds_toArray, List.set_cons_zero, List.set_cons_succ]
          refine Rg.pass (i := 3) (t := 29) rfl rfl (by kernel_rfl) (by kernel_rfl) (by kernel_rfl) (fun _ _ _ h => h) (by rfl) (by assumption) ?_
          simp only [List.setIfInBounds_toArray, List.set_cons_zero, List.set_cons_succ]
          refine Rg.pass (i := 4) (t := 30) rfl rfl (by kernel_rfl) (by kernel_rfl) (by kernel_rfl) (fun _ _ _ h => h) (by rfl) (by assumption) ?_
          simp only [List.setIfInBounds_toArray, List.set_cons_zero, List.set_cons_succ]
          refine Rg.pass (i := 5) (t := 31) rfl rfl (by kernel_rfl) (by kernel_rfl) (by kernel_rfl) (fun _ _ _ h => h) (by rfl) (by assumption) ?_
          simp only [List.setIfInBounds_toArray, List.set_cons_zero, List.set_cons_succ]
          refine Rg.pass (i := 6) (t := 32) rfl rfl (by kernel_rfl) (by kernel_rfl) (by kernel_rfl) (fun _ _ _ h => h) (by rfl) (by assumption) ?_
          simp only [List.setIfInBounds_toArray, List.set_cons_zero, List.set_cons_succ]
          refine Rg.pass (i := 7) (t := 33) rfl rfl (by kernel_rfl) (by kernel_rfl) (by kernel_rfl) (fun _ _ _ h => h) (by rfl) (by assumption) ?_
          simp only [List.setIfInBounds_toArray, List.set_cons_zero, List.set_cons_succ]
          refine Rg.take (i := 8) (t := 34) (v := .bool true) rfl rfl (by kernel_rfl) (by kernel_rfl) (by kernel_rfl) (fun _ _ _ h => h) (by rfl) (by intro w0 hSw; first | (go_simp; done) | (go_simp; with_reducible rfl)) (by assumption) ?_
          simp only [List.setIfInBounds_toArray, List.set_cons_zero, List.set_cons_succ]
          refine Rg.take (i := 9) (t := 6) (v := .bool true) rfl rfl (by kernel_rfl) (by kernel_rfl) (by kernel_rfl) (fun _ _ _ h => h) (by rfl) (by intro w0 hSw; first | (go_simp; done) | (go_simp; with_reducible rfl)) (by assumption) ?_
          simp only [List.setIfInBounds_toArray, List.set_cons_zero, List.set_cons_succ]
          refine wpAnyH_done (by kernel_rfl) ?_ _
          clear hS
          go_wp2_with fail
          go_roundw
          case rel => exact ⟨j + 1, true, by omega, by go_num, rfl, Lib.hid (by rw [HT.out]; simp), Below.drew HBw.out⟩
          case measure => simp [intOf]; omega
    · have hjm : m = j := by omega
      subst hjm
      have HF2 := Lib.hid (show l = litB g by rw [HLIT.out, HE.out, List.take_of_length_le (by rw [HM.out]; exact Nat.le_refl _)])
      clear hBw
      go_wp2_with fail
      go_ret
      exact ⟨by rw [← HF2.out] <;> rfl, HB.out.trans (HBw.out.mono HB.out.size)⟩
set_option maxRecDepth 100000 in
set_option maxHeartbeats 4000000 in
theorem visible_r {v : Value} (t : TbV) (g : Wd) (hG : NestP.Good g) (hF : Fl g) (hn : g.n ≤ 128) (w : World) (ho : Wo w v g) :
    Calls Try.prog 76 #[.agg #[.int .i64 t.ti, .int .i64 t.au, .int .i64 t.rl, .int .i64 t.mx, .slice t.tx.a t.tx.n t.tx.c, .int .i64 t.fl, .slice t.pr.a t.pr.n t.pr.c, .slice t.gl.a t.gl.n t.gl.c, .slice t.th.a t.th.n t.th.c, .slice t.ac.a t.ac.n t.ac.c, .slice t.de.a t.de.n t.de.c, .slice t.fu.a t.fu.n t.fu.c, .slice t.da.a t.da.n t.da.c, .slice t.pm.a t.pm.n t.pm.c, .slice t.lo.a t.lo.n t.lo.c], v] w fun e w' => ∃ u, e = .returned u ∧ Sq.Own I 3 w' w.heap.size u (visible g) ∧ Below w.heap.size w w' := by
  obtain ⟨H, hH⟩ : ∃ H, here g = H := ⟨_, rfl⟩
  obtain ⟨li, hli⟩ : ∃ q, litB g = q := ⟨_, rfl⟩
  obtain ⟨L, hL⟩ : ∃ L, reach g g.n H = L := ⟨_, rfl⟩
  obtain ⟨m, hm⟩ : ∃ m, L.length = m := ⟨_, rfl⟩
  have hm128 : m ≤ 128 := by have := reach_len hG H; rw [hL, hm] at this; omega
  have HVIS := Lib.hid (show visible g = if li = true then L.filter (fun e => e != 1) else carried g by unfold visible; rw [hH, hli, hL])
  have HH := Lib.hid hH
  have HLI := Lib.hid hli
  have HL := Lib.hid hL
  have HM := Lib.hid hm
  clear hH hli hL hm
  cases li with
  | false =>
    have HV2 := Lib.hid (show visible g = carried g by rw [HVIS.out, if_neg (by simp)])
    clear HVIS
    have HF := Lib.hid hF
    have hx := ho
    obtain ⟨A0, A1, A2, A3, A4, A5, A6, n0, c0, n, c1, n2, c2, n3, c3, n4, c4, n5, c5, n6, c6, rfl, ⟨_, r1, _⟩, _⟩ := hx
    have hg : g.n = n := r1.len.symm
    have hn128 : n ≤ 128 := by omega
    have bn : n ≤ 9223372036854775807 := by omega
    clear hF r1
    go_enter Try.func76, Try.ntmps76
    obtain ⟨w0, hW⟩ : ∃ w0, (w.alloc (.cells #[.int .i64 t.ti, .int .i64 t.au, .int .i64 t.rl, .int .i64 t.mx, .slice t.tx.a t.tx.n t.tx.c, .int .i64 t.fl, .slice t.pr.a t.pr.n t.pr.c, .slice t.gl.a t.gl.n t.gl.c, .slice t.th.a t.th.n t.th.c, .slice t.ac.a t.ac.n t.ac.c, .slice t.de.a t.de.n t.de.c, .slice t.fu.a t.fu.n t.fu.c, .slice t.da.a t.da.n t.da.c, .slice t.pm.a t.pm.n t.pm.c, .slice t.lo.a t.lo.n t.lo.c] 28)).alloc (.cells #[.slice A0 n0 c0, .slice A1 n c1, .slice A2 n2 c2, .slice A3 n3 c3, .slice A4 n4 c4, .slice A5 n5 c5, .slice A6 n6 c6, .int .u64 g.seed, .int .i64 g.sc, .int .i64 g.tu, .int .i64 g.ov, .int .i64 g.it, .int .i64 g.go] 31) = w0 := ⟨_, rfl⟩
    obtain ⟨_, HT, HA, hB⟩ := MvR.alloc2 hW
    have hs : w0.heap.size = w.heap.size + 1 + 1 := by rw [← hW]; simp
    have LT : w.heap.size < w0.heap.size := by omega
    have LA : w.heap.size + 1 < w0.heap.size := by omega
    have HB := Lib.hid hB
    have HOv := Lib.hid (SamW.wo_below ho hB)
    clear hs hB ho
    obtain ⟨t0, t1, t2, t3, t4, t5, t6, t7, t8, t9, t10, t11, t12, t13, t14, tf⟩ := cells15 HT
    obtain ⟨x0, x1, x2, x3, x4, x5, x6, x7, x8, x9, x10, x11, x12, xf⟩ := cells13 HA
    have HB0 := HB
    go_wp2_with (first
      | (go_at_call 71; (with_reducible refine (lit_r t g hG HF.out hn _ HOv.out).mono ?_); rintro e w1 ⟨rfl, hb⟩; rw [HLI.out]; clear hW t0 t1 t2 t3 t4 t5 t6 t7 t8 t9 t10 t11 t12 t13 t14 tf x0 x1 x2 x3 x4 x5 x6 x7 x8 x9 x10 x11 x12 xf; have hc : Below w0.heap.size w0 w1 := hb; have H2 := (hc.block _ LT).trans HT; have L2 := Nat.lt_of_lt_of_le LT hc.size; clear HT LT; have HT := H2; have LT := L2; clear H2 L2; have H2 := (hc.block _ LA).trans HA; have L2 := Nat.lt_of_lt_of_le LA hc.size; clear HA LA; have HA := H2; have LA := L2; clear H2 L2; have H2 := Lib.hid (SamW.wo_below HOv.out hc); clear HOv; have HOv := H2; clear H2; have H2 := Lib.hid (HB.out.trans (hc.mono HB.out.size)); clear HB; have HB := H2; clear H2; clear hc hb; obtain ⟨t0, t1, t2, t3, t4, t5, t6, t7, t8, t9, t10, t11, t12, t13, t14, tf⟩ := cells15 HT; obtain ⟨x0, x1, x2, x3, x4, x5, x6, x7, x8, x9, x10, x11, x12, xf⟩ := cells13 HA; have HBx := HB)
      | (go_at_call 74; (with_reducible refine (carried_r t g hG HF.out hn _ HOv.out).mono ?_); rintro e w2 ⟨u, rfl, ho, hb⟩; clear t0 t1 t2 t3 t4 t5 t6 t7 t8 t9 t10 t11 t12 t13 t14 tf x0 x1 x2 x3 x4 x5 x6 x7 x8 x9 x10 x11 x12 xf; have hc : Below w1.heap.size w1 w2 := hb; have H2 := (hc.block _ LT).trans HT; have L2 := Nat.lt_of_lt_of_le LT hc.size; clear HT LT; have HT := H2; have LT := L2; clear H2 L2; have H2 := (hc.block _ LA).trans HA; have L2 := Nat.lt_of_lt_of_le LA hc.size; clear HA LA; have HA := H2; have LA := L2; clear H2 L2; have H2 := Lib.hid (SamW.wo_below HOv.out hc); clear HOv; have HOv := H2; clear H2; have H2 := Lib.hid (HB.out.trans (hc.mono HB.out.size)); clear HB; have HB := H2; clear H2; clear hc hb; have HRO := Lib.hid ho; clear ho))
    go_ret
    exact ⟨_, rfl, by rw [HV2.out]; exact HRO.out.lower (by have h1 := HB0.out.size; have h2 := HBx.out.size; omega), HB.out⟩
  | true =>
    have HV2 := Lib.hid (show visible g = L.filter (fun e => e != 1) by rw [HVIS.out, if_pos rfl])
    clear HVIS
    have HF := Lib.hid hF
    have hx := ho
    obtain ⟨A0, A1, A2, A3, A4, A5, A6, n0, c0, n, c1, n2, c2, n3, c3, n4, c4, n5, c5, n6, c6, rfl, ⟨_, r1, _⟩, _⟩ := hx
    have hg : g.n = n := r1.len.symm
    have hn128 : n ≤ 128 := by omega
    have bn : n ≤ 9223372036854775807 := by omega
    clear hF r1
    go_enter Try.func76, Try.ntmps76
    obtain ⟨w0, hW⟩ : ∃ w0, (w.alloc (.cells #[.int .i64 t.ti, .int .i64 t.au, .int .i64 t.rl, .int .i64 t.mx, .slice t.tx.a t.tx.n t.tx.c, .int .i64 t.fl, .slice t.pr.a t.pr.n t.pr.c, .slice t.gl.a t.gl.n t.gl.c, .slice t.th.a t.th.n t.th.c, .slice t.ac.a t.ac.n t.ac.c, .slice t.de.a t.de.n t.de.c, .slice t.fu.a t.fu.n t.fu.c, .slice t.da.a t.da.n t.da.c, .slice t.pm.a t.pm.n t.pm.c, .slice t.lo.a t.lo.n t.lo.c] 28)).alloc (.cells #[.slice A0 n0 c0, .slice A1 n c1, .slice A2 n2 c2, .slice A3 n3 c3, .slice A4 n4 c4, .slice A5 n5 c5, .slice A6 n6 c6, .int .u64 g.seed, .int .i64 g.sc, .int .i64 g.tu, .int .i64 g.ov, .int .i64 g.it, .int .i64 g.go] 31) = w0 := ⟨_, rfl⟩
    obtain ⟨_, HT, HA, hB⟩ := MvR.alloc2 hW
    have hs : w0.heap.size = w.heap.size + 1 + 1 := by rw [← hW]; simp
    have LT : w.heap.size < w0.heap.size := by omega
    have LA : w.heap.size + 1 < w0.heap.size := by omega
    have HB := Lib.hid hB
    have HOv := Lib.hid (SamW.wo_below ho hB)
    clear hs hB ho
    obtain ⟨t0, t1, t2, t3, t4, t5, t6, t7, t8, t9, t10, t11, t12, t13, t14, tf⟩ := cells15 HT
    obtain ⟨x0, x1, x2, x3, x4, x5, x6, x7, x8, x9, x10, x11, x12, xf⟩ := cells13 HA
    go_wp2_with (go_at_call 71; (with_reducible refine (lit_r t g hG HF.out hn _ HOv.out).mono ?_); rintro e w1 ⟨rfl, hb⟩; rw [HLI.out]; clear hW t0 t1 t2 t3 t4 t5 t6 t7 t8 t9 t10 t11 t12 t13 t14 tf x0 x1 x2 x3 x4 x5 x6 x7 x8 x9 x10 x11 x12 xf; have hc : Below w0.heap.size w0 w1 := hb; have H2 := (hc.block _ LT).trans HT; have L2 := Nat.lt_of_lt_of_le LT hc.size; clear HT LT; have HT := H2; have LT := L2; clear H2 L2; have H2 := (hc.block _ LA).trans HA; have L2 := Nat.lt_of_lt_of_le LA hc.size; clear HA LA; have HA := H2; have LA := L2; clear H2 L2; have H2 := Lib.hid (SamW.wo_below HOv.out hc); clear HOv; have HOv := H2; clear H2; have H2 := Lib.hid (HB.out.trans (hc.mono HB.out.size)); clear HB; have HB := H2; clear H2; clear hc hb; obtain ⟨t0, t1, t2, t3, t4, t5, t6, t7, t8, t9, t10, t11, t12, t13, t14, tf⟩ := cells15 HT; obtain ⟨x0, x1, x2, x3, x4, x5, x6, x7, x8, x9, x10, x11, x12, xf⟩ := cells13 HA)
    have hS : (fun U => U.heap[w.heap.size + 1]? = some (.cells #[.slice A0 n0 c0, .slice A1 n c1, .slice A2 n2 c2, .slice A3 n3 c3, .slice A4 n4 c4, .slice A5 n5 c5, .slice A6 n6 c6, .int .u64 g.seed, .int .i64 g.sc, .int .i64 g.tu, .int .i64 g.ov, .int .i64 g.it, .int .i64 g.go] 31 (0, 0))) w1.drew := ((Below.drew (Below.refl w1.heap.size w1)).block _ LA).trans HA
    refine wp_region_held_drew (S := (fun U => U.heap[w.heap.size + 1]? = some (.cells #[.slice A0 n0 c0, .slice A1 n c1, .slice A2 n2 c2, .slice A3 n3 c3, .slice A4 n4 c4, .slice A5 n5 c5, .slice A6 n6 c6, .int .u64 g.seed, .int .i64 g.sc, .int .i64 g.tu, .int .i64 g.ov, .int .i64 g.it, .int .i64 g.go] 31 (0, 0)))) (by kernel_rfl) hS (fun hHeld => ?_)
    refine Rg.take (i := 0) (t := 15) (v := .agg #[.slice A0 n0 c0, .slice A1 n c1, .slice A2 n2 c2, .slice A3 n3 c3, .slice A4 n4 c4, .slice A5 n5 c5, .slice A6 n6 c6, .int .u64 g.seed, .int .i64 g.sc, .int .i64 g.tu, .int .i64 g.ov, .int .i64 g.it, .int .i64 g.go]) rfl rfl (by kernel_rfl) (by kernel_rfl) (by kernel_rfl) (fun _ _ _ h => h) (by rfl) (by intro w0 hSw; obtain ⟨x0, x1, x2, x3, x4, x5, x6, x7, x8, x9, x10, x11, x12, xf⟩ := cells13 hSw; first | (go_simp; done) | (go_simp; with_reducible rfl)) (by assumption) ?_
    simp only [List.setIfInBounds_toArray, List.set_cons_zero, List.set_cons_succ]
    refine Rg.take (i := 1) (t := 16) (v := .agg #[.slice A0 n0 c0, .slice A1 n c1, .slice A2 n2 c2, .slice A3 n3 c3, .slice A4 n4 c4, .slice A5 n5 c5, .slice A6 n6 c6, .int .u64 g.seed, .int .i64 g.sc, .int .i64 g.tu, .int .i64 g.ov, .int .i64 g.it, .int .i64 g.go]) rfl rfl (by kernel_rfl) (by kernel_rfl) (by kernel_rfl) (fun _ _ _ h => h) (by rfl) (by intro w0 hSw; obtain ⟨x0, x1, x2, x3, x4, x5, x6, x7, x8, x9, x10, x11, x12, xf⟩ := cells13 hSw; first | (go_simp; done) | (go_simp; with_reducible rfl)) (by assumption) ?_
    simp only [List.setIfInBounds_toArray, List.set_cons_zero, List.set_cons_succ]
    refine Rg.take (i := 3) (t := 18) rfl rfl (by kernel_rfl) (by kernel_rfl) (by kernel_rfl) (fun _ _ _ h => h) (by rfl) (by intro w0 hSw; first | (go_simp; done) | (go_simp; with_reducible rfl)) (by assumption) ?_
    simp only [List.setIfInBounds_toArray, List.set_cons_zero, List.set_cons_succ]
    refine Rg.take (i := 4) (t := 19) (v := .slice A1 n c1) rfl rfl (by kernel_rfl) (by kernel_rfl) (by kernel_rfl) (fun _ _ _ h => h) (by rfl) (by intro w0 hSw; obtain ⟨x0, x1, x2, x3, x4, x5, x6, x7, x8, x9, x10, x11, x12, xf⟩ := cells13 hSw; first | (go_simp; done) | (go_simp; with_reducible rfl)) (by assumption) ?_
    simp only [List.setIfInBounds_toArray, List.set_cons_zero, List.set_cons_succ]
    refine Rg.take (i := 5) (t := 20) (v := .int .i64 (n : Int)) rfl rfl (by kernel_rfl) (by kernel_rfl) (by kernel_rfl) (fun _ _ _ h => h) (by rfl) (by intro w0 hSw; first | (go_simp; done) | (go_simp; with_reducible rfl)) (by assumption) ?_
    simp only [List.setIfInBounds_toArray, List.set_cons_zero, List.set_cons_succ]
    refine Rg.one (i := 2) (by kernel_rfl) ?_
    refine Rg.call (i := 2) (t := 17) rfl rfl (by rfl) (by go_simp; exact ⟨rfl, rfl⟩) ?_
    refine (here_r g w1.drew (SamW.wo_below HOv.out (Below.drew (Below.refl _ _)))).mono ?_
    rintro e w3 ⟨rfl, hb3⟩
    rw [HH.out]
    have HB3 := Lib.hid ((Below.drew (Below.refl w1.heap.size w1)).trans (hb3.mono (Nat.le_refl _)))
    have hS3 : (fun U => U.heap[w.heap.size + 1]? = some (.cells #[.slice A0 n0 c0, .slice A1 n c1, .slice A2 n2 c2, .slice A3 n3 c3, .slice A4 n4 c4, .slice A5 n5 c5, .slice A6 n6 c6, .int .u64 g.seed, .int .i64 g.sc, .int .i64 g.tu, .int .i64 g.ov, .int .i64 g.it, .int .i64 g.go] 31 (0, 0))) w3 := (HB3.out.block _ LA).trans HA
    refine ⟨_, rfl, (fun U => U.heap[w.heap.size + 1]? = some (.cells #[.slice A0 n0 c0, .slice A1 n c1, .slice A2 n2 c2, .slice A3 n3 c3, .slice A4 n4 c4, .slice A5 n5 c5, .slice A6 n6 c6, .int .u64 g.seed, .int .i64 g.sc, .int .i64 g.tu, .int .i64 g.ov, .int .i64 g.it, .int .i64 g.go] 31 (0, 0))), fun _ h => h, hS3, ?_⟩
    simp only [List.setIfInBounds_toArray, List.set_cons_zero, List.set_cons_succ]
    clear hS
    refine Rg.one (i := 6) (by kernel_rfl) ?_
    refine Rg.call (i := 6) (t := 21) rfl rfl (by rfl) (by go_simp; exact ⟨rfl, rfl⟩) ?_
    refine (ViewX.reached_o g hG HF.out (by omega) n H w3 (by omega) (by omega) (SamW.wo_below HOv.out HB3.out)).mono ?_
    rintro e w4 ⟨u, rfl, ho, hb4⟩
    rw [red g n hg] at ho
    obtain ⟨Ar, cr, rfl, _, _⟩ := ho.shape
    have HRO := Lib.hid ho.rd
    clear ho
    rw [HL.out] at HRO ⊢
    rw [HM.out] at HRO ⊢
    have HB4 := Lib.hid (HB3.out.trans (hb4.mono HB3.out.size))
    have hS4 : (fun U => U.heap[w.heap.size + 1]? = some (.cells #[.slice A0 n0 c0, .slice A1 n c1, .slice A2 n2 c2, .slice A3 n3 c3, .slice A4 n4 c4, .slice A5 n5 c5, .slice A6 n6 c6, .int .u64 g.seed, .int .i64 g.sc, .int .i64 g.tu, .int .i64 g.ov, .int .i64 g.it, .int .i64 g.go] 31 (0, 0))) w4 := (HB4.out.block _ LA).trans HA
    refine ⟨_, rfl, (fun U => U.heap[w.heap.size + 1]? = some (.cells #[.slice A0 n0 c0, .slice A1 n c1, .slice A2 n2 c2, .slice A3 n3 c3, .slice A4 n4 c4, .slice A5 n5 c5, .slice A6 n6 c6, .int .u64 g.seed, .int .i64 g.sc, .int .i64 g.tu, .int .i64 g.ov, .int .i64 g.it, .int .i64 g.go] 31 (0, 0))), fun _ h => h, hS4, ?_⟩
    simp only [List.setIfInBounds_toArray, List.set_cons_zero, List.set_cons_succ]
    refine Rg.take (i := 7) (t := 6) rfl rfl (by kernel_rfl) (by kernel_rfl) (by kernel_rfl) (fun _ _ _ h => h) (by rfl) (by intro w0 hSw; first | (go_simp; done) | (go_simp; with_reducible rfl)) (by assumption) ?_
    simp only [List.setIfInBounds_toArray, List.set_cons_zero, List.set_cons_succ]
    refine wpAnyH_done (by kernel_rfl) ?_ _
    clear hS3
    go_wp2_with fail
    go_loopw [5, 7] (fun ov iv wr => ∃ j : Nat, j ≤ m ∧ iv = .int .i64 (j : Int) ∧ Sq.Own I 3 wr w4.heap.size ov ((L.take j).filter (fun e => e != 1)) ∧ Below w4.heap.size w4 wr) (fun _ iv _ => m - (intOf iv).toNat)
    case atStart => exact ⟨0, Nat.zero_le _, rfl, own_nil _ _, Below.refl _ _⟩
    case round =>
      obtain ⟨j, hj, rfl, ho, hBw⟩ := hrel
      have HO := Lib.hid ho
      have HBw := Lib.hid hBw
      by_cases hlt : j < m
      · obtain ⟨b, o, rfl, hbb, hl, hcell⟩ := HRO.out.at_ hlt
        obtain ⟨c, hc⟩ : ∃ c, L[j] = c := ⟨_, rfl⟩
        have HT := Lib.hid (show (L.take (j + 1)).filter (fun e => e != 1) = (L.take j).filter (fun e => e != 1) ++ (if c = 1 then [] else [c]) by
          rw [List.take_succ_eq_append_getElem hl, hc, List.filter_append]
          by_cases h1 : c = 1 <;> simp [h1])
        have HLN := Lib.hid (show ((L.take j).filter (fun e => e != 1)).length ≤ 128 from Nat.le_trans (List.length_filter_le _ _) (Nat.le_trans (List.length_take_le ..) (by omega)))
        rw [hc] at hcell
        unfold I at hcell
        have hcr := (bcell hBw b (o + j) hbb).trans hcell
        have k0 : (0 : Int) ≤ (j : Int) := by omega
        have k1 : (j : Int) < (m : Int) := by omega
        clear hc hl ho hBw hcell
        by_cases h1 : c = 1
        · subst h1
          go_wp2_with fail
          go_roundw
          case rel => exact ⟨j + 1, by omega, by go_num, by rw [HT.out, if_pos rfl, List.append_nil]; exact HO.out, HBw.out⟩
          case measure => simp [intOf]; omega
        · have h2 : (c != (1 : Int)) = true := by simpa using h1
          have HT2 := Lib.hid (show (L.take (j + 1)).filter (fun e => e != 1) = (L.take j).filter (fun e => e != 1) ++ [c] by rw [HT.out, if_neg h1])
          clear h1 HT
          go_wp2_with (at_builtin; refine wpList_append elI rfl _ _ rfl rfl (HO.out.alloc (.cells #[.int .i64 c] 3)) (some ⟨wr.heap.size, 0, none⟩) 1 1 [c] rfl (rd_lit (enc := I) wr 3 [c] _ rfl 1 rfl) (by have := HLN.out; unfold maxLen; omega) (by have := HLN.out; omega) (by have := HBw.out.size; simp; omega) ?_; rintro v5 w5 O5 b5 _ _; have HO5 := Lib.hid O5; have HB5 := Lib.hid ((HBw.out.alloc HBw.out.size _).trans b5); clear O5 b5)
          go_roundw
          case rel => exact ⟨j + 1, by omega, by go_num, by rw [HT2.out]; exact HO5.out, HB5.out⟩
          case measure => simp [intOf]; omega
      · have hjm : m = j := by omega
        subst hjm
        have HF2 := Lib.hid (show (L.take m).filter (fun e => e != 1) = visible g by rw [HV2.out, List.take_of_length_le (by rw [HM.out]; exact Nat.le_refl _)])
        clear ho hBw
        go_wp2_with fail
        go_ret
        exact ⟨_, rfl, by rw [← HF2.out]; exact HO.out.lower (by have h1 := HB.out.size; have h2 := HB4.out.size; omega), HB.out.trans ((HB4.out.trans (HBw.out.mono HB4.out.size)).mono HB.out.size)⟩
set_option maxRecDepth 100000 in
set_option maxHeartbeats 4000000 in
theorem sees_r {v : Value} (t : TbV) (g : Wd) (hG : NestP.Good g) (hF : Fl g) (hn : g.n ≤ 128) (x : Int) (w : World) (ho : Wo w v g) :
    Calls Try.prog 78 #[.agg #[.int .i64 t.ti, .int .i64 t.au, .int .i64 t.rl, .int .i64 t.mx, .slice t.tx.a t.tx.n t.tx.c, .int .i64 t.fl, .slice t.pr.a t.pr.n t.pr.c, .slice t.gl.a t.gl.n t.gl.c, .slice t.th.a t.th.n t.th.c, .slice t.ac.a t.ac.n t.ac.c, .slice t.de.a t.de.n t.de.c, .slice t.fu.a t.fu.n t.fu.c, .slice t.da.a t.da.n t.da.c, .slice t.pm.a t.pm.n t.pm.c, .slice t.lo.a t.lo.n t.lo.c], v, .int .i64 x] w fun e w' => e = .returned (.bool (seesB g x)) ∧ Below w.heap.size w w' := by
  obtain ⟨H, hH⟩ : ∃ H, here g = H := ⟨_, rfl⟩
  obtain ⟨L, hL⟩ : ∃ L, visible g = L := ⟨_, rfl⟩
  obtain ⟨m, hm⟩ : ∃ m, L.length = m := ⟨_, rfl⟩
  have hm128 : m ≤ 128 := by
    have h1 := reach_len hG (here g)
    have h2 := reach_len hG 1
    rw [← hm, ← hL]
    unfold visible carried
    split
    · exact Nat.le_trans (List.length_filter_le _ _) (by omega)
    · omega
  obtain ⟨e1, he1⟩ : ∃ q, (x == (1 : Int)) = q := ⟨_, rfl⟩
  obtain ⟨e2, he2⟩ : ∃ q, (x == H) = q := ⟨_, rfl⟩
  have HSE := Lib.hid (show seesB g x = (L.contains x || e1 || e2) by unfold seesB; rw [hH, hL, he1, he2])
  have HH := Lib.hid hH
  have HL := Lib.hid hL
  have HM := Lib.hid hm
  clear hH hL hm
  have HF := Lib.hid hF
  have hx := ho
  obtain ⟨A0, A1, A2, A3, A4, A5, A6, n0, c0, n, c1, n2, c2, n3, c3, n4, c4, n5, c5, n6, c6, rfl, ⟨_, r1, _⟩, _⟩ := hx
  have hg : g.n = n := r1.len.symm
  have hn128 : n ≤ 128 := by omega
  have bn : n ≤ 9223372036854775807 := by omega
  clear hF r1
  go_enter Try.func78, Try.ntmps78
  obtain ⟨w0, hW⟩ : ∃ w0, (w.alloc (.cells #[.int .i64 t.ti, .int .i64 t.au, .int .i64 t.rl, .int .i64 t.mx, .slice t.tx.a t.tx.n t.tx.c, .int .i64 t.fl, .slice t.pr.a t.pr.n t.pr.c, .slice t.gl.a t.gl.n t.gl.c, .slice t.th.a t.th.n t.th.c, .slice t.ac.a t.ac.n t.ac.c, .slice t.de.a t.de.n t.de.c, .slice t.fu.a t.fu.n t.fu.c, .slice t.da.a t.da.n t.da.c, .slice t.pm.a t.pm.n t.pm.c, .slice t.lo.a t.lo.n t.lo.c] 28)).alloc (.cells #[.slice A0 n0 c0, .slice A1 n c1, .slice A2 n2 c2, .slice A3 n3 c3, .slice A4 n4 c4, .slice A5 n5 c5, .slice A6 n6 c6, .int .u64 g.seed, .int .i64 g.sc, .int .i64 g.tu, .int .i64 g.ov, .int .i64 g.it, .int .i64 g.go] 31) = w0 := ⟨_, rfl⟩
  obtain ⟨_, HT, HA, hB⟩ := MvR.alloc2 hW
  have hs : w0.heap.size = w.heap.size + 1 + 1 := by rw [← hW]; simp
  have LT : w.heap.size < w0.heap.size := by omega
  have LA : w.heap.size + 1 < w0.heap.size := by omega
  have HB := Lib.hid hB
  have HOv := Lib.hid (SamW.wo_below ho hB)
  clear hs hB ho
  obtain ⟨t0, t1, t2, t3, t4, t5, t6, t7, t8, t9, t10, t11, t12, t13, t14, tf⟩ := cells15 HT
  obtain ⟨x0, x1, x2, x3, x4, x5, x6, x7, x8, x9, x10, x11, x12, xf⟩ := cells13 HA
  go_wp2_with (go_at_call 76; (with_reducible refine (visible_r t g hG HF.out hn _ HOv.out).mono ?_); rintro e w1 ⟨u, rfl, ho, hb⟩; clear hW t0 t1 t2 t3 t4 t5 t6 t7 t8 t9 t10 t11 t12 t13 t14 tf x0 x1 x2 x3 x4 x5 x6 x7 x8 x9 x10 x11 x12 xf; have hc : Below w0.heap.size w0 w1 := hb; have H2 := (hc.block _ LT).trans HT; have L2 := Nat.lt_of_lt_of_le LT hc.size; clear HT LT; have HT := H2; have LT := L2; clear H2 L2; have H2 := (hc.block _ LA).trans HA; have L2 := Nat.lt_of_lt_of_le LA hc.size; clear HA LA; have HA := H2; have LA := L2; clear H2 L2; have H2 := Lib.hid (SamW.wo_below HOv.out hc); clear HOv; have HOv := H2; clear H2; have H2 := Lib.hid (HB.out.trans (hc.mono HB.out.size)); clear HB; have HB := H2; clear H2; clear hc hb; obtain ⟨Ar, cr, rfl, _, _⟩ := ho.shape; have HRO := Lib.hid ho.rd; clear ho; rw [HL.out] at HRO ⊢; rw [HM.out] at HRO ⊢)
  go_loop [8] (fun iv => ∃ j : Nat, j ≤ m ∧ iv = .int .i64 (j : Int) ∧ Hid ((L.take j).contains x = false)) (fun iv => m - (intOf iv).toNat)
  case atStart => exact ⟨0, Nat.zero_le _, rfl, Lib.hid (by simp)⟩
  case round =>
    obtain ⟨j, hj, rfl, HE⟩ := hrel
    by_cases hlt : j < m
    · obtain ⟨b, o, rfl, hbb, hl, hcell⟩ := HRO.out.at_ hlt
      obtain ⟨c, hc⟩ : ∃ c, L[j] = c := ⟨_, rfl⟩
      have hmem : c ∈ L := hc ▸ List.getElem_mem hl
      have HT := Lib.hid (show c ≠ x → (L.take (j + 1)).contains x = false by
        intro hne
        have h := HE.out
        rw [List.take_succ_eq_append_getElem hl, hc]
        simp only [List.contains_eq_mem, List.mem_append, List.mem_singleton, decide_eq_false_iff_not] at h ⊢
        rintro (h3 | h3)
        · exact h h3
        · exact hne h3.symm)
      rw [hc] at hcell
      unfold I at hcell
      have k0 : (0 : Int) ≤ (j : Int) := by omega
      have k1 : (j : Int) < (m : Int) := by omega
      clear hc hl
      by_cases h1 : c = x
      · subst h1
        have HF2 := Lib.hid (show seesB g c = true by rw [HSE.out, show L.contains c = true by simpa using hmem]; simp)
        clear hmem
        go_wp2_with fail
        go_ret
        exact ⟨by rw [HF2.out] <;> rfl, HB.out⟩
      · have h2 : (c == x) = false := beq_eq_false_iff_ne.2 h1
        have HT2 := Lib.hid (HT.out h1)
        clear h1 hmem
        go_wp2_with fail
        go_round
        case rel => exact ⟨j + 1, by omega, by go_num, HT2⟩
        case measure => simp [intOf]; omega
    · have hjm : m = j := by omega
      subst hjm
      have HF2 := Lib.hid (show seesB g x = (e1 || e2) by
        have h := HE.out
        rw [List.take_of_length_le (by rw [HM.out]; exact Nat.le_refl _)] at h
        rw [HSE.out, h, Bool.false_or])
      obtain ⟨x0, x1, x2, x3, x4, x5, x6, x7, x8, x9, x10, x11, x12, xf⟩ := cells13 HA
      cases e1
      · cases e2
        all_goals
          go_wp2_with (go_at_call 69; refine (here_r g _ HOv.out).mono ?_; rintro e w9 ⟨rfl, hb⟩; rw [HH.out]; have hz := HB.out.trans (hb.mono HB.out.size))
          go_ret
          exact ⟨by rw [HF2.out] <;> rfl, hz⟩
      · go_wp2_with fail
        go_ret
        exact ⟨by rw [HF2.out] <;> rfl, HB.out⟩
end Go.Proofs.Ytncdicagadbafaa.ViewY
