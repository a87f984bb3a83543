/- view.Carried, Visible, Sees. Conditions: the world reads, things are within things as they must be, at most 128 of them; a flag for each thing, from 0 to 65535. -/
import Derived.Test.YtncdicagadbafaaVB
import Derived.Test.YtncdicagadbafaaVSD
import Derived.Test.YtncdicagadbafaaVER
import Derived.Test.YtncdicagadbafaaReg
namespace Go.Proofs.Ytncdicagadbafaa.ViewF
open Go Go.RowKit NestP NestW NestX NestY ValP ValW ValX ValR Sq WorldD CopP MoveP LvP MvA AttrP AttrW AttrX AttrY AttrZ AttrU AttrV AttrQ TabD TabW TabX TabB TabR MixP AwkP WoC ViewP ViewW ViewK ViewC ViewS ViewD ViewE Rng RngU RngT RngC RngD RngB

set_option maxRecDepth 100000 in
set_option maxHeartbeats 4000000 in
theorem carried_v {v : Value} (t : TbV) (g : Wd) (hG : NestP.Good g) (hF : Fl g) (hn : g.n ≤ 128) (w : World) (ho : Wo w v g) :
    Calls Try.prog 73 #[.agg #[.int .i64 t.ti, .int .i64 t.au, .int .i64 t.rl, .int .i64 t.mx, .slice t.tx.a t.tx.n t.tx.c, .int .i64 t.fl, .slice t.pr.a t.pr.n t.pr.c, .slice t.gl.a t.gl.n t.gl.c, .slice t.th.a t.th.n t.th.c, .slice t.ac.a t.ac.n t.ac.c, .slice t.de.a t.de.n t.de.c, .slice t.fu.a t.fu.n t.fu.c, .slice t.da.a t.da.n t.da.c, .slice t.pm.a t.pm.n t.pm.c, .slice t.lo.a t.lo.n t.lo.c], v] w fun e w' => ∃ u, e = .returned u ∧ Sq.Own I 3 w' w.heap.size u (carried g) ∧ Below w.heap.size w w' := by
  have HF := Lib.hid hF
  have HW0 := Lib.hid ho
  have hx := ho
  clear hF
  obtain ⟨A0, A1, A2, A3, A4, A5, A6, n0, c0, n, c1, n2, c2, n3, c3, n4, c4, n5, c5, n6, c6, rfl, _⟩ := hx
  go_enter Try.func73, Try.ntmps73
  obtain ⟨w0, hW⟩ : ∃ w0, (w.alloc (.cells #[.int .i64 t.ti, .int .i64 t.au, .int .i64 t.rl, .int .i64 t.mx, .slice t.tx.a t.tx.n t.tx.c, .int .i64 t.fl, .slice t.pr.a t.pr.n t.pr.c, .slice t.gl.a t.gl.n t.gl.c, .slice t.th.a t.th.n t.th.c, .slice t.ac.a t.ac.n t.ac.c, .slice t.de.a t.de.n t.de.c, .slice t.fu.a t.fu.n t.fu.c, .slice t.da.a t.da.n t.da.c, .slice t.pm.a t.pm.n t.pm.c, .slice t.lo.a t.lo.n t.lo.c] 28)).alloc (.cells #[.slice A0 n0 c0, .slice A1 n c1, .slice A2 n2 c2, .slice A3 n3 c3, .slice A4 n4 c4, .slice A5 n5 c5, .slice A6 n6 c6, .int .u64 g.seed, .int .i64 g.sc, .int .i64 g.tu, .int .i64 g.ov, .int .i64 g.it, .int .i64 g.go] 31) = w0 := ⟨_, rfl⟩
  obtain ⟨hz0, HT, HA, hB⟩ := MvR.alloc2 hW
  have hs : w0.heap.size = w.heap.size + 1 + 1 := by rw [← hW]; simp
  have LT : w.heap.size < w0.heap.size := by omega
  have LA : w.heap.size + 1 < w0.heap.size := by omega
  have HB := Lib.hid hB
  have HOv := Lib.hid (SamW.wo_below ho hB)
  clear hs hz0 hB ho
  obtain ⟨t0, t1, t2, t3, t4, t5, t6, t7, t8, t9, t10, t11, t12, t13, t14, tf⟩ := cells15 HT
  obtain ⟨x0, x1, x2, x3, x4, x5, x6, x7, x8, x9, x10, x11, x12, xf⟩ := cells13 HA
  go_wp2_with (first
    | (go_at_call 132; refine (reached_i g 1 _ HOv.out).mono ?_; rintro e w1 ⟨rfl, hb, hs3, ⟨cs, hcs, f3⟩, f4⟩; clear hW t0 t1 t2 t3 t4 t5 t6 t7 t8 t9 t10 t11 t12 t13 t14 tf x0 x1 x2 x3 x4 x5 x6 x7 x8 x9 x10 x11 x12 xf; have hc : Below w0.heap.size w0 w1 := hb; have H2 := (hc.block _ LT).trans HT; have L2 := Nat.lt_of_lt_of_le LT hc.size; clear HT LT; have HT := H2; have LT := L2; clear H2 L2; have H2 := (hc.block _ LA).trans HA; have L2 := Nat.lt_of_lt_of_le LA hc.size; clear HA LA; have HA := H2; have LA := L2; clear H2 L2; have H2 := Lib.hid (SamW.wo_below HOv.out hc); clear HOv; have HOv := H2; clear H2; have H2 := Lib.hid (HB.out.trans (hc.mono HB.out.size)); clear HB; have HB := H2; clear H2; clear hc hb; injection hcs with hcs; subst hcs)
    | (go_at_call 111; refine (collect_reached g hG HF.out hn 1 w w1 w0.heap.size (w0.heap.size + 1) _ HW0.out f3 f4 (low_of HB.out)).mono ?_; rintro e w2 ⟨u, rfl, ho, hnil, hb⟩))
  go_ret
  exact ⟨_, rfl, ho.lower HB.out.size, HB.out.trans (hb.mono HB.out.size)⟩
set_option maxRecDepth 100000 in
set_option maxHeartbeats 4000000 in
theorem visible_v {v : Value} (t : TbV) (g : Wd) (hG : NestP.Good g) (hF : Fl g) (hn : g.n ≤ 128) (w : World) (ho : Wo w v g) :
    Calls Try.prog 75 #[.agg #[.int .i64 t.ti, .int .i64 t.au, .int .i64 t.rl, .int .i64 t.mx, .slice t.tx.a t.tx.n t.tx.c, .int .i64 t.fl, .slice t.pr.a t.pr.n t.pr.c, .slice t.gl.a t.gl.n t.gl.c, .slice t.th.a t.th.n t.th.c, .slice t.ac.a t.ac.n t.ac.c, .slice t.de.a t.de.n t.de.c, .slice t.fu.a t.fu.n t.fu.c, .slice t.da.a t.da.n t.da.c, .slice t.pm.a t.pm.n t.pm.c, .slice t.lo.a t.lo.n t.lo.c], v] w fun e w' => ∃ u, e = .returned u ∧ Sq.Own I 3 w' w.heap.size u (visible g) ∧ Below w.heap.size w w' := by
  obtain ⟨H, hH⟩ : ∃ H, here g = H := ⟨_, rfl⟩
  obtain ⟨li, hli⟩ : ∃ q, litB g = q := ⟨_, rfl⟩
  obtain ⟨L, hL⟩ : ∃ L, reach g g.n H = L := ⟨_, rfl⟩
  obtain ⟨m, hm⟩ : ∃ m, L.length = m := ⟨_, rfl⟩
  have hm128 : m ≤ 1024 := by have := reach_len hG H; rw [hL, hm] at this; omega
  have HVIS := Lib.hid (show visible g = if li = true then noOne L else carried g by unfold visible noOne; rw [hH, hli, hL])
  have HH := Lib.hid hH
  have HLI := Lib.hid hli
  have HL := Lib.hid hL
  have HM := Lib.hid hm
  clear hH hli hL hm
  cases li with
  | false =>
    have HV2 := Lib.hid (show visible g = carried g by rw [HVIS.out, if_neg (by simp)])
    clear HVIS
    have HF := Lib.hid hF
    have HW0 := Lib.hid ho
    have hx := ho
    clear hF
    obtain ⟨A0, A1, A2, A3, A4, A5, A6, n0, c0, n, c1, n2, c2, n3, c3, n4, c4, n5, c5, n6, c6, rfl, _⟩ := hx
    go_enter Try.func75, Try.ntmps75
    obtain ⟨w0, hW⟩ : ∃ w0, (w.alloc (.cells #[.int .i64 t.ti, .int .i64 t.au, .int .i64 t.rl, .int .i64 t.mx, .slice t.tx.a t.tx.n t.tx.c, .int .i64 t.fl, .slice t.pr.a t.pr.n t.pr.c, .slice t.gl.a t.gl.n t.gl.c, .slice t.th.a t.th.n t.th.c, .slice t.ac.a t.ac.n t.ac.c, .slice t.de.a t.de.n t.de.c, .slice t.fu.a t.fu.n t.fu.c, .slice t.da.a t.da.n t.da.c, .slice t.pm.a t.pm.n t.pm.c, .slice t.lo.a t.lo.n t.lo.c] 28)).alloc (.cells #[.slice A0 n0 c0, .slice A1 n c1, .slice A2 n2 c2, .slice A3 n3 c3, .slice A4 n4 c4, .slice A5 n5 c5, .slice A6 n6 c6, .int .u64 g.seed, .int .i64 g.sc, .int .i64 g.tu, .int .i64 g.ov, .int .i64 g.it, .int .i64 g.go] 31) = w0 := ⟨_, rfl⟩
    obtain ⟨hz0, HT, HA, hB⟩ := MvR.alloc2 hW
    have hs : w0.heap.size = w.heap.size + 1 + 1 := by rw [← hW]; simp
    have LT : w.heap.size < w0.heap.size := by omega
    have LA : w.heap.size + 1 < w0.heap.size := by omega
    have HB := Lib.hid hB
    have HOv := Lib.hid (SamW.wo_below ho hB)
    clear hs hz0 hB ho
    obtain ⟨t0, t1, t2, t3, t4, t5, t6, t7, t8, t9, t10, t11, t12, t13, t14, tf⟩ := cells15 HT
    obtain ⟨x0, x1, x2, x3, x4, x5, x6, x7, x8, x9, x10, x11, x12, xf⟩ := cells13 HA
    go_wp2_with (first
      | (go_at_call 70; (with_reducible refine (lit_v t g hG HF.out hn _ HOv.out).mono ?_); rintro e w1 ⟨rfl, hb⟩; rw [HLI.out]; clear hW t0 t1 t2 t3 t4 t5 t6 t7 t8 t9 t10 t11 t12 t13 t14 tf x0 x1 x2 x3 x4 x5 x6 x7 x8 x9 x10 x11 x12 xf; have hc : Below w0.heap.size w0 w1 := hb; have H2 := (hc.block _ LT).trans HT; have L2 := Nat.lt_of_lt_of_le LT hc.size; clear HT LT; have HT := H2; have LT := L2; clear H2 L2; have H2 := (hc.block _ LA).trans HA; have L2 := Nat.lt_of_lt_of_le LA hc.size; clear HA LA; have HA := H2; have LA := L2; clear H2 L2; have H2 := Lib.hid (SamW.wo_below HOv.out hc); clear HOv; have HOv := H2; clear H2; have H2 := Lib.hid (HB.out.trans (hc.mono HB.out.size)); clear HB; have HB := H2; clear H2; clear hc hb; obtain ⟨t0, t1, t2, t3, t4, t5, t6, t7, t8, t9, t10, t11, t12, t13, t14, tf⟩ := cells15 HT; obtain ⟨x0, x1, x2, x3, x4, x5, x6, x7, x8, x9, x10, x11, x12, xf⟩ := cells13 HA; have HBx := HB)
      | (go_at_call 73; (with_reducible refine (carried_v t g hG HF.out hn _ HOv.out).mono ?_); rintro e w2 ⟨u, rfl, ho, hb⟩; clear t0 t1 t2 t3 t4 t5 t6 t7 t8 t9 t10 t11 t12 t13 t14 tf x0 x1 x2 x3 x4 x5 x6 x7 x8 x9 x10 x11 x12 xf; have hc : Below w1.heap.size w1 w2 := hb; have H2 := (hc.block _ LT).trans HT; have L2 := Nat.lt_of_lt_of_le LT hc.size; clear HT LT; have HT := H2; have LT := L2; clear H2 L2; have H2 := (hc.block _ LA).trans HA; have L2 := Nat.lt_of_lt_of_le LA hc.size; clear HA LA; have HA := H2; have LA := L2; clear H2 L2; have H2 := Lib.hid (SamW.wo_below HOv.out hc); clear HOv; have HOv := H2; clear H2; have H2 := Lib.hid (HB.out.trans (hc.mono HB.out.size)); clear HB; have HB := H2; clear H2; clear hc hb; have HRO := Lib.hid ho; clear ho))
    go_ret
    exact ⟨_, rfl, by rw [HV2.out]; exact HRO.out.lower HBx.out.size, HB.out⟩
  | true =>
    have HV2 := Lib.hid (show visible g = noOne L by rw [HVIS.out, if_pos rfl])
    clear HVIS
    have HF := Lib.hid hF
    have HW0 := Lib.hid ho
    have hx := ho
    clear hF
    obtain ⟨A0, A1, A2, A3, A4, A5, A6, n0, c0, n, c1, n2, c2, n3, c3, n4, c4, n5, c5, n6, c6, rfl, _⟩ := hx
    go_enter Try.func75, Try.ntmps75
    obtain ⟨w0, hW⟩ : ∃ w0, (w.alloc (.cells #[.int .i64 t.ti, .int .i64 t.au, .int .i64 t.rl, .int .i64 t.mx, .slice t.tx.a t.tx.n t.tx.c, .int .i64 t.fl, .slice t.pr.a t.pr.n t.pr.c, .slice t.gl.a t.gl.n t.gl.c, .slice t.th.a t.th.n t.th.c, .slice t.ac.a t.ac.n t.ac.c, .slice t.de.a t.de.n t.de.c, .slice t.fu.a t.fu.n t.fu.c, .slice t.da.a t.da.n t.da.c, .slice t.pm.a t.pm.n t.pm.c, .slice t.lo.a t.lo.n t.lo.c] 28)).alloc (.cells #[.slice A0 n0 c0, .slice A1 n c1, .slice A2 n2 c2, .slice A3 n3 c3, .slice A4 n4 c4, .slice A5 n5 c5, .slice A6 n6 c6, .int .u64 g.seed, .int .i64 g.sc, .int .i64 g.tu, .int .i64 g.ov, .int .i64 g.it, .int .i64 g.go] 31) = w0 := ⟨_, rfl⟩
    obtain ⟨hz0, HT, HA, hB⟩ := MvR.alloc2 hW
    have hs : w0.heap.size = w.heap.size + 1 + 1 := by rw [← hW]; simp
    have LT : w.heap.size < w0.heap.size := by omega
    have LA : w.heap.size + 1 < w0.heap.size := by omega
    have HB := Lib.hid hB
    have HOv := Lib.hid (SamW.wo_below ho hB)
    clear hs hz0 hB ho
    obtain ⟨t0, t1, t2, t3, t4, t5, t6, t7, t8, t9, t10, t11, t12, t13, t14, tf⟩ := cells15 HT
    obtain ⟨x0, x1, x2, x3, x4, x5, x6, x7, x8, x9, x10, x11, x12, xf⟩ := cells13 HA
    go_wp2_with (go_at_call 70; (with_reducible refine (lit_v t g hG HF.out hn _ HOv.out).mono ?_); rintro e w1 ⟨rfl, hb⟩; rw [HLI.out]; clear hW t0 t1 t2 t3 t4 t5 t6 t7 t8 t9 t10 t11 t12 t13 t14 tf x0 x1 x2 x3 x4 x5 x6 x7 x8 x9 x10 x11 x12 xf; have hc : Below w0.heap.size w0 w1 := hb; have H2 := (hc.block _ LT).trans HT; have L2 := Nat.lt_of_lt_of_le LT hc.size; clear HT LT; have HT := H2; have LT := L2; clear H2 L2; have H2 := (hc.block _ LA).trans HA; have L2 := Nat.lt_of_lt_of_le LA hc.size; clear HA LA; have HA := H2; have LA := L2; clear H2 L2; have H2 := Lib.hid (SamW.wo_below HOv.out hc); clear HOv; have HOv := H2; clear H2; have H2 := Lib.hid (HB.out.trans (hc.mono HB.out.size)); clear HB; have HB := H2; clear H2; clear hc hb; obtain ⟨t0, t1, t2, t3, t4, t5, t6, t7, t8, t9, t10, t11, t12, t13, t14, tf⟩ := cells15 HT; obtain ⟨x0, x1, x2, x3, x4, x5, x6, x7, x8, x9, x10, x11, x12, xf⟩ := cells13 HA; have HBx := HB)
    have hS : (fun U => U.heap[w.heap.size + 1]? = some (.cells #[.slice A0 n0 c0, .slice A1 n c1, .slice A2 n2 c2, .slice A3 n3 c3, .slice A4 n4 c4, .slice A5 n5 c5, .slice A6 n6 c6, .int .u64 g.seed, .int .i64 g.sc, .int .i64 g.tu, .int .i64 g.ov, .int .i64 g.it, .int .i64 g.go] 31 (0, 0))) w1.drew := ((Below.drew (Below.refl w1.heap.size w1)).block _ LA).trans HA
    refine wp_region_held_drew (S := (fun U => U.heap[w.heap.size + 1]? = some (.cells #[.slice A0 n0 c0, .slice A1 n c1, .slice A2 n2 c2, .slice A3 n3 c3, .slice A4 n4 c4, .slice A5 n5 c5, .slice A6 n6 c6, .int .u64 g.seed, .int .i64 g.sc, .int .i64 g.tu, .int .i64 g.ov, .int .i64 g.it, .int .i64 g.go] 31 (0, 0)))) (by kernel_rfl) hS (fun hHeld => ?_)
    refine Rg.take (i := 0) (t := 13) (v := .agg #[.slice A0 n0 c0, .slice A1 n c1, .slice A2 n2 c2, .slice A3 n3 c3, .slice A4 n4 c4, .slice A5 n5 c5, .slice A6 n6 c6, .int .u64 g.seed, .int .i64 g.sc, .int .i64 g.tu, .int .i64 g.ov, .int .i64 g.it, .int .i64 g.go]) rfl rfl (by kernel_rfl) (by kernel_rfl) (by kernel_rfl) (fun _ _ _ h => h) (by rfl) (by intro w0 hSw; obtain ⟨x0, x1, x2, x3, x4, x5, x6, x7, x8, x9, x10, x11, x12, xf⟩ := cells13 hSw; first | (go_simp; done) | (go_simp; with_reducible rfl)) (by assumption) ?_
    simp only [List.setIfInBounds_toArray, List.set_cons_zero, List.set_cons_succ]
    refine Rg.take (i := 1) (t := 14) (v := .agg #[.slice A0 n0 c0, .slice A1 n c1, .slice A2 n2 c2, .slice A3 n3 c3, .slice A4 n4 c4, .slice A5 n5 c5, .slice A6 n6 c6, .int .u64 g.seed, .int .i64 g.sc, .int .i64 g.tu, .int .i64 g.ov, .int .i64 g.it, .int .i64 g.go]) rfl rfl (by kernel_rfl) (by kernel_rfl) (by kernel_rfl) (fun _ _ _ h => h) (by rfl) (by intro w0 hSw; obtain ⟨x0, x1, x2, x3, x4, x5, x6, x7, x8, x9, x10, x11, x12, xf⟩ := cells13 hSw; first | (go_simp; done) | (go_simp; with_reducible rfl)) (by assumption) ?_
    simp only [List.setIfInBounds_toArray, List.set_cons_zero, List.set_cons_succ]
    refine Rg.one (i := 2) (by kernel_rfl) ?_
    refine Rg.call (i := 2) (t := 15) rfl rfl (by rfl) (by go_simp; exact ⟨rfl, rfl⟩) ?_
    refine (here_v g w1.drew (SamW.wo_below HOv.out (Below.drew (Below.refl _ _)))).mono ?_
    rintro e w3 ⟨rfl, hb3⟩
    rw [HH.out]
    have HB3 := Lib.hid ((Below.drew (Below.refl w1.heap.size w1)).trans (hb3.mono (Nat.le_refl _)))
    have hS3 : (fun U => U.heap[w.heap.size + 1]? = some (.cells #[.slice A0 n0 c0, .slice A1 n c1, .slice A2 n2 c2, .slice A3 n3 c3, .slice A4 n4 c4, .slice A5 n5 c5, .slice A6 n6 c6, .int .u64 g.seed, .int .i64 g.sc, .int .i64 g.tu, .int .i64 g.ov, .int .i64 g.it, .int .i64 g.go] 31 (0, 0))) w3 := (HB3.out.block _ LA).trans HA
    refine ⟨_, rfl, (fun U => U.heap[w.heap.size + 1]? = some (.cells #[.slice A0 n0 c0, .slice A1 n c1, .slice A2 n2 c2, .slice A3 n3 c3, .slice A4 n4 c4, .slice A5 n5 c5, .slice A6 n6 c6, .int .u64 g.seed, .int .i64 g.sc, .int .i64 g.tu, .int .i64 g.ov, .int .i64 g.it, .int .i64 g.go] 31 (0, 0))), fun _ h => h, hS3, ?_⟩
    simp only [List.setIfInBounds_toArray, List.set_cons_zero, List.set_cons_succ]
    clear hS
    refine Rg.one (i := 3) (by kernel_rfl) ?_
    refine Rg.call (i := 3) (t := 16) rfl rfl (by rfl) (by go_simp; exact ⟨rfl, rfl⟩) ?_
    refine (reached_i g H w3 (SamW.wo_below HOv.out HB3.out)).mono ?_
    rintro e w4 ⟨rfl, hb4, hs4, ⟨cs, hcs, f3⟩, f4⟩
    injection hcs with hcs
    subst hcs
    clear hs4
    have HB4 := Lib.hid (HB3.out.trans (hb4.mono HB3.out.size))
    have hS4 : (fun U => U.heap[w.heap.size + 1]? = some (.cells #[.slice A0 n0 c0, .slice A1 n c1, .slice A2 n2 c2, .slice A3 n3 c3, .slice A4 n4 c4, .slice A5 n5 c5, .slice A6 n6 c6, .int .u64 g.seed, .int .i64 g.sc, .int .i64 g.tu, .int .i64 g.ov, .int .i64 g.it, .int .i64 g.go] 31 (0, 0))) w4 := (HB4.out.block _ LA).trans HA
    refine ⟨_, rfl, (fun U => U.heap[w.heap.size + 1]? = some (.cells #[.slice A0 n0 c0, .slice A1 n c1, .slice A2 n2 c2, .slice A3 n3 c3, .slice A4 n4 c4, .slice A5 n5 c5, .slice A6 n6 c6, .int .u64 g.seed, .int .i64 g.sc, .int .i64 g.tu, .int .i64 g.ov, .int .i64 g.it, .int .i64 g.go] 31 (0, 0))), fun _ h => h, hS4, ?_⟩
    simp only [List.setIfInBounds_toArray, List.set_cons_zero, List.set_cons_succ]
    refine Rg.one (i := 4) (by kernel_rfl) ?_
    refine Rg.call (i := 4) (t := 17) rfl rfl (by rfl) (by go_simp; exact ⟨rfl, rfl⟩) ?_
    refine (collect_reached g hG HF.out hn H w w4 w3.heap.size (w3.heap.size + 1) _ HW0.out f3 f4 (low_of (HB.out.trans (HB4.out.mono HB.out.size)))).mono ?_
    rintro e w5 ⟨u, rfl, ho, hnil, hb5⟩
    obtain ⟨Ar, cr, rfl, _, _⟩ := ho.shape
    rw [HL.out] at ho ⊢
    rw [HM.out] at ho ⊢
    have HRO := Lib.hid ho
    clear ho hnil f3 f4
    have HB5 := Lib.hid (HB4.out.trans (hb5.mono HB4.out.size))
    have hS5 : (fun U => U.heap[w.heap.size + 1]? = some (.cells #[.slice A0 n0 c0, .slice A1 n c1, .slice A2 n2 c2, .slice A3 n3 c3, .slice A4 n4 c4, .slice A5 n5 c5, .slice A6 n6 c6, .int .u64 g.seed, .int .i64 g.sc, .int .i64 g.tu, .int .i64 g.ov, .int .i64 g.it, .int .i64 g.go] 31 (0, 0))) w5 := (HB5.out.block _ LA).trans HA
    refine ⟨_, rfl, (fun U => U.heap[w.heap.size + 1]? = some (.cells #[.slice A0 n0 c0, .slice A1 n c1, .slice A2 n2 c2, .slice A3 n3 c3, .slice A4 n4 c4, .slice A5 n5 c5, .slice A6 n6 c6, .int .u64 g.seed, .int .i64 g.sc, .int .i64 g.tu, .int .i64 g.ov, .int .i64 g.it, .int .i64 g.go] 31 (0, 0))), fun _ h => h, hS5, ?_⟩
    simp only [List.setIfInBounds_toArray, List.set_cons_zero, List.set_cons_succ]
    refine Rg.take (i := 5) (t := 5) rfl rfl (by kernel_rfl) (by kernel_rfl) (by kernel_rfl) (fun _ _ _ h => h) (by rfl) (by intro w0 hSw; first | (go_simp; done) | (go_simp; with_reducible rfl)) (by assumption) ?_
    simp only [List.setIfInBounds_toArray, List.set_cons_zero, List.set_cons_succ]
    refine wpAnyH_done (by kernel_rfl) ?_ _
    clear hS3 hS4 hS5
    go_wp2_with (go_at_call 135; (with_reducible refine (deleteFunc_v L w5 HRO.out hm128).mono ?_); rintro e w6 ⟨u, rfl, ho, hb6⟩)
    go_ret
    exact ⟨_, rfl, by rw [HV2.out]; exact ho.lower (Nat.le_trans HB.out.size HB4.out.size), (HB.out.trans (HB5.out.mono HB.out.size)).trans (hb6.mono (Nat.le_trans HB.out.size HB4.out.size))⟩
set_option maxRecDepth 100000 in
set_option maxHeartbeats 4000000 in
theorem sees_v {v : Value} (t : TbV) (g : Wd) (hG : NestP.Good g) (hF : Fl g) (hn : g.n ≤ 128) (x : Int) (w : World) (ho : Wo w v g) :
    Calls Try.prog 77 #[.agg #[.int .i64 t.ti, .int .i64 t.au, .int .i64 t.rl, .int .i64 t.mx, .slice t.tx.a t.tx.n t.tx.c, .int .i64 t.fl, .slice t.pr.a t.pr.n t.pr.c, .slice t.gl.a t.gl.n t.gl.c, .slice t.th.a t.th.n t.th.c, .slice t.ac.a t.ac.n t.ac.c, .slice t.de.a t.de.n t.de.c, .slice t.fu.a t.fu.n t.fu.c, .slice t.da.a t.da.n t.da.c, .slice t.pm.a t.pm.n t.pm.c, .slice t.lo.a t.lo.n t.lo.c], v, .int .i64 x] w fun e w' => e = .returned (.bool (seesB g x)) ∧ Below w.heap.size w w' := by
  obtain ⟨H, hH⟩ : ∃ H, here g = H := ⟨_, rfl⟩
  obtain ⟨q1, h1⟩ : ∃ q, (x == 1) = q := ⟨_, rfl⟩
  obtain ⟨q2, h2⟩ : ∃ q, (x == H) = q := ⟨_, rfl⟩
  obtain ⟨q3, h3⟩ : ∃ q, (visible g).contains x = q := ⟨_, rfl⟩
  have HS := Lib.hid (show seesB g x = (q3 || q1 || q2) by unfold seesB; rw [h3, h1, hH, h2])
  have HH := Lib.hid hH
  have HQ3 := Lib.hid h3
  have HVL := Lib.hid (show (visible g).length ≤ 17592186043904 from by
    have h1 := reach_len hG (here g)
    have h2 := reach_len hG 1
    unfold visible carried
    split
    · exact Nat.le_trans (List.length_filter_le ..) (by omega)
    · omega)
  clear hH h3
  cases q1 with
  | true =>
    have HF := Lib.hid hF
    have HW0 := Lib.hid ho
    have hx := ho
    clear hF
    obtain ⟨A0, A1, A2, A3, A4, A5, A6, n0, c0, n, c1, n2, c2, n3, c3, n4, c4, n5, c5, n6, c6, rfl, _⟩ := hx
    go_enter Try.func77, Try.ntmps77
    obtain ⟨w0, hW⟩ : ∃ w0, (w.alloc (.cells #[.int .i64 t.ti, .int .i64 t.au, .int .i64 t.rl, .int .i64 t.mx, .slice t.tx.a t.tx.n t.tx.c, .int .i64 t.fl, .slice t.pr.a t.pr.n t.pr.c, .slice t.gl.a t.gl.n t.gl.c, .slice t.th.a t.th.n t.th.c, .slice t.ac.a t.ac.n t.ac.c, .slice t.de.a t.de.n t.de.c, .slice t.fu.a t.fu.n t.fu.c, .slice t.da.a t.da.n t.da.c, .slice t.pm.a t.pm.n t.pm.c, .slice t.lo.a t.lo.n t.lo.c] 28)).alloc (.cells #[.slice A0 n0 c0, .slice A1 n c1, .slice A2 n2 c2, .slice A3 n3 c3, .slice A4 n4 c4, .slice A5 n5 c5, .slice A6 n6 c6, .int .u64 g.seed, .int .i64 g.sc, .int .i64 g.tu, .int .i64 g.ov, .int .i64 g.it, .int .i64 g.go] 31) = w0 := ⟨_, rfl⟩
    obtain ⟨hz0, HT, HA, hB⟩ := MvR.alloc2 hW
    have hs : w0.heap.size = w.heap.size + 1 + 1 := by rw [← hW]; simp
    have LT : w.heap.size < w0.heap.size := by omega
    have LA : w.heap.size + 1 < w0.heap.size := by omega
    have HB := Lib.hid hB
    have HOv := Lib.hid (SamW.wo_below ho hB)
    clear hs hz0 hB ho
    obtain ⟨t0, t1, t2, t3, t4, t5, t6, t7, t8, t9, t10, t11, t12, t13, t14, tf⟩ := cells15 HT
    obtain ⟨x0, x1, x2, x3, x4, x5, x6, x7, x8, x9, x10, x11, x12, xf⟩ := cells13 HA
    go_wp2_with fail
    go_ret
    exact ⟨by rw [HS.out]; simp, HB.out⟩
  | false =>
    cases q2 with
    | true =>
      have HF := Lib.hid hF
      have HW0 := Lib.hid ho
      have hx := ho
      clear hF
      obtain ⟨A0, A1, A2, A3, A4, A5, A6, n0, c0, n, c1, n2, c2, n3, c3, n4, c4, n5, c5, n6, c6, rfl, _⟩ := hx
      go_enter Try.func77, Try.ntmps77
      obtain ⟨w0, hW⟩ : ∃ w0, (w.alloc (.cells #[.int .i64 t.ti, .int .i64 t.au, .int .i64 t.rl, .int .i64 t.mx, .slice t.tx.a t.tx.n t.tx.c, .int .i64 t.fl, .slice t.pr.a t.pr.n t.pr.c, .slice t.gl.a t.gl.n t.gl.c, .slice t.th.a t.th.n t.th.c, .slice t.ac.a t.ac.n t.ac.c, .slice t.de.a t.de.n t.de.c, .slice t.fu.a t.fu.n t.fu.c, .slice t.da.a t.da.n t.da.c, .slice t.pm.a t.pm.n t.pm.c, .slice t.lo.a t.lo.n t.lo.c] 28)).alloc (.cells #[.slice A0 n0 c0, .slice A1 n c1, .slice A2 n2 c2, .slice A3 n3 c3, .slice A4 n4 c4, .slice A5 n5 c5, .slice A6 n6 c6, .int .u64 g.seed, .int .i64 g.sc, .int .i64 g.tu, .int .i64 g.ov, .int .i64 g.it, .int .i64 g.go] 31) = w0 := ⟨_, rfl⟩
      obtain ⟨hz0, HT, HA, hB⟩ := MvR.alloc2 hW
      have hs : w0.heap.size = w.heap.size + 1 + 1 := by rw [← hW]; simp
      have LT : w.heap.size < w0.heap.size := by omega
      have LA : w.heap.size + 1 < w0.heap.size := by omega
      have HB := Lib.hid hB
      have HOv := Lib.hid (SamW.wo_below ho hB)
      clear hs hz0 hB ho
      obtain ⟨t0, t1, t2, t3, t4, t5, t6, t7, t8, t9, t10, t11, t12, t13, t14, tf⟩ := cells15 HT
      obtain ⟨x0, x1, x2, x3, x4, x5, x6, x7, x8, x9, x10, x11, x12, xf⟩ := cells13 HA
      go_wp2_with (first
      | (go_at_call 68; (with_reducible refine (here_v g _ HOv.out).mono ?_); rintro e w1 ⟨rfl, hb⟩; rw [HH.out]; clear hW t0 t1 t2 t3 t4 t5 t6 t7 t8 t9 t10 t11 t12 t13 t14 tf x0 x1 x2 x3 x4 x5 x6 x7 x8 x9 x10 x11 x12 xf; have hc : Below w0.heap.size w0 w1 := hb; have H2 := (hc.block _ LT).trans HT; have L2 := Nat.lt_of_lt_of_le LT hc.size; clear HT LT; have HT := H2; have LT := L2; clear H2 L2; have H2 := (hc.block _ LA).trans HA; have L2 := Nat.lt_of_lt_of_le LA hc.size; clear HA LA; have HA := H2; have LA := L2; clear H2 L2; have H2 := Lib.hid (SamW.wo_below HOv.out hc); clear HOv; have HOv := H2; clear H2; have H2 := Lib.hid (HB.out.trans (hc.mono HB.out.size)); clear HB; have HB := H2; clear H2; clear hc hb; obtain ⟨t0, t1, t2, t3, t4, t5, t6, t7, t8, t9, t10, t11, t12, t13, t14, tf⟩ := cells15 HT; obtain ⟨x0, x1, x2, x3, x4, x5, x6, x7, x8, x9, x10, x11, x12, xf⟩ := cells13 HA))
      go_ret
      exact ⟨by rw [HS.out]; simp, HB.out⟩
    | false =>
      have HF := Lib.hid hF
      have HW0 := Lib.hid ho
      have hx := ho
      clear hF
      obtain ⟨A0, A1, A2, A3, A4, A5, A6, n0, c0, n, c1, n2, c2, n3, c3, n4, c4, n5, c5, n6, c6, rfl, _⟩ := hx
      go_enter Try.func77, Try.ntmps77
      obtain ⟨w0, hW⟩ : ∃ w0, (w.alloc (.cells #[.int .i64 t.ti, .int .i64 t.au, .int .i64 t.rl, .int .i64 t.mx, .slice t.tx.a t.tx.n t.tx.c, .int .i64 t.fl, .slice t.pr.a t.pr.n t.pr.c, .slice t.gl.a t.gl.n t.gl.c, .slice t.th.a t.th.n t.th.c, .slice t.ac.a t.ac.n t.ac.c, .slice t.de.a t.de.n t.de.c, .slice t.fu.a t.fu.n t.fu.c, .slice t.da.a t.da.n t.da.c, .slice t.pm.a t.pm.n t.pm.c, .slice t.lo.a t.lo.n t.lo.c] 28)).alloc (.cells #[.slice A0 n0 c0, .slice A1 n c1, .slice A2 n2 c2, .slice A3 n3 c3, .slice A4 n4 c4, .slice A5 n5 c5, .slice A6 n6 c6, .int .u64 g.seed, .int .i64 g.sc, .int .i64 g.tu, .int .i64 g.ov, .int .i64 g.it, .int .i64 g.go] 31) = w0 := ⟨_, rfl⟩
      obtain ⟨hz0, HT, HA, hB⟩ := MvR.alloc2 hW
      have hs : w0.heap.size = w.heap.size + 1 + 1 := by rw [← hW]; simp
      have LT : w.heap.size < w0.heap.size := by omega
      have LA : w.heap.size + 1 < w0.heap.size := by omega
      have HB := Lib.hid hB
      have HOv := Lib.hid (SamW.wo_below ho hB)
      clear hs hz0 hB ho
      obtain ⟨t0, t1, t2, t3, t4, t5, t6, t7, t8, t9, t10, t11, t12, t13, t14, tf⟩ := cells15 HT
      obtain ⟨x0, x1, x2, x3, x4, x5, x6, x7, x8, x9, x10, x11, x12, xf⟩ := cells13 HA
      go_wp2_with (first
      | (go_at_call 68; (with_reducible refine (here_v g _ HOv.out).mono ?_); rintro e w1 ⟨rfl, hb⟩; rw [HH.out]; clear hW t0 t1 t2 t3 t4 t5 t6 t7 t8 t9 t10 t11 t12 t13 t14 tf x0 x1 x2 x3 x4 x5 x6 x7 x8 x9 x10 x11 x12 xf; have hc : Below w0.heap.size w0 w1 := hb; have H2 := (hc.block _ LT).trans HT; have L2 := Nat.lt_of_lt_of_le LT hc.size; clear HT LT; have HT := H2; have LT := L2; clear H2 L2; have H2 := (hc.block _ LA).trans HA; have L2 := Nat.lt_of_lt_of_le LA hc.size; clear HA LA; have HA := H2; have LA := L2; clear H2 L2; have H2 := Lib.hid (SamW.wo_below HOv.out hc); clear HOv; have HOv := H2; clear H2; have H2 := Lib.hid (HB.out.trans (hc.mono HB.out.size)); clear HB; have HB := H2; clear H2; clear hc hb; obtain ⟨t0, t1, t2, t3, t4, t5, t6, t7, t8, t9, t10, t11, t12, t13, t14, tf⟩ := cells15 HT; obtain ⟨x0, x1, x2, x3, x4, x5, x6, x7, x8, x9, x10, x11, x12, xf⟩ := cells13 HA)
      | (go_at_call 75; (with_reducible refine (visible_v t g hG HF.out hn _ HOv.out).mono ?_); rintro e w2 ⟨u, rfl, ho, hb⟩; clear t0 t1 t2 t3 t4 t5 t6 t7 t8 t9 t10 t11 t12 t13 t14 tf x0 x1 x2 x3 x4 x5 x6 x7 x8 x9 x10 x11 x12 xf; have hc : Below w1.heap.size w1 w2 := hb; have H2 := (hc.block _ LT).trans HT; have L2 := Nat.lt_of_lt_of_le LT hc.size; clear HT LT; have HT := H2; have LT := L2; clear H2 L2; have H2 := (hc.block _ LA).trans HA; have L2 := Nat.lt_of_lt_of_le LA hc.size; clear HA LA; have HA := H2; have LA := L2; clear H2 L2; have H2 := Lib.hid (SamW.wo_below HOv.out hc); clear HOv; have HOv := H2; clear H2; have H2 := Lib.hid (HB.out.trans (hc.mono HB.out.size)); clear HB; have HB := H2; clear H2; clear hc hb; obtain ⟨Ar, cr, rfl, _, _⟩ := ho.shape; have HRO := Lib.hid ho.rd; clear ho)
      | (go_at_call 137; (with_reducible refine (contains_v x (visible g) w2 HRO.out HVL.out).mono ?_); rintro e w3 ⟨rfl, rfl⟩; rw [HQ3.out]))
      go_ret
      exact ⟨by rw [HS.out]; simp, HB.out⟩
end Go.Proofs.Ytncdicagadbafaa.ViewF
