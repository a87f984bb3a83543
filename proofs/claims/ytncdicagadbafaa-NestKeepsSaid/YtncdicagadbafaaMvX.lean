/- nest.Move, where it moves. Conditions: the world reads, and things are within things as they must be. -/
import Derived.Test.YtncdicagadbafaaMvW
namespace Go.Proofs.Ytncdicagadbafaa.MvX
open Go Go.RowKit NestP NestW NestX NestY ValP ValW ValX ValR Sq Rng RngU RngT RngC RngD RgIn WorldD CopP CopW MoveP LvP LvA MvW

set_option maxRecDepth 100000 in
set_option maxHeartbeats 4000000 in
theorem move_ok {A0 A1 A2 A3 A4 A5 A6 : Option Addr} {n0 c0 n c1 c2 c3 n4 c4 n5 c5 n6 c6 : Nat} (g : Wd) (hG : NestP.Good g) (hg : g.n = n) (x tt : Int) (hx : isT n x = true) (ht : isT n tt = true) (hw : within g tt x = false) (w : World) (r0 : Rd I w A0 n0 g.gl) (r1 : Rd I w A1 n g.pa) (r2 : Rd I w A2 n g.ch) (r3 : Rd I w A3 n g.ne) (r4 : Rd I w A4 n4 g.fl) (r5 : Rd I w A5 n5 g.pr) (r6 : Rd I w A6 n6 g.ti)
    (hb : n0 ≤ 17592186043904 ∧ n ≤ 17592186043904 ∧ n ≤ 17592186043904 ∧ n ≤ 17592186043904 ∧ n4 ≤ 17592186043904 ∧ n5 ≤ 17592186043904 ∧ n6 ≤ 17592186043904) :
    Calls Try.prog 39 #[.agg #[.slice A0 n0 c0, .slice A1 n c1, .slice A2 n c2, .slice A3 n c3, .slice A4 n4 c4, .slice A5 n5 c5, .slice A6 n6 c6, .int .u64 g.seed, .int .i64 g.sc, .int .i64 g.tu, .int .i64 g.ov, .int .i64 g.it, .int .i64 g.go], .int .i64 x, .int .i64 tt] w fun e w' => ∃ v, e = .returned (.tuple #[v, .int .i64 0]) ∧ Ow w' w.heap.size v (MoveP.moved g x tt) ∧ Below w.heap.size w w' := by
  have HX := Lib.hid hx
  have HT := Lib.hid ht
  have HW := Lib.hid hw
  clear hx ht hw
  have R0 := Lib.hid r0
  have R1 := Lib.hid r1
  have R2 := Lib.hid r2
  have R3 := Lib.hid r3
  have R4 := Lib.hid r4
  have R5 := Lib.hid r5
  have R6 := Lib.hid r6
  have HB := Lib.hid hb
  have HG := Lib.hid hG
  clear hb r0 r1 r2 r3 r4 r5 r6 hG
  go_enter Try.func39, Try.ntmps39
  obtain ⟨W2, hW2⟩ : ∃ W2, (w.alloc (.cells #[.slice A0 n0 c0, .slice A1 n c1, .slice A2 n c2, .slice A3 n c3, .slice A4 n4 c4, .slice A5 n5 c5, .slice A6 n6 c6, .int .u64 g.seed, .int .i64 g.sc, .int .i64 g.tu, .int .i64 g.ov, .int .i64 g.it, .int .i64 g.go] 31)).alloc (.cells #[.slice none 0 0, .slice none 0 0, .slice none 0 0, .slice none 0 0, .slice none 0 0, .slice none 0 0, .slice none 0 0, .int .u64 0, .int .i64 0, .int .i64 0, .int .i64 0, .int .i64 0, .int .i64 0] 31) = W2 := ⟨_, rfl⟩
  obtain ⟨s2, h0, h1, hB2⟩ := alloc2 hW2
  have hBw := Lib.hid hB2
  have sB : w.heap.size + 2 ≤ W2.heap.size := by omega
  clear hB2
  obtain ⟨x0, x1, x2, x3, x4, x5, x6, x7, x8, x9, x10, x11, x12, xf⟩ := cells13 h0
  go_wp2_with (first | (go_at_call 46; refine (is_n _ _).mono ?_; rintro e w1 ⟨rfl, hb1⟩; (first | rw [HX.out] | rw [HT.out]); have t0 := (hb1.block _ (by omega)).trans h0; have t1 := (hb1.block _ (by omega)).trans h1; have tB := Lib.hid (hBw.out.trans (hb1.mono (by omega))); have ts := Nat.le_trans sB hb1.size; clear h0 h1 hBw sB hb1 x0 x1 x2 x3 x4 x5 x6 x7 x8 x9 x10 x11 x12 xf; have h0 := t0; have h1 := t1; have hBw := tB; have sB := ts; clear t0 t1 tB ts; obtain ⟨x0, x1, x2, x3, x4, x5, x6, x7, x8, x9, x10, x11, x12, xf⟩ := cells13 h0) | (go_at_call 52; refine (within_i g tt x _ (R1.out.below hBw.out) HB.out.2.1).mono ?_; rintro e w1 ⟨rfl, hb1⟩; rw [HW.out]; have t0 := (hb1.block _ (by omega)).trans h0; have t1 := (hb1.block _ (by omega)).trans h1; have tB := Lib.hid (hBw.out.trans (hb1.mono (by omega))); have ts := Nat.le_trans sB hb1.size; clear h0 h1 hBw sB hb1 x0 x1 x2 x3 x4 x5 x6 x7 x8 x9 x10 x11 x12 xf; have h0 := t0; have h1 := t1; have hBw := tB; have sB := ts; clear t0 t1 tB ts; obtain ⟨x0, x1, x2, x3, x4, x5, x6, x7, x8, x9, x10, x11, x12, xf⟩ := cells13 h0))
  refine (leave_i g HG.out hg x HX.out _ (R0.out.below hBw.out) (R1.out.below hBw.out) (R2.out.below hBw.out) (R3.out.below hBw.out) (R4.out.below hBw.out) (R5.out.below hBw.out) (R6.out.below hBw.out) HB.out).mono ?_
  rintro e W4 ⟨v1, rfl, hO, hb4⟩
  obtain ⟨B0, B1, B2, B3, B4, B5, B6, m0, d0, m1, d1, m2, d2, m3, d3, m4, d4, m5, d5, m6, d6, rfl, ⟨o0, o1, o2, o3, o4, o5, o6⟩, ap⟩ := hO
  simp only [show (MoveP.leave g x).seed = g.seed from rfl, show (MoveP.leave g x).sc = g.sc from rfl, show (MoveP.leave g x).tu = g.tu from rfl, show (MoveP.leave g x).ov = g.ov from rfl, show (MoveP.leave g x).it = g.it from rfl, show (MoveP.leave g x).go = g.go from rfl]
  obtain ⟨gl, hkl⟩ := leave_good HG.out (show isT g.n x = true by rw [hg]; exact HX.out)
  have hln : (MoveP.leave g x).n = n := (leave_n g x).trans hg
  have hm1 : m1 = n := o1.rd.len.trans hln
  have hm2 : m2 = n := o2.rd.len.trans (gl.chl.trans hln)
  have hm3 : m3 = n := o3.rd.len.trans (gl.nel.trans hln)
  rw [hm1] at o1 ap ⊢
  rw [hm2] at o2 ap ⊢
  rw [hm3] at o3 ap ⊢
  clear hm1 hm2 hm3 m1 m2 m3
  have hx' := isT_iff.1 HX.out
  have ht' := isT_iff.1 HT.out
  obtain ⟨g1, rfl, b1a, b1b, _⟩ := o1.at_ (by omega)
  obtain ⟨g2, rfl, b2a, b2b, _⟩ := o2.at_ (by omega)
  obtain ⟨g3, rfl, b3a, b3b, _⟩ := o3.at_ (by omega)
  have n12 : g1 ≠ g2 := fun h => pw_get ap (i := 1) (j := 2) rfl rfl (by omega) (k := g1) rfl (congrArg some h.symm)
  have n13 : g1 ≠ g3 := fun h => pw_get ap (i := 1) (j := 3) rfl rfl (by omega) (k := g1) rfl (congrArg some h.symm)
  have n23 : g2 ≠ g3 := fun h => pw_get ap (i := 2) (j := 3) rfl rfl (by omega) (k := g2) rfl (congrArg some h.symm)
  obtain ⟨i, rfl, hi1, hi2⟩ : ∃ i : Nat, x = (i : Int) ∧ 1 ≤ i ∧ i < n := ⟨x.toNat, by omega, by omega, by omega⟩
  obtain ⟨j, rfl, hj1, hj2⟩ : ∃ j : Nat, tt = (j : Int) ∧ 1 ≤ j ∧ j < n := ⟨tt.toNat, by omega, by omega, by omega⟩
  obtain ⟨W5, hW5⟩ : ∃ W5, W4.alloc (.cells #[.slice B0 m0 d0, .slice (some ⟨g1, 0, none⟩) n d1, .slice (some ⟨g2, 0, none⟩) n d2, .slice (some ⟨g3, 0, none⟩) n d3, .slice B4 m4 d4, .slice B5 m5 d5, .slice B6 m6 d6, .int .u64 g.seed, .int .i64 g.sc, .int .i64 g.tu, .int .i64 g.ov, .int .i64 g.it, .int .i64 g.go] 31) = W5 := ⟨_, rfl⟩
  have hb5 : Below W4.heap.size W4 W5 := by subst hW5; exact (Below.refl _ _).alloc (Nat.le_refl _) _
  have h5 : W5.heap[W4.heap.size]? = some (.cells #[.slice B0 m0 d0, .slice (some ⟨g1, 0, none⟩) n d1, .slice (some ⟨g2, 0, none⟩) n d2, .slice (some ⟨g3, 0, none⟩) n d3, .slice B4 m4 d4, .slice B5 m5 d5, .slice B6 m6 d6, .int .u64 g.seed, .int .i64 g.sc, .int .i64 g.tu, .int .i64 g.ov, .int .i64 g.it, .int .i64 g.go] 31 (0, 0)) := by subst hW5; exact World.alloc_heap_new W4 _
  have s5 : W5.heap.size = W4.heap.size + 1 := by subst hW5; simp
  have s4 := hb4.size
  have k1 := (hb5.block _ (by omega)).trans ((hb4.block _ (by omega)).trans h1)
  have HB5 := Lib.hid ((hBw.out.trans (hb4.mono (by omega))).trans (hb5.mono (by omega)))
  have AP := Lib.hid ap
  have O0 := Lib.hid (o0.below hb5)
  have O1 := Lib.hid (o1.below hb5)
  have O2 := Lib.hid (o2.below hb5)
  have O3 := Lib.hid (o3.below hb5)
  have O4 := Lib.hid (o4.below hb5)
  have O5 := Lib.hid (o5.below hb5)
  have O6 := Lib.hid (o6.below hb5)
  clear h0 h1 o0 o1 o2 o3 o4 o5 o6 ap hb4 hb5 hBw x0 x1 x2 x3 x4 x5 x6 x7 x8 x9 x10 x11 x12 xf
  obtain ⟨y0, y1, y2, y3, y4, y5, y6, y7, y8, y9, y10, y11, y12, yf⟩ := cells13 k1
  obtain ⟨u0, u1, u2, u3, u4, u5, u6, u7, u8, u9, u10, u11, u12, uf⟩ := cells13 h5
  have c1 := own_cell O1.out hi2
  have c2 := own_cell O2.out hj2
  have c3 := own_cell O3.out hi2
  have z1 := own_frozen O1.out (by omega)
  have z2 := own_frozen O2.out (by omega)
  have z3 := own_frozen O3.out (by omega)
  have hi0 : (0 : Int) ≤ (i : Int) := by omega
  have hi3 : (i : Int) < (n : Int) := by omega
  have hj0 : (0 : Int) ≤ (j : Int) := by omega
  have hj3 : (j : Int) < (n : Int) := by omega
  go_wp2_with fail
  have hA : (W5.drew.setCell ⟨g1, i, none⟩ (.int .i64 (j : Int))).heap[W4.heap.size]? = some (.cells #[.slice B0 m0 d0, .slice (some ⟨g1, 0, none⟩) n d1, .slice (some ⟨g2, 0, none⟩) n d2, .slice (some ⟨g3, 0, none⟩) n d3, .slice B4 m4 d4, .slice B5 m5 d5, .slice B6 m6 d6, .int .u64 g.seed, .int .i64 g.sc, .int .i64 g.tu, .int .i64 g.ov, .int .i64 g.it, .int .i64 g.go] 31 (0, 0)) := (Below.heap_setCell _ _ _ _ (by simp; omega)).trans h5
  have hB : ((W5.drew.setCell ⟨g1, i, none⟩ (.int .i64 (j : Int))).setCell ⟨g3, i, none⟩ (.int .i64 (at' (MoveP.leave g (i : Int)).ch (j : Int)))).heap[W4.heap.size]? = some (.cells #[.slice B0 m0 d0, .slice (some ⟨g1, 0, none⟩) n d1, .slice (some ⟨g2, 0, none⟩) n d2, .slice (some ⟨g3, 0, none⟩) n d3, .slice B4 m4 d4, .slice B5 m5 d5, .slice B6 m6 d6, .int .u64 g.seed, .int .i64 g.sc, .int .i64 g.tu, .int .i64 g.ov, .int .i64 g.it, .int .i64 g.go] 31 (0, 0)) := (Below.heap_setCell _ _ _ _ (by simp; omega)).trans hA
  have hC : (((W5.drew.setCell ⟨g1, i, none⟩ (.int .i64 (j : Int))).setCell ⟨g3, i, none⟩ (.int .i64 (at' (MoveP.leave g (i : Int)).ch (j : Int)))).setCell ⟨g2, j, none⟩ (.int .i64 (i : Int))).heap[W4.heap.size]? = some (.cells #[.slice B0 m0 d0, .slice (some ⟨g1, 0, none⟩) n d1, .slice (some ⟨g2, 0, none⟩) n d2, .slice (some ⟨g3, 0, none⟩) n d3, .slice B4 m4 d4, .slice B5 m5 d5, .slice B6 m6 d6, .int .u64 g.seed, .int .i64 g.sc, .int .i64 g.tu, .int .i64 g.ov, .int .i64 g.it, .int .i64 g.go] 31 (0, 0)) := (Below.heap_setCell _ _ _ _ (by simp; omega)).trans hB
  refine wp_region_held_drew (S := fun U => U.heap[W4.heap.size]? = some (.cells #[.slice B0 m0 d0, .slice (some ⟨g1, 0, none⟩) n d1, .slice (some ⟨g2, 0, none⟩) n d2, .slice (some ⟨g3, 0, none⟩) n d3, .slice B4 m4 d4, .slice B5 m5 d5, .slice B6 m6 d6, .int .u64 g.seed, .int .i64 g.sc, .int .i64 g.tu, .int .i64 g.ov, .int .i64 g.it, .int .i64 g.go] 31 (0, 0))) (by kernel_rfl) h5 (fun hHeld => ?_)
  refine Rg.take (i := 0) (t := 30) (v := .pointer (some ⟨W4.heap.size, 1, none⟩)) rfl rfl (by kernel_rfl) (by kernel_rfl) (by kernel_rfl) (fun _ _ _ h => h) (by rfl) (by intro w0 hSw; first | (go_simp; done) | (go_simp; with_reducible rfl)) (by assumption) ?_
  simp only [List.setIfInBounds_toArray, List.set_cons_zero, List.set_cons_succ]
  refine Rg.take (i := 1) (t := 31) (v := .slice (some ⟨g1, 0, none⟩) n d1) rfl rfl (by kernel_rfl) (by kernel_rfl) (by kernel_rfl) (fun _ _ _ h => h) (by rfl) (by intro w0 hSw; obtain ⟨x0, x1, x2, x3, x4, x5, x6, x7, x8, x9, x10, x11, x12, xf⟩ := cells13 hSw; first | (go_simp; done) | (go_simp; with_reducible rfl)) (by assumption) ?_
  simp only [List.setIfInBounds_toArray, List.set_cons_zero, List.set_cons_succ]
  refine Rg.take (i := 2) (t := 32) (v := .int .i64 ((i : Int))) rfl rfl (by kernel_rfl) (by kernel_rfl) (by kernel_rfl) (fun _ _ _ h => h) (by rfl) (by intro w0 hSw; first | (go_simp; done) | (go_simp; with_reducible rfl)) (by assumption) ?_
  simp only [List.setIfInBounds_toArray, List.set_cons_zero, List.set_cons_succ]
  refine Rg.take (i := 3) (t := 33) (v := .pointer (some ⟨W4.heap.size, 3, none⟩)) rfl rfl (by kernel_rfl) (by kernel_rfl) (by kernel_rfl) (fun _ _ _ h => h) (by rfl) (by intro w0 hSw; first | (go_simp; done) | (go_simp; with_reducible rfl)) (by assumption) ?_
  simp only [List.setIfInBounds_toArray, List.set_cons_zero, List.set_cons_succ]
  refine Rg.take (i := 4) (t := 34) (v := .slice (some ⟨g3, 0, none⟩) n d3) rfl rfl (by kernel_rfl) (by kernel_rfl) (by kernel_rfl) (fun _ _ _ h => h) (by rfl) (by intro w0 hSw; obtain ⟨x0, x1, x2, x3, x4, x5, x6, x7, x8, x9, x10, x11, x12, xf⟩ := cells13 hSw; first | (go_simp; done) | (go_simp; with_reducible rfl)) (by assumption) ?_
  simp only [List.setIfInBounds_toArray, List.set_cons_zero, List.set_cons_succ]
  refine Rg.take (i := 5) (t := 35) (v := .int .i64 ((i : Int))) rfl rfl (by kernel_rfl) (by kernel_rfl) (by kernel_rfl) (fun _ _ _ h => h) (by rfl) (by intro w0 hSw; first | (go_simp; done) | (go_simp; with_reducible rfl)) (by assumption) ?_
  simp only [List.setIfInBounds_toArray, List.set_cons_zero, List.set_cons_succ]
  refine Rg.take (i := 6) (t := 36) (v := .pointer (some ⟨W4.heap.size, 2, none⟩)) rfl rfl (by kernel_rfl) (by kernel_rfl) (by kernel_rfl) (fun _ _ _ h => h) (by rfl) (by intro w0 hSw; first | (go_simp; done) | (go_simp; with_reducible rfl)) (by assumption) ?_
  simp only [List.setIfInBounds_toArray, List.set_cons_zero, List.set_cons_succ]
  refine Rg.take (i := 7) (t := 37) (v := .slice (some ⟨g2, 0, none⟩) n d2) rfl rfl (by kernel_rfl) (by kernel_rfl) (by kernel_rfl) (fun _ _ _ h => h) (by rfl) (by intro w0 hSw; obtain ⟨x0, x1, x2, x3, x4, x5, x6, x7, x8, x9, x10, x11, x12, xf⟩ := cells13 hSw; first | (go_simp; done) | (go_simp; with_reducible rfl)) (by assumption) ?_
  simp only [List.setIfInBounds_toArray, List.set_cons_zero, List.set_cons_succ]
  refine Rg.take (i := 8) (t := 38) (v := .int .i64 ((j : Int))) rfl rfl (by kernel_rfl) (by kernel_rfl) (by kernel_rfl) (fun _ _ _ h => h) (by rfl) (by intro w0 hSw; first | (go_simp; done) | (go_simp; with_reducible rfl)) (by assumption) ?_
  simp only [List.setIfInBounds_toArray, List.set_cons_zero, List.set_cons_succ]
  refine Rg.take (i := 9) (t := 39) (v := .int .i64 ((j : Int))) rfl rfl (by kernel_rfl) (by kernel_rfl) (by kernel_rfl) (fun _ _ _ h => h) (by rfl) (by intro w0 hSw; first | (go_simp; done) | (go_simp; with_reducible rfl)) (by assumption) ?_
  simp only [List.setIfInBounds_toArray, List.set_cons_zero, List.set_cons_succ]
  refine Rg.take (i := 10) (t := 40) (v := .pointer (some ⟨W4.heap.size, 2, none⟩)) rfl rfl (by kernel_rfl) (by kernel_rfl) (by kernel_rfl) (fun _ _ _ h => h) (by rfl) (by intro w0 hSw; first | (go_simp; done) | (go_simp; with_reducible rfl)) (by assumption) ?_
  simp only [List.setIfInBounds_toArray, List.set_cons_zero, List.set_cons_succ]
  refine Rg.take (i := 11) (t := 41) (v := .slice (some ⟨g2, 0, none⟩) n d2) rfl rfl (by kernel_rfl) (by kernel_rfl) (by kernel_rfl) (fun _ _ _ h => h) (by rfl) (by intro w0 hSw; obtain ⟨x0, x1, x2, x3, x4, x5, x6, x7, x8, x9, x10, x11, x12, xf⟩ := cells13 hSw; first | (go_simp; done) | (go_simp; with_reducible rfl)) (by assumption) ?_
  simp only [List.setIfInBounds_toArray, List.set_cons_zero, List.set_cons_succ]
  refine Rg.take (i := 12) (t := 42) (v := .int .i64 ((j : Int))) rfl rfl (by kernel_rfl) (by kernel_rfl) (by kernel_rfl) (fun _ _ _ h => h) (by rfl) (by intro w0 hSw; first | (go_simp; done) | (go_simp; with_reducible rfl)) (by assumption) ?_
  simp only [List.setIfInBounds_toArray, List.set_cons_zero, List.set_cons_succ]
  refine Rg.take (i := 13) (t := 43) (v := .pointer (some ⟨g2, j, none⟩)) rfl rfl (by kernel_rfl) (by kernel_rfl) (by kernel_rfl) (fun _ _ _ h => h) (by rfl) (by intro w0 hSw; first | (go_simp; done) | (go_simp; with_reducible rfl)) (by assumption) ?_
  simp only [List.setIfInBounds_toArray, List.set_cons_zero, List.set_cons_succ]
  refine Rg.take (i := 15) (t := 45) (v := .int .i64 ((i : Int))) rfl rfl (by kernel_rfl) (by kernel_rfl) (by kernel_rfl) (fun _ _ _ h => h) (by rfl) (by intro w0 hSw; first | (go_simp; done) | (go_simp; with_reducible rfl)) (by assumption) ?_
  simp only [List.setIfInBounds_toArray, List.set_cons_zero, List.set_cons_succ]
  refine Rg.one (i := 14) (by kernel_rfl) ?_
  refine Rg.eff (i := 14) (t := 44) (v := .int .i64 (at' (MoveP.leave g (i : Int)).ch (j : Int))) (w1 := W5.drew) rfl rfl (by rfl) (by first | (go_simp; done) | (go_simp; with_reducible rfl)) (fun U => U.heap[W4.heap.size]? = some (.cells #[.slice B0 m0 d0, .slice (some ⟨g1, 0, none⟩) n d1, .slice (some ⟨g2, 0, none⟩) n d2, .slice (some ⟨g3, 0, none⟩) n d3, .slice B4 m4 d4, .slice B5 m5 d5, .slice B6 m6 d6, .int .u64 g.seed, .int .i64 g.sc, .int .i64 g.tu, .int .i64 g.ov, .int .i64 g.it, .int .i64 g.go] 31 (0, 0))) (fun _ h => h) h5 ?_
  simp only [List.setIfInBounds_toArray, List.set_cons_zero, List.set_cons_succ]
  refine Rg.take (i := 16) (t := 46) (v := .pointer (some ⟨g1, i, none⟩)) rfl rfl (by kernel_rfl) (by kernel_rfl) (by kernel_rfl) (fun _ _ _ h => h) (by rfl) (by intro w0 hSw; first | (go_simp; done) | (go_simp; with_reducible rfl)) (by assumption) ?_
  simp only [List.setIfInBounds_toArray, List.set_cons_zero, List.set_cons_succ]
  refine Rg.one (i := 17) (by kernel_rfl) ?_
  refine effN (i := 17) (w1 := (W5.drew.setCell ⟨g1, i, none⟩ (.int .i64 (j : Int)))) rfl rfl (by rfl) (by first | (go_simp; done) | (go_simp; with_reducible rfl)) ⟨hA, ?_⟩
  refine Rg.take (i := 18) (t := 47) (v := .pointer (some ⟨g3, i, none⟩)) rfl rfl (by kernel_rfl) (by kernel_rfl) (by kernel_rfl) (fun _ _ _ h => h) (by rfl) (by intro w0 hSw; first | (go_simp; done) | (go_simp; with_reducible rfl)) (by assumption) ?_
  simp only [List.setIfInBounds_toArray, List.set_cons_zero, List.set_cons_succ]
  refine Rg.one (i := 19) (by kernel_rfl) ?_
  refine effN (i := 19) (w1 := ((W5.drew.setCell ⟨g1, i, none⟩ (.int .i64 (j : Int))).setCell ⟨g3, i, none⟩ (.int .i64 (at' (MoveP.leave g (i : Int)).ch (j : Int))))) rfl rfl (by rfl) (by first | (go_simp; done) | (go_simp; with_reducible rfl)) ⟨hB, ?_⟩
  refine Rg.take (i := 20) (t := 48) (v := .pointer (some ⟨g2, j, none⟩)) rfl rfl (by kernel_rfl) (by kernel_rfl) (by kernel_rfl) (fun _ _ _ h => h) (by rfl) (by intro w0 hSw; first | (go_simp; done) | (go_simp; with_reducible rfl)) (by assumption) ?_
  simp only [List.setIfInBounds_toArray, List.set_cons_zero, List.set_cons_succ]
  refine Rg.one (i := 21) (by kernel_rfl) ?_
  refine effN (i := 21) (w1 := (((W5.drew.setCell ⟨g1, i, none⟩ (.int .i64 (j : Int))).setCell ⟨g3, i, none⟩ (.int .i64 (at' (MoveP.leave g (i : Int)).ch (j : Int)))).setCell ⟨g2, j, none⟩ (.int .i64 (i : Int)))) rfl rfl (by rfl) (by first | (go_simp; done) | (go_simp; with_reducible rfl)) ⟨hC, ?_⟩
  refine wpAnyH_done (by kernel_rfl) ?_ _
  go_wp2_with fail
  (try simp only [Exit.inBlock, Exit.then])
  have HV : ((((W5.setCell ⟨g1, i, none⟩ (.int .i64 (j : Int))).setCell ⟨g3, i, none⟩ (.int .i64 (at' (MoveP.leave g (i : Int)).ch (j : Int)))).setCell ⟨g2, j, none⟩ (.int .i64 (i : Int)))).heap[w.heap.size + 1]? = some (.cells #[.slice none 0 0, .slice none 0 0, .slice none 0 0, .slice none 0 0, .slice none 0 0, .slice none 0 0, .slice none 0 0, .int .u64 0, .int .i64 0, .int .i64 0, .int .i64 0, .int .i64 0, .int .i64 0] 31 (0, 0)) := ((Below.heap_setCell _ _ _ _ (by simp; omega)).trans ((Below.heap_setCell _ _ _ _ (by simp; omega)).trans ((Below.heap_setCell _ _ _ _ (by simp; omega)).trans k1)))
  refine ret_ct (drewHeap (set13 HV)) rfl rfl Try.underlying31 rfl rfl ?_
  obtain ⟨w1, w2⟩ := close (w := w) (V := (((W5.setCell ⟨g1, i, none⟩ (.int .i64 (j : Int))).setCell ⟨g3, i, none⟩ (.int .i64 (at' (MoveP.leave g (i : Int)).ch (j : Int)))).setCell ⟨g2, j, none⟩ (.int .i64 (i : Int)))) (g := MoveP.moved g (i : Int) (j : Int)) (own_ne (own_ne (own_ne O0.out (fun h => pw_get AP.out (i := 0) (j := 1) rfl rfl (by omega) h rfl) i _) (fun h => pw_get AP.out (i := 0) (j := 3) rfl rfl (by omega) h rfl) i _) (fun h => pw_get AP.out (i := 0) (j := 2) rfl rfl (by omega) h rfl) j _) (own_ne (own_ne ((O1.out).store i (j : Int)) (fun h => pw_get AP.out (i := 1) (j := 3) rfl rfl (by omega) h rfl) i _) (fun h => pw_get AP.out (i := 1) (j := 2) rfl rfl (by omega) h rfl) j _) (((own_ne (own_ne O2.out (fun h => pw_get AP.out (i := 2) (j := 1) rfl rfl (by omega) h rfl) i _) (fun h => pw_get AP.out (i := 2) (j := 3) rfl rfl (by omega) h rfl) i _)).store j (i : Int)) (own_ne (((own_ne O3.out (fun h => pw_get AP.out (i := 3) (j := 1) rfl rfl (by omega) h rfl) i _)).store i (at' (MoveP.leave g (i : Int)).ch (j : Int))) (fun h => pw_get AP.out (i := 3) (j := 2) rfl rfl (by omega) h rfl) j _) (own_ne (own_ne (own_ne O4.out (fun h => pw_get AP.out (i := 4) (j := 1) rfl rfl (by omega) h rfl) i _) (fun h => pw_get AP.out (i := 4) (j := 3) rfl rfl (by omega) h rfl) i _) (fun h => pw_get AP.out (i := 4) (j := 2) rfl rfl (by omega) h rfl) j _) (own_ne (own_ne (own_ne O5.out (fun h => pw_get AP.out (i := 5) (j := 1) rfl rfl (by omega) h rfl) i _) (fun h => pw_get AP.out (i := 5) (j := 3) rfl rfl (by omega) h rfl) i _) (fun h => pw_get AP.out (i := 5) (j := 2) rfl rfl (by omega) h rfl) j _) (own_ne (own_ne (own_ne O6.out (fun h => pw_get AP.out (i := 6) (j := 1) rfl rfl (by omega) h rfl) i _) (fun h => pw_get AP.out (i := 6) (j := 3) rfl rfl (by omega) h rfl) i _) (fun h => pw_get AP.out (i := 6) (j := 2) rfl rfl (by omega) h rfl) j _) AP.out (b2 := w.heap.size + 1) (by omega) (by omega) (((HB5.out.setCell (by simp; omega) _).setCell (by simp; omega) _).setCell (by simp; omega) _)
  exact ⟨_, rfl, w1.drew, Below.drew w2⟩
end Go.Proofs.Ytncdicagadbafaa.MvX
