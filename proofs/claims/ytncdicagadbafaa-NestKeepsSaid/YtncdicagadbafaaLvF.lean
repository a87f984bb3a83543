/- nest.leave. Conditions: the world reads, and things are within things as they must be. -/
import Derived.Test.YtncdicagadbafaaLvP
namespace Go.Proofs.Ytncdicagadbafaa.LvF
open Go Go.RowKit NestP NestW NestX NestY ValP ValW ValX ValR Sq Rng RngU RngT RngC RngD RgIn WorldD CopP CopW MoveP LvP
attribute [local go_sem] Oper.semAt_some

set_option maxRecDepth 100000 in
set_option maxHeartbeats 8000000 in
theorem leave_first {A0 A1 A2 A3 A4 A5 A6 : Option Addr} {n0 c0 n c1 c2 c3 n4 c4 n5 c5 n6 c6 : Nat} (g : Wd) (hG : NestP.Good g) (hg : g.n = n) (i : Nat) (hi1 : 1 ≤ i) (hi2 : i < n) (j : Nat) (hj1 : 1 ≤ j) (hj2 : j < n) (hup : at' g.pa (i : Int) = (j : Int)) (hf : at' g.ch (j : Int) = (i : Int)) (w : World) (r0 : Rd I w A0 n0 g.gl) (r1 : Rd I w A1 n g.pa) (r2 : Rd I w A2 n g.ch) (r3 : Rd I w A3 n g.ne) (r4 : Rd I w A4 n4 g.fl) (r5 : Rd I w A5 n5 g.pr) (r6 : Rd I w A6 n6 g.ti)
    (hb : n0 ≤ 17592186043904 ∧ n ≤ 17592186043904 ∧ n ≤ 17592186043904 ∧ n ≤ 17592186043904 ∧ n4 ≤ 17592186043904 ∧ n5 ≤ 17592186043904 ∧ n6 ≤ 17592186043904) :
    Calls Try.prog 109 #[.agg #[.slice A0 n0 c0, .slice A1 n c1, .slice A2 n c2, .slice A3 n c3, .slice A4 n4 c4, .slice A5 n5 c5, .slice A6 n6 c6, .int .u64 g.seed, .int .i64 g.sc, .int .i64 g.tu, .int .i64 g.ov, .int .i64 g.it, .int .i64 g.go], .int .i64 (i : Int)] w fun e w' => ∃ v, e = .returned v ∧ Ow w' w.heap.size v (MoveP.leave g (i : Int)) ∧ Below w.heap.size w w' := by
  have R0 := Lib.hid r0
  have R1 := Lib.hid r1
  have R2 := Lib.hid r2
  have R3 := Lib.hid r3
  have R4 := Lib.hid r4
  have R5 := Lib.hid r5
  have R6 := Lib.hid r6
  have HB := Lib.hid hb
  have HG := Lib.hid hG
  clear hb r0 r1 r2 r3 r4 r5 r6 hG
  have hi0 : (0 : Int) ≤ (i : Int) := by omega
  have hi3 : (i : Int) < (n : Int) := by omega
  refine (callsIn_wide (n := 3)).1 ?_
  refine callsIn_of_wp_marks Try.func109 rfl trivial ?_ rfl
  simp only [Try.ntmps109, List.size_toArray, List.length_cons, List.length_nil, Nat.reduceAdd, Nat.reduceSub, Array.replicate_succ, Array.replicate_zero, List.push_toArray, List.append_toArray, List.nil_append, List.cons_append]
  obtain ⟨W3, hW3⟩ : ∃ W3, ((w.alloc (.cells #[.slice A0 n0 c0, .slice A1 n c1, .slice A2 n c2, .slice A3 n c3, .slice A4 n4 c4, .slice A5 n5 c5, .slice A6 n6 c6, .int .u64 g.seed, .int .i64 g.sc, .int .i64 g.tu, .int .i64 g.ov, .int .i64 g.it, .int .i64 g.go] 31)).alloc (.cells #[.int .i64 (i : Int)] 3)).alloc (.cells #[.slice none 0 0, .slice none 0 0, .slice none 0 0, .slice none 0 0, .slice none 0 0, .slice none 0 0, .slice none 0 0, .int .u64 0, .int .i64 0, .int .i64 0, .int .i64 0, .int .i64 0, .int .i64 0] 31) = W3 := ⟨_, rfl⟩
  obtain ⟨s3, f0, f1, f2, hB3⟩ := alloc3 hW3
  have C := copy_i (c0 := c0) (c1 := c1) (c2 := c2) (c3 := c3) (c4 := c4) (c5 := c5) (c6 := c6) g W3 (R0.out.below hB3) (R1.out.below hB3) (R2.out.below hB3) (R3.out.below hB3) (R4.out.below hB3) (R5.out.below hB3) (R6.out.below hB3) HB.out
  have HC := Lib.hid C
  clear C
  obtain ⟨x0, x1, x2, x3, x4, x5, x6, x7, x8, x9, x10, x11, x12, xf⟩ := cells13 f0
  have hj0 : (0 : Int) ≤ (j : Int) := by omega
  have hj3 : (j : Int) < (n : Int) := by omega
  have hj4 : (j : Int) ≠ 0 := by omega
  gi_wp2
  refine ⟨trivial, ?_⟩
  refine (callsIn_wide.2 HC.out).mono ?_
  rintro e W4 ⟨v1, rfl, hO, hb4⟩
  obtain ⟨B0, B1, B2, B3, B4, B5, B6, m0, d0, m1, d1, m2, d2, m3, d3, m4, d4, m5, d5, m6, d6, rfl, ⟨o0, o1, o2, o3, o4, o5, o6⟩, ap⟩ := hO
  clear HC x0 x1 x2 x3 x4 x5 x6 x7 x8 x9 x10 x11 x12 xf
  have hm1 : m1 = n := o1.rd.len.trans hg
  have hm2 : m2 = n := o2.rd.len.trans (HG.out.chl.trans hg)
  have hm3 : m3 = n := o3.rd.len.trans (HG.out.nel.trans hg)
  rw [hm1] at o1 ap ⊢
  rw [hm2] at o2 ap ⊢
  rw [hm3] at o3 ap ⊢
  clear hm1 hm2 hm3 m1 m2 m3
  obtain ⟨g1, rfl, b1a, b1b, _⟩ := o1.at_ (by omega)
  obtain ⟨g2, rfl, b2a, b2b, _⟩ := o2.at_ (by omega)
  obtain ⟨g3, rfl, b3a, b3b, _⟩ := o3.at_ (by omega)
  have n12 : g1 ≠ g2 := fun h => pw_get ap (i := 1) (j := 2) rfl rfl (by omega) (k := g1) rfl (congrArg some h.symm)
  have n13 : g1 ≠ g3 := fun h => pw_get ap (i := 1) (j := 3) rfl rfl (by omega) (k := g1) rfl (congrArg some h.symm)
  have n23 : g2 ≠ g3 := fun h => pw_get ap (i := 2) (j := 3) rfl rfl (by omega) (k := g2) rfl (congrArg some h.symm)
  obtain ⟨W5, hW5⟩ : ∃ W5, W4.alloc (.cells #[.slice B0 m0 d0, .slice (some ⟨g1, 0, none⟩) n d1, .slice (some ⟨g2, 0, none⟩) n d2, .slice (some ⟨g3, 0, none⟩) n d3, .slice B4 m4 d4, .slice B5 m5 d5, .slice B6 m6 d6, .int .u64 g.seed, .int .i64 g.sc, .int .i64 g.tu, .int .i64 g.ov, .int .i64 g.it, .int .i64 g.go] 31) = W5 := ⟨_, rfl⟩
  have hb5 : Below W4.heap.size W4 W5 := by subst hW5; exact (Below.refl _ _).alloc (Nat.le_refl _) _
  have h5 : W5.heap[W4.heap.size]? = some (.cells #[.slice B0 m0 d0, .slice (some ⟨g1, 0, none⟩) n d1, .slice (some ⟨g2, 0, none⟩) n d2, .slice (some ⟨g3, 0, none⟩) n d3, .slice B4 m4 d4, .slice B5 m5 d5, .slice B6 m6 d6, .int .u64 g.seed, .int .i64 g.sc, .int .i64 g.tu, .int .i64 g.ov, .int .i64 g.it, .int .i64 g.go] 31 (0, 0)) := by subst hW5; exact World.alloc_heap_new W4 _
  have s5 : W5.heap.size = W4.heap.size + 1 := by subst hW5; simp
  have s4 := hb4.size
  have hb35 : Below W3.heap.size W3 W5 := hb4.trans (hb5.mono hb4.size)
  have h0 := (hb35.block _ (by omega)).trans f0
  have h1 := (hb35.block _ (by omega)).trans f1
  have h2 := (hb35.block _ (by omega)).trans f2
  have HB5 := Lib.hid (hB3.trans (hb35.mono (by omega)))
  have AP := Lib.hid ap
  have O0 := Lib.hid (o0.below hb5)
  have O1 := Lib.hid (o1.below hb5)
  have O2 := Lib.hid (o2.below hb5)
  have O3 := Lib.hid (o3.below hb5)
  have O4 := Lib.hid (o4.below hb5)
  have O5 := Lib.hid (o5.below hb5)
  have O6 := Lib.hid (o6.below hb5)
  clear f0 f1 f2 o0 o1 o2 o3 o4 o5 o6 ap hb4 hb5 hB3 hb35
  obtain ⟨y0, yf⟩ := cell1 h1
  obtain ⟨u0, u1, u2, u3, u4, u5, u6, u7, u8, u9, u10, u11, u12, uf⟩ := cells13 h5
  obtain ⟨r0, r1, r2, r3, r4, r5, r6, r7, r8, r9, r10, r11, r12, rf⟩ := cells13 h2
  have e1 : w.heap.size + 1 + 1 ≠ g1 := by omega
  have e2 : w.heap.size + 1 + 1 ≠ g2 := by omega
  have e3 : w.heap.size + 1 + 1 ≠ g3 := by omega
  have k1 := own_cell O1.out hi2
  have k2 := own_cell O2.out hi2
  have k3 := own_cell O3.out hi2
  have z1 := own_frozen O1.out (by omega)
  have z2 := own_frozen O2.out (by omega)
  have z3 := own_frozen O3.out (by omega)
  have k2j := own_cell O2.out hj2
  have k2jf := z2 j
  rw [hf] at k2j
  rw [hup] at k1
  gi_wp2
  refine region_heldW (S := fun U => U.heap[W4.heap.size]? = some (.cells #[.slice B0 m0 d0, .slice (some ⟨g1, 0, none⟩) n d1, .slice (some ⟨g2, 0, none⟩) n d2, .slice (some ⟨g3, 0, none⟩) n d3, .slice B4 m4 d4, .slice B5 m5 d5, .slice B6 m6 d6, .int .u64 g.seed, .int .i64 g.sc, .int .i64 g.tu, .int .i64 g.ov, .int .i64 g.it, .int .i64 g.go] 31 (0, 0)) ∧ U.heap[w.heap.size + 1]? = some (.cells #[.int .i64 (i : Int)] 3 (0, 0)) ∧ U.cell? ⟨g2, j, none⟩ = some (.int .i64 (i : Int))) (by kernel_rfl) ⟨h5, h1, k2j⟩ (fun hHeld => ?_)
  refine Rg.take (i := 0) (t := 39) (v := .pointer (some ⟨W4.heap.size, 2, none⟩)) rfl rfl (by kernel_rfl) (by kernel_rfl) (by kernel_rfl) (fun _ _ _ h => h) (by rfl) (by intro w0 hSw; first | (go_simp; done) | (go_simp; with_reducible rfl)) (by assumption) ?_
  simp only [List.setIfInBounds_toArray, List.set_cons_zero, List.set_cons_succ]
  refine Rg.take (i := 1) (t := 40) (v := .slice (some ⟨g2, 0, none⟩) n d2) rfl rfl (by kernel_rfl) (by kernel_rfl) (by kernel_rfl) (fun _ _ _ h => h) (by rfl) (by intro w0 hSw; obtain ⟨x0, x1, x2, x3, x4, x5, x6, x7, x8, x9, x10, x11, x12, xf⟩ := cells13 hSw.1; first | (go_simp; done) | (go_simp; with_reducible rfl)) (by assumption) ?_
  simp only [List.setIfInBounds_toArray, List.set_cons_zero, List.set_cons_succ]
  refine Rg.take (i := 2) (t := 41) (v := .int .i64 ((j : Int))) rfl rfl (by kernel_rfl) (by kernel_rfl) (by kernel_rfl) (fun _ _ _ h => h) (by rfl) (by intro w0 hSw; first | (go_simp; done) | (go_simp; with_reducible rfl)) (by assumption) ?_
  simp only [List.setIfInBounds_toArray, List.set_cons_zero, List.set_cons_succ]
  refine Rg.take (i := 3) (t := 42) (v := .pointer (some ⟨g2, j, none⟩)) rfl rfl (by kernel_rfl) (by kernel_rfl) (by kernel_rfl) (fun _ _ _ h => h) (by rfl) (by intro w0 hSw; first | (go_simp; done) | (go_simp; with_reducible rfl)) (by assumption) ?_
  simp only [List.setIfInBounds_toArray, List.set_cons_zero, List.set_cons_succ]
  refine Rg.take (i := 4) (t := 43) (v := .int .i64 ((i : Int))) rfl rfl (by kernel_rfl) (by kernel_rfl) (by kernel_rfl) (fun _ _ _ h => h) (by rfl) (by intro w0 hSw; have z := hSw.2.2; first | (go_simp; done) | (go_simp; with_reducible rfl)) (by assumption) ?_
  simp only [List.setIfInBounds_toArray, List.set_cons_zero, List.set_cons_succ]
  refine Rg.take (i := 5) (t := 44) (v := .int .i64 ((i : Int))) rfl rfl (by kernel_rfl) (by kernel_rfl) (by kernel_rfl) (fun _ _ _ h => h) (by rfl) (by intro w0 hSw; have z := (cell1 hSw.2.1).1; first | (go_simp; done) | (go_simp; with_reducible rfl)) (by assumption) ?_
  simp only [List.setIfInBounds_toArray, List.set_cons_zero, List.set_cons_succ]
  refine Rg.take (i := 6) (t := 45) (v := .bool true) rfl rfl (by kernel_rfl) (by kernel_rfl) (by kernel_rfl) (fun _ _ _ h => h) (by rfl) (by intro w0 hSw; first | (go_simp; done) | (go_simp; with_reducible rfl)) (by assumption) ?_
  simp only [List.setIfInBounds_toArray, List.set_cons_zero, List.set_cons_succ]
  refine Rg.take (i := 7) (t := 38) (v := .bool true) rfl rfl (by kernel_rfl) (by kernel_rfl) (by kernel_rfl) (fun _ _ _ h => h) (by rfl) (by intro w0 hSw; first | (go_simp; done) | (go_simp; with_reducible rfl)) (by assumption) ?_
  simp only [List.setIfInBounds_toArray, List.set_cons_zero, List.set_cons_succ]
  refine wpAnyH_done (by kernel_rfl) (only_n ?_) _
  gi_wp2
  have hc9 : ((W5.drew.drew.setCell ⟨g2, j, none⟩ (.int .i64 (at' g.ne (i : Int))))).cell? ⟨g3, i, none⟩ = some (.int .i64 (at' g.ne (i : Int))) := (World.cell?_of_block (Below.heap_setCell W5 _ _ _ (by simp; omega))).trans k3
  have ho9 : (W5.drew.drew.setCell ⟨g2, j, none⟩ (.int .i64 (at' g.ne (i : Int)))).heap[W4.heap.size]? = some (.cells #[.slice B0 m0 d0, .slice (some ⟨g1, 0, none⟩) n d1, .slice (some ⟨g2, 0, none⟩) n d2, .slice (some ⟨g3, 0, none⟩) n d3, .slice B4 m4 d4, .slice B5 m5 d5, .slice B6 m6 d6, .int .u64 g.seed, .int .i64 g.sc, .int .i64 g.tu, .int .i64 g.ov, .int .i64 g.it, .int .i64 g.go] 31 (0, 0)) := (Below.heap_setCell _ _ _ _ (by simp; omega)).trans h5
  have hx9 : (W5.drew.drew.setCell ⟨g2, j, none⟩ (.int .i64 (at' g.ne (i : Int)))).heap[w.heap.size + 1]? = some (.cells #[.int .i64 (i : Int)] 3 (0, 0)) := (Below.heap_setCell _ _ _ _ (by simp; omega)).trans h1
  refine region_heldW (S := fun U => U.heap[W4.heap.size]? = some (.cells #[.slice B0 m0 d0, .slice (some ⟨g1, 0, none⟩) n d1, .slice (some ⟨g2, 0, none⟩) n d2, .slice (some ⟨g3, 0, none⟩) n d3, .slice B4 m4 d4, .slice B5 m5 d5, .slice B6 m6 d6, .int .u64 g.seed, .int .i64 g.sc, .int .i64 g.tu, .int .i64 g.ov, .int .i64 g.it, .int .i64 g.go] 31 (0, 0)) ∧ U.heap[w.heap.size + 1]? = some (.cells #[.int .i64 (i : Int)] 3 (0, 0)) ∧ U.cell? ⟨g3, i, none⟩ = some (.int .i64 (at' g.ne (i : Int)))) (by kernel_rfl) ⟨h5, h1, k3⟩ (fun hHeld => ?_)
  refine Rg.take (i := 0) (t := 46) (v := .pointer (some ⟨W4.heap.size, 2, none⟩)) rfl rfl (by kernel_rfl) (by kernel_rfl) (by kernel_rfl) (fun _ _ _ h => h) (by rfl) (by intro w0 hSw; first | (go_simp; done) | (go_simp; with_reducible rfl)) (by assumption) ?_
  simp only [List.setIfInBounds_toArray, List.set_cons_zero, List.set_cons_succ]
  refine Rg.take (i := 1) (t := 47) (v := .slice (some ⟨g2, 0, none⟩) n d2) rfl rfl (by kernel_rfl) (by kernel_rfl) (by kernel_rfl) (fun _ _ _ h => h) (by rfl) (by intro w0 hSw; obtain ⟨x0, x1, x2, x3, x4, x5, x6, x7, x8, x9, x10, x11, x12, xf⟩ := cells13 hSw.1; first | (go_simp; done) | (go_simp; with_reducible rfl)) (by assumption) ?_
  simp only [List.setIfInBounds_toArray, List.set_cons_zero, List.set_cons_succ]
  refine Rg.take (i := 2) (t := 48) (v := .int .i64 ((j : Int))) rfl rfl (by kernel_rfl) (by kernel_rfl) (by kernel_rfl) (fun _ _ _ h => h) (by rfl) (by intro w0 hSw; first | (go_simp; done) | (go_simp; with_reducible rfl)) (by assumption) ?_
  simp only [List.setIfInBounds_toArray, List.set_cons_zero, List.set_cons_succ]
  refine Rg.take (i := 3) (t := 49) (v := .pointer (some ⟨W4.heap.size, 3, none⟩)) rfl rfl (by kernel_rfl) (by kernel_rfl) (by kernel_rfl) (fun _ _ _ h => h) (by rfl) (by intro w0 hSw; first | (go_simp; done) | (go_simp; with_reducible rfl)) (by assumption) ?_
  simp only [List.setIfInBounds_toArray, List.set_cons_zero, List.set_cons_succ]
  refine Rg.take (i := 4) (t := 50) (v := .slice (some ⟨g3, 0, none⟩) n d3) rfl rfl (by kernel_rfl) (by kernel_rfl) (by kernel_rfl) (fun _ _ _ h => h) (by rfl) (by intro w0 hSw; obtain ⟨x0, x1, x2, x3, x4, x5, x6, x7, x8, x9, x10, x11, x12, xf⟩ := cells13 hSw.1; first | (go_simp; done) | (go_simp; with_reducible rfl)) (by assumption) ?_
  simp only [List.setIfInBounds_toArray, List.set_cons_zero, List.set_cons_succ]
  refine Rg.take (i := 5) (t := 51) (v := .int .i64 ((i : Int))) rfl rfl (by kernel_rfl) (by kernel_rfl) (by kernel_rfl) (fun _ _ _ h => h) (by rfl) (by intro w0 hSw; have z := (cell1 hSw.2.1).1; first | (go_simp; done) | (go_simp; with_reducible rfl)) (by assumption) ?_
  simp only [List.setIfInBounds_toArray, List.set_cons_zero, List.set_cons_succ]
  refine Rg.take (i := 6) (t := 52) (v := .pointer (some ⟨g3, i, none⟩)) rfl rfl (by kernel_rfl) (by kernel_rfl) (by kernel_rfl) (fun _ _ _ h => h) (by rfl) (by intro w0 hSw; first | (go_simp; done) | (go_simp; with_reducible rfl)) (by assumption) ?_
  simp only [List.setIfInBounds_toArray, List.set_cons_zero, List.set_cons_succ]
  refine Rg.take (i := 7) (t := 53) (v := .int .i64 (at' g.ne (i : Int))) rfl rfl (by kernel_rfl) (by kernel_rfl) (by kernel_rfl) (fun _ _ _ h => h) (by rfl) (by intro w0 hSw; have z := hSw.2.2; first | (go_simp; done) | (go_simp; with_reducible rfl)) (by assumption) ?_
  simp only [List.setIfInBounds_toArray, List.set_cons_zero, List.set_cons_succ]
  refine Rg.take (i := 8) (t := 54) (v := .pointer (some ⟨g2, j, none⟩)) rfl rfl (by kernel_rfl) (by kernel_rfl) (by kernel_rfl) (fun _ _ _ h => h) (by rfl) (by intro w0 hSw; first | (go_simp; done) | (go_simp; with_reducible rfl)) (by assumption) ?_
  simp only [List.setIfInBounds_toArray, List.set_cons_zero, List.set_cons_succ]
  refine Rg.one (i := 9) (by kernel_rfl) ?_
  refine effN (i := 9) (w1 := (W5.drew.drew.setCell ⟨g2, j, none⟩ (.int .i64 (at' g.ne (i : Int))))) rfl rfl (by rfl) (by first | (go_simp; done) | (go_simp; with_reducible rfl)) ⟨⟨ho9, hx9, hc9⟩, ?_⟩
  refine wpAnyH_done (by kernel_rfl) (only_n ?_) _
  gi_wp2
  have hoA : ((W5.drew.drew.setCell ⟨g2, j, none⟩ (.int .i64 (at' g.ne (i : Int)))).drew.setCell ⟨g1, i, none⟩ (.int .i64 0)).heap[W4.heap.size]? = some (.cells #[.slice B0 m0 d0, .slice (some ⟨g1, 0, none⟩) n d1, .slice (some ⟨g2, 0, none⟩) n d2, .slice (some ⟨g3, 0, none⟩) n d3, .slice B4 m4 d4, .slice B5 m5 d5, .slice B6 m6 d6, .int .u64 g.seed, .int .i64 g.sc, .int .i64 g.tu, .int .i64 g.ov, .int .i64 g.it, .int .i64 g.go] 31 (0, 0)) := (Below.heap_setCell _ _ _ _ (by simp; omega)).trans ho9
  have hxA : ((W5.drew.drew.setCell ⟨g2, j, none⟩ (.int .i64 (at' g.ne (i : Int)))).drew.setCell ⟨g1, i, none⟩ (.int .i64 0)).heap[w.heap.size + 1]? = some (.cells #[.int .i64 (i : Int)] 3 (0, 0)) := (Below.heap_setCell _ _ _ _ (by simp; omega)).trans hx9
  have hSA := And.intro hoA hxA
  have hoB : (((W5.drew.drew.setCell ⟨g2, j, none⟩ (.int .i64 (at' g.ne (i : Int)))).drew.setCell ⟨g1, i, none⟩ (.int .i64 0)).setCell ⟨g3, i, none⟩ (.int .i64 0)).heap[W4.heap.size]? = some (.cells #[.slice B0 m0 d0, .slice (some ⟨g1, 0, none⟩) n d1, .slice (some ⟨g2, 0, none⟩) n d2, .slice (some ⟨g3, 0, none⟩) n d3, .slice B4 m4 d4, .slice B5 m5 d5, .slice B6 m6 d6, .int .u64 g.seed, .int .i64 g.sc, .int .i64 g.tu, .int .i64 g.ov, .int .i64 g.it, .int .i64 g.go] 31 (0, 0)) := (Below.heap_setCell _ _ _ _ (by simp; omega)).trans hoA
  have hxB : (((W5.drew.drew.setCell ⟨g2, j, none⟩ (.int .i64 (at' g.ne (i : Int)))).drew.setCell ⟨g1, i, none⟩ (.int .i64 0)).setCell ⟨g3, i, none⟩ (.int .i64 0)).heap[w.heap.size + 1]? = some (.cells #[.int .i64 (i : Int)] 3 (0, 0)) := (Below.heap_setCell _ _ _ _ (by simp; omega)).trans hxA
  refine region_heldW (S := fun U => U.heap[W4.heap.size]? = some (.cells #[.slice B0 m0 d0, .slice (some ⟨g1, 0, none⟩) n d1, .slice (some ⟨g2, 0, none⟩) n d2, .slice (some ⟨g3, 0, none⟩) n d3, .slice B4 m4 d4, .slice B5 m5 d5, .slice B6 m6 d6, .int .u64 g.seed, .int .i64 g.sc, .int .i64 g.tu, .int .i64 g.ov, .int .i64 g.it, .int .i64 g.go] 31 (0, 0)) ∧ U.heap[w.heap.size + 1]? = some (.cells #[.int .i64 (i : Int)] 3 (0, 0))) (by kernel_rfl) ⟨ho9, hx9⟩ (fun hHeld => ?_)
  refine Rg.take (i := 0) (t := 55) (v := .pointer (some ⟨W4.heap.size, 1, none⟩)) rfl rfl (by kernel_rfl) (by kernel_rfl) (by kernel_rfl) (fun _ _ _ h => h) (by rfl) (by intro w0 hSw; first | (go_simp; done) | (go_simp; with_reducible rfl)) (by assumption) ?_
  simp only [List.setIfInBounds_toArray, List.set_cons_zero, List.set_cons_succ]
  refine Rg.take (i := 1) (t := 56) (v := .slice (some ⟨g1, 0, none⟩) n d1) rfl rfl (by kernel_rfl) (by kernel_rfl) (by kernel_rfl) (fun _ _ _ h => h) (by rfl) (by intro w0 hSw; obtain ⟨x0, x1, x2, x3, x4, x5, x6, x7, x8, x9, x10, x11, x12, xf⟩ := cells13 hSw.1; first | (go_simp; done) | (go_simp; with_reducible rfl)) (by assumption) ?_
  simp only [List.setIfInBounds_toArray, List.set_cons_zero, List.set_cons_succ]
  refine Rg.take (i := 2) (t := 57) (v := .int .i64 ((i : Int))) rfl rfl (by kernel_rfl) (by kernel_rfl) (by kernel_rfl) (fun _ _ _ h => h) (by rfl) (by intro w0 hSw; have z := (cell1 hSw.2).1; first | (go_simp; done) | (go_simp; with_reducible rfl)) (by assumption) ?_
  simp only [List.setIfInBounds_toArray, List.set_cons_zero, List.set_cons_succ]
  refine Rg.take (i := 3) (t := 58) (v := .pointer (some ⟨W4.heap.size, 3, none⟩)) rfl rfl (by kernel_rfl) (by kernel_rfl) (by kernel_rfl) (fun _ _ _ h => h) (by rfl) (by intro w0 hSw; first | (go_simp; done) | (go_simp; with_reducible rfl)) (by assumption) ?_
  simp only [List.setIfInBounds_toArray, List.set_cons_zero, List.set_cons_succ]
  refine Rg.take (i := 4) (t := 59) (v := .slice (some ⟨g3, 0, none⟩) n d3) rfl rfl (by kernel_rfl) (by kernel_rfl) (by kernel_rfl) (fun _ _ _ h => h) (by rfl) (by intro w0 hSw; obtain ⟨x0, x1, x2, x3, x4, x5, x6, x7, x8, x9, x10, x11, x12, xf⟩ := cells13 hSw.1; first | (go_simp; done) | (go_simp; with_reducible rfl)) (by assumption) ?_
  simp only [List.setIfInBounds_toArray, List.set_cons_zero, List.set_cons_succ]
  refine Rg.take (i := 5) (t := 60) (v := .int .i64 ((i : Int))) rfl rfl (by kernel_rfl) (by kernel_rfl) (by kernel_rfl) (fun _ _ _ h => h) (by rfl) (by intro w0 hSw; have z := (cell1 hSw.2).1; first | (go_simp; done) | (go_simp; with_reducible rfl)) (by assumption) ?_
  simp only [List.setIfInBounds_toArray, List.set_cons_zero, List.set_cons_succ]
  refine Rg.take (i := 6) (t := 61) (v := .pointer (some ⟨g1, i, none⟩)) rfl rfl (by kernel_rfl) (by kernel_rfl) (by kernel_rfl) (fun _ _ _ h => h) (by rfl) (by intro w0 hSw; first | (go_simp; done) | (go_simp; with_reducible rfl)) (by assumption) ?_
  simp only [List.setIfInBounds_toArray, List.set_cons_zero, List.set_cons_succ]
  refine Rg.one (i := 7) (by kernel_rfl) ?_
  refine effN (i := 7) (w1 := ((W5.drew.drew.setCell ⟨g2, j, none⟩ (.int .i64 (at' g.ne (i : Int)))).drew.setCell ⟨g1, i, none⟩ (.int .i64 0))) rfl rfl (by rfl) (by first | (go_simp; done) | (go_simp; with_reducible rfl)) ⟨hSA, ?_⟩
  refine Rg.take (i := 8) (t := 62) (v := .pointer (some ⟨g3, i, none⟩)) rfl rfl (by kernel_rfl) (by kernel_rfl) (by kernel_rfl) (fun _ _ _ h => h) (by rfl) (by intro w0 hSw; first | (go_simp; done) | (go_simp; with_reducible rfl)) (by assumption) ?_
  simp only [List.setIfInBounds_toArray, List.set_cons_zero, List.set_cons_succ]
  refine Rg.one (i := 9) (by kernel_rfl) ?_
  refine effN (i := 9) (w1 := (((W5.drew.drew.setCell ⟨g2, j, none⟩ (.int .i64 (at' g.ne (i : Int)))).drew.setCell ⟨g1, i, none⟩ (.int .i64 0)).setCell ⟨g3, i, none⟩ (.int .i64 0))) rfl rfl (by rfl) (by first | (go_simp; done) | (go_simp; with_reducible rfl)) ⟨⟨hoB, hxB⟩, ?_⟩
  refine wpAnyH_done (by kernel_rfl) (only_n ?_) _
  gi_wp2
  have hxT : isT g.n (i : Int) = true := isT_iff.2 ⟨by omega, by rw [hg]; omega⟩
  have ec : (MoveP.leave g (i : Int)).ch = g.ch.set j (at' g.ne (i : Int)) := by
    show lvCh g (i : Int) = _
    unfold lvCh
    rw [hup, if_pos hf]
    rfl
  have en : (MoveP.leave g (i : Int)).ne = g.ne.set i 0 := by
    show setI (lvNe g (i : Int)) (i : Int) 0 = _
    unfold lvNe
    rw [first_none HG.out hxT (by rw [hup]; exact hf)]
    rfl
  have HV : ((((W5.setCell ⟨g2, j, none⟩ (.int .i64 (at' g.ne (i : Int)))).setCell ⟨g1, i, none⟩ (.int .i64 0)).setCell ⟨g3, i, none⟩ (.int .i64 0))).heap[w.heap.size + 1 + 1]? = some (.cells #[.slice none 0 0, .slice none 0 0, .slice none 0 0, .slice none 0 0, .slice none 0 0, .slice none 0 0, .slice none 0 0, .int .u64 0, .int .i64 0, .int .i64 0, .int .i64 0, .int .i64 0, .int .i64 0] 31 (0, 0)) := ((Below.heap_setCell _ _ _ _ (by simp; omega)).trans ((Below.heap_setCell _ _ _ _ (by simp; omega)).trans ((Below.heap_setCell _ _ _ _ (by simp; omega)).trans h2)))
  obtain ⟨w1, w2⟩ := close (w := w) (V := (((W5.setCell ⟨g2, j, none⟩ (.int .i64 (at' g.ne (i : Int)))).setCell ⟨g1, i, none⟩ (.int .i64 0)).setCell ⟨g3, i, none⟩ (.int .i64 0))) (g := MoveP.leave g (i : Int)) (own_ne (own_ne (own_ne O0.out (fun h => pw_get AP.out (i := 0) (j := 2) rfl rfl (by omega) h rfl) j _) (fun h => pw_get AP.out (i := 0) (j := 1) rfl rfl (by omega) h rfl) i _) (fun h => pw_get AP.out (i := 0) (j := 3) rfl rfl (by omega) h rfl) i _) (own_ne (((own_ne O1.out (fun h => pw_get AP.out (i := 1) (j := 2) rfl rfl (by omega) h rfl) j _)).store i 0) (fun h => pw_get AP.out (i := 1) (j := 3) rfl rfl (by omega) h rfl) i _) (by rw [ec]; exact (own_ne (own_ne ((O2.out).store j (at' g.ne (i : Int))) (fun h => pw_get AP.out (i := 2) (j := 1) rfl rfl (by omega) h rfl) i _) (fun h => pw_get AP.out (i := 2) (j := 3) rfl rfl (by omega) h rfl) i _)) (by rw [en]; exact (((own_ne (own_ne O3.out (fun h => pw_get AP.out (i := 3) (j := 2) rfl rfl (by omega) h rfl) j _) (fun h => pw_get AP.out (i := 3) (j := 1) rfl rfl (by omega) h rfl) i _)).store i 0)) (own_ne (own_ne (own_ne O4.out (fun h => pw_get AP.out (i := 4) (j := 2) rfl rfl (by omega) h rfl) j _) (fun h => pw_get AP.out (i := 4) (j := 1) rfl rfl (by omega) h rfl) i _) (fun h => pw_get AP.out (i := 4) (j := 3) rfl rfl (by omega) h rfl) i _) (own_ne (own_ne (own_ne O5.out (fun h => pw_get AP.out (i := 5) (j := 2) rfl rfl (by omega) h rfl) j _) (fun h => pw_get AP.out (i := 5) (j := 1) rfl rfl (by omega) h rfl) i _) (fun h => pw_get AP.out (i := 5) (j := 3) rfl rfl (by omega) h rfl) i _) (own_ne (own_ne (own_ne O6.out (fun h => pw_get AP.out (i := 6) (j := 2) rfl rfl (by omega) h rfl) j _) (fun h => pw_get AP.out (i := 6) (j := 1) rfl rfl (by omega) h rfl) i _) (fun h => pw_get AP.out (i := 6) (j := 3) rfl rfl (by omega) h rfl) i _) AP.out (b2 := w.heap.size + 1 + 1) (by omega) (by omega) (((HB5.out.setCell (by simp; omega) _).setCell (by simp; omega) _).setCell (by simp; omega) _)
  exact ⟨_, results_c rfl _ _ (w.heap.size + 1 + 1) _ _ _ _ rfl (drewHeap (drewHeap (drewHeap (set13 HV)))) Try.underlying31 rfl, _, rfl, w1.drew.drew.drew, Below.drew (Below.drew (Below.drew (w2)))⟩
end Go.Proofs.Ytncdicagadbafaa.LvF
