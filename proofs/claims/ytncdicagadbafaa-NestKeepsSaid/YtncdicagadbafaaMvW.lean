/- nest.Move and nest.Remove. Conditions: the world reads, and things are within things as they must be. -/
import Derived.Test.YtncdicagadbafaaLvA
import Derived.Test.YtncdicagadbafaaNestX
namespace Go.Proofs.Ytncdicagadbafaa.MvW
open Go Go.RowKit NestP NestW NestX NestY ValP ValW ValX ValR Sq Rng RngU RngT RngC RngD RgIn WorldD CopP CopW MoveP LvP LvA

theorem alloc2 {w W : World} {o1 o2 : Obj} (h : (w.alloc o1).alloc o2 = W) :
    W.heap.size = w.heap.size + 2 ∧ W.heap[w.heap.size]? = some o1 ∧ W.heap[w.heap.size + 1]? = some o2 ∧ Below w.heap.size w W := by
  subst h
  have n1 := World.alloc_heap_new w o1
  have n2 := World.alloc_heap_new (w.alloc o1) o2
  simp only [World.size_alloc] at n2
  exact ⟨by simp, (Below.heap_alloc _ _ _ (by simp only [World.size_alloc]; omega)).trans n1, n2, ((Below.refl _ w).alloc (Nat.le_refl _) _).alloc (by simp only [World.size_alloc]; omega) _⟩

set_option maxRecDepth 100000 in
set_option maxHeartbeats 4000000 in
theorem remove_no {A0 A1 A2 A3 A4 A5 A6 : Option Addr} {n0 c0 n c1 c2 c3 n4 c4 n5 c5 n6 c6 : Nat} (g : Wd) (x : Int) (hx : isT n x = false) (w : World) :
    Calls Try.prog 41 #[.agg #[.slice A0 n0 c0, .slice A1 n c1, .slice A2 n c2, .slice A3 n c3, .slice A4 n4 c4, .slice A5 n5 c5, .slice A6 n6 c6, .int .u64 g.seed, .int .i64 g.sc, .int .i64 g.tu, .int .i64 g.ov, .int .i64 g.it, .int .i64 g.go], .int .i64 x] w fun e w' => e = .returned (.tuple #[.agg #[.slice A0 n0 c0, .slice A1 n c1, .slice A2 n c2, .slice A3 n c3, .slice A4 n4 c4, .slice A5 n5 c5, .slice A6 n6 c6, .int .u64 g.seed, .int .i64 g.sc, .int .i64 g.tu, .int .i64 g.ov, .int .i64 g.it, .int .i64 g.go], .int .i64 11]) ∧ Below w.heap.size w w' := by
  have HX := Lib.hid hx
  clear hx
  go_enter Try.func41, Try.ntmps41
  obtain ⟨W2, hW2⟩ : ∃ W2, (w.alloc (.cells #[.slice A0 n0 c0, .slice A1 n c1, .slice A2 n c2, .slice A3 n c3, .slice A4 n4 c4, .slice A5 n5 c5, .slice A6 n6 c6, .int .u64 g.seed, .int .i64 g.sc, .int .i64 g.tu, .int .i64 g.ov, .int .i64 g.it, .int .i64 g.go] 31)).alloc (.cells #[.slice none 0 0, .slice none 0 0, .slice none 0 0, .slice none 0 0, .slice none 0 0, .slice none 0 0, .slice none 0 0, .int .u64 0, .int .i64 0, .int .i64 0, .int .i64 0, .int .i64 0, .int .i64 0] 31) = W2 := ⟨_, rfl⟩
  obtain ⟨s2, f0, f1, hB2⟩ := alloc2 hW2
  obtain ⟨x0, x1, x2, x3, x4, x5, x6, x7, x8, x9, x10, x11, x12, xf⟩ := cells13 f0
  go_wp2_with (go_at_call 46; refine (is_n _ _).mono ?_; rintro e w1 ⟨rfl, hb1⟩; rw [HX.out]; clear x0 x1 x2 x3 x4 x5 x6 x7 x8 x9 x10 x11 x12 xf; have h0 := (hb1.block _ (by omega)).trans f0; have h1 := (hb1.block _ (by omega)).trans f1; obtain ⟨x0, x1, x2, x3, x4, x5, x6, x7, x8, x9, x10, x11, x12, xf⟩ := cells13 h0; obtain ⟨y0, y1, y2, y3, y4, y5, y6, y7, y8, y9, y10, y11, y12, yf⟩ := cells13 h1)
  (try simp only [Exit.inBlock, Exit.then])
  refine ret_ct (set13 h1) rfl rfl Try.underlying31 rfl rfl ?_
  exact ⟨rfl, set13_below (hB2.trans (hb1.mono (by omega))) (by omega) (Nat.zero_le _)⟩

set_option maxRecDepth 100000 in
set_option maxHeartbeats 4000000 in
theorem remove_ok {A0 A1 A2 A3 A4 A5 A6 : Option Addr} {n0 c0 n c1 c2 c3 n4 c4 n5 c5 n6 c6 : Nat} (g : Wd) (hG : NestP.Good g) (hg : g.n = n) (x : Int) (hx : isT n x = true) (w : World) (r0 : Rd I w A0 n0 g.gl) (r1 : Rd I w A1 n g.pa) (r2 : Rd I w A2 n g.ch) (r3 : Rd I w A3 n g.ne) (r4 : Rd I w A4 n4 g.fl) (r5 : Rd I w A5 n5 g.pr) (r6 : Rd I w A6 n6 g.ti)
    (hb : n0 ≤ 17592186043904 ∧ n ≤ 17592186043904 ∧ n ≤ 17592186043904 ∧ n ≤ 17592186043904 ∧ n4 ≤ 17592186043904 ∧ n5 ≤ 17592186043904 ∧ n6 ≤ 17592186043904) :
    Calls Try.prog 41 #[.agg #[.slice A0 n0 c0, .slice A1 n c1, .slice A2 n c2, .slice A3 n c3, .slice A4 n4 c4, .slice A5 n5 c5, .slice A6 n6 c6, .int .u64 g.seed, .int .i64 g.sc, .int .i64 g.tu, .int .i64 g.ov, .int .i64 g.it, .int .i64 g.go], .int .i64 x] w fun e w' => ∃ v, e = .returned (.tuple #[v, .int .i64 0]) ∧ Ow w' w.heap.size v (MoveP.leave g x) ∧ Below w.heap.size w w' := by
  have HX := Lib.hid hx
  clear hx
  have R0 := Lib.hid r0
  have R1 := Lib.hid r1
  have R2 := Lib.hid r2
  have R3 := Lib.hid r3
  have R4 := Lib.hid r4
  have R5 := Lib.hid r5
  have R6 := Lib.hid r6
  have HB := Lib.hid hb
  have HG := Lib.hid hG
  clear hb r0 r1 r2 r3 r4 r5 r6 hG
  go_enter Try.func41, Try.ntmps41
  obtain ⟨W2, hW2⟩ : ∃ W2, (w.alloc (.cells #[.slice A0 n0 c0, .slice A1 n c1, .slice A2 n c2, .slice A3 n c3, .slice A4 n4 c4, .slice A5 n5 c5, .slice A6 n6 c6, .int .u64 g.seed, .int .i64 g.sc, .int .i64 g.tu, .int .i64 g.ov, .int .i64 g.it, .int .i64 g.go] 31)).alloc (.cells #[.slice none 0 0, .slice none 0 0, .slice none 0 0, .slice none 0 0, .slice none 0 0, .slice none 0 0, .slice none 0 0, .int .u64 0, .int .i64 0, .int .i64 0, .int .i64 0, .int .i64 0, .int .i64 0] 31) = W2 := ⟨_, rfl⟩
  obtain ⟨s2, f0, f1, hB2⟩ := alloc2 hW2
  obtain ⟨x0, x1, x2, x3, x4, x5, x6, x7, x8, x9, x10, x11, x12, xf⟩ := cells13 f0
  have HB2 := Lib.hid hB2
  clear hB2
  go_wp2_with (first
    | (go_at_call 46; refine (is_n _ _).mono ?_; rintro e w1 ⟨rfl, hb1⟩; rw [HX.out]; clear x0 x1 x2 x3 x4 x5 x6 x7 x8 x9 x10 x11 x12 xf; have h0 := (hb1.block _ (by omega)).trans f0; have h1 := (hb1.block _ (by omega)).trans f1; have hBw := Lib.hid (HB2.out.trans (hb1.mono (by omega))); have s1 := hb1.size; clear hb1 f0 f1; obtain ⟨x0, x1, x2, x3, x4, x5, x6, x7, x8, x9, x10, x11, x12, xf⟩ := cells13 h0)
    | (go_at_call 109; refine (leave_i g HG.out hg x HX.out _ (R0.out.below hBw.out) (R1.out.below hBw.out) (R2.out.below hBw.out) (R3.out.below hBw.out) (R4.out.below hBw.out) (R5.out.below hBw.out) (R6.out.below hBw.out) HB.out).mono ?_; rintro e w2 ⟨v, rfl, hO, hb2⟩; have k1 := (hb2.block _ (by omega)).trans h1; obtain ⟨y0, y1, y2, y3, y4, y5, y6, y7, y8, y9, y10, y11, y12, yf⟩ := cells13 k1; obtain ⟨B0, B1, B2, B3, B4, B5, B6, m0, d0, m1, d1, m2, d2, m3, d3, m4, d4, m5, d5, m6, d6, rfl, ho, ap⟩ := hO; have HO := Lib.hid ho; have AP := Lib.hid ap; clear ho ap))
  (try simp only [Exit.inBlock, Exit.then])
  refine ret_ct (set13 k1) rfl rfl Try.underlying31 rfl rfl ?_
  obtain ⟨o0, o1, o2, o3, o4, o5, o6⟩ := HO.out
  obtain ⟨z1, z2⟩ := close o0 o1 o2 o3 o4 o5 o6 AP.out (show w.heap.size ≤ w.heap.size + 1 by omega) (by omega) (hBw.out.trans (hb2.mono (by omega)))
  exact ⟨_, rfl, z1, z2⟩

set_option maxRecDepth 100000 in
set_option maxHeartbeats 4000000 in
theorem move_no {A0 A1 A2 A3 A4 A5 A6 : Option Addr} {n0 c0 n c1 c2 c3 n4 c4 n5 c5 n6 c6 : Nat} (g : Wd) (x tt : Int) (hx : isT n x = false ∨ isT n tt = false) (w : World) :
    Calls Try.prog 39 #[.agg #[.slice A0 n0 c0, .slice A1 n c1, .slice A2 n c2, .slice A3 n c3, .slice A4 n4 c4, .slice A5 n5 c5, .slice A6 n6 c6, .int .u64 g.seed, .int .i64 g.sc, .int .i64 g.tu, .int .i64 g.ov, .int .i64 g.it, .int .i64 g.go], .int .i64 x, .int .i64 tt] w fun e w' => e = .returned (.tuple #[.agg #[.slice A0 n0 c0, .slice A1 n c1, .slice A2 n c2, .slice A3 n c3, .slice A4 n4 c4, .slice A5 n5 c5, .slice A6 n6 c6, .int .u64 g.seed, .int .i64 g.sc, .int .i64 g.tu, .int .i64 g.ov, .int .i64 g.it, .int .i64 g.go], .int .i64 11]) ∧ Below w.heap.size w w' := by
  obtain ⟨q, hq⟩ : ∃ q, isT n x = q := ⟨_, rfl⟩
  cases q
  · have HX := Lib.hid hq
    have HT := HX
    clear hx hq
    go_enter Try.func39, Try.ntmps39
    obtain ⟨W2, hW2⟩ : ∃ W2, (w.alloc (.cells #[.slice A0 n0 c0, .slice A1 n c1, .slice A2 n c2, .slice A3 n c3, .slice A4 n4 c4, .slice A5 n5 c5, .slice A6 n6 c6, .int .u64 g.seed, .int .i64 g.sc, .int .i64 g.tu, .int .i64 g.ov, .int .i64 g.it, .int .i64 g.go] 31)).alloc (.cells #[.slice none 0 0, .slice none 0 0, .slice none 0 0, .slice none 0 0, .slice none 0 0, .slice none 0 0, .slice none 0 0, .int .u64 0, .int .i64 0, .int .i64 0, .int .i64 0, .int .i64 0, .int .i64 0] 31) = W2 := ⟨_, rfl⟩
    obtain ⟨s2, h0, h1, hB2⟩ := alloc2 hW2
    have hBw := Lib.hid hB2
    have sB : w.heap.size + 2 ≤ W2.heap.size := by omega
    clear hB2
    obtain ⟨x0, x1, x2, x3, x4, x5, x6, x7, x8, x9, x10, x11, x12, xf⟩ := cells13 h0
    go_wp2_with (go_at_call 46; refine (is_n _ _).mono ?_; rintro e w1 ⟨rfl, hb1⟩; (first | rw [HX.out] | rw [HT.out]); have t0 := (hb1.block _ (by omega)).trans h0; have t1 := (hb1.block _ (by omega)).trans h1; have tB := Lib.hid (hBw.out.trans (hb1.mono (by omega))); have ts := Nat.le_trans sB hb1.size; clear h0 h1 hBw sB hb1 x0 x1 x2 x3 x4 x5 x6 x7 x8 x9 x10 x11 x12 xf; have h0 := t0; have h1 := t1; have hBw := tB; have sB := ts; clear t0 t1 tB ts; obtain ⟨x0, x1, x2, x3, x4, x5, x6, x7, x8, x9, x10, x11, x12, xf⟩ := cells13 h0; obtain ⟨y0, y1, y2, y3, y4, y5, y6, y7, y8, y9, y10, y11, y12, yf⟩ := cells13 h1)
    (try simp only [Exit.inBlock, Exit.then])
    refine ret_ct (set13 h1) rfl rfl Try.underlying31 rfl rfl ?_
    exact ⟨rfl, set13_below hBw.out (by omega) (Nat.zero_le _)⟩
  · have HX := Lib.hid hq
    have HT := Lib.hid (hx.resolve_left (by rw [hq]; simp))
    clear hx hq
    go_enter Try.func39, Try.ntmps39
    obtain ⟨W2, hW2⟩ : ∃ W2, (w.alloc (.cells #[.slice A0 n0 c0, .slice A1 n c1, .slice A2 n c2, .slice A3 n c3, .slice A4 n4 c4, .slice A5 n5 c5, .slice A6 n6 c6, .int .u64 g.seed, .int .i64 g.sc, .int .i64 g.tu, .int .i64 g.ov, .int .i64 g.it, .int .i64 g.go] 31)).alloc (.cells #[.slice none 0 0, .slice none 0 0, .slice none 0 0, .slice none 0 0, .slice none 0 0, .slice none 0 0, .slice none 0 0, .int .u64 0, .int .i64 0, .int .i64 0, .int .i64 0, .int .i64 0, .int .i64 0] 31) = W2 := ⟨_, rfl⟩
    obtain ⟨s2, h0, h1, hB2⟩ := alloc2 hW2
    have hBw := Lib.hid hB2
    have sB : w.heap.size + 2 ≤ W2.heap.size := by omega
    clear hB2
    obtain ⟨x0, x1, x2, x3, x4, x5, x6, x7, x8, x9, x10, x11, x12, xf⟩ := cells13 h0
    obtain ⟨y0, y1, y2, y3, y4, y5, y6, y7, y8, y9, y10, y11, y12, yf⟩ := cells13 h1
    go_wp2_with (go_at_call 46; refine (is_n _ _).mono ?_; rintro e w1 ⟨rfl, hb1⟩; (first | rw [HX.out] | rw [HT.out]); have t0 := (hb1.block _ (by omega)).trans h0; have t1 := (hb1.block _ (by omega)).trans h1; have tB := Lib.hid (hBw.out.trans (hb1.mono (by omega))); have ts := Nat.le_trans sB hb1.size; clear y0 y1 y2 y3 y4 y5 y6 y7 y8 y9 y10 y11 y12 yf h0 h1 hBw sB hb1 x0 x1 x2 x3 x4 x5 x6 x7 x8 x9 x10 x11 x12 xf; have h0 := t0; have h1 := t1; have hBw := tB; have sB := ts; clear t0 t1 tB ts; obtain ⟨x0, x1, x2, x3, x4, x5, x6, x7, x8, x9, x10, x11, x12, xf⟩ := cells13 h0; obtain ⟨y0, y1, y2, y3, y4, y5, y6, y7, y8, y9, y10, y11, y12, yf⟩ := cells13 h1)
    (try simp only [Exit.inBlock, Exit.then])
    refine ret_ct (set13 h1) rfl rfl Try.underlying31 rfl rfl ?_
    exact ⟨rfl, set13_below hBw.out (by omega) (Nat.zero_le _)⟩

set_option maxRecDepth 100000 in
set_option maxHeartbeats 4000000 in
theorem move_in {A0 A1 A2 A3 A4 A5 A6 : Option Addr} {n0 c0 n c1 c2 c3 n4 c4 n5 c5 n6 c6 : Nat} (g : Wd) (x tt : Int) (hx : isT n x = true) (ht : isT n tt = true) (hw : within g tt x = true) (w : World) (r1 : Rd I w A1 n g.pa) (hn : n ≤ 17592186043904) :
    Calls Try.prog 39 #[.agg #[.slice A0 n0 c0, .slice A1 n c1, .slice A2 n c2, .slice A3 n c3, .slice A4 n4 c4, .slice A5 n5 c5, .slice A6 n6 c6, .int .u64 g.seed, .int .i64 g.sc, .int .i64 g.tu, .int .i64 g.ov, .int .i64 g.it, .int .i64 g.go], .int .i64 x, .int .i64 tt] w fun e w' => e = .returned (.tuple #[.agg #[.slice A0 n0 c0, .slice A1 n c1, .slice A2 n c2, .slice A3 n c3, .slice A4 n4 c4, .slice A5 n5 c5, .slice A6 n6 c6, .int .u64 g.seed, .int .i64 g.sc, .int .i64 g.tu, .int .i64 g.ov, .int .i64 g.it, .int .i64 g.go], .int .i64 18]) ∧ Below w.heap.size w w' := by
  have HX := Lib.hid hx
  have HT := Lib.hid ht
  have HW := Lib.hid hw
  have R1 := Lib.hid r1
  have HB := Lib.hid (And.intro hn (And.intro hn hn))
  clear hx ht hw r1 hn
  go_enter Try.func39, Try.ntmps39
  obtain ⟨W2, hW2⟩ : ∃ W2, (w.alloc (.cells #[.slice A0 n0 c0, .slice A1 n c1, .slice A2 n c2, .slice A3 n c3, .slice A4 n4 c4, .slice A5 n5 c5, .slice A6 n6 c6, .int .u64 g.seed, .int .i64 g.sc, .int .i64 g.tu, .int .i64 g.ov, .int .i64 g.it, .int .i64 g.go] 31)).alloc (.cells #[.slice none 0 0, .slice none 0 0, .slice none 0 0, .slice none 0 0, .slice none 0 0, .slice none 0 0, .slice none 0 0, .int .u64 0, .int .i64 0, .int .i64 0, .int .i64 0, .int .i64 0, .int .i64 0] 31) = W2 := ⟨_, rfl⟩
  obtain ⟨s2, h0, h1, hB2⟩ := alloc2 hW2
  have hBw := Lib.hid hB2
  have sB : w.heap.size + 2 ≤ W2.heap.size := by omega
  clear hB2
  obtain ⟨x0, x1, x2, x3, x4, x5, x6, x7, x8, x9, x10, x11, x12, xf⟩ := cells13 h0
  obtain ⟨y0, y1, y2, y3, y4, y5, y6, y7, y8, y9, y10, y11, y12, yf⟩ := cells13 h1
  go_wp2_with (first | (go_at_call 46; refine (is_n _ _).mono ?_; rintro e w1 ⟨rfl, hb1⟩; (first | rw [HX.out] | rw [HT.out]); have t0 := (hb1.block _ (by omega)).trans h0; have t1 := (hb1.block _ (by omega)).trans h1; have tB := Lib.hid (hBw.out.trans (hb1.mono (by omega))); have ts := Nat.le_trans sB hb1.size; clear y0 y1 y2 y3 y4 y5 y6 y7 y8 y9 y10 y11 y12 yf h0 h1 hBw sB hb1 x0 x1 x2 x3 x4 x5 x6 x7 x8 x9 x10 x11 x12 xf; have h0 := t0; have h1 := t1; have hBw := tB; have sB := ts; clear t0 t1 tB ts; obtain ⟨x0, x1, x2, x3, x4, x5, x6, x7, x8, x9, x10, x11, x12, xf⟩ := cells13 h0; obtain ⟨y0, y1, y2, y3, y4, y5, y6, y7, y8, y9, y10, y11, y12, yf⟩ := cells13 h1) | (go_at_call 52; refine (within_i g tt x _ (R1.out.below hBw.out) HB.out.2.1).mono ?_; rintro e w1 ⟨rfl, hb1⟩; rw [HW.out]; have t0 := (hb1.block _ (by omega)).trans h0; have t1 := (hb1.block _ (by omega)).trans h1; have tB := Lib.hid (hBw.out.trans (hb1.mono (by omega))); have ts := Nat.le_trans sB hb1.size; clear y0 y1 y2 y3 y4 y5 y6 y7 y8 y9 y10 y11 y12 yf h0 h1 hBw sB hb1 x0 x1 x2 x3 x4 x5 x6 x7 x8 x9 x10 x11 x12 xf; have h0 := t0; have h1 := t1; have hBw := tB; have sB := ts; clear t0 t1 tB ts; obtain ⟨x0, x1, x2, x3, x4, x5, x6, x7, x8, x9, x10, x11, x12, xf⟩ := cells13 h0; obtain ⟨y0, y1, y2, y3, y4, y5, y6, y7, y8, y9, y10, y11, y12, yf⟩ := cells13 h1))
  (try simp only [Exit.inBlock, Exit.then])
  refine ret_ct (set13 h1) rfl rfl Try.underlying31 rfl rfl ?_
  exact ⟨rfl, set13_below hBw.out (by omega) (Nat.zero_le _)⟩
end Go.Proofs.Ytncdicagadbafaa.MvW
