/- clewref20.Move; clewref20.Remove and Move of a world that reads. Conditions: things are within things as they must be. -/
import Derived.Test.YtncdicagadbafaaMvS
namespace Go.Proofs.Ytncdicagadbafaa.MvM
open Go Go.RowKit NestP NestW NestX NestY ValP ValW ValX ValR Sq WorldD CopP MoveP LvP MvA RngT MvR MvS

set_option maxRecDepth 100000 in
set_option maxHeartbeats 4000000 in
theorem remove_no {A0 A1 A2 A3 A4 A5 A6 : Option Addr} {n0 c0 n c1 n2 c2 n3 c3 n4 c4 n5 c5 n6 c6 : Nat} (g : Wd) (x : Int) (hx : isT n x = false) (w : World) :
    Calls Try.prog 42 #[.agg #[.slice A0 n0 c0, .slice A1 n c1, .slice A2 n2 c2, .slice A3 n3 c3, .slice A4 n4 c4, .slice A5 n5 c5, .slice A6 n6 c6, .int .u64 g.seed, .int .i64 g.sc, .int .i64 g.tu, .int .i64 g.ov, .int .i64 g.it, .int .i64 g.go], .int .i64 x] w fun e w' => e = .returned (.tuple #[.agg #[.slice A0 n0 c0, .slice A1 n c1, .slice A2 n2 c2, .slice A3 n3 c3, .slice A4 n4 c4, .slice A5 n5 c5, .slice A6 n6 c6, .int .u64 g.seed, .int .i64 g.sc, .int .i64 g.tu, .int .i64 g.ov, .int .i64 g.it, .int .i64 g.go], .int .i64 11]) ∧ Below w.heap.size w w' := by
  have HX := Lib.hid hx
  clear hx
  go_enter Try.func42, Try.ntmps42
  obtain ⟨W2, hW2⟩ : ∃ W2, (w.alloc (.cells #[.slice A0 n0 c0, .slice A1 n c1, .slice A2 n2 c2, .slice A3 n3 c3, .slice A4 n4 c4, .slice A5 n5 c5, .slice A6 n6 c6, .int .u64 g.seed, .int .i64 g.sc, .int .i64 g.tu, .int .i64 g.ov, .int .i64 g.it, .int .i64 g.go] 31)).alloc (.cells #[.slice none 0 0, .slice none 0 0, .slice none 0 0, .slice none 0 0, .slice none 0 0, .slice none 0 0, .slice none 0 0, .int .u64 0, .int .i64 0, .int .i64 0, .int .i64 0, .int .i64 0, .int .i64 0] 31) = W2 := ⟨_, rfl⟩
  obtain ⟨s2', h0, h1, hB2⟩ := alloc2 hW2
  have HBW := Lib.hid hB2
  have s2 : w.heap.size + 2 ≤ W2.heap.size := by omega
  clear hB2 s2'
  obtain ⟨x0, x1, x2, x3, x4, x5, x6, x7, x8, x9, x10, x11, x12, xf⟩ := cells13 h0
  obtain ⟨y0, y1, y2, y3, y4, y5, y6, y7, y8, y9, y10, y11, y12, yf⟩ := cells13 h1
  go_wp2_with (go_at_call 45; with_reducible refine (is_o x _).mono ?_; rintro e w3 ⟨rfl, hb⟩; rw [HX.out]; have t0 := (hb.block _ (by omega)).trans h0; have t1 := (hb.block _ (by omega)).trans h1; have tB := Lib.hid (HBW.out.trans (hb.mono HBW.out.size)); have ts := Nat.le_trans s2 hb.size; clear h0 h1 HBW s2 x0 x1 x2 x3 x4 x5 x6 x7 x8 x9 x10 x11 x12 xf y0 y1 y2 y3 y4 y5 y6 y7 y8 y9 y10 y11 y12 yf; have h0 := t0; have h1 := t1; have HBW := tB; have s2 := ts; clear t0 t1 tB ts; obtain ⟨x0, x1, x2, x3, x4, x5, x6, x7, x8, x9, x10, x11, x12, xf⟩ := cells13 h0; obtain ⟨y0, y1, y2, y3, y4, y5, y6, y7, y8, y9, y10, y11, y12, yf⟩ := cells13 h1; clear hb)
  (try simp only [Exit.inBlock, Exit.then])
  refine ret_ct (set13 h1) rfl rfl Try.underlying31 rfl rfl ?_
  exact ⟨rfl, set13_below HBW.out (by omega) (Nat.zero_le _)⟩

set_option maxRecDepth 100000 in
set_option maxHeartbeats 4000000 in
theorem move_no {A0 A1 A2 A3 A4 A5 A6 : Option Addr} {n0 c0 n c1 n2 c2 n3 c3 n4 c4 n5 c5 n6 c6 : Nat} (g : Wd) (x y : Int) (h : isT n x = false ∨ isT n y = false) (w : World) :
    Calls Try.prog 40 #[.agg #[.slice A0 n0 c0, .slice A1 n c1, .slice A2 n2 c2, .slice A3 n3 c3, .slice A4 n4 c4, .slice A5 n5 c5, .slice A6 n6 c6, .int .u64 g.seed, .int .i64 g.sc, .int .i64 g.tu, .int .i64 g.ov, .int .i64 g.it, .int .i64 g.go], .int .i64 x, .int .i64 y] w fun e w' => e = .returned (.tuple #[.agg #[.slice A0 n0 c0, .slice A1 n c1, .slice A2 n2 c2, .slice A3 n3 c3, .slice A4 n4 c4, .slice A5 n5 c5, .slice A6 n6 c6, .int .u64 g.seed, .int .i64 g.sc, .int .i64 g.tu, .int .i64 g.ov, .int .i64 g.it, .int .i64 g.go], .int .i64 11]) ∧ Below w.heap.size w w' := by
  by_cases hx : isT n x = false
  · have HX := Lib.hid hx
    clear hx h
    go_enter Try.func40, Try.ntmps40
    obtain ⟨W2, hW2⟩ : ∃ W2, (w.alloc (.cells #[.slice A0 n0 c0, .slice A1 n c1, .slice A2 n2 c2, .slice A3 n3 c3, .slice A4 n4 c4, .slice A5 n5 c5, .slice A6 n6 c6, .int .u64 g.seed, .int .i64 g.sc, .int .i64 g.tu, .int .i64 g.ov, .int .i64 g.it, .int .i64 g.go] 31)).alloc (.cells #[.slice none 0 0, .slice none 0 0, .slice none 0 0, .slice none 0 0, .slice none 0 0, .slice none 0 0, .slice none 0 0, .int .u64 0, .int .i64 0, .int .i64 0, .int .i64 0, .int .i64 0, .int .i64 0] 31) = W2 := ⟨_, rfl⟩
    obtain ⟨s2', h0, h1, hB2⟩ := alloc2 hW2
    have HBW := Lib.hid hB2
    have s2 : w.heap.size + 2 ≤ W2.heap.size := by omega
    clear hB2 s2'
    obtain ⟨x0, x1, x2, x3, x4, x5, x6, x7, x8, x9, x10, x11, x12, xf⟩ := cells13 h0
    obtain ⟨y0, y1, y2, y3, y4, y5, y6, y7, y8, y9, y10, y11, y12, yf⟩ := cells13 h1
    go_wp2_with (go_at_call 45; with_reducible refine (is_o x _).mono ?_; rintro e w3 ⟨rfl, hb⟩; rw [HX.out]; have t0 := (hb.block _ (by omega)).trans h0; have t1 := (hb.block _ (by omega)).trans h1; have tB := Lib.hid (HBW.out.trans (hb.mono HBW.out.size)); have ts := Nat.le_trans s2 hb.size; clear h0 h1 HBW s2 x0 x1 x2 x3 x4 x5 x6 x7 x8 x9 x10 x11 x12 xf y0 y1 y2 y3 y4 y5 y6 y7 y8 y9 y10 y11 y12 yf; have h0 := t0; have h1 := t1; have HBW := tB; have s2 := ts; clear t0 t1 tB ts; obtain ⟨x0, x1, x2, x3, x4, x5, x6, x7, x8, x9, x10, x11, x12, xf⟩ := cells13 h0; obtain ⟨y0, y1, y2, y3, y4, y5, y6, y7, y8, y9, y10, y11, y12, yf⟩ := cells13 h1; clear hb)
    (try simp only [Exit.inBlock, Exit.then])
    refine ret_ct (set13 h1) rfl rfl Try.underlying31 rfl rfl ?_
    exact ⟨rfl, set13_below HBW.out (by omega) (Nat.zero_le _)⟩
  · have HX := Lib.hid (show isT n x = true by simpa using hx)
    have HY := Lib.hid (h.resolve_left hx)
    clear hx h
    go_enter Try.func40, Try.ntmps40
    obtain ⟨W2, hW2⟩ : ∃ W2, (w.alloc (.cells #[.slice A0 n0 c0, .slice A1 n c1, .slice A2 n2 c2, .slice A3 n3 c3, .slice A4 n4 c4, .slice A5 n5 c5, .slice A6 n6 c6, .int .u64 g.seed, .int .i64 g.sc, .int .i64 g.tu, .int .i64 g.ov, .int .i64 g.it, .int .i64 g.go] 31)).alloc (.cells #[.slice none 0 0, .slice none 0 0, .slice none 0 0, .slice none 0 0, .slice none 0 0, .slice none 0 0, .slice none 0 0, .int .u64 0, .int .i64 0, .int .i64 0, .int .i64 0, .int .i64 0, .int .i64 0] 31) = W2 := ⟨_, rfl⟩
    obtain ⟨s2', h0, h1, hB2⟩ := alloc2 hW2
    have HBW := Lib.hid hB2
    have s2 : w.heap.size + 2 ≤ W2.heap.size := by omega
    clear hB2 s2'
    obtain ⟨x0, x1, x2, x3, x4, x5, x6, x7, x8, x9, x10, x11, x12, xf⟩ := cells13 h0
    obtain ⟨y0, y1, y2, y3, y4, y5, y6, y7, y8, y9, y10, y11, y12, yf⟩ := cells13 h1
    go_wp2_with (first | (go_at_call 45; with_reducible refine (is_o x _).mono ?_; rintro e w3 ⟨rfl, hb⟩; rw [HX.out]; have t0 := (hb.block _ (by omega)).trans h0; have t1 := (hb.block _ (by omega)).trans h1; have tB := Lib.hid (HBW.out.trans (hb.mono HBW.out.size)); have ts := Nat.le_trans s2 hb.size; clear h0 h1 HBW s2 x0 x1 x2 x3 x4 x5 x6 x7 x8 x9 x10 x11 x12 xf y0 y1 y2 y3 y4 y5 y6 y7 y8 y9 y10 y11 y12 yf; have h0 := t0; have h1 := t1; have HBW := tB; have s2 := ts; clear t0 t1 tB ts; obtain ⟨x0, x1, x2, x3, x4, x5, x6, x7, x8, x9, x10, x11, x12, xf⟩ := cells13 h0; obtain ⟨y0, y1, y2, y3, y4, y5, y6, y7, y8, y9, y10, y11, y12, yf⟩ := cells13 h1; clear hb) | (go_at_call 45; with_reducible refine (is_o y _).mono ?_; rintro e w3 ⟨rfl, hb⟩; rw [HY.out]; have t0 := (hb.block _ (by omega)).trans h0; have t1 := (hb.block _ (by omega)).trans h1; have tB := Lib.hid (HBW.out.trans (hb.mono HBW.out.size)); have ts := Nat.le_trans s2 hb.size; clear h0 h1 HBW s2 x0 x1 x2 x3 x4 x5 x6 x7 x8 x9 x10 x11 x12 xf y0 y1 y2 y3 y4 y5 y6 y7 y8 y9 y10 y11 y12 yf; have h0 := t0; have h1 := t1; have HBW := tB; have s2 := ts; clear t0 t1 tB ts; obtain ⟨x0, x1, x2, x3, x4, x5, x6, x7, x8, x9, x10, x11, x12, xf⟩ := cells13 h0; obtain ⟨y0, y1, y2, y3, y4, y5, y6, y7, y8, y9, y10, y11, y12, yf⟩ := cells13 h1; clear hb))
    (try simp only [Exit.inBlock, Exit.then])
    refine ret_ct (set13 h1) rfl rfl Try.underlying31 rfl rfl ?_
    exact ⟨rfl, set13_below HBW.out (by omega) (Nat.zero_le _)⟩

set_option maxRecDepth 100000 in
set_option maxHeartbeats 4000000 in
theorem move_in {A0 A1 A2 A3 A4 A5 A6 : Option Addr} {n0 c0 n c1 n2 c2 n3 c3 n4 c4 n5 c5 n6 c6 : Nat} (g : Wd) (x y : Int) (hx : isT n x = true) (hy : isT n y = true) (hw : within g y x = true) (w : World) (r1 : Rd I w A1 n g.pa) (hn : n ≤ 17592186043904) :
    Calls Try.prog 40 #[.agg #[.slice A0 n0 c0, .slice A1 n c1, .slice A2 n2 c2, .slice A3 n3 c3, .slice A4 n4 c4, .slice A5 n5 c5, .slice A6 n6 c6, .int .u64 g.seed, .int .i64 g.sc, .int .i64 g.tu, .int .i64 g.ov, .int .i64 g.it, .int .i64 g.go], .int .i64 x, .int .i64 y] w fun e w' => e = .returned (.tuple #[.agg #[.slice A0 n0 c0, .slice A1 n c1, .slice A2 n2 c2, .slice A3 n3 c3, .slice A4 n4 c4, .slice A5 n5 c5, .slice A6 n6 c6, .int .u64 g.seed, .int .i64 g.sc, .int .i64 g.tu, .int .i64 g.ov, .int .i64 g.it, .int .i64 g.go], .int .i64 18]) ∧ Below w.heap.size w w' := by
  have HX := Lib.hid hx
  have HY := Lib.hid hy
  have R1 := Lib.hid r1
  have HN := Lib.hid hn
  have HW := Lib.hid (show (chain n g.pa n y).contains x = true by have h := hw; unfold within ups at h; rwa [show g.n = n from r1.len.symm] at h)
  clear hx hy r1 hn hw
  go_enter Try.func40, Try.ntmps40
  obtain ⟨W2, hW2⟩ : ∃ W2, (w.alloc (.cells #[.slice A0 n0 c0, .slice A1 n c1, .slice A2 n2 c2, .slice A3 n3 c3, .slice A4 n4 c4, .slice A5 n5 c5, .slice A6 n6 c6, .int .u64 g.seed, .int .i64 g.sc, .int .i64 g.tu, .int .i64 g.ov, .int .i64 g.it, .int .i64 g.go] 31)).alloc (.cells #[.slice none 0 0, .slice none 0 0, .slice none 0 0, .slice none 0 0, .slice none 0 0, .slice none 0 0, .slice none 0 0, .int .u64 0, .int .i64 0, .int .i64 0, .int .i64 0, .int .i64 0, .int .i64 0] 31) = W2 := ⟨_, rfl⟩
  obtain ⟨s2', h0, h1, hB2⟩ := alloc2 hW2
  have HBW := Lib.hid hB2
  have s2 : w.heap.size + 2 ≤ W2.heap.size := by omega
  clear hB2 s2'
  obtain ⟨x0, x1, x2, x3, x4, x5, x6, x7, x8, x9, x10, x11, x12, xf⟩ := cells13 h0
  obtain ⟨y0, y1, y2, y3, y4, y5, y6, y7, y8, y9, y10, y11, y12, yf⟩ := cells13 h1
  go_wp2_with (first | (go_at_call 45; with_reducible refine (is_o x _).mono ?_; rintro e w3 ⟨rfl, hb⟩; rw [HX.out]; have t0 := (hb.block _ (by omega)).trans h0; have t1 := (hb.block _ (by omega)).trans h1; have tB := Lib.hid (HBW.out.trans (hb.mono HBW.out.size)); have ts := Nat.le_trans s2 hb.size; clear h0 h1 HBW s2 x0 x1 x2 x3 x4 x5 x6 x7 x8 x9 x10 x11 x12 xf y0 y1 y2 y3 y4 y5 y6 y7 y8 y9 y10 y11 y12 yf; have h0 := t0; have h1 := t1; have HBW := tB; have s2 := ts; clear t0 t1 tB ts; obtain ⟨x0, x1, x2, x3, x4, x5, x6, x7, x8, x9, x10, x11, x12, xf⟩ := cells13 h0; obtain ⟨y0, y1, y2, y3, y4, y5, y6, y7, y8, y9, y10, y11, y12, yf⟩ := cells13 h1; clear hb) | (go_at_call 45; with_reducible refine (is_o y _).mono ?_; rintro e w3 ⟨rfl, hb⟩; rw [HY.out]; have t0 := (hb.block _ (by omega)).trans h0; have t1 := (hb.block _ (by omega)).trans h1; have tB := Lib.hid (HBW.out.trans (hb.mono HBW.out.size)); have ts := Nat.le_trans s2 hb.size; clear h0 h1 HBW s2 x0 x1 x2 x3 x4 x5 x6 x7 x8 x9 x10 x11 x12 xf y0 y1 y2 y3 y4 y5 y6 y7 y8 y9 y10 y11 y12 yf; have h0 := t0; have h1 := t1; have HBW := tB; have s2 := ts; clear t0 t1 tB ts; obtain ⟨x0, x1, x2, x3, x4, x5, x6, x7, x8, x9, x10, x11, x12, xf⟩ := cells13 h0; obtain ⟨y0, y1, y2, y3, y4, y5, y6, y7, y8, y9, y10, y11, y12, yf⟩ := cells13 h1; clear hb) | (go_at_call 53; refine (NstR.within_o g.pa y x _ (R1.out.below HBW.out) (by have := HN.out; omega)).mono ?_; rintro e w3 ⟨rfl, hb⟩; rw [HW.out]; have t0 := (hb.block _ (by omega)).trans h0; have t1 := (hb.block _ (by omega)).trans h1; have tB := Lib.hid (HBW.out.trans (hb.mono HBW.out.size)); have ts := Nat.le_trans s2 hb.size; clear h0 h1 HBW s2 x0 x1 x2 x3 x4 x5 x6 x7 x8 x9 x10 x11 x12 xf y0 y1 y2 y3 y4 y5 y6 y7 y8 y9 y10 y11 y12 yf; have h0 := t0; have h1 := t1; have HBW := tB; have s2 := ts; clear t0 t1 tB ts; obtain ⟨x0, x1, x2, x3, x4, x5, x6, x7, x8, x9, x10, x11, x12, xf⟩ := cells13 h0; obtain ⟨y0, y1, y2, y3, y4, y5, y6, y7, y8, y9, y10, y11, y12, yf⟩ := cells13 h1; clear hb))
  (try simp only [Exit.inBlock, Exit.then])
  refine ret_ct (set13 h1) rfl rfl Try.underlying31 rfl rfl ?_
  exact ⟨rfl, set13_below HBW.out (by omega) (Nat.zero_le _)⟩

set_option maxRecDepth 100000 in
set_option maxHeartbeats 4000000 in
theorem move_ok {A0 A1 A2 A3 A4 A5 A6 : Option Addr} {n0 c0 n c1 c2 c3 n4 c4 n5 c5 n6 c6 : Nat} (g : Wd) (hG : NestP.Good g) (hg : g.n = n) (i j : Nat) (hi1 : 1 ≤ i) (hi2 : i < n) (hj1 : 1 ≤ j) (hj2 : j < n) (hw : within g (j : Int) (i : Int) = false) (w : World) (r1 : Rd I w A1 n g.pa) (r2 : Rd I w A2 n g.ch) (r3 : Rd I w A3 n g.ne) (hn : n ≤ 17592186043904) :
    Calls Try.prog 40 #[.agg #[.slice A0 n0 c0, .slice A1 n c1, .slice A2 n c2, .slice A3 n c3, .slice A4 n4 c4, .slice A5 n5 c5, .slice A6 n6 c6, .int .u64 g.seed, .int .i64 g.sc, .int .i64 g.tu, .int .i64 g.ov, .int .i64 g.it, .int .i64 g.go], .int .i64 (i : Int), .int .i64 (j : Int)] w fun e w' => ∃ (g1 g2 g3 d1 d2 d3 : Nat), e = .returned (.tuple #[.agg #[.slice A0 n0 c0, .slice (some ⟨g1, 0, none⟩) n d1, .slice (some ⟨g2, 0, none⟩) n d2, .slice (some ⟨g3, 0, none⟩) n d3, .slice A4 n4 c4, .slice A5 n5 c5, .slice A6 n6 c6, .int .u64 g.seed, .int .i64 g.sc, .int .i64 g.tu, .int .i64 g.ov, .int .i64 g.it, .int .i64 g.go], .int .i64 0]) ∧ Sq.Own I 3 w' w.heap.size (.slice (some ⟨g1, 0, none⟩) n d1) (moved g (i : Int) (j : Int)).pa ∧ Sq.Own I 3 w' w.heap.size (.slice (some ⟨g2, 0, none⟩) n d2) (moved g (i : Int) (j : Int)).ch ∧ Sq.Own I 3 w' w.heap.size (.slice (some ⟨g3, 0, none⟩) n d3) (moved g (i : Int) (j : Int)).ne ∧ Below w.heap.size w w' := by
  have HX := Lib.hid (show isT n (i : Int) = true from isT_iff.2 (by omega))
  have HY := Lib.hid (show isT n (j : Int) = true from isT_iff.2 (by omega))
  have R1 := Lib.hid r1
  have R2 := Lib.hid r2
  have R3 := Lib.hid r3
  have HN := Lib.hid hn
  have HG := Lib.hid hG
  have HW := Lib.hid (show (chain n g.pa n (j : Int)).contains (i : Int) = false by have h := hw; unfold within ups at h; rwa [hg] at h)
  have hi0 : (0 : Int) ≤ (i : Int) := by omega
  have hi3 : (i : Int) < (n : Int) := by omega
  have hj0 : (0 : Int) ≤ (j : Int) := by omega
  have hj3 : (j : Int) < (n : Int) := by omega
  clear r1 r2 r3 hn hw hG
  go_enter Try.func40, Try.ntmps40
  obtain ⟨W2, hW2⟩ : ∃ W2, (w.alloc (.cells #[.slice A0 n0 c0, .slice A1 n c1, .slice A2 n c2, .slice A3 n c3, .slice A4 n4 c4, .slice A5 n5 c5, .slice A6 n6 c6, .int .u64 g.seed, .int .i64 g.sc, .int .i64 g.tu, .int .i64 g.ov, .int .i64 g.it, .int .i64 g.go] 31)).alloc (.cells #[.slice none 0 0, .slice none 0 0, .slice none 0 0, .slice none 0 0, .slice none 0 0, .slice none 0 0, .slice none 0 0, .int .u64 0, .int .i64 0, .int .i64 0, .int .i64 0, .int .i64 0, .int .i64 0] 31) = W2 := ⟨_, rfl⟩
  obtain ⟨s2', h0, h1, hB2⟩ := alloc2 hW2
  have HBW := Lib.hid hB2
  have s2 : w.heap.size + 2 ≤ W2.heap.size := by omega
  clear hB2 s2'
  obtain ⟨x0, x1, x2, x3, x4, x5, x6, x7, x8, x9, x10, x11, x12, xf⟩ := cells13 h0
  obtain ⟨y0, y1, y2, y3, y4, y5, y6, y7, y8, y9, y10, y11, y12, yf⟩ := cells13 h1
  go_wp2_with (first | (go_at_call 45; with_reducible refine (is_o (i : Int) _).mono ?_; rintro e w3 ⟨rfl, hb⟩; rw [HX.out]; have t0 := (hb.block _ (by omega)).trans h0; have t1 := (hb.block _ (by omega)).trans h1; have tB := Lib.hid (HBW.out.trans (hb.mono HBW.out.size)); have ts := Nat.le_trans s2 hb.size; clear h0 h1 HBW s2 x0 x1 x2 x3 x4 x5 x6 x7 x8 x9 x10 x11 x12 xf y0 y1 y2 y3 y4 y5 y6 y7 y8 y9 y10 y11 y12 yf; have h0 := t0; have h1 := t1; have HBW := tB; have s2 := ts; clear t0 t1 tB ts; obtain ⟨x0, x1, x2, x3, x4, x5, x6, x7, x8, x9, x10, x11, x12, xf⟩ := cells13 h0; obtain ⟨y0, y1, y2, y3, y4, y5, y6, y7, y8, y9, y10, y11, y12, yf⟩ := cells13 h1; clear hb) | (go_at_call 45; with_reducible refine (is_o (j : Int) _).mono ?_; rintro e w3 ⟨rfl, hb⟩; rw [HY.out]; have t0 := (hb.block _ (by omega)).trans h0; have t1 := (hb.block _ (by omega)).trans h1; have tB := Lib.hid (HBW.out.trans (hb.mono HBW.out.size)); have ts := Nat.le_trans s2 hb.size; clear h0 h1 HBW s2 x0 x1 x2 x3 x4 x5 x6 x7 x8 x9 x10 x11 x12 xf y0 y1 y2 y3 y4 y5 y6 y7 y8 y9 y10 y11 y12 yf; have h0 := t0; have h1 := t1; have HBW := tB; have s2 := ts; clear t0 t1 tB ts; obtain ⟨x0, x1, x2, x3, x4, x5, x6, x7, x8, x9, x10, x11, x12, xf⟩ := cells13 h0; obtain ⟨y0, y1, y2, y3, y4, y5, y6, y7, y8, y9, y10, y11, y12, yf⟩ := cells13 h1; clear hb) | (go_at_call 53; refine (NstR.within_o g.pa (j : Int) (i : Int) _ (R1.out.below HBW.out) (by have := HN.out; omega)).mono ?_; rintro e w3 ⟨rfl, hb⟩; rw [HW.out]; have t0 := (hb.block _ (by omega)).trans h0; have t1 := (hb.block _ (by omega)).trans h1; have tB := Lib.hid (HBW.out.trans (hb.mono HBW.out.size)); have ts := Nat.le_trans s2 hb.size; clear h0 h1 HBW s2 x0 x1 x2 x3 x4 x5 x6 x7 x8 x9 x10 x11 x12 xf y0 y1 y2 y3 y4 y5 y6 y7 y8 y9 y10 y11 y12 yf; have h0 := t0; have h1 := t1; have HBW := tB; have s2 := ts; clear t0 t1 tB ts; obtain ⟨x0, x1, x2, x3, x4, x5, x6, x7, x8, x9, x10, x11, x12, xf⟩ := cells13 h0; obtain ⟨y0, y1, y2, y3, y4, y5, y6, y7, y8, y9, y10, y11, y12, yf⟩ := cells13 h1; clear hb) | (go_at_call 42; refine (remove_o g HG.out hg i hi1 hi2 _ (R1.out.below HBW.out) (R2.out.below HBW.out) (R3.out.below HBW.out) HN.out).mono ?_; rintro e w4 ⟨g1, g2, g3, d1, d2, d3, rfl, o1, o2, o3, n12, n13, n23, hb⟩; have b1 := (o1.at_ (by omega)); obtain ⟨_, e1, b1, b1', _⟩ := b1; injection e1 with e1; injection e1 with e1; subst e1; have b2 := (o2.at_ (by omega)); obtain ⟨_, e2, b2, b2', _⟩ := b2; injection e2 with e2; injection e2 with e2; subst e2; have b3 := (o3.at_ (by omega)); obtain ⟨_, e3, b3, b3', _⟩ := b3; injection e3 with e3; injection e3 with e3; subst e3; have m1 := own_cell o1 hi2; have m2 := own_cell o2 hj2; have m3 := own_cell o3 hi2; have f1 := own_frozen o1 (by omega); have f2 := own_frozen o2 (by omega); have f3 := own_frozen o3 (by omega); have O1 := Lib.hid o1; have O2 := Lib.hid o2; have O3 := Lib.hid o3; have a1 : w.heap.size ≠ g1 := (by omega); have a2 : w.heap.size ≠ g2 := (by omega); have a3 : w.heap.size ≠ g3 := (by omega); have s5 := s2; have t0 := (hb.block _ (by omega)).trans h0; have t1 := (hb.block _ (by omega)).trans h1; have tB := Lib.hid (HBW.out.trans (hb.mono HBW.out.size)); have ts := Nat.le_trans s2 hb.size; clear h0 h1 HBW s2 x0 x1 x2 x3 x4 x5 x6 x7 x8 x9 x10 x11 x12 xf y0 y1 y2 y3 y4 y5 y6 y7 y8 y9 y10 y11 y12 yf; have h0 := t0; have h1 := t1; have HBW := tB; have s2 := ts; clear t0 t1 tB ts; obtain ⟨x0, x1, x2, x3, x4, x5, x6, x7, x8, x9, x10, x11, x12, xf⟩ := cells13 h0; obtain ⟨y0, y1, y2, y3, y4, y5, y6, y7, y8, y9, y10, y11, y12, yf⟩ := cells13 h1; clear hb o1 o2 o3))
  obtain ⟨U, hU⟩ : ∃ U, (set13w w4 w.heap.size (.slice A0 n0 c0) (.slice (some ⟨g1, 0, none⟩) n d1) (.slice (some ⟨g2, 0, none⟩) n d2) (.slice (some ⟨g3, 0, none⟩) n d3) (.slice A4 n4 c4) (.slice A5 n5 c5) (.slice A6 n6 c6) (.int .u64 g.seed) (.int .i64 g.sc) (.int .i64 g.tu) (.int .i64 g.ov) (.int .i64 g.it) (.int .i64 g.go)).setCell ⟨g1, i, none⟩ (.int .i64 (j : Int)) = U := ⟨_, rfl⟩
  have u0 : U.heap[w.heap.size]? = some (.cells #[.slice A0 n0 c0, .slice (some ⟨g1, 0, none⟩) n d1, .slice (some ⟨g2, 0, none⟩) n d2, .slice (some ⟨g3, 0, none⟩) n d3, .slice A4 n4 c4, .slice A5 n5 c5, .slice A6 n6 c6, .int .u64 g.seed, .int .i64 g.sc, .int .i64 g.tu, .int .i64 g.ov, .int .i64 g.it, .int .i64 g.go] 31 (0, 0)) := by subst hU; exact (Below.heap_setCell _ _ _ _ (by simp; omega)).trans (set13 h0)
  have uo : ∀ k, k ≠ w.heap.size → k ≠ g1 → U.heap[k]? = w4.heap[k]? := fun k h2 h3 => by subst hU; exact (Below.heap_setCell _ _ _ _ (by simp; omega)).trans (set13_other _ _ h2)
  have u1 := (uo (w.heap.size + 1) (by omega) (by omega)).trans h1
  have uB : Below w.heap.size w U := by subst hU; exact (set13_below HBW.out (Nat.le_refl _) (Nat.zero_le _)).setCell (by simp; omega) _
  have us : w.heap.size + 2 ≤ U.heap.size := by subst hU; unfold set13w; simpa using s2
  have p1 : Sq.Own I 3 U (w.heap.size + 2) (.slice (some ⟨g1, 0, none⟩) n d1) ((MoveP.leave g (i : Int)).pa.set i (j : Int)) := by subst hU; exact (own_same (O1.out.lower (show w.heap.size + 2 ≤ _ by omega)) fun k hk => set13_other _ _ (by omega)).store i (j : Int)
  have p2 : Sq.Own I 3 U (w.heap.size + 2) (.slice (some ⟨g2, 0, none⟩) n d2) (MoveP.leave g (i : Int)).ch := by subst hU; exact own_ne (own_same (O2.out.lower (show w.heap.size + 2 ≤ _ by omega)) fun k hk => set13_other _ _ (by omega)) (fun h => n12 (Option.some.inj h).symm) i _
  have p3 : Sq.Own I 3 U (w.heap.size + 2) (.slice (some ⟨g3, 0, none⟩) n d3) (MoveP.leave g (i : Int)).ne := by subst hU; exact own_ne (own_same (O3.out.lower (show w.heap.size + 2 ≤ _ by omega)) fun k hk => set13_other _ _ (by omega)) (fun h => n13 (Option.some.inj h).symm) i _
  unfold set13w at hU
  rw [hU]
  have P1 := Lib.hid p1
  have P2 := Lib.hid p2
  have P3 := Lib.hid p3
  obtain ⟨v, hv⟩ : ∃ v, at' (MoveP.leave g (i : Int)).ch (j : Int) = v := ⟨_, rfl⟩
  have q2 := own_cell p2 hj2
  have q3 := own_cell p3 hi2
  have z2 := own_frozen p2 (by omega)
  have z3 := own_frozen p3 (by omega)
  have HV := Lib.hid hv
  have UB := Lib.hid uB
  rw [hv] at q2
  clear hU h0 h1 HBW s2 O1 O2 O3 m1 m2 m3 f1 f2 f3 p1 p2 p3 hv uB uo x0 x1 x2 x3 x4 x5 x6 x7 x8 x9 x10 x11 x12 xf y0 y1 y2 y3 y4 y5 y6 y7 y8 y9 y10 y11 y12 yf
  refine wp_region_held_drew (S := (fun U => U.heap[w.heap.size]? = some (.cells #[.slice A0 n0 c0, .slice (some ⟨g1, 0, none⟩) n d1, .slice (some ⟨g2, 0, none⟩) n d2, .slice (some ⟨g3, 0, none⟩) n d3, .slice A4 n4 c4, .slice A5 n5 c5, .slice A6 n6 c6, .int .u64 g.seed, .int .i64 g.sc, .int .i64 g.tu, .int .i64 g.ov, .int .i64 g.it, .int .i64 g.go] 31 (0, 0)) ∧ U.cell? ⟨g2, j, none⟩ = some (.int .i64 v))) (by kernel_rfl) ⟨u0, q2⟩ (fun hHeld => ?_)
  refine Rg.take (i := 0) (t := 35) (v := .pointer (some ⟨w.heap.size, 3, none⟩)) rfl rfl (by kernel_rfl) (by kernel_rfl) (by kernel_rfl) (fun _ _ _ h => h) (by rfl) (by intro w0 hSw; first | (go_simp; done) | (go_simp; with_reducible rfl)) (by assumption) ?_
  simp only [List.setIfInBounds_toArray, List.set_cons_zero, List.set_cons_succ]
  refine Rg.take (i := 1) (t := 36) (v := .slice (some ⟨g3, 0, none⟩) n d3) rfl rfl (by kernel_rfl) (by kernel_rfl) (by kernel_rfl) (fun _ _ _ h => h) (by rfl) (by intro w0 hSw; obtain ⟨x0, x1, x2, x3, x4, x5, x6, x7, x8, x9, x10, x11, x12, xf⟩ := cells13 hSw.1; first | (go_simp; done) | (go_simp; with_reducible rfl)) (by assumption) ?_
  simp only [List.setIfInBounds_toArray, List.set_cons_zero, List.set_cons_succ]
  refine Rg.take (i := 2) (t := 37) (v := .int .i64 (i : Int)) rfl rfl (by kernel_rfl) (by kernel_rfl) (by kernel_rfl) (fun _ _ _ h => h) (by rfl) (by intro w0 hSw; first | (go_simp; done) | (go_simp; with_reducible rfl)) (by assumption) ?_
  simp only [List.setIfInBounds_toArray, List.set_cons_zero, List.set_cons_succ]
  refine Rg.take (i := 3) (t := 38) (v := .pointer (some ⟨w.heap.size, 2, none⟩)) rfl rfl (by kernel_rfl) (by kernel_rfl) (by kernel_rfl) (fun _ _ _ h => h) (by rfl) (by intro w0 hSw; first | (go_simp; done) | (go_simp; with_reducible rfl)) (by assumption) ?_
  simp only [List.setIfInBounds_toArray, List.set_cons_zero, List.set_cons_succ]
  refine Rg.take (i := 4) (t := 39) (v := .slice (some ⟨g2, 0, none⟩) n d2) rfl rfl (by kernel_rfl) (by kernel_rfl) (by kernel_rfl) (fun _ _ _ h => h) (by rfl) (by intro w0 hSw; obtain ⟨x0, x1, x2, x3, x4, x5, x6, x7, x8, x9, x10, x11, x12, xf⟩ := cells13 hSw.1; first | (go_simp; done) | (go_simp; with_reducible rfl)) (by assumption) ?_
  simp only [List.setIfInBounds_toArray, List.set_cons_zero, List.set_cons_succ]
  refine Rg.take (i := 5) (t := 40) (v := .int .i64 (j : Int)) rfl rfl (by kernel_rfl) (by kernel_rfl) (by kernel_rfl) (fun _ _ _ h => h) (by rfl) (by intro w0 hSw; first | (go_simp; done) | (go_simp; with_reducible rfl)) (by assumption) ?_
  simp only [List.setIfInBounds_toArray, List.set_cons_zero, List.set_cons_succ]
  refine Rg.take (i := 6) (t := 41) (v := .pointer (some ⟨g2, j, none⟩)) rfl rfl (by kernel_rfl) (by kernel_rfl) (by kernel_rfl) (fun _ _ _ h => h) (by rfl) (by intro w0 hSw; first | (go_simp; done) | (go_simp; with_reducible rfl)) (by assumption) ?_
  simp only [List.setIfInBounds_toArray, List.set_cons_zero, List.set_cons_succ]
  refine Rg.take (i := 7) (t := 42) (v := .int .i64 v) rfl rfl (by kernel_rfl) (by kernel_rfl) (by kernel_rfl) (fun _ _ _ h => h) (by rfl) (by intro w0 hSw; have z := hSw.2; first | (go_simp; done) | (go_simp; with_reducible rfl)) (by assumption) ?_
  simp only [List.setIfInBounds_toArray, List.set_cons_zero, List.set_cons_succ]
  refine Rg.take (i := 8) (t := 43) (v := .pointer (some ⟨g3, i, none⟩)) rfl rfl (by kernel_rfl) (by kernel_rfl) (by kernel_rfl) (fun _ _ _ h => h) (by rfl) (by intro w0 hSw; first | (go_simp; done) | (go_simp; with_reducible rfl)) (by assumption) ?_
  simp only [List.setIfInBounds_toArray, List.set_cons_zero, List.set_cons_succ]
  refine Rg.one (i := 9) (by kernel_rfl) ?_
  refine RgIn.effN (i := 9) (w1 := U.drew.setCell ⟨g3, i, none⟩ (.int .i64 v)) rfl rfl (by rfl) (by first | (go_simp; done) | (go_simp; with_reducible rfl)) ⟨⟨(Below.heap_setCell _ _ _ _ (by simp; omega)).trans u0, (World.cell?_of_block (Below.heap_setCell U.drew _ _ _ (by simp; omega))).trans q2⟩, ?_⟩
  refine wpAnyH_done (by kernel_rfl) ?_ _
  obtain ⟨U2, hU2⟩ : ∃ U2, U.drew.setCell ⟨g3, i, none⟩ (.int .i64 v) = U2 := ⟨_, rfl⟩
  rw [hU2]
  have k0 : U2.heap[w.heap.size]? = some (.cells #[.slice A0 n0 c0, .slice (some ⟨g1, 0, none⟩) n d1, .slice (some ⟨g2, 0, none⟩) n d2, .slice (some ⟨g3, 0, none⟩) n d3, .slice A4 n4 c4, .slice A5 n5 c5, .slice A6 n6 c6, .int .u64 g.seed, .int .i64 g.sc, .int .i64 g.tu, .int .i64 g.ov, .int .i64 g.it, .int .i64 g.go] 31 (0, 0)) := by subst hU2; exact (Below.heap_setCell _ _ _ _ (by simp; omega)).trans u0
  have k1 : U2.heap[w.heap.size + 1]? = some (.cells #[.slice none 0 0, .slice none 0 0, .slice none 0 0, .slice none 0 0, .slice none 0 0, .slice none 0 0, .slice none 0 0, .int .u64 0, .int .i64 0, .int .i64 0, .int .i64 0, .int .i64 0, .int .i64 0] 31 (0, 0)) := by subst hU2; exact (Below.heap_setCell _ _ _ _ (by simp; omega)).trans u1
  have KB := Lib.hid (show Below w.heap.size w U2 by subst hU2; exact (Below.drew UB.out).setCell (by simp; omega) _)
  have ks : w.heap.size + 2 ≤ U2.heap.size := by subst hU2; simpa using us
  have c1 : Sq.Own I 3 U2 (w.heap.size + 2) (.slice (some ⟨g1, 0, none⟩) n d1) (moved g (i : Int) (j : Int)).pa := by subst hU2; exact own_ne P1.out.drew (fun h => n13 (Option.some.inj h)) i _
  have c2 : Sq.Own I 3 U2 (w.heap.size + 2) (.slice (some ⟨g2, 0, none⟩) n d2) (MoveP.leave g (i : Int)).ch := by subst hU2; exact own_ne P2.out.drew (fun h => n23 (Option.some.inj h)) i _
  have c3 : Sq.Own I 3 U2 (w.heap.size + 2) (.slice (some ⟨g3, 0, none⟩) n d3) (moved g (i : Int) (j : Int)).ne := by
    subst hU2
    have h := P3.out.drew.store i v
    rw [← HV.out] at h ⊢
    exact h
  have e2 := own_cell c2 hj2
  have y2 := own_frozen c2 (by omega)
  have C1 := Lib.hid c1
  have C2 := Lib.hid c2
  have C3 := Lib.hid c3
  clear c1 c2 c3 hU2 u0 u1 us q2 q3 z2 z3
  obtain ⟨x0, x1, x2, x3, x4, x5, x6, x7, x8, x9, x10, x11, x12, xf⟩ := cells13 k0
  obtain ⟨y0, y1, y2, y3, y4, y5, y6, y7, y8, y9, y10, y11, y12, yf⟩ := cells13 k1
  have a4 : w.heap.size + 1 ≠ g2 := by omega
  go_wp2_with fail
  (try simp only [Exit.inBlock, Exit.then])
  have kk : (U2.setCell ⟨g2, j, none⟩ (.int .i64 (i : Int))).heap[w.heap.size + 1]? = some (.cells #[.slice none 0 0, .slice none 0 0, .slice none 0 0, .slice none 0 0, .slice none 0 0, .slice none 0 0, .slice none 0 0, .int .u64 0, .int .i64 0, .int .i64 0, .int .i64 0, .int .i64 0, .int .i64 0] 31 (0, 0)) := (Below.heap_setCell _ _ _ _ (by simp; omega)).trans k1
  refine ret_ct (set13 kk) rfl rfl Try.underlying31 rfl rfl ?_
  have fs : ∀ k, w.heap.size + 2 ≤ k → (set13w (U2.setCell ⟨g2, j, none⟩ (.int .i64 (i : Int))) (w.heap.size + 1) (.slice A0 n0 c0) (.slice (some ⟨g1, 0, none⟩) n d1) (.slice (some ⟨g2, 0, none⟩) n d2) (.slice (some ⟨g3, 0, none⟩) n d3) (.slice A4 n4 c4) (.slice A5 n5 c5) (.slice A6 n6 c6) (.int .u64 g.seed) (.int .i64 g.sc) (.int .i64 g.tu) (.int .i64 g.ov) (.int .i64 g.it) (.int .i64 g.go)).heap[k]? = (U2.setCell ⟨g2, j, none⟩ (.int .i64 (i : Int))).heap[k]? := fun k hk => set13_other _ _ (by omega)
  exact ⟨g1, g2, g3, d1, d2, d3, rfl, (own_same (own_ne C1.out (fun h => n12 (Option.some.inj h)) j _) fs).lower (by omega), (own_same (C2.out.store j (i : Int)) fs).lower (by omega), (own_same (own_ne C3.out (fun h => n23 (Option.some.inj h).symm) j _) fs).lower (by omega), set13_below (KB.out.setCell (by simp; omega) _) (by omega) (Nat.zero_le _)⟩

theorem remove_ow {v : Value} (g : Wd) (hG : NestP.Good g) (x : Int) (w : World) (ho : Wo w v g) :
    Calls Try.prog 42 #[v, .int .i64 x] w fun e w' => ∃ v', e = .returned (.tuple #[v', .int .i64 (rmE g x)]) ∧ Wo w' v' (rmG g x) ∧ Below w.heap.size w w' := by
  have hf := fit_of ho
  have ho' := ho
  obtain ⟨A0, A1, A2, A3, A4, A5, A6, n0, c0, n, c1, n2, c2, n3, c3, n4, c4, n5, c5, n6, c6, rfl, ⟨r0, r1, r2, r3, r4, r5, r6⟩, hu, hw, hb⟩ := ho
  have hg : g.n = n := r1.len.symm
  unfold rmE rmG
  by_cases hT : isT g.n x = true
  · rw [if_pos hT, if_pos hT]
    rw [hg] at hT
    obtain rfl : n2 = n := r2.len.trans (hG.chl.trans hg)
    obtain rfl : n3 = n2 := r3.len.trans (hG.nel.trans hg)
    have h' := isT_iff.1 hT
    obtain ⟨i, rfl⟩ := Int.eq_ofNat_of_zero_le (show 0 ≤ x by omega)
    refine (remove_o g hG hg i (by omega) (by omega) w r1 r2 r3 hb.2.1).mono ?_
    rintro e w' ⟨g1, g2, g3, d1, d2, d3, rfl, o1, o2, o3, _, _, _, hb'⟩
    obtain ⟨hu2, hw2, _⟩ := fit_leave hf (i : Int)
    exact ⟨_, rfl, ⟨A0, some ⟨g1, 0, none⟩, some ⟨g2, 0, none⟩, some ⟨g3, 0, none⟩, A4, A5, A6, n0, c0, n3, d1, n3, d2, n3, d3, n4, c4, n5, c5, n6, c6, rfl, ⟨r0.below hb', o1.rd, o2.rd, o3.rd, r4.below hb', r5.below hb', r6.below hb'⟩, hu, hw, hb⟩, hb'⟩
  · rw [if_neg hT, if_neg hT]
    rw [hg] at hT
    refine (remove_no g x (by simpa using hT) w).mono ?_
    rintro e w' ⟨rfl, hb'⟩
    exact ⟨_, rfl, wo_be ho' hb', hb'⟩
theorem move_ow {v : Value} (g : Wd) (hG : NestP.Good g) (x y : Int) (w : World) (ho : Wo w v g) :
    Calls Try.prog 40 #[v, .int .i64 x, .int .i64 y] w fun e w' => ∃ v', e = .returned (.tuple #[v', .int .i64 (mvE g x y)]) ∧ Wo w' v' (mvG g x y) ∧ Below w.heap.size w w' := by
  have hf := fit_of ho
  have ho' := ho
  obtain ⟨A0, A1, A2, A3, A4, A5, A6, n0, c0, n, c1, n2, c2, n3, c3, n4, c4, n5, c5, n6, c6, rfl, ⟨r0, r1, r2, r3, r4, r5, r6⟩, hu, hw, hb⟩ := ho
  have hg : g.n = n := r1.len.symm
  unfold mvE mvG
  by_cases hT : isT g.n x = true ∧ isT g.n y = true
  · rw [if_pos hT, if_pos hT]
    rw [hg] at hT
    by_cases hin : within g y x = true
    · rw [if_pos hin, if_pos hin]
      refine (move_in g x y hT.1 hT.2 hin w r1 hb.2.1).mono ?_
      rintro e w' ⟨rfl, hb'⟩
      exact ⟨_, rfl, wo_be ho' hb', hb'⟩
    · rw [if_neg hin, if_neg hin]
      obtain rfl : n2 = n := r2.len.trans (hG.chl.trans hg)
      obtain rfl : n3 = n2 := r3.len.trans (hG.nel.trans hg)
      have h1 := isT_iff.1 hT.1
      have h2 := isT_iff.1 hT.2
      obtain ⟨i, rfl⟩ := Int.eq_ofNat_of_zero_le (show 0 ≤ x by omega)
      obtain ⟨j, rfl⟩ := Int.eq_ofNat_of_zero_le (show 0 ≤ y by omega)
      refine (move_ok g hG hg i j (by omega) (by omega) (by omega) (by omega) (by simpa using hin) w r1 r2 r3 hb.2.1).mono ?_
      rintro e w' ⟨g1, g2, g3, d1, d2, d3, rfl, o1, o2, o3, hb'⟩
      exact ⟨_, rfl, ⟨A0, some ⟨g1, 0, none⟩, some ⟨g2, 0, none⟩, some ⟨g3, 0, none⟩, A4, A5, A6, n0, c0, n3, d1, n3, d2, n3, d3, n4, c4, n5, c5, n6, c6, rfl, ⟨r0.below hb', o1.rd, o2.rd, o3.rd, r4.below hb', r5.below hb', r6.below hb'⟩, hu, hw, hb⟩, hb'⟩
  · rw [if_neg hT, if_neg hT]
    rw [hg] at hT
    refine (move_no g x y (by cases h1 : isT n x <;> cases h2 : isT n y <;> simp_all) w).mono ?_
    rintro e w' ⟨rfl, hb'⟩
    exact ⟨_, rfl, wo_be ho' hb', hb'⟩
end Go.Proofs.Ytncdicagadbafaa.MvM
