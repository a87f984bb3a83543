/- attr.Put; clewref21.Put. Conditions: the tables and the world read; 128 things, 16 props at most, and each thing's props are there. -/
import Derived.Test.YtncdicagadbafaaAttrU
namespace Go.Proofs.Ytncdicagadbafaa.AttrV
open Go Go.RowKit NestP NestW NestX NestY ValP ValW ValX ValR Sq WorldD CopP MoveP LvP MvA AttrP AttrW AttrX AttrY AttrU TabD TabW TabX TabB MixP Awk AwkP

/-- Three boxes: the tables', the world's, and the room for the one to come. -/
structure B3 (w : World) (cs : Array Value) (T : TypeId) (cs1 cs2 : Array Value) (T2 : TypeId) (wr : World) : Prop where
  tab : wr.heap[w.heap.size]? = some (.cells cs T (0, 0))
  box : wr.heap[w.heap.size + 1]? = some (.cells cs1 T2 (0, 0))
  res : wr.heap[w.heap.size + 1 + 1]? = some (.cells cs2 T2 (0, 0))
  below : Below w.heap.size w wr
  lt : w.heap.size + 3 ≤ wr.heap.size
theorem B3.new {w : World} {cs cs1 cs2 : Array Value} {T T2 : TypeId} {W : World} (h : ((w.alloc (.cells cs T)).alloc (.cells cs1 T2)).alloc (.cells cs2 T2) = W) : B3 w cs T cs1 cs2 T2 W := by
  obtain ⟨s, h0, h1, h2, hB⟩ := alloc3 h
  exact ⟨h0, h1, h2, hB, by omega⟩
theorem B3.on {w : World} {cs cs1 cs2 : Array Value} {T T2 : TypeId} {wr w' : World} (h : B3 w cs T cs1 cs2 T2 wr) (hb : Below wr.heap.size wr w') : B3 w cs T cs1 cs2 T2 w' :=
  ⟨(hb.block _ (by have := h.lt; omega)).trans h.tab, (hb.block _ (by have := h.lt; omega)).trans h.box, (hb.block _ (by have := h.lt; omega)).trans h.res, h.below.trans (hb.mono h.below.size), Nat.le_trans h.lt hb.size⟩

set_option maxRecDepth 100000 in
set_option maxHeartbeats 8000000 in
theorem put_i {v : Value} (t : TbV) (g : Wd) (x p m : Int) (S : Nat → Prop) (w : World) (hr : TbR w t) (ho : Ws S w v g) (hP : Pl g t.pr.n) :
    Calls Try.prog 34 #[.agg #[.int .i64 t.ti, .int .i64 t.au, .int .i64 t.rl, .int .i64 t.mx, .slice t.tx.a t.tx.n t.tx.c, .int .i64 t.fl, .slice t.pr.a t.pr.n t.pr.c, .slice t.gl.a t.gl.n t.gl.c, .slice t.th.a t.th.n t.th.c, .slice t.ac.a t.ac.n t.ac.c, .slice t.de.a t.de.n t.de.c, .slice t.fu.a t.fu.n t.fu.c, .slice t.da.a t.da.n t.da.c, .slice t.pm.a t.pm.n t.pm.c, .slice t.lo.a t.lo.n t.lo.c], v, .int .i64 x, .int .i64 p, .int .i64 m] w fun e w' => ∃ v', e = .returned (.tuple #[v', .int .i64 (putE g t.pr.n x p m)]) ∧ Ws (fun k => S k ∨ w.heap.size ≤ k) w' v' (putG g t.pr.n x p m) ∧ Below w.heap.size w w' := by
  have ho2 := ho.wo; have HO := Lib.hid ho; clear ho; obtain ⟨A0, A1, A2, A3, A4, A5, A6, n0, c0, n, c1, n2, c2, n3, c3, n4, c4, n5, c5, n6, c6, rfl, ⟨r0, r1, r2, r3, r4, r5, r6⟩, hu, hw, hb⟩ := ho2
  have hg : g.n = n := r1.len.symm
  obtain ⟨hn128, hp16, hlen⟩ := hP
  rw [hg] at hn128 hlen
  have hl5 : n5 = n * t.pr.n := r5.len.trans hlen
  have HLN := Lib.hid (show g.pr.length = n5 from r5.len.symm)
  have hb5 : n5 ≤ 17592186043904 := hb.2.2.2.2.2.1
  have R5 := Lib.hid r5
  have HTB := Lib.hid hr
  unfold putE putG
  rw [hg]
  clear r0 r1 r2 r3 r4 r5 r6 hu hw hb hr hg
  obtain ⟨E, hE2⟩ : ∃ E, plE n t.pr.n x p = E := ⟨_, rfl⟩
  rcases Decidable.em (E = 0) with rfl | hne
  · obtain ⟨k, q, i0, ix, rfl, rfl, h1, h2, h3, h4, h5, h6, h7, h8⟩ := pl_ix hE2 hn128 hp16
    rw [if_pos hE2, if_pos hE2, h6, Int.toNat_natCast]
    have HE := Lib.hid hE2
    have HN := Lib.hid (show plN n t.pr.n (k : Int) (q : Int) = (ix : Int) by unfold plN; rw [if_pos hE2]; exact h6)
    have hw1 : IntKind.i64.wrap ((k : Int) * (t.pr.n : Int)) = (i0 : Int) := by rw [h4]; exact IntWalk.i64_in _ (by omega)
    have hw2 : IntKind.i64.wrap ((i0 : Int) + (q : Int)) = (ix : Int) := by rw [h5]; exact IntWalk.i64_in _ (by omega)
    rw [← hl5] at h8
    have x0' : (0 : Int) ≤ (ix : Int) := by omega
    have x1' : (ix : Int) < (n5 : Int) := by omega
    clear hE2 h4 h6 hl5 hlen
    obtain ⟨qv, hqv⟩ : ∃ qv, isV m = qv := ⟨_, rfl⟩
    have HQ := Lib.hid hqv
    clear hqv
    rw [HQ.out]
    cases qv with
    | false =>
      rw [if_neg (by simp), if_neg (by simp)]
      go_enter Try.func34, Try.ntmps34
      obtain ⟨W3, hW3⟩ : ∃ W3, ((w.alloc (.cells #[.int .i64 t.ti, .int .i64 t.au, .int .i64 t.rl, .int .i64 t.mx, .slice t.tx.a t.tx.n t.tx.c, .int .i64 t.fl, .slice t.pr.a t.pr.n t.pr.c, .slice t.gl.a t.gl.n t.gl.c, .slice t.th.a t.th.n t.th.c, .slice t.ac.a t.ac.n t.ac.c, .slice t.de.a t.de.n t.de.c, .slice t.fu.a t.fu.n t.fu.c, .slice t.da.a t.da.n t.da.c, .slice t.pm.a t.pm.n t.pm.c, .slice t.lo.a t.lo.n t.lo.c] 28)).alloc (.cells #[.slice A0 n0 c0, .slice A1 n c1, .slice A2 n2 c2, .slice A3 n3 c3, .slice A4 n4 c4, .slice A5 n5 c5, .slice A6 n6 c6, .int .u64 g.seed, .int .i64 g.sc, .int .i64 g.tu, .int .i64 g.ov, .int .i64 g.it, .int .i64 g.go] 31)).alloc (.cells #[.slice none 0 0, .slice none 0 0, .slice none 0 0, .slice none 0 0, .slice none 0 0, .slice none 0 0, .slice none 0 0, .int .u64 0, .int .i64 0, .int .i64 0, .int .i64 0, .int .i64 0, .int .i64 0] 31) = W3 := ⟨_, rfl⟩
      have HX := Lib.hid (B3.new hW3)
      obtain ⟨t0, t1, t2, t3, t4, t5, t6, t7, t8, t9, t10, t11, t12, t13, t14, tf⟩ := cells15 HX.out.tab
      obtain ⟨x0, x1, x2, x3, x4, x5, x6, x7, x8, x9, x10, x11, x12, xf⟩ := cells13 HX.out.box
      obtain ⟨y0, y1, y2, y3, y4, y5, y6, y7, y8, y9, y10, y11, y12, yf⟩ := cells13 HX.out.res
      go_wp2_with (first
        | (go_at_call 105; refine (place_i t g _ _ _ (TbR.below HTB.out HX.out.below) hn128 hp16).mono ?_; rintro e w1 ⟨rfl, hb⟩; rw [HN.out, HE.out]; have HX2 := Lib.hid (HX.out.on hb); clear HX hb; have HX := HX2; clear HX2; clear t0 t1 t2 t3 t4 t5 t6 t7 t8 t9 t10 t11 t12 t13 t14 tf x0 x1 x2 x3 x4 x5 x6 x7 x8 x9 x10 x11 x12 xf y0 y1 y2 y3 y4 y5 y6 y7 y8 y9 y10 y11 y12 yf; obtain ⟨t0, t1, t2, t3, t4, t5, t6, t7, t8, t9, t10, t11, t12, t13, t14, tf⟩ := cells15 HX.out.tab; obtain ⟨x0, x1, x2, x3, x4, x5, x6, x7, x8, x9, x10, x11, x12, xf⟩ := cells13 HX.out.box; obtain ⟨y0, y1, y2, y3, y4, y5, y6, y7, y8, y9, y10, y11, y12, yf⟩ := cells13 HX.out.res)
        | (go_at_call 107; refine (is_v _ _).mono ?_; rintro e w4 ⟨rfl, rfl⟩; rw [HQ.out]))
      (try simp only [Exit.inBlock, Exit.then])
      have hB := set13_below (g := w.heap.size + 1 + 1) (a0 := .slice A0 n0 c0) (a1 := .slice A1 n c1) (a2 := .slice A2 n2 c2) (a3 := .slice A3 n3 c3) (a4 := .slice A4 n4 c4) (a5 := .slice A5 n5 c5) (a6 := .slice A6 n6 c6) (a7 := .int .u64 g.seed) (a8 := .int .i64 g.sc) (a9 := .int .i64 g.tu) (a10 := .int .i64 g.ov) (a11 := .int .i64 g.it) (a12 := .int .i64 g.go) HX.out.below (by omega) (Nat.zero_le _)
      refine ret_ct (set13 HX.out.res) rfl rfl Try.underlying31 rfl rfl ?_
      exact ⟨_, rfl, HO.out.below hB (fun _ _ h => .inl h), hB⟩
    | true =>
    rw [if_pos rfl, if_pos rfl]
    go_enter Try.func34, Try.ntmps34
    obtain ⟨W3, hW3⟩ : ∃ W3, ((w.alloc (.cells #[.int .i64 t.ti, .int .i64 t.au, .int .i64 t.rl, .int .i64 t.mx, .slice t.tx.a t.tx.n t.tx.c, .int .i64 t.fl, .slice t.pr.a t.pr.n t.pr.c, .slice t.gl.a t.gl.n t.gl.c, .slice t.th.a t.th.n t.th.c, .slice t.ac.a t.ac.n t.ac.c, .slice t.de.a t.de.n t.de.c, .slice t.fu.a t.fu.n t.fu.c, .slice t.da.a t.da.n t.da.c, .slice t.pm.a t.pm.n t.pm.c, .slice t.lo.a t.lo.n t.lo.c] 28)).alloc (.cells #[.slice A0 n0 c0, .slice A1 n c1, .slice A2 n2 c2, .slice A3 n3 c3, .slice A4 n4 c4, .slice A5 n5 c5, .slice A6 n6 c6, .int .u64 g.seed, .int .i64 g.sc, .int .i64 g.tu, .int .i64 g.ov, .int .i64 g.it, .int .i64 g.go] 31)).alloc (.cells #[.slice none 0 0, .slice none 0 0, .slice none 0 0, .slice none 0 0, .slice none 0 0, .slice none 0 0, .slice none 0 0, .int .u64 0, .int .i64 0, .int .i64 0, .int .i64 0, .int .i64 0, .int .i64 0] 31) = W3 := ⟨_, rfl⟩
    have HX := Lib.hid (B3.new hW3)
    obtain ⟨t0, t1, t2, t3, t4, t5, t6, t7, t8, t9, t10, t11, t12, t13, t14, tf⟩ := cells15 HX.out.tab
    obtain ⟨x0, x1, x2, x3, x4, x5, x6, x7, x8, x9, x10, x11, x12, xf⟩ := cells13 HX.out.box
    obtain ⟨y0, y1, y2, y3, y4, y5, y6, y7, y8, y9, y10, y11, y12, yf⟩ := cells13 HX.out.res
    go_wp2_with (first
      | (go_at_call 105; refine (place_i t g _ _ _ (TbR.below HTB.out HX.out.below) hn128 hp16).mono ?_; rintro e w1 ⟨rfl, hb⟩; rw [HN.out, HE.out]; have HX2 := Lib.hid (HX.out.on hb); clear HX hb; have HX := HX2; clear HX2; clear t0 t1 t2 t3 t4 t5 t6 t7 t8 t9 t10 t11 t12 t13 t14 tf x0 x1 x2 x3 x4 x5 x6 x7 x8 x9 x10 x11 x12 xf y0 y1 y2 y3 y4 y5 y6 y7 y8 y9 y10 y11 y12 yf; obtain ⟨t0, t1, t2, t3, t4, t5, t6, t7, t8, t9, t10, t11, t12, t13, t14, tf⟩ := cells15 HX.out.tab; obtain ⟨x0, x1, x2, x3, x4, x5, x6, x7, x8, x9, x10, x11, x12, xf⟩ := cells13 HX.out.box; obtain ⟨y0, y1, y2, y3, y4, y5, y6, y7, y8, y9, y10, y11, y12, yf⟩ := cells13 HX.out.res)
      | (go_at_call 107; refine (is_v _ _).mono ?_; rintro e w4 ⟨rfl, rfl⟩; rw [HQ.out])
      | (go_at_call 108; refine (clone_i g.pr _ (R5.out.below HX.out.below) hb5).mono ?_; rintro e w5 ⟨A', d4, rfl, O, hb⟩; have hls := HX.out.lt; obtain ⟨g4, rfl, hg4, hg4b, _⟩ := O.at_ (show 0 < n5 by omega); have O0 := Lib.hid O; clear O; have HX2 := Lib.hid (HX.out.on hb); clear HX hb; have HX := HX2; clear HX2; clear t0 t1 t2 t3 t4 t5 t6 t7 t8 t9 t10 t11 t12 t13 t14 tf x0 x1 x2 x3 x4 x5 x6 x7 x8 x9 x10 x11 x12 xf y0 y1 y2 y3 y4 y5 y6 y7 y8 y9 y10 y11 y12 yf; obtain ⟨t0, t1, t2, t3, t4, t5, t6, t7, t8, t9, t10, t11, t12, t13, t14, tf⟩ := cells15 HX.out.tab; obtain ⟨x0, x1, x2, x3, x4, x5, x6, x7, x8, x9, x10, x11, x12, xf⟩ := cells13 HX.out.box; obtain ⟨y0, y1, y2, y3, y4, y5, y6, y7, y8, y9, y10, y11, y12, yf⟩ := cells13 HX.out.res; obtain ⟨U, hU⟩ : ∃ U, w5.setCell ⟨w.heap.size + 1, 5, none⟩ (.slice (some ⟨g4, 0, none⟩) n5 d4) = U := ⟨_, rfl⟩; have u0 : U.heap[w.heap.size + 1]? = some (.cells #[.slice A0 n0 c0, .slice A1 n c1, .slice A2 n2 c2, .slice A3 n3 c3, .slice A4 n4 c4, .slice (some ⟨g4, 0, none⟩) n5 d4, .slice A6 n6 c6, .int .u64 g.seed, .int .i64 g.sc, .int .i64 g.tu, .int .i64 g.ov, .int .i64 g.it, .int .i64 g.go] 31 (0, 0)) := (by rw [← hU]; exact heapSet HX.out.box 5 _); have u1 : U.heap[w.heap.size + 1 + 1]? = some (.cells #[.slice none 0 0, .slice none 0 0, .slice none 0 0, .slice none 0 0, .slice none 0 0, .slice none 0 0, .slice none 0 0, .int .u64 0, .int .i64 0, .int .i64 0, .int .i64 0, .int .i64 0, .int .i64 0] 31 (0, 0)) := (by rw [← hU]; exact (Below.heap_setCell _ _ _ _ (by simp)).trans HX.out.res); have ut : U.heap[w.heap.size]? = some (.cells #[.int .i64 t.ti, .int .i64 t.au, .int .i64 t.rl, .int .i64 t.mx, .slice t.tx.a t.tx.n t.tx.c, .int .i64 t.fl, .slice t.pr.a t.pr.n t.pr.c, .slice t.gl.a t.gl.n t.gl.c, .slice t.th.a t.th.n t.th.c, .slice t.ac.a t.ac.n t.ac.c, .slice t.de.a t.de.n t.de.c, .slice t.fu.a t.fu.n t.fu.c, .slice t.da.a t.da.n t.da.c, .slice t.pm.a t.pm.n t.pm.c, .slice t.lo.a t.lo.n t.lo.c] 28 (0, 0)) := (by rw [← hU]; exact (Below.heap_setCell _ _ _ _ (by simp)).trans HX.out.tab); have UB := Lib.hid (show Below w.heap.size w U by rw [← hU]; exact HX.out.below.setCell (by simp) _); have o1 : Sq.Own I 3 U (w.heap.size + 3) (.slice (some ⟨g4, 0, none⟩) n5 d4) g.pr := (by rw [← hU]; exact own_ne (O0.out.lower hls) (fun h => by have h2 : g4 = w.heap.size + 1 := Option.some.inj h; omega) 5 _); have z4 := own_frozen o1 (by omega); have q4 := own_cell o1 h8; have O1 := Lib.hid o1; clear o1 O0; have a0 : w.heap.size ≠ g4 := (by omega); have a1 : w.heap.size + 1 ≠ g4 := (by omega); have a2 : w.heap.size + 1 + 1 ≠ g4 := (by omega); obtain ⟨p0, p1, p2, p3, p4, p5, p6, p7, p8, p9, p10, p11, p12, pf⟩ := cells13 u0; obtain ⟨q0, q1, q2, q3, q4, q5, q6, q7, q8, q9, q10, q11, q12, qf⟩ := cells13 u1; obtain ⟨s0, s1, s2, s3, s4, s5, s6, s7, s8, s9, s10, s11, s12, s13, s14, sf⟩ := cells15 ut))
    (try simp only [Exit.inBlock, Exit.then])
    have v1 : (U.setCell ⟨g4, ix, none⟩ (.int .i64 m)).heap[w.heap.size + 1 + 1]? = some (.cells #[.slice none 0 0, .slice none 0 0, .slice none 0 0, .slice none 0 0, .slice none 0 0, .slice none 0 0, .slice none 0 0, .int .u64 0, .int .i64 0, .int .i64 0, .int .i64 0, .int .i64 0, .int .i64 0] 31 (0, 0)) := (Below.heap_setCell _ _ _ _ (by simp; omega)).trans u1
    refine ret_ct (set13 v1) rfl rfl Try.underlying31 rfl rfl ?_
    obtain ⟨z1, z2⟩ := close5 (g := g) (w := w) (b2 := w.heap.size + 1 + 1) HO.out (O1.out.store ix m) (UB.out.setCell (show w.heap.size ≤ g4 by omega) _) (by omega) (by omega)
    exact ⟨_, rfl, z1, z2⟩
  · rw [if_neg (by rw [hE2]; exact hne), if_neg (by rw [hE2]; exact hne), hE2]
    have HE := Lib.hid hE2
    have HN := Lib.hid (show plN n t.pr.n x p = 0 by unfold plN; rw [hE2, if_neg hne])
    have t0' : (E != (0 : Int)) = true := by simpa using hne
    clear hE2 hne hl5 hlen
    go_enter Try.func34, Try.ntmps34
    obtain ⟨W3, hW3⟩ : ∃ W3, ((w.alloc (.cells #[.int .i64 t.ti, .int .i64 t.au, .int .i64 t.rl, .int .i64 t.mx, .slice t.tx.a t.tx.n t.tx.c, .int .i64 t.fl, .slice t.pr.a t.pr.n t.pr.c, .slice t.gl.a t.gl.n t.gl.c, .slice t.th.a t.th.n t.th.c, .slice t.ac.a t.ac.n t.ac.c, .slice t.de.a t.de.n t.de.c, .slice t.fu.a t.fu.n t.fu.c, .slice t.da.a t.da.n t.da.c, .slice t.pm.a t.pm.n t.pm.c, .slice t.lo.a t.lo.n t.lo.c] 28)).alloc (.cells #[.slice A0 n0 c0, .slice A1 n c1, .slice A2 n2 c2, .slice A3 n3 c3, .slice A4 n4 c4, .slice A5 n5 c5, .slice A6 n6 c6, .int .u64 g.seed, .int .i64 g.sc, .int .i64 g.tu, .int .i64 g.ov, .int .i64 g.it, .int .i64 g.go] 31)).alloc (.cells #[.slice none 0 0, .slice none 0 0, .slice none 0 0, .slice none 0 0, .slice none 0 0, .slice none 0 0, .slice none 0 0, .int .u64 0, .int .i64 0, .int .i64 0, .int .i64 0, .int .i64 0, .int .i64 0] 31) = W3 := ⟨_, rfl⟩
    have HX := Lib.hid (B3.new hW3)
    obtain ⟨t0, t1, t2, t3, t4, t5, t6, t7, t8, t9, t10, t11, t12, t13, t14, tf⟩ := cells15 HX.out.tab
    obtain ⟨x0, x1, x2, x3, x4, x5, x6, x7, x8, x9, x10, x11, x12, xf⟩ := cells13 HX.out.box
    obtain ⟨y0, y1, y2, y3, y4, y5, y6, y7, y8, y9, y10, y11, y12, yf⟩ := cells13 HX.out.res
    go_wp2_with (go_at_call 105; refine (place_i t g _ _ _ (TbR.below HTB.out HX.out.below) hn128 hp16).mono ?_; rintro e w1 ⟨rfl, hb⟩; rw [HN.out, HE.out]; have HX2 := Lib.hid (HX.out.on hb); clear HX hb; have HX := HX2; clear HX2; clear t0 t1 t2 t3 t4 t5 t6 t7 t8 t9 t10 t11 t12 t13 t14 tf x0 x1 x2 x3 x4 x5 x6 x7 x8 x9 x10 x11 x12 xf y0 y1 y2 y3 y4 y5 y6 y7 y8 y9 y10 y11 y12 yf; obtain ⟨t0, t1, t2, t3, t4, t5, t6, t7, t8, t9, t10, t11, t12, t13, t14, tf⟩ := cells15 HX.out.tab; obtain ⟨x0, x1, x2, x3, x4, x5, x6, x7, x8, x9, x10, x11, x12, xf⟩ := cells13 HX.out.box; obtain ⟨y0, y1, y2, y3, y4, y5, y6, y7, y8, y9, y10, y11, y12, yf⟩ := cells13 HX.out.res)
    (try simp only [Exit.inBlock, Exit.then])
    have hB := set13_below (g := w.heap.size + 1 + 1) (a0 := .slice A0 n0 c0) (a1 := .slice A1 n c1) (a2 := .slice A2 n2 c2) (a3 := .slice A3 n3 c3) (a4 := .slice A4 n4 c4) (a5 := .slice A5 n5 c5) (a6 := .slice A6 n6 c6) (a7 := .int .u64 g.seed) (a8 := .int .i64 g.sc) (a9 := .int .i64 g.tu) (a10 := .int .i64 g.ov) (a11 := .int .i64 g.it) (a12 := .int .i64 g.go) HX.out.below (by omega) (Nat.zero_le _)
    refine ret_ct (set13 HX.out.res) rfl rfl Try.underlying31 rfl rfl ?_
    exact ⟨_, rfl, HO.out.below hB (fun _ _ h => .inl h), hB⟩

set_option maxRecDepth 100000 in
set_option maxHeartbeats 8000000 in
theorem put_r {v : Value} (t : TbV) (g : Wd) (x p m : Int) (S : Nat → Prop) (w : World) (hr : TbR w t) (ho : Ws S w v g) (hP : Pl g t.pr.n) :
    Calls Try.prog 35 #[.agg #[.int .i64 t.ti, .int .i64 t.au, .int .i64 t.rl, .int .i64 t.mx, .slice t.tx.a t.tx.n t.tx.c, .int .i64 t.fl, .slice t.pr.a t.pr.n t.pr.c, .slice t.gl.a t.gl.n t.gl.c, .slice t.th.a t.th.n t.th.c, .slice t.ac.a t.ac.n t.ac.c, .slice t.de.a t.de.n t.de.c, .slice t.fu.a t.fu.n t.fu.c, .slice t.da.a t.da.n t.da.c, .slice t.pm.a t.pm.n t.pm.c, .slice t.lo.a t.lo.n t.lo.c], v, .int .i64 x, .int .i64 p, .int .i64 m] w fun e w' => ∃ v', e = .returned (.tuple #[v', .int .i64 (putE g t.pr.n x p m)]) ∧ Ws (fun k => S k ∨ w.heap.size ≤ k) w' v' (putG g t.pr.n x p m) ∧ Below w.heap.size w w' := by
  have ho2 := ho.wo; have HO := Lib.hid ho; clear ho; obtain ⟨A0, A1, A2, A3, A4, A5, A6, n0, c0, n, c1, n2, c2, n3, c3, n4, c4, n5, c5, n6, c6, rfl, ⟨r0, r1, r2, r3, r4, r5, r6⟩, hu, hw, hb⟩ := ho2
  have hg : g.n = n := r1.len.symm
  obtain ⟨hn128, hp16, hlen⟩ := hP
  rw [hg] at hn128 hlen
  have hl5 : n5 = n * t.pr.n := r5.len.trans hlen
  have HLN := Lib.hid (show g.pr.length = n5 from r5.len.symm)
  have hb5 : n5 ≤ 17592186043904 := hb.2.2.2.2.2.1
  have R5 := Lib.hid r5
  have HTB := Lib.hid hr
  unfold putE putG
  rw [hg]
  clear r0 r1 r2 r3 r4 r5 r6 hu hw hb hr hg
  obtain ⟨E, hE2⟩ : ∃ E, plE n t.pr.n x p = E := ⟨_, rfl⟩
  rcases Decidable.em (E = 0) with rfl | hne
  · obtain ⟨k, q, i0, ix, rfl, rfl, h1, h2, h3, h4, h5, h6, h7, h8⟩ := pl_ix hE2 hn128 hp16
    rw [if_pos hE2, if_pos hE2, h6, Int.toNat_natCast]
    have HE := Lib.hid hE2
    have HN := Lib.hid (show plN n t.pr.n (k : Int) (q : Int) = (ix : Int) by unfold plN; rw [if_pos hE2]; exact h6)
    have hw1 : IntKind.i64.wrap ((k : Int) * (t.pr.n : Int)) = (i0 : Int) := by rw [h4]; exact IntWalk.i64_in _ (by omega)
    have hw2 : IntKind.i64.wrap ((i0 : Int) + (q : Int)) = (ix : Int) := by rw [h5]; exact IntWalk.i64_in _ (by omega)
    rw [← hl5] at h8
    have x0' : (0 : Int) ≤ (ix : Int) := by omega
    have x1' : (ix : Int) < (n5 : Int) := by omega
    clear hE2 h4 h6 hl5 hlen
    obtain ⟨qv, hqv⟩ : ∃ qv, isV m = qv := ⟨_, rfl⟩
    have HQ := Lib.hid hqv
    clear hqv
    rw [HQ.out]
    cases qv with
    | false =>
      rw [if_neg (by simp), if_neg (by simp)]
      go_enter Try.func35, Try.ntmps35
      obtain ⟨W3, hW3⟩ : ∃ W3, ((w.alloc (.cells #[.int .i64 t.ti, .int .i64 t.au, .int .i64 t.rl, .int .i64 t.mx, .slice t.tx.a t.tx.n t.tx.c, .int .i64 t.fl, .slice t.pr.a t.pr.n t.pr.c, .slice t.gl.a t.gl.n t.gl.c, .slice t.th.a t.th.n t.th.c, .slice t.ac.a t.ac.n t.ac.c, .slice t.de.a t.de.n t.de.c, .slice t.fu.a t.fu.n t.fu.c, .slice t.da.a t.da.n t.da.c, .slice t.pm.a t.pm.n t.pm.c, .slice t.lo.a t.lo.n t.lo.c] 28)).alloc (.cells #[.slice A0 n0 c0, .slice A1 n c1, .slice A2 n2 c2, .slice A3 n3 c3, .slice A4 n4 c4, .slice A5 n5 c5, .slice A6 n6 c6, .int .u64 g.seed, .int .i64 g.sc, .int .i64 g.tu, .int .i64 g.ov, .int .i64 g.it, .int .i64 g.go] 31)).alloc (.cells #[.slice none 0 0, .slice none 0 0, .slice none 0 0, .slice none 0 0, .slice none 0 0, .slice none 0 0, .slice none 0 0, .int .u64 0, .int .i64 0, .int .i64 0, .int .i64 0, .int .i64 0, .int .i64 0] 31) = W3 := ⟨_, rfl⟩
      have HX := Lib.hid (B3.new hW3)
      obtain ⟨t0, t1, t2, t3, t4, t5, t6, t7, t8, t9, t10, t11, t12, t13, t14, tf⟩ := cells15 HX.out.tab
      obtain ⟨x0, x1, x2, x3, x4, x5, x6, x7, x8, x9, x10, x11, x12, xf⟩ := cells13 HX.out.box
      obtain ⟨y0, y1, y2, y3, y4, y5, y6, y7, y8, y9, y10, y11, y12, yf⟩ := cells13 HX.out.res
      go_wp2_with (first
        | (go_at_call 106; refine (prop_e t g _ _ _ (TbR.below HTB.out HX.out.below) hn128 hp16).mono ?_; rintro e w1 ⟨rfl, hb⟩; rw [HE.out]; have HX2 := Lib.hid (HX.out.on hb); clear HX hb; have HX := HX2; clear HX2; clear t0 t1 t2 t3 t4 t5 t6 t7 t8 t9 t10 t11 t12 t13 t14 tf x0 x1 x2 x3 x4 x5 x6 x7 x8 x9 x10 x11 x12 xf y0 y1 y2 y3 y4 y5 y6 y7 y8 y9 y10 y11 y12 yf; obtain ⟨t0, t1, t2, t3, t4, t5, t6, t7, t8, t9, t10, t11, t12, t13, t14, tf⟩ := cells15 HX.out.tab; obtain ⟨x0, x1, x2, x3, x4, x5, x6, x7, x8, x9, x10, x11, x12, xf⟩ := cells13 HX.out.box; obtain ⟨y0, y1, y2, y3, y4, y5, y6, y7, y8, y9, y10, y11, y12, yf⟩ := cells13 HX.out.res)
        | (go_at_call 93; refine (isV_i _ _).mono ?_; rintro e w4 ⟨rfl, rfl⟩; rw [HQ.out]))
      (try simp only [Exit.inBlock, Exit.then])
      have hB := set13_below (g := w.heap.size + 1 + 1) (a0 := .slice A0 n0 c0) (a1 := .slice A1 n c1) (a2 := .slice A2 n2 c2) (a3 := .slice A3 n3 c3) (a4 := .slice A4 n4 c4) (a5 := .slice A5 n5 c5) (a6 := .slice A6 n6 c6) (a7 := .int .u64 g.seed) (a8 := .int .i64 g.sc) (a9 := .int .i64 g.tu) (a10 := .int .i64 g.ov) (a11 := .int .i64 g.it) (a12 := .int .i64 g.go) HX.out.below (by omega) (Nat.zero_le _)
      refine ret_ct (set13 HX.out.res) rfl rfl Try.underlying31 rfl rfl ?_
      exact ⟨_, rfl, HO.out.below hB (fun _ _ h => .inl h), hB⟩
    | true =>
    rw [if_pos rfl, if_pos rfl]
    go_enter Try.func35, Try.ntmps35
    obtain ⟨W3, hW3⟩ : ∃ W3, ((w.alloc (.cells #[.int .i64 t.ti, .int .i64 t.au, .int .i64 t.rl, .int .i64 t.mx, .slice t.tx.a t.tx.n t.tx.c, .int .i64 t.fl, .slice t.pr.a t.pr.n t.pr.c, .slice t.gl.a t.gl.n t.gl.c, .slice t.th.a t.th.n t.th.c, .slice t.ac.a t.ac.n t.ac.c, .slice t.de.a t.de.n t.de.c, .slice t.fu.a t.fu.n t.fu.c, .slice t.da.a t.da.n t.da.c, .slice t.pm.a t.pm.n t.pm.c, .slice t.lo.a t.lo.n t.lo.c] 28)).alloc (.cells #[.slice A0 n0 c0, .slice A1 n c1, .slice A2 n2 c2, .slice A3 n3 c3, .slice A4 n4 c4, .slice A5 n5 c5, .slice A6 n6 c6, .int .u64 g.seed, .int .i64 g.sc, .int .i64 g.tu, .int .i64 g.ov, .int .i64 g.it, .int .i64 g.go] 31)).alloc (.cells #[.slice none 0 0, .slice none 0 0, .slice none 0 0, .slice none 0 0, .slice none 0 0, .slice none 0 0, .slice none 0 0, .int .u64 0, .int .i64 0, .int .i64 0, .int .i64 0, .int .i64 0, .int .i64 0] 31) = W3 := ⟨_, rfl⟩
    have HX := Lib.hid (B3.new hW3)
    have hls := HX.out.lt
    obtain ⟨t0, t1, t2, t3, t4, t5, t6, t7, t8, t9, t10, t11, t12, t13, t14, tf⟩ := cells15 HX.out.tab
    obtain ⟨x0, x1, x2, x3, x4, x5, x6, x7, x8, x9, x10, x11, x12, xf⟩ := cells13 HX.out.box
    obtain ⟨y0, y1, y2, y3, y4, y5, y6, y7, y8, y9, y10, y11, y12, yf⟩ := cells13 HX.out.res
    go_wp2_with (first
      | (go_at_call 106; refine (prop_e t g _ _ _ (TbR.below HTB.out HX.out.below) hn128 hp16).mono ?_; rintro e w1 ⟨rfl, hb⟩; rw [HE.out]; have HX2 := Lib.hid (HX.out.on hb); clear HX hb; have HX := HX2; clear HX2; clear t0 t1 t2 t3 t4 t5 t6 t7 t8 t9 t10 t11 t12 t13 t14 tf x0 x1 x2 x3 x4 x5 x6 x7 x8 x9 x10 x11 x12 xf y0 y1 y2 y3 y4 y5 y6 y7 y8 y9 y10 y11 y12 yf; obtain ⟨t0, t1, t2, t3, t4, t5, t6, t7, t8, t9, t10, t11, t12, t13, t14, tf⟩ := cells15 HX.out.tab; obtain ⟨x0, x1, x2, x3, x4, x5, x6, x7, x8, x9, x10, x11, x12, xf⟩ := cells13 HX.out.box; obtain ⟨y0, y1, y2, y3, y4, y5, y6, y7, y8, y9, y10, y11, y12, yf⟩ := cells13 HX.out.res)
      | (go_at_call 93; refine (isV_i _ _).mono ?_; rintro e w4 ⟨rfl, rfl⟩; rw [HQ.out]; clear t0 t1 t2 t3 t4 t5 t6 t7 t8 t9 t10 t11 t12 t13 t14 tf x0 x1 x2 x3 x4 x5 x6 x7 x8 x9 x10 x11 x12 xf y0 y1 y2 y3 y4 y5 y6 y7 y8 y9 y10 y11 y12 yf; have ta := (Below.heap_alloc w1 (.cells #[] 3) _ (by have := HX.out.lt; omega)).trans HX.out.tab; have tb := (Below.heap_alloc w1 (.cells #[] 3) _ (by have := HX.out.lt; omega)).trans HX.out.box; obtain ⟨t0, t1, t2, t3, t4, t5, t6, t7, t8, t9, t10, t11, t12, t13, t14, tf⟩ := cells15 ta; obtain ⟨x0, x1, x2, x3, x4, x5, x6, x7, x8, x9, x10, x11, x12, xf⟩ := cells13 tb; obtain ⟨y0, y1, y2, y3, y4, y5, y6, y7, y8, y9, y10, y11, y12, yf⟩ := cells13 HX.out.res)
      | (at_builtin; refine wpList_append elI (l := []) rfl _ _ rfl rfl (MvR.own_e w1 w1.heap.size (by simp)) A5 n5 c5 g.pr rfl ((R5.out.below HX.out.below).alloc _) (by simp [maxLen]; omega) (by simp; omega) (by first | omega | simp) ?_; rintro v1 w5 O b _ _; rw [List.nil_append] at O; obtain ⟨A', d4, rfl, _, _⟩ := O.shape; rw [HLN.out] at O ⊢; obtain ⟨g4, rfl, hg4, hg4b, _⟩ := O.at_ (show 0 < n5 by omega); have hb : Below w1.heap.size w1 w5 := ((Below.refl _ _).alloc (Nat.le_refl _) _).trans b; have O0 := Lib.hid O; clear O b; have hls := HX.out.lt; have HX2 := Lib.hid (HX.out.on hb); clear HX hb; have HX := HX2; clear HX2; clear t0 t1 t2 t3 t4 t5 t6 t7 t8 t9 t10 t11 t12 t13 t14 tf x0 x1 x2 x3 x4 x5 x6 x7 x8 x9 x10 x11 x12 xf y0 y1 y2 y3 y4 y5 y6 y7 y8 y9 y10 y11 y12 yf; obtain ⟨t0, t1, t2, t3, t4, t5, t6, t7, t8, t9, t10, t11, t12, t13, t14, tf⟩ := cells15 HX.out.tab; obtain ⟨x0, x1, x2, x3, x4, x5, x6, x7, x8, x9, x10, x11, x12, xf⟩ := cells13 HX.out.box; obtain ⟨y0, y1, y2, y3, y4, y5, y6, y7, y8, y9, y10, y11, y12, yf⟩ := cells13 HX.out.res; obtain ⟨U, hU⟩ : ∃ U, w5.setCell ⟨w.heap.size + 1, 5, none⟩ (.slice (some ⟨g4, 0, none⟩) n5 d4) = U := ⟨_, rfl⟩; have u0 : U.heap[w.heap.size + 1]? = some (.cells #[.slice A0 n0 c0, .slice A1 n c1, .slice A2 n2 c2, .slice A3 n3 c3, .slice A4 n4 c4, .slice (some ⟨g4, 0, none⟩) n5 d4, .slice A6 n6 c6, .int .u64 g.seed, .int .i64 g.sc, .int .i64 g.tu, .int .i64 g.ov, .int .i64 g.it, .int .i64 g.go] 31 (0, 0)) := (by rw [← hU]; exact heapSet HX.out.box 5 _); have u1 : U.heap[w.heap.size + 1 + 1]? = some (.cells #[.slice none 0 0, .slice none 0 0, .slice none 0 0, .slice none 0 0, .slice none 0 0, .slice none 0 0, .slice none 0 0, .int .u64 0, .int .i64 0, .int .i64 0, .int .i64 0, .int .i64 0, .int .i64 0] 31 (0, 0)) := (by rw [← hU]; exact (Below.heap_setCell _ _ _ _ (by simp)).trans HX.out.res); have ut : U.heap[w.heap.size]? = some (.cells #[.int .i64 t.ti, .int .i64 t.au, .int .i64 t.rl, .int .i64 t.mx, .slice t.tx.a t.tx.n t.tx.c, .int .i64 t.fl, .slice t.pr.a t.pr.n t.pr.c, .slice t.gl.a t.gl.n t.gl.c, .slice t.th.a t.th.n t.th.c, .slice t.ac.a t.ac.n t.ac.c, .slice t.de.a t.de.n t.de.c, .slice t.fu.a t.fu.n t.fu.c, .slice t.da.a t.da.n t.da.c, .slice t.pm.a t.pm.n t.pm.c, .slice t.lo.a t.lo.n t.lo.c] 28 (0, 0)) := (by rw [← hU]; exact (Below.heap_setCell _ _ _ _ (by simp)).trans HX.out.tab); have UB := Lib.hid (show Below w.heap.size w U by rw [← hU]; exact HX.out.below.setCell (by simp) _); have o1 : Sq.Own I 3 U (w.heap.size + 3) (.slice (some ⟨g4, 0, none⟩) n5 d4) g.pr := (by rw [← hU]; exact own_ne (O0.out.lower hls) (fun h => by have h2 : g4 = w.heap.size + 1 := Option.some.inj h; omega) 5 _); have z4 := own_frozen o1 (by omega); have q4 := own_cell o1 h8; have O1 := Lib.hid o1; clear o1 O0; have a0 : w.heap.size ≠ g4 := (by omega); have a1 : w.heap.size + 1 ≠ g4 := (by omega); have a2 : w.heap.size + 1 + 1 ≠ g4 := (by omega); obtain ⟨p0, p1, p2, p3, p4, p5, p6, p7, p8, p9, p10, p11, p12, pf⟩ := cells13 u0; obtain ⟨q0, q1, q2, q3, q4, q5, q6, q7, q8, q9, q10, q11, q12, qf⟩ := cells13 u1; obtain ⟨s0, s1, s2, s3, s4, s5, s6, s7, s8, s9, s10, s11, s12, s13, s14, sf⟩ := cells15 ut))
    (try simp only [Exit.inBlock, Exit.then])
    have v1 : (U.setCell ⟨g4, ix, none⟩ (.int .i64 m)).heap[w.heap.size + 1 + 1]? = some (.cells #[.slice none 0 0, .slice none 0 0, .slice none 0 0, .slice none 0 0, .slice none 0 0, .slice none 0 0, .slice none 0 0, .int .u64 0, .int .i64 0, .int .i64 0, .int .i64 0, .int .i64 0, .int .i64 0] 31 (0, 0)) := (Below.heap_setCell _ _ _ _ (by simp; omega)).trans u1
    refine ret_ct (set13 v1) rfl rfl Try.underlying31 rfl rfl ?_
    obtain ⟨z1, z2⟩ := close5 (g := g) (w := w) (b2 := w.heap.size + 1 + 1) HO.out (O1.out.store ix m) (UB.out.setCell (show w.heap.size ≤ g4 by omega) _) (by omega) (by omega)
    exact ⟨_, rfl, z1, z2⟩
  · rw [if_neg (by rw [hE2]; exact hne), if_neg (by rw [hE2]; exact hne), hE2]
    have HE := Lib.hid hE2
    have HN := Lib.hid (show plN n t.pr.n x p = 0 by unfold plN; rw [hE2, if_neg hne])
    have t0' : (E != (0 : Int)) = true := by simpa using hne
    clear hE2 hne hl5 hlen
    go_enter Try.func35, Try.ntmps35
    obtain ⟨W3, hW3⟩ : ∃ W3, ((w.alloc (.cells #[.int .i64 t.ti, .int .i64 t.au, .int .i64 t.rl, .int .i64 t.mx, .slice t.tx.a t.tx.n t.tx.c, .int .i64 t.fl, .slice t.pr.a t.pr.n t.pr.c, .slice t.gl.a t.gl.n t.gl.c, .slice t.th.a t.th.n t.th.c, .slice t.ac.a t.ac.n t.ac.c, .slice t.de.a t.de.n t.de.c, .slice t.fu.a t.fu.n t.fu.c, .slice t.da.a t.da.n t.da.c, .slice t.pm.a t.pm.n t.pm.c, .slice t.lo.a t.lo.n t.lo.c] 28)).alloc (.cells #[.slice A0 n0 c0, .slice A1 n c1, .slice A2 n2 c2, .slice A3 n3 c3, .slice A4 n4 c4, .slice A5 n5 c5, .slice A6 n6 c6, .int .u64 g.seed, .int .i64 g.sc, .int .i64 g.tu, .int .i64 g.ov, .int .i64 g.it, .int .i64 g.go] 31)).alloc (.cells #[.slice none 0 0, .slice none 0 0, .slice none 0 0, .slice none 0 0, .slice none 0 0, .slice none 0 0, .slice none 0 0, .int .u64 0, .int .i64 0, .int .i64 0, .int .i64 0, .int .i64 0, .int .i64 0] 31) = W3 := ⟨_, rfl⟩
    have HX := Lib.hid (B3.new hW3)
    obtain ⟨t0, t1, t2, t3, t4, t5, t6, t7, t8, t9, t10, t11, t12, t13, t14, tf⟩ := cells15 HX.out.tab
    obtain ⟨x0, x1, x2, x3, x4, x5, x6, x7, x8, x9, x10, x11, x12, xf⟩ := cells13 HX.out.box
    obtain ⟨y0, y1, y2, y3, y4, y5, y6, y7, y8, y9, y10, y11, y12, yf⟩ := cells13 HX.out.res
    go_wp2_with (go_at_call 106; refine (prop_e t g _ _ _ (TbR.below HTB.out HX.out.below) hn128 hp16).mono ?_; rintro e w1 ⟨rfl, hb⟩; rw [HE.out]; have HX2 := Lib.hid (HX.out.on hb); clear HX hb; have HX := HX2; clear HX2; clear t0 t1 t2 t3 t4 t5 t6 t7 t8 t9 t10 t11 t12 t13 t14 tf x0 x1 x2 x3 x4 x5 x6 x7 x8 x9 x10 x11 x12 xf y0 y1 y2 y3 y4 y5 y6 y7 y8 y9 y10 y11 y12 yf; obtain ⟨t0, t1, t2, t3, t4, t5, t6, t7, t8, t9, t10, t11, t12, t13, t14, tf⟩ := cells15 HX.out.tab; obtain ⟨x0, x1, x2, x3, x4, x5, x6, x7, x8, x9, x10, x11, x12, xf⟩ := cells13 HX.out.box; obtain ⟨y0, y1, y2, y3, y4, y5, y6, y7, y8, y9, y10, y11, y12, yf⟩ := cells13 HX.out.res)
    (try simp only [Exit.inBlock, Exit.then])
    have hB := set13_below (g := w.heap.size + 1 + 1) (a0 := .slice A0 n0 c0) (a1 := .slice A1 n c1) (a2 := .slice A2 n2 c2) (a3 := .slice A3 n3 c3) (a4 := .slice A4 n4 c4) (a5 := .slice A5 n5 c5) (a6 := .slice A6 n6 c6) (a7 := .int .u64 g.seed) (a8 := .int .i64 g.sc) (a9 := .int .i64 g.tu) (a10 := .int .i64 g.ov) (a11 := .int .i64 g.it) (a12 := .int .i64 g.go) HX.out.below (by omega) (Nat.zero_le _)
    refine ret_ct (set13 HX.out.res) rfl rfl Try.underlying31 rfl rfl ?_
    exact ⟨_, rfl, HO.out.below hB (fun _ _ h => .inl h), hB⟩

end Go.Proofs.Ytncdicagadbafaa.AttrV
