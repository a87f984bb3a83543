/- NestMoves: what becomes of things when one is moved, or taken out of all, is what the document says, and things stay within things as they must be. Conditions: none beyond what every reading of the arguments gives. -/
import Derived.Test.YtncdicagadbafaaLaw
import Derived.Test.YtncdicagadbafaaSml
import Derived.Test.YtncdicagadbafaaSamW
import Derived.Test.YtncdicagadbafaaMvM
namespace Go.Proofs.Ytncdicagadbafaa.nestMoves
open Go Go.ChangeShapes Go.WideShapes Go.ChangeAt Go.RowKit NestP NestW NestX NestY ValP ValW ValX ValR MixP Sq WorldD CopP MoveP MvA AwkP WoC

theorem nb {w w' : World} {o : Obj} (hb : Below (w.alloc o).heap.size (w.alloc o) w') : w'.heap[w.heap.size]? = some o ∧ w.heap.size < w'.heap.size ∧ Below w.heap.size w w' := by
  have hs := hb.size
  rw [World.size_alloc] at hs
  exact ⟨(hb.block _ (by simp)).trans (World.alloc_heap_new w o), by omega, ((Below.refl _ w).alloc (Nat.le_refl _) _).trans (hb.mono (by simp))⟩
theorem same_b {A B : Option Addr} {n m ca cb : Nat} (l : List Int) (w : World) (ha : Rd I w A n l) (hb : Rd I w B m l) (hn : n ≤ 17592186044416) :
    Calls Try.prog 47 #[.slice A n ca, .slice B m cb] w fun e w' => e = .returned (.bool true) ∧ ∃ q, w' = w.drewN q := SamW.same_t l w ha hb hn

set_option maxRecDepth 100000 in
set_option maxHeartbeats 2000000 in
theorem same20_t {v v' : Value} (g : Wd) (w : World) (ha : Wo w v g) (hb : Wo w v' g) :
    Calls Try.prog 43 #[v, v'] w fun e w' => e = .returned (.bool true) ∧ Below w.heap.size w w' := by
  obtain ⟨A0, A1, A2, A3, A4, A5, A6, n0, c0, n1, c1, n2, c2, n3, c3, n4, c4, n5, c5, n6, c6, rfl, ⟨_, r1, r2, r3, _, _, _⟩, _, _, ⟨_, rb1, rb2, rb3, _, _, _⟩⟩ := ha
  obtain ⟨B0, B1, B2, B3, B4, B5, B6, m0, d0, m1, d1, m2, d2, m3, d3, m4, d4, m5, d5, m6, d6, rfl, ⟨_, s1, s2, s3, _, _, _⟩, _, _, _⟩ := hb
  have HA1 := Lib.hid r1
  have HB1 := Lib.hid s1
  have HM1 := Lib.hid rb1
  have HA2 := Lib.hid r2
  have HB2 := Lib.hid s2
  have HM2 := Lib.hid rb2
  have HA3 := Lib.hid r3
  have HB3 := Lib.hid s3
  have HM3 := Lib.hid rb3
  clear r1 r2 r3 s1 s2 s3 rb1 rb2 rb3
  go_enter Try.func43, Try.ntmps43
  go_wp2_with (first | (go_at_call 47; with_reducible refine (same_b (A := A1) (B := B1) _ _ (((HA1.out.alloc _).alloc _)) (((HB1.out.alloc _).alloc _)) (Nat.le_trans HM1.out (by omega))).mono ?_; rintro e w1 ⟨rfl, q, rfl⟩) | (go_at_call 47; with_reducible refine (same_b (A := A2) (B := B2) _ _ ((((HA2.out.alloc _).alloc _).drewN _)) ((((HB2.out.alloc _).alloc _).drewN _)) (Nat.le_trans HM2.out (by omega))).mono ?_; rintro e w1 ⟨rfl, q, rfl⟩) | (go_at_call 47; with_reducible refine (same_b (A := A3) (B := B3) _ _ ((((HA3.out.alloc _).alloc _).drewN _)) ((((HB3.out.alloc _).alloc _).drewN _)) (Nat.le_trans HM3.out (by omega))).mono ?_; rintro e w1 ⟨rfl, q, rfl⟩))
  go_ret
  exact ⟨rfl, belowN (((Below.refl _ _).alloc (Nat.le_refl _) _).alloc (by simp) _) _⟩

set_option maxRecDepth 100000 in
set_option maxHeartbeats 8000000 in
theorem walk (w : World) (v : Value) (g : Wd) (ho : Wo w v g) (x : Int) (_ : (Lit.int .i64 x).wf = true) (y : Int) (_ : (Lit.int .i64 y).wf = true) :
    Calls Try.prog 7 #[v, .int .i64 x, .int .i64 y] w fun e w' => e = .returned (.bool true) ∧ Below w.heap.size w w' := by
  have HW := Lib.hid ho
  have hx := ho
  obtain ⟨A0, A1, A2, A3, A4, A5, A6, n0, c0, n, c1, n2, c2, n3, c3, n4, c4, n5, c5, n6, c6, rfl, ⟨_, r1, _⟩, _, _, _⟩ := hx
  have HNg := Lib.hid (show n = g.n from r1.len)
  clear r1 ho
  obtain ⟨q, hq⟩ : ∃ q, Sml.sml g = q := ⟨_, rfl⟩
  have HS := Lib.hid hq
  cases q
  · clear hq
    go_enter Try.func7, Try.ntmps7
    obtain ⟨W1, hW1⟩ : ∃ W1, w.alloc (.cells #[.slice A0 n0 c0, .slice A1 n c1, .slice A2 n2 c2, .slice A3 n3 c3, .slice A4 n4 c4, .slice A5 n5 c5, .slice A6 n6 c6, .int .u64 g.seed, .int .i64 g.sc, .int .i64 g.tu, .int .i64 g.ov, .int .i64 g.it, .int .i64 g.go] 31) = W1 := ⟨_, rfl⟩
    have h0 : W1.heap[w.heap.size]? = some (.cells #[.slice A0 n0 c0, .slice A1 n c1, .slice A2 n2 c2, .slice A3 n3 c3, .slice A4 n4 c4, .slice A5 n5 c5, .slice A6 n6 c6, .int .u64 g.seed, .int .i64 g.sc, .int .i64 g.tu, .int .i64 g.ov, .int .i64 g.it, .int .i64 g.go] 31 (0, 0)) := by subst hW1; exact World.alloc_heap_new w _
    have s0 : w.heap.size < W1.heap.size := by subst hW1; simp
    have hb0 : Below w.heap.size w W1 := by subst hW1; exact (Below.refl _ w).alloc (Nat.le_refl _) _
    have HO := Lib.hid (SamW.wo_below HW.out hb0)
    have HB := Lib.hid hb0
    clear hb0
    obtain ⟨x0, x1, x2, x3, x4, x5, x6, x7, x8, x9, x10, x11, x12, xf⟩ := cells13 h0
    go_wp2_with (first | (go_at_call 36; refine (Sml.small_w g HO.out).mono ?_; rintro e u1 ⟨rfl, hb⟩; rw [HS.out]; have t1 := (hb.block _ s0).trans h0; have t2 := Nat.lt_of_lt_of_le s0 hb.size; have t3 := Lib.hid (SamW.wo_below HO.out hb); have t4 := Lib.hid (HB.out.trans (hb.mono HB.out.size)); clear h0 s0 HO HB x0 x1 x2 x3 x4 x5 x6 x7 x8 x9 x10 x11 x12 xf; have h0 := t1; have s0 := t2; have HO := t3; have HB := t4; clear t1 t2 t3 t4; obtain ⟨x0, x1, x2, x3, x4, x5, x6, x7, x8, x9, x10, x11, x12, xf⟩ := cells13 h0; clear hb) | (go_at_call 38; refine (AwkA.awake _).mono ?_; rintro e u7 ⟨rfl, hb⟩; have hz := HB.out.trans (hb.mono HB.out.size)))
    go_ret
    exact ⟨rfl, hz⟩
  have hs60 : g.n ≤ 60 := by unfold Sml.sml at hq; simp only [Bool.and_eq_true, decide_eq_true_eq] at hq; exact hq.1.1
  clear hq
  obtain ⟨q, hq⟩ : ∃ q, nested g = q := ⟨_, rfl⟩
  have HQ := Lib.hid hq
  clear hq
  cases q
  · go_enter Try.func7, Try.ntmps7
    obtain ⟨W1, hW1⟩ : ∃ W1, w.alloc (.cells #[.slice A0 n0 c0, .slice A1 n c1, .slice A2 n2 c2, .slice A3 n3 c3, .slice A4 n4 c4, .slice A5 n5 c5, .slice A6 n6 c6, .int .u64 g.seed, .int .i64 g.sc, .int .i64 g.tu, .int .i64 g.ov, .int .i64 g.it, .int .i64 g.go] 31) = W1 := ⟨_, rfl⟩
    have h0 : W1.heap[w.heap.size]? = some (.cells #[.slice A0 n0 c0, .slice A1 n c1, .slice A2 n2 c2, .slice A3 n3 c3, .slice A4 n4 c4, .slice A5 n5 c5, .slice A6 n6 c6, .int .u64 g.seed, .int .i64 g.sc, .int .i64 g.tu, .int .i64 g.ov, .int .i64 g.it, .int .i64 g.go] 31 (0, 0)) := by subst hW1; exact World.alloc_heap_new w _
    have s0 : w.heap.size < W1.heap.size := by subst hW1; simp
    have hb0 : Below w.heap.size w W1 := by subst hW1; exact (Below.refl _ w).alloc (Nat.le_refl _) _
    have HO := Lib.hid (SamW.wo_below HW.out hb0)
    have HB := Lib.hid hb0
    clear hb0
    obtain ⟨x0, x1, x2, x3, x4, x5, x6, x7, x8, x9, x10, x11, x12, xf⟩ := cells13 h0
    go_wp2_with (first | (go_at_call 36; refine (Sml.small_w g HO.out).mono ?_; rintro e u1 ⟨rfl, hb⟩; rw [HS.out]; have t1 := (hb.block _ s0).trans h0; have t2 := Nat.lt_of_lt_of_le s0 hb.size; have t3 := Lib.hid (SamW.wo_below HO.out hb); have t4 := Lib.hid (HB.out.trans (hb.mono HB.out.size)); clear h0 s0 HO HB x0 x1 x2 x3 x4 x5 x6 x7 x8 x9 x10 x11 x12 xf; have h0 := t1; have s0 := t2; have HO := t3; have HB := t4; clear t1 t2 t3 t4; obtain ⟨x0, x1, x2, x3, x4, x5, x6, x7, x8, x9, x10, x11, x12, xf⟩ := cells13 h0; clear hb) | (go_at_call 37; refine (right_w g HO.out).mono ?_; rintro e u2 ⟨rfl, hb⟩; rw [HQ.out]; have t1 := (hb.block _ s0).trans h0; have t2 := Nat.lt_of_lt_of_le s0 hb.size; have t3 := Lib.hid (SamW.wo_below HO.out hb); have t4 := Lib.hid (HB.out.trans (hb.mono HB.out.size)); clear h0 s0 HO HB x0 x1 x2 x3 x4 x5 x6 x7 x8 x9 x10 x11 x12 xf; have h0 := t1; have s0 := t2; have HO := t3; have HB := t4; clear t1 t2 t3 t4; obtain ⟨x0, x1, x2, x3, x4, x5, x6, x7, x8, x9, x10, x11, x12, xf⟩ := cells13 h0; clear hb) | (go_at_call 38; refine (AwkA.awake _).mono ?_; rintro e u7 ⟨rfl, hb⟩; have hz := HB.out.trans (hb.mono HB.out.size)))
    go_ret
    exact ⟨rfl, hz⟩
  have HG := Lib.hid (good_of HQ.out)
  go_enter Try.func7, Try.ntmps7
  obtain ⟨W1, hW1⟩ : ∃ W1, w.alloc (.cells #[.slice A0 n0 c0, .slice A1 n c1, .slice A2 n2 c2, .slice A3 n3 c3, .slice A4 n4 c4, .slice A5 n5 c5, .slice A6 n6 c6, .int .u64 g.seed, .int .i64 g.sc, .int .i64 g.tu, .int .i64 g.ov, .int .i64 g.it, .int .i64 g.go] 31) = W1 := ⟨_, rfl⟩
  have h0 : W1.heap[w.heap.size]? = some (.cells #[.slice A0 n0 c0, .slice A1 n c1, .slice A2 n2 c2, .slice A3 n3 c3, .slice A4 n4 c4, .slice A5 n5 c5, .slice A6 n6 c6, .int .u64 g.seed, .int .i64 g.sc, .int .i64 g.tu, .int .i64 g.ov, .int .i64 g.it, .int .i64 g.go] 31 (0, 0)) := by subst hW1; exact World.alloc_heap_new w _
  have s0 : w.heap.size < W1.heap.size := by subst hW1; simp
  have hb0 : Below w.heap.size w W1 := by subst hW1; exact (Below.refl _ w).alloc (Nat.le_refl _) _
  have HO := Lib.hid (SamW.wo_below HW.out hb0)
  have HB := Lib.hid hb0
  clear hb0
  obtain ⟨x0, x1, x2, x3, x4, x5, x6, x7, x8, x9, x10, x11, x12, xf⟩ := cells13 h0
  go_wp2_with (first | (go_at_call 36; refine (Sml.small_w g HO.out).mono ?_; rintro e u1 ⟨rfl, hb⟩; rw [HS.out]; have t1 := (hb.block _ s0).trans h0; have t2 := Nat.lt_of_lt_of_le s0 hb.size; have t3 := Lib.hid (SamW.wo_below HO.out hb); have t4 := Lib.hid (HB.out.trans (hb.mono HB.out.size)); clear h0 s0 HO HB x0 x1 x2 x3 x4 x5 x6 x7 x8 x9 x10 x11 x12 xf; have h0 := t1; have s0 := t2; have HO := t3; have HB := t4; clear t1 t2 t3 t4; obtain ⟨x0, x1, x2, x3, x4, x5, x6, x7, x8, x9, x10, x11, x12, xf⟩ := cells13 h0; clear hb) | (go_at_call 37; refine (right_w g HO.out).mono ?_; rintro e u2 ⟨rfl, hb⟩; rw [HQ.out]; have t1 := (hb.block _ s0).trans h0; have t2 := Nat.lt_of_lt_of_le s0 hb.size; have t3 := Lib.hid (SamW.wo_below HO.out hb); have t4 := Lib.hid (HB.out.trans (hb.mono HB.out.size)); clear h0 s0 HO HB x0 x1 x2 x3 x4 x5 x6 x7 x8 x9 x10 x11 x12 xf; have h0 := t1; have s0 := t2; have HO := t3; have HB := t4; clear t1 t2 t3 t4; obtain ⟨x0, x1, x2, x3, x4, x5, x6, x7, x8, x9, x10, x11, x12, xf⟩ := cells13 h0; clear hb))
  clear x0 x1 x2 x3 x4 x5 x6 x7 x8 x9 x10 x11 x12 xf
  refine (move_i g HG.out x y _ HO.out).mono ?_
  rintro e ua ⟨va, rfl, oa, hbe⟩
  have Oa := Lib.hid oa
  clear oa
  have hbk := hbe
  clear hbe
  have t := (hbk.block _ s0).trans h0; clear h0; have h0 := t; clear t; have t := Nat.lt_of_lt_of_le s0 hbk.size; clear s0; have s0 := t; clear t
  have t := Lib.hid (SamW.wo_below HO.out hbk); clear HO; have HO := t; clear t
  have t := Lib.hid (HB.out.trans (hbk.mono HB.out.size)); clear HB; have HB := t; clear t hbk
  have hx := Oa.out; obtain ⟨aA0, aA1, aA2, aA3, aA4, aA5, aA6, an0, ac0, an1, ac1, an2, ac2, an3, ac3, an4, ac4, an5, ac5, an6, ac6, rfl, _⟩ := hx
  obtain ⟨x0, x1, x2, x3, x4, x5, x6, x7, x8, x9, x10, x11, x12, xf⟩ := cells13 h0
  go_wp2_with fail
  clear x0 x1 x2 x3 x4 x5 x6 x7 x8 x9 x10 x11 x12 xf
  refine (MvM.move_ow g HG.out x y _ (SamW.wo_below HO.out ((Below.refl _ _).alloc (Nat.le_refl _) _))).mono ?_
  rintro e ub ⟨vb, rfl, ob, hbe⟩
  have Ob := Lib.hid ob
  clear ob
  obtain ⟨ha, sa, hbk⟩ := nb hbe
  clear hbe
  have t := (hbk.block _ s0).trans h0; clear h0; have h0 := t; clear t; have t := Nat.lt_of_lt_of_le s0 hbk.size; clear s0; have s0 := t; clear t
  have t := Lib.hid (SamW.wo_below HO.out hbk); clear HO; have HO := t; clear t
  have t := Lib.hid (SamW.wo_below Oa.out hbk); clear Oa; have Oa := t; clear t
  have t := Lib.hid (HB.out.trans (hbk.mono HB.out.size)); clear HB; have HB := t; clear t hbk
  have hx := Ob.out; obtain ⟨bA0, bA1, bA2, bA3, bA4, bA5, bA6, bn0, bc0, bn1, bc1, bn2, bc2, bn3, bc3, bn4, bc4, bn5, bc5, bn6, bc6, rfl, _⟩ := hx
  obtain ⟨x0, x1, x2, x3, x4, x5, x6, x7, x8, x9, x10, x11, x12, xf⟩ := cells13 h0
  go_wp2_with fail
  clear x0 x1 x2 x3 x4 x5 x6 x7 x8 x9 x10 x11 x12 xf
  refine (remove_i g HG.out x _ (SamW.wo_below HO.out ((Below.refl _ _).alloc (Nat.le_refl _) _))).mono ?_
  rintro e uc ⟨vc, rfl, oc, hbe⟩
  have Oc := Lib.hid oc
  clear oc
  obtain ⟨hb, sb, hbk⟩ := nb hbe
  clear hbe
  have t := (hbk.block _ s0).trans h0; clear h0; have h0 := t; clear t; have t := Nat.lt_of_lt_of_le s0 hbk.size; clear s0; have s0 := t; clear t
  have t := (hbk.block _ sa).trans ha; clear ha; have ha := t; clear t; have t := Nat.lt_of_lt_of_le sa hbk.size; clear sa; have sa := t; clear t
  have t := Lib.hid (SamW.wo_below HO.out hbk); clear HO; have HO := t; clear t
  have t := Lib.hid (SamW.wo_below Oa.out hbk); clear Oa; have Oa := t; clear t
  have t := Lib.hid (SamW.wo_below Ob.out hbk); clear Ob; have Ob := t; clear t
  have t := Lib.hid (HB.out.trans (hbk.mono HB.out.size)); clear HB; have HB := t; clear t hbk
  have hx := Oc.out; obtain ⟨cA0, cA1, cA2, cA3, cA4, cA5, cA6, cn0, cc0, cn1, cc1, cn2, cc2, cn3, cc3, cn4, cc4, cn5, cc5, cn6, cc6, rfl, _⟩ := hx
  obtain ⟨x0, x1, x2, x3, x4, x5, x6, x7, x8, x9, x10, x11, x12, xf⟩ := cells13 h0
  go_wp2_with fail
  clear x0 x1 x2 x3 x4 x5 x6 x7 x8 x9 x10 x11 x12 xf
  refine (MvM.remove_ow g HG.out x _ (SamW.wo_below HO.out ((Below.refl _ _).alloc (Nat.le_refl _) _))).mono ?_
  rintro e ud ⟨vd, rfl, od, hbe⟩
  have Od := Lib.hid od
  clear od
  obtain ⟨hc, sc, hbk⟩ := nb hbe
  clear hbe
  have t := (hbk.block _ s0).trans h0; clear h0; have h0 := t; clear t; have t := Nat.lt_of_lt_of_le s0 hbk.size; clear s0; have s0 := t; clear t
  have t := (hbk.block _ sa).trans ha; clear ha; have ha := t; clear t; have t := Nat.lt_of_lt_of_le sa hbk.size; clear sa; have sa := t; clear t
  have t := (hbk.block _ sb).trans hb; clear hb; have hb := t; clear t; have t := Nat.lt_of_lt_of_le sb hbk.size; clear sb; have sb := t; clear t
  have t := Lib.hid (SamW.wo_below HO.out hbk); clear HO; have HO := t; clear t
  have t := Lib.hid (SamW.wo_below Oa.out hbk); clear Oa; have Oa := t; clear t
  have t := Lib.hid (SamW.wo_below Ob.out hbk); clear Ob; have Ob := t; clear t
  have t := Lib.hid (SamW.wo_below Oc.out hbk); clear Oc; have Oc := t; clear t
  have t := Lib.hid (HB.out.trans (hbk.mono HB.out.size)); clear HB; have HB := t; clear t hbk
  have hx := Od.out; obtain ⟨dA0, dA1, dA2, dA3, dA4, dA5, dA6, dn0, dc0, dn1, dc1, dn2, dc2, dn3, dc3, dn4, dc4, dn5, dc5, dn6, dc6, rfl, _⟩ := hx
  obtain ⟨ax0, ax1, ax2, ax3, ax4, ax5, ax6, ax7, ax8, ax9, ax10, ax11, ax12, axf⟩ := cells13 ha
  obtain ⟨bx0, bx1, bx2, bx3, bx4, bx5, bx6, bx7, bx8, bx9, bx10, bx11, bx12, bxf⟩ := cells13 hb
  obtain ⟨cx0, cx1, cx2, cx3, cx4, cx5, cx6, cx7, cx8, cx9, cx10, cx11, cx12, cxf⟩ := cells13 hc
  have HR1 := Lib.hid (nested_of (mvG_good HG.out x y))
  have HR2 := Lib.hid (nested_of (rmG_good HG.out x))
  go_wp2_with (first | (go_at_call 43; with_reducible refine (same20_t (mvG g x y) _ (SamW.wo_below Oa.out ((Below.refl _ _).alloc (Nat.le_refl _) _)) (SamW.wo_below Ob.out ((Below.refl _ _).alloc (Nat.le_refl _) _))).mono ?_; rintro e v1 ⟨rfl, hbe⟩; obtain ⟨hd, sd, hbk⟩ := nb hbe; clear hbe ax0 ax1 ax2 ax3 ax4 ax5 ax6 ax7 ax8 ax9 ax10 ax11 ax12 axf bx0 bx1 bx2 bx3 bx4 bx5 bx6 bx7 bx8 bx9 bx10 bx11 bx12 bxf cx0 cx1 cx2 cx3 cx4 cx5 cx6 cx7 cx8 cx9 cx10 cx11 cx12 cxf; have t := (hbk.block _ sa).trans ha; clear ha; have ha := t; clear t; have t := Nat.lt_of_lt_of_le sa hbk.size; clear sa; have sa := t; clear t; have t := (hbk.block _ sb).trans hb; clear hb; have hb := t; clear t; have t := Nat.lt_of_lt_of_le sb hbk.size; clear sb; have sb := t; clear t; have t := (hbk.block _ sc).trans hc; clear hc; have hc := t; clear t; have t := Nat.lt_of_lt_of_le sc hbk.size; clear sc; have sc := t; clear t; have t := Lib.hid (SamW.wo_below HO.out hbk); clear HO; have HO := t; clear t; have t := Lib.hid (SamW.wo_below Oa.out hbk); clear Oa; have Oa := t; clear t; have t := Lib.hid (SamW.wo_below Ob.out hbk); clear Ob; have Ob := t; clear t; have t := Lib.hid (SamW.wo_below Oc.out hbk); clear Oc; have Oc := t; clear t; have t := Lib.hid (SamW.wo_below Od.out hbk); clear Od; have Od := t; clear t; have t := Lib.hid (HB.out.trans (hbk.mono HB.out.size)); clear HB; have HB := t; clear t hbk; obtain ⟨ax0, ax1, ax2, ax3, ax4, ax5, ax6, ax7, ax8, ax9, ax10, ax11, ax12, axf⟩ := cells13 ha; obtain ⟨cx0, cx1, cx2, cx3, cx4, cx5, cx6, cx7, cx8, cx9, cx10, cx11, cx12, cxf⟩ := cells13 hc; obtain ⟨dx0, dx1, dx2, dx3, dx4, dx5, dx6, dx7, dx8, dx9, dx10, dx11, dx12, dxf⟩ := cells13 hd) | (go_at_call 43; with_reducible refine (same20_t (rmG g x) _ Oc.out Od.out).mono ?_; rintro e v1 ⟨rfl, hbk⟩; clear ax0 ax1 ax2 ax3 ax4 ax5 ax6 ax7 ax8 ax9 ax10 ax11 ax12 axf cx0 cx1 cx2 cx3 cx4 cx5 cx6 cx7 cx8 cx9 cx10 cx11 cx12 cxf dx0 dx1 dx2 dx3 dx4 dx5 dx6 dx7 dx8 dx9 dx10 dx11 dx12 dxf; have t := (hbk.block _ sa).trans ha; clear ha; have ha := t; clear t; have t := Nat.lt_of_lt_of_le sa hbk.size; clear sa; have sa := t; clear t; have t := (hbk.block _ sb).trans hb; clear hb; have hb := t; clear t; have t := Nat.lt_of_lt_of_le sb hbk.size; clear sb; have sb := t; clear t; have t := (hbk.block _ sc).trans hc; clear hc; have hc := t; clear t; have t := Nat.lt_of_lt_of_le sc hbk.size; clear sc; have sc := t; clear t; have t := (hbk.block _ sd).trans hd; clear hd; have hd := t; clear t; have t := Nat.lt_of_lt_of_le sd hbk.size; clear sd; have sd := t; clear t; have t := Lib.hid (SamW.wo_below HO.out hbk); clear HO; have HO := t; clear t; have t := Lib.hid (SamW.wo_below Oa.out hbk); clear Oa; have Oa := t; clear t; have t := Lib.hid (SamW.wo_below Ob.out hbk); clear Ob; have Ob := t; clear t; have t := Lib.hid (SamW.wo_below Oc.out hbk); clear Oc; have Oc := t; clear t; have t := Lib.hid (SamW.wo_below Od.out hbk); clear Od; have Od := t; clear t; have t := Lib.hid (HB.out.trans (hbk.mono HB.out.size)); clear HB; have HB := t; clear t hbk; obtain ⟨ax0, ax1, ax2, ax3, ax4, ax5, ax6, ax7, ax8, ax9, ax10, ax11, ax12, axf⟩ := cells13 ha; obtain ⟨cx0, cx1, cx2, cx3, cx4, cx5, cx6, cx7, cx8, cx9, cx10, cx11, cx12, cxf⟩ := cells13 hc) | (go_at_call 37; with_reducible refine (right_w (mvG g x y) Oa.out).mono ?_; rintro e v1 ⟨rfl, hbk⟩; rw [HR1.out]; clear ax0 ax1 ax2 ax3 ax4 ax5 ax6 ax7 ax8 ax9 ax10 ax11 ax12 axf cx0 cx1 cx2 cx3 cx4 cx5 cx6 cx7 cx8 cx9 cx10 cx11 cx12 cxf; have t := (hbk.block _ sa).trans ha; clear ha; have ha := t; clear t; have t := Nat.lt_of_lt_of_le sa hbk.size; clear sa; have sa := t; clear t; have t := (hbk.block _ sb).trans hb; clear hb; have hb := t; clear t; have t := Nat.lt_of_lt_of_le sb hbk.size; clear sb; have sb := t; clear t; have t := (hbk.block _ sc).trans hc; clear hc; have hc := t; clear t; have t := Nat.lt_of_lt_of_le sc hbk.size; clear sc; have sc := t; clear t; have t := (hbk.block _ sd).trans hd; clear hd; have hd := t; clear t; have t := Nat.lt_of_lt_of_le sd hbk.size; clear sd; have sd := t; clear t; have t := Lib.hid (SamW.wo_below HO.out hbk); clear HO; have HO := t; clear t; have t := Lib.hid (SamW.wo_below Oa.out hbk); clear Oa; have Oa := t; clear t; have t := Lib.hid (SamW.wo_below Ob.out hbk); clear Ob; have Ob := t; clear t; have t := Lib.hid (SamW.wo_below Oc.out hbk); clear Oc; have Oc := t; clear t; have t := Lib.hid (SamW.wo_below Od.out hbk); clear Od; have Od := t; clear t; have t := Lib.hid (HB.out.trans (hbk.mono HB.out.size)); clear HB; have HB := t; clear t hbk; obtain ⟨cx0, cx1, cx2, cx3, cx4, cx5, cx6, cx7, cx8, cx9, cx10, cx11, cx12, cxf⟩ := cells13 hc) | (go_at_call 37; with_reducible refine (right_w (rmG g x) Oc.out).mono ?_; rintro e v1 ⟨rfl, hbk⟩; rw [HR2.out]; clear cx0 cx1 cx2 cx3 cx4 cx5 cx6 cx7 cx8 cx9 cx10 cx11 cx12 cxf; have t := (hbk.block _ sa).trans ha; clear ha; have ha := t; clear t; have t := Nat.lt_of_lt_of_le sa hbk.size; clear sa; have sa := t; clear t; have t := (hbk.block _ sb).trans hb; clear hb; have hb := t; clear t; have t := Nat.lt_of_lt_of_le sb hbk.size; clear sb; have sb := t; clear t; have t := (hbk.block _ sc).trans hc; clear hc; have hc := t; clear t; have t := Nat.lt_of_lt_of_le sc hbk.size; clear sc; have sc := t; clear t; have t := (hbk.block _ sd).trans hd; clear hd; have hd := t; clear t; have t := Nat.lt_of_lt_of_le sd hbk.size; clear sd; have sd := t; clear t; have t := Lib.hid (SamW.wo_below HO.out hbk); clear HO; have HO := t; clear t; have t := Lib.hid (SamW.wo_below Oa.out hbk); clear Oa; have Oa := t; clear t; have t := Lib.hid (SamW.wo_below Ob.out hbk); clear Ob; have Ob := t; clear t; have t := Lib.hid (SamW.wo_below Oc.out hbk); clear Oc; have Oc := t; clear t; have t := Lib.hid (SamW.wo_below Od.out hbk); clear Od; have Od := t; clear t; have t := Lib.hid (HB.out.trans (hbk.mono HB.out.size)); clear HB; have HB := t; clear t hbk) | (go_at_call 38; refine (AwkA.awake _).mono ?_; rintro e u7 ⟨rfl, hb⟩; have hz := HB.out.trans (hb.mono HB.out.size)))
  go_ret
  exact ⟨rfl, hz⟩

theorem own : ownKnob Try.prog.godebug = none := by kernel_rfl

set_option maxRecDepth 100000 in
set_option maxHeartbeats 2000000 in
theorem lifted (os : Os) (started : os.Started) (H : Type) (enc : TypeId × Value → H) :
    ReturnsInHanded {} Try.checked os 7 .any (Rows.nestMovesSpec.pre6 enc Try.prog Try.f7 Rows.nestMovesRow.domain false) (Rows.nestMovesSpec.post enc Try.prog Try.f7 false true false false) := by
  refine returnsInHanded_of_change_sized (C := Try.checked) own started (by kernel_rfl) Try.func7
    (ChangeSpec.witness6 (enc := enc) (C := Try.checked) false ⟨#[], #[.agg #[.slice none 0 0, .slice none 0 0, .slice none 0 0, .slice none 0 0, .slice none 0 0, .slice none 0 0, .slice none 0 0, .int .u64 0, .int .i64 0, .int .i64 0, .int .i64 0, .int .i64 0, .int .i64 0], .int .i64 0, .int .i64 0], []⟩ 8 (by kernel_rfl) (by kernel_rfl) (by kernel_rfl) (by kernel_rfl)) ?_
  intro W base args ds gs before hval0 hW hcnd hsz0 _
  have hval : ∀ (j : Nat) t v, Try.f7.params[j]? = some t → args[j]? = some v → Value.okWide Try.prog W .any base t v := hval0
  have hW' := hW
  obtain ⟨p, q, hA0, hV, rfl, hfz, hnd⟩ := hW
  have hA : DataW.TrodAll enc Try.prog W 0 (fun _ => true) true Try.f7.params.toList args.toList ds p := hA0
  rw [Try.params7] at hA hval
  obtain ⟨v0, vs0, d0, ds0, p0, q0, hargs, rfl, rfl, h0, r0⟩ := trodAll_cons hA
  obtain ⟨v1, vs1, d1, ds1, p1, q1, rfl, rfl, rfl, h1, r1⟩ := trodAll_cons r0
  obtain ⟨v2, vs2, d2, ds2, p2, q2, rfl, rfl, rfl, h2, r2⟩ := trodAll_cons r1
  obtain ⟨rfl, rfl, rfl⟩ := trodAll_nil r2
  obtain rfl : args = #[v0, v1, v2] := by cases args; simp_all
  clear hV
  have hsz : (DataW.weightsEach Try.prog (31 :: 3 :: 3 :: _) (d0 :: d1 :: d2 :: _)).all (· ≤ reachBytes) = true := hsz0
  have f0 : WorldD.Fitting d0 31 := by have z := hsz; simp only [DataW.weightsEach, List.all_append, Bool.and_eq_true] at z; exact z.1
  obtain ⟨g0, o0⟩ := WorldD.open_wo (hval 0 31 v0 rfl rfl) h0 f0
  obtain ⟨a1, rfl, rfl, rfl, w1⟩ := open_int Try.underlying3 (hval 1 3 v1 rfl rfl) h1
  obtain ⟨a2, rfl, rfl, rfl, w2⟩ := open_int Try.underlying3 (hval 2 3 v2 rfl rfl) h2
  clear hA0 hval0
  refine (walk W v0 g0 o0 a1 w1 a2 w2).mono fun e W' ⟨he, hg⟩ => ?_
  subst he
  exact ⟨_, rfl, Law.post (by kernel_rfl) (by kernel_rfl) Try.underlying4 rfl rfl hW' hg ⟨rfl, rfl, rfl⟩⟩

theorem over : Rows.nestMovesRow.holds Try.pinned (OpenSpec.ofChange Rows.nestMovesSpec) :=
  OpenClaim.holds_of_wide 7 Try.f7 rfl rfl rfl rfl rfl rfl rfl ⟨rfl, rfl, rfl, rfl, rfl⟩ rfl rfl rfl rfl rfl (by kernel_rfl) Try.func7 (by kernel_rfl)
    (of_decide_eq_true (by kernel_rfl)) (by unfold Func.isWrapper; first | (rw [if_pos (by decide +kernel)]; kernel_rfl) | (rw [if_neg (by decide +kernel)]; exact ⟨rfl, rfl⟩))
    (fun os started H enc _ => lifted os started H enc)

/-- The statement. -/
theorem proved : Rows.NestMovesSaid := over
#print axioms proved
end Go.Proofs.Ytncdicagadbafaa.nestMoves
