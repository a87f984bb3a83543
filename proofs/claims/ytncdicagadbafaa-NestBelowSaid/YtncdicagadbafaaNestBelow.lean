/- NestBelow: what is below a thing is just what is within it. Conditions: none beyond what every reading of the arguments gives. -/
import Derived.Test.YtncdicagadbafaaLaw
import Derived.Test.YtncdicagadbafaaSml
import Derived.Test.YtncdicagadbafaaSamW
namespace Go.Proofs.Ytncdicagadbafaa.nestBelow
open Go Go.ChangeShapes Go.WideShapes Go.ChangeAt Go.RowKit NestP NestW NestX NestY ValP ValW ValX ValR MixP Sq WorldD CopP MoveP MvA AwkP WoC

theorem count_lt {L : List Int} {y : Int} (hn : L.Nodup) : L.countP (fun e => decide (e < y + 1)) = L.countP (fun e => decide (e < y)) + L.count y := by
  induction L with
  | nil => rfl
  | cons a L ih =>
    rw [List.nodup_cons] at hn
    rw [List.countP_cons, List.countP_cons, List.count_cons, ih hn.2]
    by_cases h : a = y
    · subst h
      simp only [decide_eq_true_eq]
      rw [if_pos (by omega), if_neg (by omega), if_pos (by simp)]
      omega
    · have : (a < y + 1) ↔ a < y := by omega
      simp only [decide_eq_true_eq, this, beq_iff_eq, h, if_false]
      omega
theorem count_all {L : List Int} {y : Int} (h : ∀ e ∈ L, e < y) : L.countP (fun e => decide (e < y)) = L.length :=
  List.countP_eq_length.2 fun e he => by simpa using h e he
theorem count_take {L : List Int} {j : Nat} {y : Int} (hj : j < L.length) : (L.take (j + 1)).count y = (L.take j).count y + if L[j] = y then 1 else 0 := by
  rw [List.take_succ_eq_append_getElem hj, List.count_append, List.count_singleton]
  simp

set_option maxRecDepth 100000 in
set_option maxHeartbeats 4000000 in
theorem walk (w : World) (v : Value) (g : Wd) (ho : Wo w v g) (x : Int) (_ : (Lit.int .i64 x).wf = true) :
    Calls Try.prog 10 #[v, .int .i64 x] w fun e w' => e = .returned (.bool true) ∧ Below w.heap.size w w' := by
  have HW := Lib.hid ho
  have hx := ho
  obtain ⟨A0, A1, A2, A3, A4, A5, A6, n0, c0, n, c1, n2, c2, n3, c3, n4, c4, n5, c5, n6, c6, rfl, ⟨_, r1, _⟩, _, _, _⟩ := hx
  have HNg := Lib.hid (show n = g.n from r1.len)
  clear r1 ho
  obtain ⟨q, hq⟩ : ∃ q, Sml.sml g = q := ⟨_, rfl⟩
  have HS := Lib.hid hq
  cases q
  · clear hq
    go_enter Try.func10, Try.ntmps10
    obtain ⟨W1, hW1⟩ : ∃ W1, w.alloc (.cells #[.slice A0 n0 c0, .slice A1 n c1, .slice A2 n2 c2, .slice A3 n3 c3, .slice A4 n4 c4, .slice A5 n5 c5, .slice A6 n6 c6, .int .u64 g.seed, .int .i64 g.sc, .int .i64 g.tu, .int .i64 g.ov, .int .i64 g.it, .int .i64 g.go] 31) = W1 := ⟨_, rfl⟩
    have h0 : W1.heap[w.heap.size]? = some (.cells #[.slice A0 n0 c0, .slice A1 n c1, .slice A2 n2 c2, .slice A3 n3 c3, .slice A4 n4 c4, .slice A5 n5 c5, .slice A6 n6 c6, .int .u64 g.seed, .int .i64 g.sc, .int .i64 g.tu, .int .i64 g.ov, .int .i64 g.it, .int .i64 g.go] 31 (0, 0)) := by subst hW1; exact World.alloc_heap_new w _
    have s0 : w.heap.size < W1.heap.size := by subst hW1; simp
    have hb0 : Below w.heap.size w W1 := by subst hW1; exact (Below.refl _ w).alloc (Nat.le_refl _) _
    have HO := Lib.hid (SamW.wo_below HW.out hb0)
    have HB := Lib.hid hb0
    clear hb0
    obtain ⟨x0, x1, x2, x3, x4, x5, x6, x7, x8, x9, x10, x11, x12, xf⟩ := cells13 h0
    go_wp2_with (first | (go_at_call 36; refine (Sml.small_w g HO.out).mono ?_; rintro e u1 ⟨rfl, hb⟩; rw [HS.out]; have t1 := (hb.block _ s0).trans h0; have t2 := Nat.lt_of_lt_of_le s0 hb.size; have t3 := Lib.hid (SamW.wo_below HO.out hb); have t4 := Lib.hid (HB.out.trans (hb.mono HB.out.size)); clear h0 s0 HO HB x0 x1 x2 x3 x4 x5 x6 x7 x8 x9 x10 x11 x12 xf; have h0 := t1; have s0 := t2; have HO := t3; have HB := t4; clear t1 t2 t3 t4; obtain ⟨x0, x1, x2, x3, x4, x5, x6, x7, x8, x9, x10, x11, x12, xf⟩ := cells13 h0; clear hb) | (go_at_call 38; refine (AwkA.awake _).mono ?_; rintro e u7 ⟨rfl, hb⟩; have hz := HB.out.trans (hb.mono HB.out.size)))
    go_ret
    exact ⟨rfl, hz⟩
  have hs60 : g.n ≤ 60 := by unfold Sml.sml at hq; simp only [Bool.and_eq_true, decide_eq_true_eq] at hq; exact hq.1.1
  clear hq
  obtain ⟨q, hq⟩ : ∃ q, nested g = q := ⟨_, rfl⟩
  have HQ := Lib.hid hq
  clear hq
  cases q
  · go_enter Try.func10, Try.ntmps10
    obtain ⟨W1, hW1⟩ : ∃ W1, w.alloc (.cells #[.slice A0 n0 c0, .slice A1 n c1, .slice A2 n2 c2, .slice A3 n3 c3, .slice A4 n4 c4, .slice A5 n5 c5, .slice A6 n6 c6, .int .u64 g.seed, .int .i64 g.sc, .int .i64 g.tu, .int .i64 g.ov, .int .i64 g.it, .int .i64 g.go] 31) = W1 := ⟨_, rfl⟩
    have h0 : W1.heap[w.heap.size]? = some (.cells #[.slice A0 n0 c0, .slice A1 n c1, .slice A2 n2 c2, .slice A3 n3 c3, .slice A4 n4 c4, .slice A5 n5 c5, .slice A6 n6 c6, .int .u64 g.seed, .int .i64 g.sc, .int .i64 g.tu, .int .i64 g.ov, .int .i64 g.it, .int .i64 g.go] 31 (0, 0)) := by subst hW1; exact World.alloc_heap_new w _
    have s0 : w.heap.size < W1.heap.size := by subst hW1; simp
    have hb0 : Below w.heap.size w W1 := by subst hW1; exact (Below.refl _ w).alloc (Nat.le_refl _) _
    have HO := Lib.hid (SamW.wo_below HW.out hb0)
    have HB := Lib.hid hb0
    clear hb0
    obtain ⟨x0, x1, x2, x3, x4, x5, x6, x7, x8, x9, x10, x11, x12, xf⟩ := cells13 h0
    go_wp2_with (first | (go_at_call 36; refine (Sml.small_w g HO.out).mono ?_; rintro e u1 ⟨rfl, hb⟩; rw [HS.out]; have t1 := (hb.block _ s0).trans h0; have t2 := Nat.lt_of_lt_of_le s0 hb.size; have t3 := Lib.hid (SamW.wo_below HO.out hb); have t4 := Lib.hid (HB.out.trans (hb.mono HB.out.size)); clear h0 s0 HO HB x0 x1 x2 x3 x4 x5 x6 x7 x8 x9 x10 x11 x12 xf; have h0 := t1; have s0 := t2; have HO := t3; have HB := t4; clear t1 t2 t3 t4; obtain ⟨x0, x1, x2, x3, x4, x5, x6, x7, x8, x9, x10, x11, x12, xf⟩ := cells13 h0; clear hb) | (go_at_call 37; refine (right_w g HO.out).mono ?_; rintro e u2 ⟨rfl, hb⟩; rw [HQ.out]; have t1 := (hb.block _ s0).trans h0; have t2 := Nat.lt_of_lt_of_le s0 hb.size; have t3 := Lib.hid (SamW.wo_below HO.out hb); have t4 := Lib.hid (HB.out.trans (hb.mono HB.out.size)); clear h0 s0 HO HB x0 x1 x2 x3 x4 x5 x6 x7 x8 x9 x10 x11 x12 xf; have h0 := t1; have s0 := t2; have HO := t3; have HB := t4; clear t1 t2 t3 t4; obtain ⟨x0, x1, x2, x3, x4, x5, x6, x7, x8, x9, x10, x11, x12, xf⟩ := cells13 h0; clear hb) | (go_at_call 38; refine (AwkA.awake _).mono ?_; rintro e u7 ⟨rfl, hb⟩; have hz := HB.out.trans (hb.mono HB.out.size)))
    go_ret
    exact ⟨rfl, hz⟩
  have HG := Lib.hid (good_of HQ.out)
  obtain ⟨q, hq⟩ : ∃ q, isT g.n x = q := ⟨_, rfl⟩
  have HX := Lib.hid hq
  clear hq
  cases q
  · go_enter Try.func10, Try.ntmps10
    obtain ⟨W1, hW1⟩ : ∃ W1, w.alloc (.cells #[.slice A0 n0 c0, .slice A1 n c1, .slice A2 n2 c2, .slice A3 n3 c3, .slice A4 n4 c4, .slice A5 n5 c5, .slice A6 n6 c6, .int .u64 g.seed, .int .i64 g.sc, .int .i64 g.tu, .int .i64 g.ov, .int .i64 g.it, .int .i64 g.go] 31) = W1 := ⟨_, rfl⟩
    have h0 : W1.heap[w.heap.size]? = some (.cells #[.slice A0 n0 c0, .slice A1 n c1, .slice A2 n2 c2, .slice A3 n3 c3, .slice A4 n4 c4, .slice A5 n5 c5, .slice A6 n6 c6, .int .u64 g.seed, .int .i64 g.sc, .int .i64 g.tu, .int .i64 g.ov, .int .i64 g.it, .int .i64 g.go] 31 (0, 0)) := by subst hW1; exact World.alloc_heap_new w _
    have s0 : w.heap.size < W1.heap.size := by subst hW1; simp
    have hb0 : Below w.heap.size w W1 := by subst hW1; exact (Below.refl _ w).alloc (Nat.le_refl _) _
    have HO := Lib.hid (SamW.wo_below HW.out hb0)
    have HB := Lib.hid hb0
    clear hb0
    obtain ⟨x0, x1, x2, x3, x4, x5, x6, x7, x8, x9, x10, x11, x12, xf⟩ := cells13 h0
    go_wp2_with (first | (go_at_call 36; refine (Sml.small_w g HO.out).mono ?_; rintro e u1 ⟨rfl, hb⟩; rw [HS.out]; have t1 := (hb.block _ s0).trans h0; have t2 := Nat.lt_of_lt_of_le s0 hb.size; have t3 := Lib.hid (SamW.wo_below HO.out hb); have t4 := Lib.hid (HB.out.trans (hb.mono HB.out.size)); clear h0 s0 HO HB x0 x1 x2 x3 x4 x5 x6 x7 x8 x9 x10 x11 x12 xf; have h0 := t1; have s0 := t2; have HO := t3; have HB := t4; clear t1 t2 t3 t4; obtain ⟨x0, x1, x2, x3, x4, x5, x6, x7, x8, x9, x10, x11, x12, xf⟩ := cells13 h0; clear hb) | (go_at_call 37; refine (right_w g HO.out).mono ?_; rintro e u2 ⟨rfl, hb⟩; rw [HQ.out]; have t1 := (hb.block _ s0).trans h0; have t2 := Nat.lt_of_lt_of_le s0 hb.size; have t3 := Lib.hid (SamW.wo_below HO.out hb); have t4 := Lib.hid (HB.out.trans (hb.mono HB.out.size)); clear h0 s0 HO HB x0 x1 x2 x3 x4 x5 x6 x7 x8 x9 x10 x11 x12 xf; have h0 := t1; have s0 := t2; have HO := t3; have HB := t4; clear t1 t2 t3 t4; obtain ⟨x0, x1, x2, x3, x4, x5, x6, x7, x8, x9, x10, x11, x12, xf⟩ := cells13 h0; clear hb) | (go_at_call 45; refine (iso_w g x HO.out).mono ?_; rintro e u3 ⟨rfl, hb⟩; rw [HX.out]; have t1 := (hb.block _ s0).trans h0; have t2 := Nat.lt_of_lt_of_le s0 hb.size; have t3 := Lib.hid (SamW.wo_below HO.out hb); have t4 := Lib.hid (HB.out.trans (hb.mono HB.out.size)); clear h0 s0 HO HB x0 x1 x2 x3 x4 x5 x6 x7 x8 x9 x10 x11 x12 xf; have h0 := t1; have s0 := t2; have HO := t3; have HB := t4; clear t1 t2 t3 t4; obtain ⟨x0, x1, x2, x3, x4, x5, x6, x7, x8, x9, x10, x11, x12, xf⟩ := cells13 h0; clear hb) | (go_at_call 38; refine (AwkA.awake _).mono ?_; rintro e u7 ⟨rfl, hb⟩; have hz := HB.out.trans (hb.mono HB.out.size)))
    go_ret
    exact ⟨rfl, hz⟩
  have hn60 : n ≤ 60 := by have := HNg.out; omega
  obtain ⟨L, hL⟩ : ∃ L, below g g.n x = L := ⟨_, rfl⟩
  obtain ⟨m, hm⟩ : ∃ m, L.length = m := ⟨_, rfl⟩
  have HM := Lib.hid (show below g g.n x = L from hL)
  have HND := Lib.hid (show L.Nodup from hL ▸ below_nodup HG.out g.n x (by omega))
  have HME := Lib.hid (show ∀ y : Int, y ∈ L ↔ isT g.n y = true ∧ y ≠ x ∧ x ∈ ups g y from fun y => by rw [← hL, mem_below HG.out g.n x y (by omega)]; exact ⟨fun h => h.2, fun h => ⟨HX.out, h⟩⟩)
  have HLN := Lib.hid (show m ≤ 60 from hm ▸ Nat.le_trans (few HND.out fun e he => ((HME.out e).1 he).1) (by omega))
  have hXT := isT_iff.1 HX.out
  have hn1 : 1 ≤ n := by have := HNg.out; omega
  have hm60 := HLN.out
  have HLE := Lib.hid hm
  clear hL hXT hm
  go_enter Try.func10, Try.ntmps10
  obtain ⟨W1, hW1⟩ : ∃ W1, w.alloc (.cells #[.slice A0 n0 c0, .slice A1 n c1, .slice A2 n2 c2, .slice A3 n3 c3, .slice A4 n4 c4, .slice A5 n5 c5, .slice A6 n6 c6, .int .u64 g.seed, .int .i64 g.sc, .int .i64 g.tu, .int .i64 g.ov, .int .i64 g.it, .int .i64 g.go] 31) = W1 := ⟨_, rfl⟩
  have h0 : W1.heap[w.heap.size]? = some (.cells #[.slice A0 n0 c0, .slice A1 n c1, .slice A2 n2 c2, .slice A3 n3 c3, .slice A4 n4 c4, .slice A5 n5 c5, .slice A6 n6 c6, .int .u64 g.seed, .int .i64 g.sc, .int .i64 g.tu, .int .i64 g.ov, .int .i64 g.it, .int .i64 g.go] 31 (0, 0)) := by subst hW1; exact World.alloc_heap_new w _
  have s0 : w.heap.size < W1.heap.size := by subst hW1; simp
  have hb0 : Below w.heap.size w W1 := by subst hW1; exact (Below.refl _ w).alloc (Nat.le_refl _) _
  have HO := Lib.hid (SamW.wo_below HW.out hb0)
  have HB := Lib.hid hb0
  clear hb0
  obtain ⟨x0, x1, x2, x3, x4, x5, x6, x7, x8, x9, x10, x11, x12, xf⟩ := cells13 h0
  go_wp2_with (first | (go_at_call 36; refine (Sml.small_w g HO.out).mono ?_; rintro e u1 ⟨rfl, hb⟩; rw [HS.out]; have t1 := (hb.block _ s0).trans h0; have t2 := Nat.lt_of_lt_of_le s0 hb.size; have t3 := Lib.hid (SamW.wo_below HO.out hb); have t4 := Lib.hid (HB.out.trans (hb.mono HB.out.size)); clear h0 s0 HO HB x0 x1 x2 x3 x4 x5 x6 x7 x8 x9 x10 x11 x12 xf; have h0 := t1; have s0 := t2; have HO := t3; have HB := t4; clear t1 t2 t3 t4; obtain ⟨x0, x1, x2, x3, x4, x5, x6, x7, x8, x9, x10, x11, x12, xf⟩ := cells13 h0; clear hb) | (go_at_call 37; refine (right_w g HO.out).mono ?_; rintro e u2 ⟨rfl, hb⟩; rw [HQ.out]; have t1 := (hb.block _ s0).trans h0; have t2 := Nat.lt_of_lt_of_le s0 hb.size; have t3 := Lib.hid (SamW.wo_below HO.out hb); have t4 := Lib.hid (HB.out.trans (hb.mono HB.out.size)); clear h0 s0 HO HB x0 x1 x2 x3 x4 x5 x6 x7 x8 x9 x10 x11 x12 xf; have h0 := t1; have s0 := t2; have HO := t3; have HB := t4; clear t1 t2 t3 t4; obtain ⟨x0, x1, x2, x3, x4, x5, x6, x7, x8, x9, x10, x11, x12, xf⟩ := cells13 h0; clear hb) | (go_at_call 45; refine (iso_w g x HO.out).mono ?_; rintro e u3 ⟨rfl, hb⟩; rw [HX.out]; have t1 := (hb.block _ s0).trans h0; have t2 := Nat.lt_of_lt_of_le s0 hb.size; have t3 := Lib.hid (SamW.wo_below HO.out hb); have t4 := Lib.hid (HB.out.trans (hb.mono HB.out.size)); clear h0 s0 HO HB x0 x1 x2 x3 x4 x5 x6 x7 x8 x9 x10 x11 x12 xf; have h0 := t1; have s0 := t2; have HO := t3; have HB := t4; clear t1 t2 t3 t4; obtain ⟨x0, x1, x2, x3, x4, x5, x6, x7, x8, x9, x10, x11, x12, xf⟩ := cells13 h0; clear hb) | (go_at_call 50; refine (below_w g HG.out (by omega) x HO.out).mono ?_; rintro e u4 ⟨Al, cl, rfl, hr, hb⟩; rw [HM.out, HLE.out] at hr; rw [HM.out, HLE.out]; have t1 := (hb.block _ s0).trans h0; have t2 := Nat.lt_of_lt_of_le s0 hb.size; have t3 := Lib.hid (SamW.wo_below HO.out hb); have t4 := Lib.hid (HB.out.trans (hb.mono HB.out.size)); clear h0 s0 HO HB x0 x1 x2 x3 x4 x5 x6 x7 x8 x9 x10 x11 x12 xf; have h0 := t1; have s0 := t2; have HO := t3; have HB := t4; clear t1 t2 t3 t4; obtain ⟨x0, x1, x2, x3, x4, x5, x6, x7, x8, x9, x10, x11, x12, xf⟩ := cells13 h0; clear hb; have HL := Lib.hid hr; clear hr))
  go_loopw [6, 7] (fun nn yy wr => ∃ (y cc : Nat), 1 ≤ y ∧ y ≤ n ∧ nn = .int .i64 (cc : Int) ∧ yy = .int .i64 (y : Int) ∧ cc = L.countP (fun e => decide (e < (y : Int))) ∧ Wo wr (.agg #[.slice A0 n0 c0, .slice A1 n c1, .slice A2 n2 c2, .slice A3 n3 c3, .slice A4 n4 c4, .slice A5 n5 c5, .slice A6 n6 c6, .int .u64 g.seed, .int .i64 g.sc, .int .i64 g.tu, .int .i64 g.ov, .int .i64 g.it, .int .i64 g.go]) g ∧ wr.heap[w.heap.size]? = some (.cells #[.slice A0 n0 c0, .slice A1 n c1, .slice A2 n2 c2, .slice A3 n3 c3, .slice A4 n4 c4, .slice A5 n5 c5, .slice A6 n6 c6, .int .u64 g.seed, .int .i64 g.sc, .int .i64 g.tu, .int .i64 g.ov, .int .i64 g.it, .int .i64 g.go] 31 (0, 0)) ∧ w.heap.size < wr.heap.size ∧ Below w.heap.size w wr ∧ Rd I wr Al m L) (fun _ yy _ => n - (intOf yy).toNat)
  case atStart => exact ⟨1, 0, by omega, by omega, rfl, rfl, by rw [List.countP_eq_zero.2 fun e he => by have := isT_iff.1 ((HME.out e).1 he).1; simp; omega], HO.out, h0, s0, HB.out, HL.out⟩
  case round =>
    clear HO h0 s0 HB HL x0 x1 x2 x3 x4 x5 x6 x7 x8 x9 x10 x11 x12 xf
    obtain ⟨y, cc, hy1, hyn, rfl, rfl, hcc, hO, h0, s0, hB, hLr⟩ := hrel
    have HO := Lib.hid hO
    have HB := Lib.hid hB
    have HL := Lib.hid hLr
    have HCC := Lib.hid hcc
    clear hO hB hLr hcc
    obtain ⟨x0, x1, x2, x3, x4, x5, x6, x7, x8, x9, x10, x11, x12, xf⟩ := cells13 h0
    by_cases hlt : y < n
    · have hyl : (y : Int) < (n : Int) := by omega
      have HYT := Lib.hid (show isT g.n (y : Int) = true from isT_iff.2 ⟨by omega, by rw [← HNg.out]; omega⟩)
      have HS1 := Lib.hid (show L.countP (fun e => decide (e < ((y + 1 : Nat) : Int))) = cc + L.count (y : Int) by rw [HCC.out, ← count_lt HND.out]; rfl)
      have HC1 := Lib.hid (show L.count (y : Int) = if (y : Int) ∈ L then 1 else 0 by
        split
        · rename_i h; have h1 := List.nodup_iff_count.1 HND.out (y : Int); have h2 := List.count_pos_iff.2 h; omega
        · rename_i h; exact List.count_eq_zero_of_not_mem h)
      have hcc60 : cc ≤ 60 := by rw [HCC.out]; exact Nat.le_trans List.countP_le_length (by rw [HLE.out]; omega)
      go_wp2_with fail
      go_loopw [8, 9] (fun kk ii wr' => ∃ (j c : Nat), j ≤ m ∧ kk = .int .i64 (c : Int) ∧ ii = .int .i64 (j : Int) ∧ c = (L.take j).count (y : Int) ∧ wr' = wr) (fun _ ii _ => m - (intOf ii).toNat)
      case atStart => exact ⟨0, 0, by omega, rfl, rfl, by simp, rfl⟩
      case round =>
        obtain ⟨j, c, hj, rfl, rfl, hc, rfl⟩ := hrel
        have HC := Lib.hid hc
        clear hc
        by_cases hjm : j < m
        · obtain ⟨b, o, rfl, hb, hlj, hcell⟩ := HL.out.at_ hjm
          have j0 : (0 : Int) ≤ (j : Int) := by omega
          have j1 : (j : Int) < (m : Int) := by omega
          obtain ⟨z, hz⟩ : ∃ z, L[j] = z := ⟨_, rfl⟩
          rw [hz] at hcell
          unfold I at hcell
          have HT := Lib.hid (show (L.take (j + 1)).count (y : Int) = c + if z = (y : Int) then 1 else 0 by rw [count_take hlj, hz, HC.out])
          have hc60 : c ≤ 60 := by rw [HC.out]; exact Nat.le_trans List.count_le_length (by rw [List.length_take]; omega)
          clear hz hlj
          by_cases hzy : z = (y : Int)
          · have HT2 := Lib.hid (show c + 1 = (L.take (j + 1)).count (y : Int) by rw [HT.out, if_pos hzy])
            go_wp2_with fail
            go_roundw
            case rel => exact ⟨j + 1, c + 1, by omega, by go_num, by go_num, HT2.out, trivial⟩
            case measure => simp [intOf]; omega
          · have HT2 := Lib.hid (show c = (L.take (j + 1)).count (y : Int) by rw [HT.out, if_neg hzy]; rfl)
            go_wp2_with fail
            go_roundw
            case rel => exact ⟨j + 1, c, by omega, rfl, by go_num, HT2.out, trivial⟩
            case measure => simp [intOf]; omega
        · have HC2 := Lib.hid (show c = L.count (y : Int) by rw [HC.out, List.take_of_length_le (by rw [HLE.out]; omega)])
          by_cases hyx : (y : Int) = x
          · have h0c : c = 0 := by rw [HC2.out, HC1.out, if_neg fun h => ((HME.out _).1 h).2.1 hyx]
            subst h0c
            have HR := Lib.hid (show cc = L.countP (fun e => decide (e < ((y + 1 : Nat) : Int))) by rw [HS1.out, ← HC2.out]; rfl)
            go_wp2_with fail
            go_roundw
            case rel => exact ⟨y + 1, cc, by omega, by omega, by go_num, by go_num, HR.out, HO.out, h0, s0, HB.out, HL.out⟩
            case measure => simp [intOf]; omega
          · obtain ⟨q, hq⟩ : ∃ q, within g (y : Int) x = q := ⟨_, rfl⟩
            have HN := Lib.hid hq
            cases q
            · have h0c : c = 0 := by
                rw [HC2.out, HC1.out, if_neg fun h => by
                  have h2 := ((HME.out _).1 h).2.2
                  unfold within at hq
                  simp at hq
                  exact hq h2]
              subst h0c
              have HR := Lib.hid (show cc = L.countP (fun e => decide (e < ((y + 1 : Nat) : Int))) by rw [HS1.out, ← HC2.out]; rfl)
              clear hq
              go_wp2_with (go_at_call 52; refine (within_w g (y : Int) x HO.out).mono ?_; rintro e u5 ⟨rfl, hb⟩; rw [HN.out]; have hl := Lib.hid (HL.out.below hb); clear HL; have HL := hl; clear hl; have t1 := (hb.block _ s0).trans h0; have t2 := Nat.lt_of_lt_of_le s0 hb.size; have t3 := Lib.hid (SamW.wo_below HO.out hb); have t4 := Lib.hid (HB.out.trans (hb.mono HB.out.size)); clear h0 s0 HO HB x0 x1 x2 x3 x4 x5 x6 x7 x8 x9 x10 x11 x12 xf; have h0 := t1; have s0 := t2; have HO := t3; have HB := t4; clear t1 t2 t3 t4; obtain ⟨x0, x1, x2, x3, x4, x5, x6, x7, x8, x9, x10, x11, x12, xf⟩ := cells13 h0; clear hb)
              go_roundw
              case rel => exact ⟨y + 1, cc, by omega, by omega, by go_num, by go_num, HR.out, HO.out, h0, s0, HB.out, HL.out⟩
              case measure => simp [intOf]; omega
            · have h0c : c = 1 := by
                rw [HC2.out, HC1.out, if_pos]
                refine (HME.out _).2 ⟨HYT.out, hyx, ?_⟩
                unfold within at hq
                simpa using hq
              subst h0c
              have hbne : ((y : Int) != x) = true := bne_iff_ne.2 hyx
              have HR := Lib.hid (show cc + 1 = L.countP (fun e => decide (e < ((y + 1 : Nat) : Int))) by rw [HS1.out, ← HC2.out])
              clear hq
              go_wp2_with (go_at_call 52; refine (within_w g (y : Int) x HO.out).mono ?_; rintro e u5 ⟨rfl, hb⟩; rw [HN.out]; have hl := Lib.hid (HL.out.below hb); clear HL; have HL := hl; clear hl; have t1 := (hb.block _ s0).trans h0; have t2 := Nat.lt_of_lt_of_le s0 hb.size; have t3 := Lib.hid (SamW.wo_below HO.out hb); have t4 := Lib.hid (HB.out.trans (hb.mono HB.out.size)); clear h0 s0 HO HB x0 x1 x2 x3 x4 x5 x6 x7 x8 x9 x10 x11 x12 xf; have h0 := t1; have s0 := t2; have HO := t3; have HB := t4; clear t1 t2 t3 t4; obtain ⟨x0, x1, x2, x3, x4, x5, x6, x7, x8, x9, x10, x11, x12, xf⟩ := cells13 h0; clear hb)
              go_roundw
              case rel => exact ⟨y + 1, cc + 1, by omega, by omega, by go_num, by go_num, HR.out, HO.out, h0, s0, HB.out, HL.out⟩
              case measure => simp [intOf]; omega
    · have hyn2 : y = n := by omega
      have hcm : cc = m := by
        rw [HCC.out, ← HLE.out]
        exact count_all fun e he => by have h1 := isT_iff.1 ((HME.out e).1 he).1; have h2 := HNg.out; omega
      subst hcm
      go_wp2_with (go_at_call 38; refine (AwkA.awake _).mono ?_; rintro e u7 ⟨rfl, hb⟩; have hz := HB.out.trans (hb.mono HB.out.size))
      go_ret
      exact ⟨rfl, hz⟩

theorem own : ownKnob Try.prog.godebug = none := by kernel_rfl

set_option maxRecDepth 100000 in
set_option maxHeartbeats 2000000 in
theorem lifted (os : Os) (started : os.Started) (H : Type) (enc : TypeId × Value → H) :
    ReturnsInHanded {} Try.checked os 10 .any (Rows.nestBelowSpec.pre6 enc Try.prog Try.f10 Rows.nestBelowRow.domain false) (Rows.nestBelowSpec.post enc Try.prog Try.f10 false true false false) := by
  refine returnsInHanded_of_change_sized (C := Try.checked) own started (by kernel_rfl) Try.func10
    (ChangeSpec.witness6 (enc := enc) (C := Try.checked) false ⟨#[], #[.agg #[.slice none 0 0, .slice none 0 0, .slice none 0 0, .slice none 0 0, .slice none 0 0, .slice none 0 0, .slice none 0 0, .int .u64 0, .int .i64 0, .int .i64 0, .int .i64 0, .int .i64 0, .int .i64 0], .int .i64 0], []⟩ 8 (by kernel_rfl) (by kernel_rfl) (by kernel_rfl) (by kernel_rfl)) ?_
  intro W base args ds gs before hval0 hW hcnd hsz0 _
  have hval : ∀ (j : Nat) t v, Try.f10.params[j]? = some t → args[j]? = some v → Value.okWide Try.prog W .any base t v := hval0
  have hW' := hW
  obtain ⟨p, q, hA0, hV, rfl, hfz, hnd⟩ := hW
  have hA : DataW.TrodAll enc Try.prog W 0 (fun _ => true) true Try.f10.params.toList args.toList ds p := hA0
  rw [Try.params10] at hA hval
  obtain ⟨v0, vs0, d0, ds0, p0, q0, hargs, rfl, rfl, h0, r0⟩ := trodAll_cons hA
  obtain ⟨v1, vs1, d1, ds1, p1, q1, rfl, rfl, rfl, h1, r1⟩ := trodAll_cons r0
  obtain ⟨rfl, rfl, rfl⟩ := trodAll_nil r1
  obtain rfl : args = #[v0, v1] := by cases args; simp_all
  clear hV
  have hsz : (DataW.weightsEach Try.prog (31 :: 3 :: _) (d0 :: d1 :: _)).all (· ≤ reachBytes) = true := hsz0
  have f0 : WorldD.Fitting d0 31 := by have z := hsz; simp only [DataW.weightsEach, List.all_append, Bool.and_eq_true] at z; exact z.1
  obtain ⟨g0, o0⟩ := WorldD.open_wo (hval 0 31 v0 rfl rfl) h0 f0
  obtain ⟨a1, rfl, rfl, rfl, w1⟩ := open_int Try.underlying3 (hval 1 3 v1 rfl rfl) h1
  clear hA0 hval0
  refine (walk W v0 g0 o0 a1 w1).mono fun e W' ⟨he, hg⟩ => ?_
  subst he
  exact ⟨_, rfl, Law.post (by kernel_rfl) (by kernel_rfl) Try.underlying4 rfl rfl hW' hg ⟨rfl, rfl, rfl⟩⟩

theorem over : Rows.nestBelowRow.holds Try.pinned (OpenSpec.ofChange Rows.nestBelowSpec) :=
  OpenClaim.holds_of_wide 10 Try.f10 rfl rfl rfl rfl rfl rfl rfl ⟨rfl, rfl, rfl, rfl, rfl⟩ rfl rfl rfl rfl rfl (by kernel_rfl) Try.func10 (by kernel_rfl)
    (of_decide_eq_true (by kernel_rfl)) (by unfold Func.isWrapper; first | (rw [if_pos (by decide +kernel)]; kernel_rfl) | (rw [if_neg (by decide +kernel)]; exact ⟨rfl, rfl⟩))
    (fun os started H enc _ => lifted os started H enc)

/-- The statement. -/
theorem proved : Rows.NestBelowSaid := over
#print axioms proved
end Go.Proofs.Ytncdicagadbafaa.nestBelow
