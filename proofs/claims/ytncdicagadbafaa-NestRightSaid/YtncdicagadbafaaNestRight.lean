/- NestRight: nest.Right tells of any world of up to 60 things what the document says. Conditions: none beyond what every reading of the arguments gives. -/
import Derived.Test.YtncdicagadbafaaLaw
import Derived.Test.YtncdicagadbafaaSml
import Derived.Test.YtncdicagadbafaaSamW
import Derived.Test.YtncdicagadbafaaRgtA
import Derived.Deep.RegionHeld3
namespace Go.Proofs.Ytncdicagadbafaa.nestRight
open Go Go.ChangeShapes Go.WideShapes Go.ChangeAt Go.RowKit NestP NestW NestX NestY ValP ValW ValX ValR MixP Sq WorldD CopP MoveP MvA AwkP WoC

theorem c13 {w : World} {g : Nat} {t : TypeId} {z0 z1 z2 z3 z4 z5 z6 z7 z8 z9 z10 z11 z12 : Value} (h : w.heap[g]? = some (.cells #[z0, z1, z2, z3, z4, z5, z6, z7, z8, z9, z10, z11, z12] t (0, 0))) :
    w.cell? ⟨g, 0, none⟩ = some z0 ∧ w.cell? ⟨g, 1, none⟩ = some z1 ∧ w.cell? ⟨g, 2, none⟩ = some z2 ∧ w.cell? ⟨g, 3, none⟩ = some z3 ∧ w.cell? ⟨g, 4, none⟩ = some z4 ∧ w.cell? ⟨g, 5, none⟩ = some z5 ∧ w.cell? ⟨g, 6, none⟩ = some z6 ∧ w.cell? ⟨g, 7, none⟩ = some z7 ∧ w.cell? ⟨g, 8, none⟩ = some z8 ∧ w.cell? ⟨g, 9, none⟩ = some z9 ∧ w.cell? ⟨g, 10, none⟩ = some z10 ∧ w.cell? ⟨g, 11, none⟩ = some z11 ∧ w.cell? ⟨g, 12, none⟩ = some z12 := by
  obtain ⟨x0, x1, x2, x3, x4, x5, x6, x7, x8, x9, x10, x11, x12, xf⟩ := cells13 h
  exact ⟨x0, x1, x2, x3, x4, x5, x6, x7, x8, x9, x10, x11, x12⟩

theorem nright_w {v : Value} {w : World} (g : Wd) (hs : g.n ≤ 60) (ho : Wo w v g) :
    Calls Try.prog 82 #[v] w fun e w' => e = .returned (.bool (nested g)) ∧ Below w.heap.size w w' := by
  obtain ⟨A0, A1, A2, A3, A4, A5, A6, n0, c0, n, c1, n2, c2, n3, c3, n4, c4, n5, c5, n6, c6, rfl, ⟨r0, r1, r2, r3, r4, r5, r6⟩, hu, hw, hb⟩ := ho
  rw [← right_eq]
  exact RgtA.right_i g w r1 r2 r3 (by have := r1.len; unfold Wd.n at hs; omega)

set_option maxRecDepth 100000 in
set_option maxHeartbeats 8000000 in
theorem walk (w : World) (v : Value) (g : Wd) (ho : Wo w v g) :
    Calls Try.prog 20 #[v] w fun e w' => e = .returned (.bool true) ∧ Below w.heap.size w w' := by
  have HW := Lib.hid ho
  have hx := ho
  obtain ⟨A0, A1, A2, A3, A4, A5, A6, n0, c0, n, c1, n2, c2, n3, c3, n4, c4, n5, c5, n6, c6, rfl, ⟨_, r1, _⟩, _, _, _⟩ := hx
  have HNg := Lib.hid (show n = g.n from r1.len)
  clear r1 ho
  obtain ⟨q, hq⟩ : ∃ q, Sml.sml g = q := ⟨_, rfl⟩
  have HS := Lib.hid hq
  cases q
  · clear hq
    go_enter Try.func20, Try.ntmps20
    obtain ⟨W1, hW1⟩ : ∃ W1, w.alloc (.cells #[.slice A0 n0 c0, .slice A1 n c1, .slice A2 n2 c2, .slice A3 n3 c3, .slice A4 n4 c4, .slice A5 n5 c5, .slice A6 n6 c6, .int .u64 g.seed, .int .i64 g.sc, .int .i64 g.tu, .int .i64 g.ov, .int .i64 g.it, .int .i64 g.go] 31) = W1 := ⟨_, rfl⟩
    have h0 : W1.heap[w.heap.size]? = some (.cells #[.slice A0 n0 c0, .slice A1 n c1, .slice A2 n2 c2, .slice A3 n3 c3, .slice A4 n4 c4, .slice A5 n5 c5, .slice A6 n6 c6, .int .u64 g.seed, .int .i64 g.sc, .int .i64 g.tu, .int .i64 g.ov, .int .i64 g.it, .int .i64 g.go] 31 (0, 0)) := by subst hW1; exact World.alloc_heap_new w _
    have s0 : w.heap.size < W1.heap.size := by subst hW1; simp
    have hb0 : Below w.heap.size w W1 := by subst hW1; exact (Below.refl _ w).alloc (Nat.le_refl _) _
    have HO := Lib.hid (SamW.wo_below HW.out hb0)
    have HB := Lib.hid hb0
    clear hb0
    obtain ⟨x0, x1, x2, x3, x4, x5, x6, x7, x8, x9, x10, x11, x12, xf⟩ := cells13 h0
    go_wp2_with (first | (go_at_call 36; refine (Sml.small_w g HO.out).mono ?_; rintro e u1 ⟨rfl, hb⟩; rw [HS.out]; have t1 := (hb.block _ s0).trans h0; have t2 := Nat.lt_of_lt_of_le s0 hb.size; have t3 := Lib.hid (SamW.wo_below HO.out hb); have t4 := Lib.hid (HB.out.trans (hb.mono HB.out.size)); clear h0 s0 HO HB x0 x1 x2 x3 x4 x5 x6 x7 x8 x9 x10 x11 x12 xf; have h0 := t1; have s0 := t2; have HO := t3; have HB := t4; clear t1 t2 t3 t4; obtain ⟨x0, x1, x2, x3, x4, x5, x6, x7, x8, x9, x10, x11, x12, xf⟩ := cells13 h0; clear hb) | (go_at_call 38; refine (AwkA.awake _).mono ?_; rintro e u7 ⟨rfl, hb⟩; have hz := HB.out.trans (hb.mono HB.out.size)))
    go_ret
    exact ⟨rfl, hz⟩
  have hs60 : g.n ≤ 60 := by unfold Sml.sml at hq; simp only [Bool.and_eq_true, decide_eq_true_eq] at hq; exact hq.1.1
  clear hq
  obtain ⟨q, hq⟩ : ∃ q, nested g = q := ⟨_, rfl⟩
  have HQ := Lib.hid hq
  clear hq
  cases q
  all_goals
    go_enter Try.func20, Try.ntmps20
    obtain ⟨W1, hW1⟩ : ∃ W1, w.alloc (.cells #[.slice A0 n0 c0, .slice A1 n c1, .slice A2 n2 c2, .slice A3 n3 c3, .slice A4 n4 c4, .slice A5 n5 c5, .slice A6 n6 c6, .int .u64 g.seed, .int .i64 g.sc, .int .i64 g.tu, .int .i64 g.ov, .int .i64 g.it, .int .i64 g.go] 31) = W1 := ⟨_, rfl⟩
    have h0 : W1.heap[w.heap.size]? = some (.cells #[.slice A0 n0 c0, .slice A1 n c1, .slice A2 n2 c2, .slice A3 n3 c3, .slice A4 n4 c4, .slice A5 n5 c5, .slice A6 n6 c6, .int .u64 g.seed, .int .i64 g.sc, .int .i64 g.tu, .int .i64 g.ov, .int .i64 g.it, .int .i64 g.go] 31 (0, 0)) := by subst hW1; exact World.alloc_heap_new w _
    have s0 : w.heap.size < W1.heap.size := by subst hW1; simp
    have hb0 : Below w.heap.size w W1 := by subst hW1; exact (Below.refl _ w).alloc (Nat.le_refl _) _
    have HO := Lib.hid (SamW.wo_below HW.out hb0)
    have HB := Lib.hid hb0
    clear hb0
    obtain ⟨x0, x1, x2, x3, x4, x5, x6, x7, x8, x9, x10, x11, x12, xf⟩ := cells13 h0
    go_wp2_with (go_at_call 36; refine (Sml.small_w g HO.out).mono ?_; rintro e u1 ⟨rfl, hb⟩; rw [HS.out]; have t1 := (hb.block _ s0).trans h0; have t2 := Nat.lt_of_lt_of_le s0 hb.size; have t3 := Lib.hid (SamW.wo_below HO.out hb); have t4 := Lib.hid (HB.out.trans (hb.mono HB.out.size)); clear h0 s0 HO HB x0 x1 x2 x3 x4 x5 x6 x7 x8 x9 x10 x11 x12 xf; have h0 := t1; have s0 := t2; have HO := t3; have HB := t4; clear t1 t2 t3 t4; obtain ⟨x0, x1, x2, x3, x4, x5, x6, x7, x8, x9, x10, x11, x12, xf⟩ := cells13 h0; clear hb)
    have hd0 : Below u1.heap.size u1 u1.drew := Below.drew (Below.refl _ _)
    have t1 := (hd0.block _ s0).trans h0
    have t2 := Nat.lt_of_lt_of_le s0 hd0.size
    have t3 := Lib.hid (SamW.wo_below HO.out hd0)
    have t4 := Lib.hid (HB.out.trans (hd0.mono HB.out.size))
    clear h0 s0 HO HB x0 x1 x2 x3 x4 x5 x6 x7 x8 x9 x10 x11 x12 xf
    have h0 := t1
    have s0 := t2
    have HO := t3
    have HB := t4
    clear t1 t2 t3 t4
    obtain ⟨x0, x1, x2, x3, x4, x5, x6, x7, x8, x9, x10, x11, x12, xf⟩ := cells13 h0
    go_region_held3 (fun U => U.cell? ⟨w.heap.size, 0, none⟩ = some (.slice A0 n0 c0) ∧ U.cell? ⟨w.heap.size, 1, none⟩ = some (.slice A1 n c1) ∧ U.cell? ⟨w.heap.size, 2, none⟩ = some (.slice A2 n2 c2) ∧ U.cell? ⟨w.heap.size, 3, none⟩ = some (.slice A3 n3 c3) ∧ U.cell? ⟨w.heap.size, 4, none⟩ = some (.slice A4 n4 c4) ∧ U.cell? ⟨w.heap.size, 5, none⟩ = some (.slice A5 n5 c5) ∧ U.cell? ⟨w.heap.size, 6, none⟩ = some (.slice A6 n6 c6) ∧ U.cell? ⟨w.heap.size, 7, none⟩ = some (.int .u64 g.seed) ∧ U.cell? ⟨w.heap.size, 8, none⟩ = some (.int .i64 g.sc) ∧ U.cell? ⟨w.heap.size, 9, none⟩ = some (.int .i64 g.tu) ∧ U.cell? ⟨w.heap.size, 10, none⟩ = some (.int .i64 g.ov) ∧ U.cell? ⟨w.heap.size, 11, none⟩ = some (.int .i64 g.it) ∧ U.cell? ⟨w.heap.size, 12, none⟩ = some (.int .i64 g.go)) (exact c13 h0) (first | (go_at_call 82; refine (nright_w g hs60 HO.out).mono ?_; rintro e u2 ⟨rfl, hb⟩; rw [HQ.out]; have t1 := (hb.block _ s0).trans h0; have t2 := Nat.lt_of_lt_of_le s0 hb.size; have t3 := Lib.hid (SamW.wo_below HO.out hb); have t4 := Lib.hid (HB.out.trans (hb.mono HB.out.size)); clear h0 s0 HO HB x0 x1 x2 x3 x4 x5 x6 x7 x8 x9 x10 x11 x12 xf; have h0 := t1; have s0 := t2; have HO := t3; have HB := t4; clear t1 t2 t3 t4; obtain ⟨x0, x1, x2, x3, x4, x5, x6, x7, x8, x9, x10, x11, x12, xf⟩ := cells13 h0; clear hb) | (go_at_call 37; refine (right_w g HO.out).mono ?_; rintro e u2 ⟨rfl, hb⟩; rw [HQ.out]; have t1 := (hb.block _ s0).trans h0; have t2 := Nat.lt_of_lt_of_le s0 hb.size; have t3 := Lib.hid (SamW.wo_below HO.out hb); have t4 := Lib.hid (HB.out.trans (hb.mono HB.out.size)); clear h0 s0 HO HB x0 x1 x2 x3 x4 x5 x6 x7 x8 x9 x10 x11 x12 xf; have h0 := t1; have s0 := t2; have HO := t3; have HB := t4; clear t1 t2 t3 t4; obtain ⟨x0, x1, x2, x3, x4, x5, x6, x7, x8, x9, x10, x11, x12, xf⟩ := cells13 h0; clear hb) | (go_at_call 38; refine (AwkA.awake _).mono ?_; rintro e u7 ⟨rfl, hb⟩; have t1 := (hb.block _ s0).trans h0; have t2 := Nat.lt_of_lt_of_le s0 hb.size; have t3 := Lib.hid (SamW.wo_below HO.out hb); have t4 := Lib.hid (HB.out.trans (hb.mono HB.out.size)); clear h0 s0 HO HB x0 x1 x2 x3 x4 x5 x6 x7 x8 x9 x10 x11 x12 xf; have h0 := t1; have s0 := t2; have HO := t3; have HB := t4; clear t1 t2 t3 t4; obtain ⟨x0, x1, x2, x3, x4, x5, x6, x7, x8, x9, x10, x11, x12, xf⟩ := cells13 h0; have hz := HB.out; clear hb))
    all_goals go_wp2_with fail
    all_goals go_ret
    all_goals exact ⟨by simp, hz⟩

theorem own : ownKnob Try.prog.godebug = none := by kernel_rfl

set_option maxRecDepth 100000 in
set_option maxHeartbeats 2000000 in
theorem lifted (os : Os) (started : os.Started) (H : Type) (enc : TypeId × Value → H) :
    ReturnsInHanded {} Try.checked os 20 .any (Rows.nestRightSpec.pre6 enc Try.prog Try.f20 Rows.nestRightRow.domain false) (Rows.nestRightSpec.post enc Try.prog Try.f20 false true false false) := by
  refine returnsInHanded_of_change_sized (C := Try.checked) own started (by kernel_rfl) Try.func20
    (ChangeSpec.witness6 (enc := enc) (C := Try.checked) false ⟨#[], #[.agg #[.slice none 0 0, .slice none 0 0, .slice none 0 0, .slice none 0 0, .slice none 0 0, .slice none 0 0, .slice none 0 0, .int .u64 0, .int .i64 0, .int .i64 0, .int .i64 0, .int .i64 0, .int .i64 0]], []⟩ 8 (by kernel_rfl) (by kernel_rfl) (by kernel_rfl) (by kernel_rfl)) ?_
  intro W base args ds gs before hval0 hW hcnd hsz0 _
  have hval : ∀ (j : Nat) t v, Try.f20.params[j]? = some t → args[j]? = some v → Value.okWide Try.prog W .any base t v := hval0
  have hW' := hW
  obtain ⟨p, q, hA0, hV, rfl, hfz, hnd⟩ := hW
  have hA : DataW.TrodAll enc Try.prog W 0 (fun _ => true) true Try.f20.params.toList args.toList ds p := hA0
  rw [Try.params20] at hA hval
  obtain ⟨v0, vs0, d0, ds0, p0, q0, hargs, rfl, rfl, h0, r0⟩ := trodAll_cons hA
  obtain ⟨rfl, rfl, rfl⟩ := trodAll_nil r0
  obtain rfl : args = #[v0] := by cases args; simp_all
  clear hV
  have hsz : (DataW.weightsEach Try.prog (31 :: _) (d0 :: _)).all (· ≤ reachBytes) = true := hsz0
  have f0 : WorldD.Fitting d0 31 := by have z := hsz; simp only [DataW.weightsEach, List.all_append, Bool.and_eq_true] at z; exact z.1
  obtain ⟨g0, o0⟩ := WorldD.open_wo (hval 0 31 v0 rfl rfl) h0 f0
  clear hA0 hval0
  refine (walk W v0 g0 o0).mono fun e W' ⟨he, hg⟩ => ?_
  subst he
  exact ⟨_, rfl, Law.post (by kernel_rfl) (by kernel_rfl) Try.underlying4 rfl rfl hW' hg ⟨rfl, rfl, rfl⟩⟩

theorem over : Rows.nestRightRow.holds Try.pinned (OpenSpec.ofChange Rows.nestRightSpec) :=
  OpenClaim.holds_of_wide 20 Try.f20 rfl rfl rfl rfl rfl rfl rfl ⟨rfl, rfl, rfl, rfl, rfl⟩ rfl rfl rfl rfl rfl (by kernel_rfl) Try.func20 (by kernel_rfl)
    (of_decide_eq_true (by kernel_rfl)) (by unfold Func.isWrapper; first | (rw [if_pos (by decide +kernel)]; kernel_rfl) | (rw [if_neg (by decide +kernel)]; exact ⟨rfl, rfl⟩))
    (fun os started H enc _ => lifted os started H enc)

/-- The statement. -/
theorem proved : Rows.NestRightSaid := over
#print axioms proved
end Go.Proofs.Ytncdicagadbafaa.nestRight
