/- ValueRandom: what chance comes to. Conditions: none beyond what every reading of the arguments gives. -/
import Derived.Test.YtncdicagadbafaaLaw
import Derived.Test.YtncdicagadbafaaValV
import Derived.Test.YtncdicagadbafaaValT
import Derived.Test.YtncdicagadbafaaSamW
namespace Go.Proofs.Ytncdicagadbafaa.valueRandom
open Go Go.ChangeShapes Go.WideShapes Go.ChangeAt Go.RowKit NestP NestW NestX NestY ValP ValW ValX ValR MixP Sq WorldD

theorem wo_seed {w : World} {v : Value} {g : Wd} {A0 A1 A2 A3 A4 A5 A6 : Option Addr} {n0 c0 n c1 n2 c2 n3 c3 n4 c4 n5 c5 n6 c6 : Nat} (h : Wo w v g) (hv : v = .agg #[.slice A0 n0 c0, .slice A1 n c1, .slice A2 n2 c2, .slice A3 n3 c3, .slice A4 n4 c4, .slice A5 n5 c5, .slice A6 n6 c6, .int .u64 g.seed, .int .i64 g.sc, .int .i64 g.tu, .int .i64 g.ov, .int .i64 g.it, .int .i64 g.go]) {sd : Int} (hu : U sd) : Wo w (.agg #[.slice A0 n0 c0, .slice A1 n c1, .slice A2 n2 c2, .slice A3 n3 c3, .slice A4 n4 c4, .slice A5 n5 c5, .slice A6 n6 c6, .int .u64 sd, .int .i64 g.sc, .int .i64 g.tu, .int .i64 g.ov, .int .i64 g.it, .int .i64 g.go]) { g with seed := sd } := by
  obtain ⟨B0, B1, B2, B3, B4, B5, B6, m0, d0, m, d1, m2, d2, m3, d3, m4, d4, m5, d5, m6, d6, e, r, hu', f', b⟩ := h
  subst hv
  simp only [Value.agg.injEq, Array.mk.injEq, List.cons.injEq, Value.slice.injEq, and_true] at e
  obtain ⟨⟨rfl, rfl, rfl⟩, ⟨rfl, rfl, rfl⟩, ⟨rfl, rfl, rfl⟩, ⟨rfl, rfl, rfl⟩, ⟨rfl, rfl, rfl⟩, ⟨rfl, rfl, rfl⟩, ⟨rfl, rfl, rfl⟩⟩ := e
  exact ⟨A0, A1, A2, A3, A4, A5, A6, n0, c0, n, c1, n2, c2, n3, c3, n4, c4, n5, c5, n6, c6, rfl, r, hu, f', b⟩

theorem u_rdS {s : Int} (h : U s) (m : Int) : U (rdS s m) := by
  unfold rdS
  split
  · exact h
  · unfold bs
    split
    · exact h
    · exact u_nx h

set_option maxRecDepth 100000 in
set_option maxHeartbeats 4000000 in
theorem walk (w : World) (v : Value) (g : Wd) (ho : Wo w v g) (a : Int) (_ : (Lit.int .i64 a).wf = true) :
    Calls Try.prog 12 #[v, .int .i64 a] w fun e w' => e = .returned (.bool true) ∧ Below w.heap.size w w' := by
  have HO := Lib.hid ho
  obtain ⟨A0, A1, A2, A3, A4, A5, A6, n0, c0, n, c1, n2, c2, n3, c3, n4, c4, n5, c5, n6, c6, rfl, ⟨r0, r1, r2, r3, r4, r5, r6⟩, hu, ⟨f8, f9, f10, f11, f12⟩, ⟨b0, b1, b2, b3, b4, b5, b6⟩⟩ := ho
  have HG := Lib.hid r0
  have HP := Lib.hid r1
  have HC := Lib.hid r2
  have HN := Lib.hid r3
  have HF := Lib.hid r4
  have HPR := Lib.hid r5
  have HT := Lib.hid r6
  have HU := Lib.hid hu
  have HM0 := Lib.hid b0
  have HM1 := Lib.hid b1
  have HM2 := Lib.hid b2
  have HM3 := Lib.hid b3
  have HM4 := Lib.hid b4
  have HM5 := Lib.hid b5
  have HM6 := Lib.hid b6
  clear r0 r1 r2 r3 r4 r5 r6 hu b0 b1 b2 b3 b4 b5 b6 f8 f9 f10 f11 f12
  obtain ⟨sd, hsd⟩ : ∃ sd, rdS g.seed (wr a) = sd := ⟨_, rfl⟩
  obtain ⟨rv, hrv⟩ : ∃ rv, rdV g.seed (wr a) = rv := ⟨_, rfl⟩
  obtain ⟨re, hre⟩ : ∃ re, rdE (wr a) = re := ⟨_, rfl⟩
  have HOS := Lib.hid (wo_seed HO.out rfl (hsd ▸ u_rdS HU.out (wr a)))
  have HSD := Lib.hid hsd
  have HRV := Lib.hid hrv
  have HRE := Lib.hid hre
  obtain ⟨q, hq⟩ : ∃ q, nested g = q := ⟨_, rfl⟩
  have HQ := Lib.hid hq
  clear hq
  have m0 := wr_lo a
  have m1 := wr_hi a
  cases q
  · clear hsd hrv hre
    go_enter Try.func12, Try.ntmps12
    go_wp2_with (first
        | (go_at_call 37; refine (ValV.right_r g _ (HP.out.alloc _) (HC.out.alloc _) (HN.out.alloc _) HM1.out HM2.out HM3.out).mono ?_; rintro e u1 ⟨rfl, hb⟩; rw [HQ.out]; have HB := Lib.hid (((Below.refl w.heap.size w).alloc (Nat.le_refl _) (.cells #[.slice A0 n0 c0, .slice A1 n c1, .slice A2 n2 c2, .slice A3 n3 c3, .slice A4 n4 c4, .slice A5 n5 c5, .slice A6 n6 c6, .int .u64 g.seed, .int .i64 g.sc, .int .i64 g.tu, .int .i64 g.ov, .int .i64 g.it, .int .i64 g.go] 31)).trans (hb.mono (by simp))); have h0 := (hb.block w.heap.size (by simp)).trans (heap_alloc_new _ _); have s0 : w.heap.size < u1.heap.size := (by have := hb.size; simp only [World.size_alloc] at this; omega); obtain ⟨x0, x1, x2, x3, x4, x5, x6, x7, x8, x9, x10, x11, x12, xf⟩ := cells13 h0; clear hb)
        | (go_at_call 56; refine (ValT.awake _).mono ?_; rintro e u7 ⟨rfl, hb⟩; have hz := HB.out.trans (hb.mono HB.out.size)))
    go_ret
    exact ⟨rfl, hz⟩
  · by_cases hlt : wr a < 1
    · have e1 : rv = 0 := hrv ▸ if_pos hlt
      have e2 : re = 1 := hre ▸ if_pos hlt
      have e3 : g.seed = sd := hsd ▸ (if_pos hlt).symm
      clear hsd hrv hre
      subst e1 e2 e3
      have HOS2 := HOS
      clear HOS
      have HOS : Hid (Wo w (.agg #[.slice A0 n0 c0, .slice A1 n c1, .slice A2 n2 c2, .slice A3 n3 c3, .slice A4 n4 c4, .slice A5 n5 c5, .slice A6 n6 c6, .int .u64 g.seed, .int .i64 g.sc, .int .i64 g.tu, .int .i64 g.ov, .int .i64 g.it, .int .i64 g.go]) g) := HOS2
      clear HOS2
      go_enter Try.func12, Try.ntmps12
      go_upto_region 7 with (first
        | (go_at_call 37; refine (ValV.right_r g _ (HP.out.alloc _) (HC.out.alloc _) (HN.out.alloc _) HM1.out HM2.out HM3.out).mono ?_; rintro e u1 ⟨rfl, hb⟩; rw [HQ.out]; have HB := Lib.hid (((Below.refl w.heap.size w).alloc (Nat.le_refl _) (.cells #[.slice A0 n0 c0, .slice A1 n c1, .slice A2 n2 c2, .slice A3 n3 c3, .slice A4 n4 c4, .slice A5 n5 c5, .slice A6 n6 c6, .int .u64 g.seed, .int .i64 g.sc, .int .i64 g.tu, .int .i64 g.ov, .int .i64 g.it, .int .i64 g.go] 31)).trans (hb.mono (by simp))); have h0 := (hb.block w.heap.size (by simp)).trans (heap_alloc_new _ _); have s0 : w.heap.size < u1.heap.size := (by have := hb.size; simp only [World.size_alloc] at this; omega); obtain ⟨x0, x1, x2, x3, x4, x5, x6, x7, x8, x9, x10, x11, x12, xf⟩ := cells13 h0; clear hb)
        | (go_at_call 61; refine (random_i g.seed a HU.out _).mono ?_; rintro e u2 ⟨rfl, hb⟩; rw [HRV.out, HSD.out, HRE.out]; have hz := HB.out.trans (hb.mono (Nat.le_of_lt s0)); clear HB; have HB := Lib.hid hz; have h0' := (hb.block w.heap.size s0).trans h0; have s0' : w.heap.size < u2.heap.size := Nat.lt_of_lt_of_le s0 hb.size; clear h0 s0 x0 x1 x2 x3 x4 x5 x6 x7 x8 x9 x10 x11 x12 xf hb hz; obtain ⟨x0, x1, x2, x3, x4, x5, x6, x7, x8, x9, x10, x11, x12, xf⟩ := cells13 h0')
        | (go_at_call 62; refine (random_r g.seed a HU.out _).mono ?_; rintro e u3 ⟨rfl, hb⟩; rw [HRV.out, HSD.out, HRE.out]; have hz := (HB.out.alloc (Nat.le_of_lt s0') _).trans (hb.mono (by (try simp only [World.size_alloc]); omega)); clear HB; have HB := Lib.hid hz; have h1 := (hb.block u2.heap.size (by (try simp only [World.size_alloc]); omega)).trans (heap_alloc_new _ _); have h0 := ((hb.block w.heap.size (by (try simp only [World.size_alloc]); omega)).trans (Below.heap_alloc _ _ _ s0')).trans h0'; have s1 : u2.heap.size < u3.heap.size := (by have := hb.size; simp only [World.size_alloc] at this; omega); clear h0' x0 x1 x2 x3 x4 x5 x6 x7 x8 x9 x10 x11 x12 xf hb hz; obtain ⟨x0, x1, x2, x3, x4, x5, x6, x7, x8, x9, x10, x11, x12, xf⟩ := cells13 h0; obtain ⟨y0, y1, y2, y3, y4, y5, y6, y7, y8, y9, y10, y11, y12, yf⟩ := cells13 h1)
        | (go_at_call 31; refine (SamW.wsame_t _ _ (SamW.wo_below HOS.out (HB.out.alloc (by omega) _)) (SamW.wo_below HOS.out (HB.out.alloc (by omega) _))).mono ?_; rintro e u4 ⟨rfl, hb⟩; have hz := (HB.out.alloc (by omega) _).trans (hb.mono (by (try simp only [World.size_alloc]); omega)); clear HB; have HB := Lib.hid hz; have h1' := ((hb.block u2.heap.size (by (try simp only [World.size_alloc]); omega)).trans (Below.heap_alloc _ _ _ s1)).trans h1; have h0' := ((hb.block w.heap.size (by (try simp only [World.size_alloc]); omega)).trans (Below.heap_alloc _ _ _ (by omega))).trans h0; have s2 : u2.heap.size < u4.heap.size := (by have := hb.size; simp only [World.size_alloc] at this; omega); clear h0 h1 x0 x1 x2 x3 x4 x5 x6 x7 x8 x9 x10 x11 x12 xf y0 y1 y2 y3 y4 y5 y6 y7 y8 y9 y10 y11 y12 yf hb hz; obtain ⟨x0, x1, x2, x3, x4, x5, x6, x7, x8, x9, x10, x11, x12, xf⟩ := cells13 h0'; obtain ⟨y0, y1, y2, y3, y4, y5, y6, y7, y8, y9, y10, y11, y12, yf⟩ := cells13 h1'))
      go_wp2_with (first
        | (go_at_call 63; refine (wrap_r _ _).mono ?_; rintro e u5 ⟨rfl, rfl⟩)
        | (go_at_call 31; refine (SamW.wsame_t g _ (SamW.wo_below HOS.out HB.out) (SamW.wo_below HO.out HB.out)).mono ?_; rintro e u6 ⟨rfl, hb⟩; have hz := HB.out.trans (hb.mono (by omega)); clear HB; have HB := Lib.hid hz)
        | (go_at_call 56; refine (ValT.awake _).mono ?_; rintro e u7 ⟨rfl, hb⟩; have hz := HB.out.trans (hb.mono HB.out.size)))
      go_ret
      exact ⟨rfl, by assumption⟩

    · have e1 : rv = be g.seed (wr a) + 1 := hrv ▸ if_neg hlt
      have e2 : re = 0 := hre ▸ if_neg hlt
      obtain ⟨e3, e4⟩ := be_bd g.seed hlt
      have e5 : 1 ≤ rv := by omega
      have e6 : rv ≤ wr a := by omega
      clear hsd hrv hre e1 e3 e4
      subst e2
      go_enter Try.func12, Try.ntmps12
      go_upto_region 7 with (first
        | (go_at_call 37; refine (ValV.right_r g _ (HP.out.alloc _) (HC.out.alloc _) (HN.out.alloc _) HM1.out HM2.out HM3.out).mono ?_; rintro e u1 ⟨rfl, hb⟩; rw [HQ.out]; have HB := Lib.hid (((Below.refl w.heap.size w).alloc (Nat.le_refl _) (.cells #[.slice A0 n0 c0, .slice A1 n c1, .slice A2 n2 c2, .slice A3 n3 c3, .slice A4 n4 c4, .slice A5 n5 c5, .slice A6 n6 c6, .int .u64 g.seed, .int .i64 g.sc, .int .i64 g.tu, .int .i64 g.ov, .int .i64 g.it, .int .i64 g.go] 31)).trans (hb.mono (by simp))); have h0 := (hb.block w.heap.size (by simp)).trans (heap_alloc_new _ _); have s0 : w.heap.size < u1.heap.size := (by have := hb.size; simp only [World.size_alloc] at this; omega); obtain ⟨x0, x1, x2, x3, x4, x5, x6, x7, x8, x9, x10, x11, x12, xf⟩ := cells13 h0; clear hb)
        | (go_at_call 61; refine (random_i g.seed a HU.out _).mono ?_; rintro e u2 ⟨rfl, hb⟩; rw [HRV.out, HSD.out, HRE.out]; have hz := HB.out.trans (hb.mono (Nat.le_of_lt s0)); clear HB; have HB := Lib.hid hz; have h0' := (hb.block w.heap.size s0).trans h0; have s0' : w.heap.size < u2.heap.size := Nat.lt_of_lt_of_le s0 hb.size; clear h0 s0 x0 x1 x2 x3 x4 x5 x6 x7 x8 x9 x10 x11 x12 xf hb hz; obtain ⟨x0, x1, x2, x3, x4, x5, x6, x7, x8, x9, x10, x11, x12, xf⟩ := cells13 h0')
        | (go_at_call 62; refine (random_r g.seed a HU.out _).mono ?_; rintro e u3 ⟨rfl, hb⟩; rw [HRV.out, HSD.out, HRE.out]; have hz := (HB.out.alloc (Nat.le_of_lt s0') _).trans (hb.mono (by (try simp only [World.size_alloc]); omega)); clear HB; have HB := Lib.hid hz; have h1 := (hb.block u2.heap.size (by (try simp only [World.size_alloc]); omega)).trans (heap_alloc_new _ _); have h0 := ((hb.block w.heap.size (by (try simp only [World.size_alloc]); omega)).trans (Below.heap_alloc _ _ _ s0')).trans h0'; have s1 : u2.heap.size < u3.heap.size := (by have := hb.size; simp only [World.size_alloc] at this; omega); clear h0' x0 x1 x2 x3 x4 x5 x6 x7 x8 x9 x10 x11 x12 xf hb hz; obtain ⟨x0, x1, x2, x3, x4, x5, x6, x7, x8, x9, x10, x11, x12, xf⟩ := cells13 h0; obtain ⟨y0, y1, y2, y3, y4, y5, y6, y7, y8, y9, y10, y11, y12, yf⟩ := cells13 h1)
        | (go_at_call 31; refine (SamW.wsame_t _ _ (SamW.wo_below HOS.out (HB.out.alloc (by omega) _)) (SamW.wo_below HOS.out (HB.out.alloc (by omega) _))).mono ?_; rintro e u4 ⟨rfl, hb⟩; have hz := (HB.out.alloc (by omega) _).trans (hb.mono (by (try simp only [World.size_alloc]); omega)); clear HB; have HB := Lib.hid hz; have h1' := ((hb.block u2.heap.size (by (try simp only [World.size_alloc]); omega)).trans (Below.heap_alloc _ _ _ s1)).trans h1; have h0' := ((hb.block w.heap.size (by (try simp only [World.size_alloc]); omega)).trans (Below.heap_alloc _ _ _ (by omega))).trans h0; have s2 : u2.heap.size < u4.heap.size := (by have := hb.size; simp only [World.size_alloc] at this; omega); clear h0 h1 x0 x1 x2 x3 x4 x5 x6 x7 x8 x9 x10 x11 x12 xf y0 y1 y2 y3 y4 y5 y6 y7 y8 y9 y10 y11 y12 yf hb hz; obtain ⟨x0, x1, x2, x3, x4, x5, x6, x7, x8, x9, x10, x11, x12, xf⟩ := cells13 h0'; obtain ⟨y0, y1, y2, y3, y4, y5, y6, y7, y8, y9, y10, y11, y12, yf⟩ := cells13 h1'))
      go_wp2_with (first
        | (go_at_call 63; refine (wrap_r _ _).mono ?_; rintro e u5 ⟨rfl, rfl⟩)
        | (go_at_call 31; refine (SamW.wsame_t g _ (SamW.wo_below HO.out (HB.out.setCell (by show w.heap.size ≤ u2.heap.size; omega) _)) (SamW.wo_below HO.out (HB.out.setCell (by show w.heap.size ≤ u2.heap.size; omega) _))).mono ?_; rintro e u6 ⟨rfl, hb⟩; have hz := (HB.out.setCell (p := ⟨u2.heap.size, 7, none⟩) (by show w.heap.size ≤ u2.heap.size; omega) (.int .u64 g.seed)).trans (hb.mono (by (try simp only [World.size_setCell]); omega)); clear HB; have HB := Lib.hid hz)
        | (go_at_call 56; refine (ValT.awake _).mono ?_; rintro e u7 ⟨rfl, hb⟩; have hz := HB.out.trans (hb.mono HB.out.size)))
      go_ret
      exact ⟨rfl, by assumption⟩


theorem own : ownKnob Try.prog.godebug = none := by kernel_rfl

set_option maxRecDepth 100000 in
set_option maxHeartbeats 2000000 in
theorem lifted (os : Os) (started : os.Started) (H : Type) (enc : TypeId × Value → H) :
    ReturnsInHanded {} Try.checked os 12 .any (Rows.valueRandomSpec.pre6 enc Try.prog Try.f12 Rows.valueRandomRow.domain false) (Rows.valueRandomSpec.post enc Try.prog Try.f12 false true false false) := by
  refine returnsInHanded_of_change_sized (C := Try.checked) own started (by kernel_rfl) Try.func12
    (ChangeSpec.witness6 (enc := enc) (C := Try.checked) false ⟨#[], #[.agg #[.slice none 0 0, .slice none 0 0, .slice none 0 0, .slice none 0 0, .slice none 0 0, .slice none 0 0, .slice none 0 0, .int .u64 0, .int .i64 0, .int .i64 0, .int .i64 0, .int .i64 0, .int .i64 0], .int .i64 0], []⟩ 8 (by kernel_rfl) (by kernel_rfl) (by kernel_rfl) (by kernel_rfl)) ?_
  intro W base args ds gs before hval0 hW hcnd hsz0 _
  have hval : ∀ (j : Nat) t v, Try.f12.params[j]? = some t → args[j]? = some v → Value.okWide Try.prog W .any base t v := hval0
  have hW' := hW
  obtain ⟨p, q, hA0, hV, rfl, hfz, hnd⟩ := hW
  have hA : DataW.TrodAll enc Try.prog W 0 (fun _ => true) true Try.f12.params.toList args.toList ds p := hA0
  rw [Try.params12] at hA hval
  obtain ⟨v0, vs0, d0, ds0, p0, q0, hargs, rfl, rfl, h0, r0⟩ := trodAll_cons hA
  obtain ⟨v1, vs1, d1, ds1, p1, q1, rfl, rfl, rfl, h1, r1⟩ := trodAll_cons r0
  obtain ⟨rfl, rfl, rfl⟩ := trodAll_nil r1
  obtain rfl : args = #[v0, v1] := by cases args; simp_all
  clear hV
  have hsz : (DataW.weightsEach Try.prog (31 :: 3 :: _) (d0 :: d1 :: _)).all (· ≤ reachBytes) = true := hsz0
  have f0 : WorldD.Fitting d0 31 := by have z := hsz; simp only [DataW.weightsEach, List.all_append, Bool.and_eq_true] at z; exact z.1
  obtain ⟨g0, o0⟩ := WorldD.open_wo (hval 0 31 v0 rfl rfl) h0 f0
  obtain ⟨a1, rfl, rfl, rfl, w1⟩ := open_int Try.underlying3 (hval 1 3 v1 rfl rfl) h1
  clear hA0 hval0
  refine (walk W v0 g0 o0 a1 w1).mono fun e W' ⟨he, hg⟩ => ?_
  subst he
  exact ⟨_, rfl, Law.post (by kernel_rfl) (by kernel_rfl) Try.underlying4 rfl rfl hW' hg ⟨rfl, rfl, rfl⟩⟩

theorem over : Rows.valueRandomRow.holds Try.pinned (OpenSpec.ofChange Rows.valueRandomSpec) :=
  OpenClaim.holds_of_wide 12 Try.f12 rfl rfl rfl rfl rfl rfl rfl ⟨rfl, rfl, rfl, rfl, rfl⟩ rfl rfl rfl rfl rfl (by kernel_rfl) Try.func12 (by kernel_rfl)
    (of_decide_eq_true (by kernel_rfl)) (by unfold Func.isWrapper; first | (rw [if_pos (by decide +kernel)]; kernel_rfl) | (rw [if_neg (by decide +kernel)]; exact ⟨rfl, rfl⟩))
    (fun os started H enc _ => lifted os started H enc)

/-- The statement. -/
theorem proved : Rows.ValueRandomSaid := over
#print axioms proved
end Go.Proofs.Ytncdicagadbafaa.valueRandom
