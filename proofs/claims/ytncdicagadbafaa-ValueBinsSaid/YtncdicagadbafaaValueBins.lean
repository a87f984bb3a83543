/- ValueBins: what any operator of any two numbers comes to. Conditions: none beyond what every reading of the arguments gives. -/
import Derived.Test.YtncdicagadbafaaLaw
import Derived.Test.YtncdicagadbafaaValV
import Derived.Test.YtncdicagadbafaaValT
import Derived.Test.YtncdicagadbafaaValZ
namespace Go.Proofs.Ytncdicagadbafaa.valueBins
open Go Go.ChangeShapes Go.WideShapes Go.ChangeAt Go.RowKit NestP NestW NestX NestY ValP ValW ValX ValR MixP Sq WorldD

set_option maxRecDepth 100000 in
set_option maxHeartbeats 2000000 in
theorem walk (w : World) (v : Value) (g : Wd) (ho : Wo w v g) (op : Int) (_ : (Lit.int .i64 op).wf = true) (a : Int) (_ : (Lit.int .i64 a).wf = true) (b : Int) (_ : (Lit.int .i64 b).wf = true) :
    Calls Try.prog 11 #[v, .int .i64 op, .int .i64 a, .int .i64 b] w fun e w' => e = .returned (.bool true) ∧ Below w.heap.size w w' := by
  obtain ⟨A0, A1, A2, A3, A4, A5, A6, n0, c0, n, c1, n2, c2, n3, c3, n4, c4, n5, c5, n6, c6, rfl, ⟨r0, r1, r2, r3, r4, r5, r6⟩, hu, ⟨f8, f9, f10, f11, f12⟩, ⟨b0, b1, b2, b3, b4, b5, b6⟩⟩ := ho
  have HG := Lib.hid r0
  have HP := Lib.hid r1
  have HC := Lib.hid r2
  have HN := Lib.hid r3
  have HF := Lib.hid r4
  have HPR := Lib.hid r5
  have HT := Lib.hid r6
  have HU := Lib.hid hu
  have HM0 := Lib.hid b0
  have HM1 := Lib.hid b1
  have HM2 := Lib.hid b2
  have HM3 := Lib.hid b3
  have HM4 := Lib.hid b4
  have HM5 := Lib.hid b5
  have HM6 := Lib.hid b6
  clear r0 r1 r2 r3 r4 r5 r6 hu b0 b1 b2 b3 b4 b5 b6 f8 f9 f10 f11 f12
  have HB := Lib.hid (Below.refl (w.alloc (.cells #[.slice A0 n0 c0, .slice A1 n c1, .slice A2 n2 c2, .slice A3 n3 c3, .slice A4 n4 c4, .slice A5 n5 c5, .slice A6 n6 c6, .int .u64 g.seed, .int .i64 g.sc, .int .i64 g.tu, .int .i64 g.ov, .int .i64 g.it, .int .i64 g.go] 31)).heap.size (w.alloc (.cells #[.slice A0 n0 c0, .slice A1 n c1, .slice A2 n2 c2, .slice A3 n3 c3, .slice A4 n4 c4, .slice A5 n5 c5, .slice A6 n6 c6, .int .u64 g.seed, .int .i64 g.sc, .int .i64 g.tu, .int .i64 g.ov, .int .i64 g.it, .int .i64 g.go] 31)))
  obtain ⟨q, hq⟩ : ∃ q, nested g = q := ⟨_, rfl⟩
  have HQ := Lib.hid hq
  obtain ⟨x, hx⟩ : ∃ x, opV (at' g.pa (wr a)) (isT n (wr a)) op (wr a) (wr b) = x := ⟨_, rfl⟩
  have HX := Lib.hid hx
  obtain ⟨y, hy⟩ : ∃ y, opE (isT n (wr a)) op (wr b) = y := ⟨_, rfl⟩
  have HY := Lib.hid hy
  obtain ⟨z, hz⟩ : ∃ z, tr (wr a == 0) = z := ⟨_, rfl⟩
  have HZ := Lib.hid hz
  clear hq hx hy hz
  cases q
  all_goals
    go_enter Try.func11, Try.ntmps11
    go_wp2_with (first
      | (go_at_call 37; refine (ValV.right_r g _ ((HP.out.alloc _).below HB.out) ((HC.out.alloc _).below HB.out) ((HN.out.alloc _).below HB.out) HM1.out HM2.out HM3.out).mono ?_; rintro e w1 ⟨rfl, hb⟩; rw [HQ.out]; have hz := MixV.join HB.out hb; clear HB hb; have HB := Lib.hid hz; have hk := kept hz; clear hz)
      | (go_at_call 57; refine (ValY.bin_i g _ _ _ _ ((HP.out.alloc _).below HB.out)).mono ?_; rintro e w1 ⟨rfl, hb⟩; rw [HX.out, HY.out]; have hz := MixV.join HB.out hb; clear HB hb; have HB := Lib.hid hz; have hk := kept hz; clear hz)
      | (go_at_call 58; refine (ValZ.bin_r g _ _ _ _ ((HP.out.alloc _).below HB.out)).mono ?_; rintro e w1 ⟨rfl, hb⟩; rw [HX.out, HY.out]; have hz := MixV.join HB.out hb; clear HB hb; have HB := Lib.hid hz; have hk := kept hz; clear hz)
      | (go_at_call 59; refine (not_i _ _).mono ?_; rintro e w1 ⟨rfl, rfl⟩; rw [HZ.out])
      | (go_at_call 60; refine (not_r _ _).mono ?_; rintro e w1 ⟨rfl, rfl⟩; rw [HZ.out])
      | (go_at_call 56; refine (ValT.awake _).mono ?_; rintro e w1 ⟨rfl, hb⟩; have hz := MixV.join HB.out hb; clear HB hb; have HB := Lib.hid hz; have hk := kept hz; clear hz))
    go_ret
    exact ⟨rfl, (((Below.refl _ _).alloc (Nat.le_refl _) _).trans (HB.out.mono (by simp)))⟩

theorem own : ownKnob Try.prog.godebug = none := by kernel_rfl

set_option maxRecDepth 100000 in
set_option maxHeartbeats 2000000 in
theorem lifted (os : Os) (started : os.Started) (H : Type) (enc : TypeId × Value → H) :
    ReturnsInHanded {} Try.checked os 11 .any (Rows.valueBinsSpec.pre6 enc Try.prog Try.f11 Rows.valueBinsRow.domain false) (Rows.valueBinsSpec.post enc Try.prog Try.f11 false true false false) := by
  refine returnsInHanded_of_change_sized (C := Try.checked) own started (by kernel_rfl) Try.func11
    (ChangeSpec.witness6 (enc := enc) (C := Try.checked) false ⟨#[], #[.agg #[.slice none 0 0, .slice none 0 0, .slice none 0 0, .slice none 0 0, .slice none 0 0, .slice none 0 0, .slice none 0 0, .int .u64 0, .int .i64 0, .int .i64 0, .int .i64 0, .int .i64 0, .int .i64 0], .int .i64 0, .int .i64 0, .int .i64 0], []⟩ 8 (by kernel_rfl) (by kernel_rfl) (by kernel_rfl) (by kernel_rfl)) ?_
  intro W base args ds gs before hval0 hW hcnd hsz0 _
  have hval : ∀ (j : Nat) t v, Try.f11.params[j]? = some t → args[j]? = some v → Value.okWide Try.prog W .any base t v := hval0
  have hW' := hW
  obtain ⟨p, q, hA0, hV, rfl, hfz, hnd⟩ := hW
  have hA : DataW.TrodAll enc Try.prog W 0 (fun _ => true) true Try.f11.params.toList args.toList ds p := hA0
  rw [Try.params11] at hA hval
  obtain ⟨v0, vs0, d0, ds0, p0, q0, hargs, rfl, rfl, h0, r0⟩ := trodAll_cons hA
  obtain ⟨v1, vs1, d1, ds1, p1, q1, rfl, rfl, rfl, h1, r1⟩ := trodAll_cons r0
  obtain ⟨v2, vs2, d2, ds2, p2, q2, rfl, rfl, rfl, h2, r2⟩ := trodAll_cons r1
  obtain ⟨v3, vs3, d3, ds3, p3, q3, rfl, rfl, rfl, h3, r3⟩ := trodAll_cons r2
  obtain ⟨rfl, rfl, rfl⟩ := trodAll_nil r3
  obtain rfl : args = #[v0, v1, v2, v3] := by cases args; simp_all
  clear hV
  have hsz : (DataW.weightsEach Try.prog (31 :: 3 :: 3 :: 3 :: _) (d0 :: d1 :: d2 :: d3 :: _)).all (· ≤ reachBytes) = true := hsz0
  have f0 : WorldD.Fitting d0 31 := by have z := hsz; simp only [DataW.weightsEach, List.all_append, Bool.and_eq_true] at z; exact z.1
  obtain ⟨g0, o0⟩ := WorldD.open_wo (hval 0 31 v0 rfl rfl) h0 f0
  obtain ⟨a1, rfl, rfl, rfl, w1⟩ := open_int Try.underlying3 (hval 1 3 v1 rfl rfl) h1
  obtain ⟨a2, rfl, rfl, rfl, w2⟩ := open_int Try.underlying3 (hval 2 3 v2 rfl rfl) h2
  obtain ⟨a3, rfl, rfl, rfl, w3⟩ := open_int Try.underlying3 (hval 3 3 v3 rfl rfl) h3
  clear hA0 hval0
  refine (walk W v0 g0 o0 a1 w1 a2 w2 a3 w3).mono fun e W' ⟨he, hg⟩ => ?_
  subst he
  exact ⟨_, rfl, Law.post (by kernel_rfl) (by kernel_rfl) Try.underlying4 rfl rfl hW' hg ⟨rfl, rfl, rfl⟩⟩

theorem over : Rows.valueBinsRow.holds Try.pinned (OpenSpec.ofChange Rows.valueBinsSpec) :=
  OpenClaim.holds_of_wide 11 Try.f11 rfl rfl rfl rfl rfl rfl rfl ⟨rfl, rfl, rfl, rfl, rfl⟩ rfl rfl rfl rfl rfl (by kernel_rfl) Try.func11 (by kernel_rfl)
    (of_decide_eq_true (by kernel_rfl)) (by unfold Func.isWrapper; first | (rw [if_pos (by decide +kernel)]; kernel_rfl) | (rw [if_neg (by decide +kernel)]; exact ⟨rfl, rfl⟩))
    (fun os started H enc _ => lifted os started H enc)

/-- The statement. -/
theorem proved : Rows.ValueBinsSaid := over
#print axioms proved
end Go.Proofs.Ytncdicagadbafaa.valueBins
