/- PeepTicks: of instructions that go nowhere else none is left out but those that reckon with what is known. Conditions: none. -/
import Derived.Test.YtmilnfboglhdgaaPeepM
namespace Go.Proofs.Ytmilnfboglhdgaa.peepTicks
open Go.ChangeShapes Go.WideShapes Go.ChangeAt Go.Deep
open Go Go.RowKit NestP NestW Sq ValP ValW PeepP PeepW PeepX PeepY PeepZ PeepC PeepD PeepF PeepG PeepH PeepJ PeepK PeepL WorldD

theorem eq2 (a b : Int) (w : World) : (Op.equalIn 10000 27 (.agg #[.int .i64 a, .int .i64 b]) (.agg #[.int .i64 a, .int .i64 b])).run Try.prog w = .ok true w := by
  obtain ⟨i0, hi, _, hz1, _⟩ := NestW.elI.parts
  have hsz : ∀ w, (sizeOf 3).run Try.prog w = .ok 1 w := fun w => by simp [sizeOf, typeInfo, hi, hz1]
  rw [show (10000 : Nat) = 9998 + 2 from rfl, Op.equalIn]
  simp only [Sem.run_bind, run_underlying Try.underlying27, Result.andThen_ok, hsz, Std.Legacy.Range.forIn_eq_forIn_range', Std.Legacy.Range.size, Nat.sub_zero, Nat.add_sub_cancel, Nat.div_one]
  simp [List.range', part, isAgg, run_underlying Try.underlying3, run_equalIn_int _ _ _ _ _ _ _ Try.underlying3]
attribute [local go_sem] eq2
set_option maxRecDepth 100000 in
set_option maxHeartbeats 4000000 in
theorem walk (A : Option Addr) (n c : Nat) (l : List Ins) {w : World} (hr : RdI w A n l) (hc : n ≤ c) (hcm : c ≤ maxLen) :
    Calls Try.prog 6 #[.slice A n c] w fun e w' => e = .returned (.bool true) ∧ Below w.heap.size w w' := by
  have HR := Lib.hid hr
  have HLN := Lib.hid hr.1
  have HB := Lib.hid (Below.refl w.heap.size w)
  clear hr
  by_cases hbig : 60 < n
  · have t1 : decide ((60 : Int) < (n : Int)) = true := decide_eq_true (by omega)
    have t2 : decide (60 < n) = true := decide_eq_true (by omega)
    clear hbig
    go_enter Try.func6, Try.ntmps6
    go_wp2_with (go_at_call 7; refine (PeepM.awake w).mono ?_; rintro e w99 ⟨rfl, hb⟩; have HZ := Lib.hid (HB.out.trans (hb.mono HB.out.size)); clear hb)
    go_ret
    exact ⟨rfl, HZ.out⟩
  have t1 : decide ((60 : Int) < (n : Int)) = false := decide_eq_false (by omega)
  have t2 : decide (60 < n) = false := decide_eq_false (by omega)
  have hn : n ≤ 4096 := by omega
  clear hbig
  cases hs : straight l with
  | false =>
    have HS := Lib.hid hs
    clear hs
    go_enter Try.func6, Try.ntmps6
    go_wp2_with (first
      | (go_at_call 15; refine (straight_i l w HR.out (by omega)).mono ?_; rintro e w1 ⟨rfl, rfl⟩; rw [HS.out])
      | (go_at_call 7; refine (PeepM.awake w).mono ?_; rintro e w99 ⟨rfl, hb⟩; have HZ := Lib.hid (HB.out.trans (hb.mono HB.out.size)); clear hb))
    go_ret
    exact ⟨rfl, HZ.out⟩
  | true =>
    have HS := Lib.hid hs
    have HKA := Lib.hid (all_keeps (16 * l.length) hs)
    have HKO := Lib.hid (onceL_keeps hs)
    have HOL := Lib.hid (show (onceL l).length ≤ 1048576 from Nat.le_trans (onceL_len l) (by rw [← HLN.out]; omega))
    have HAL := Lib.hid (show (all (16 * l.length) l).length ≤ 1048576 from Nat.le_trans (all_len _ l) (by rw [← HLN.out]; omega))
    obtain ⟨x, hx⟩ : ∃ x, nTick l = x := ⟨_, rfl⟩
    obtain ⟨y, hy⟩ : ∃ y, nRest l = y := ⟨_, rfl⟩
    rw [hx, hy] at HKA HKO
    have HX := Lib.hid hx
    have HY := Lib.hid hy
    clear hs hx hy
    go_enter Try.func6, Try.ntmps6
    go_wp2_with (go_at_call 15; refine (straight_i l w HR.out (by omega)).mono ?_; rintro e w1 ⟨rfl, rfl⟩; rw [HS.out])
    refine (All_i l w HR.out hc hcm hn).mono ?_
    rintro e w1 ⟨v, rfl, ho, hb⟩
    have HO1 := Lib.hid (own_ex ho)
    have HB1 := Lib.hid hb
    obtain ⟨A1, c1, rfl, _, _, hr1⟩ := HO1.out
    have HR1 := Lib.hid hr1
    clear ho hb hr1
    go_wp2_with fail
    refine (ticks_i _ w1 HR1.out HAL.out).mono ?_
    rintro e w2 ⟨rfl, hb⟩
    rw [HKA.out.1, HKA.out.2]
    have HB2 := Lib.hid (HB1.out.trans (hb.mono HB1.out.size))
    clear hb
    go_wp2_with fail
    refine (ticks_i l w2 (HR.out.below HB2.out) (by omega)).mono ?_
    rintro e w3 ⟨rfl, hb⟩
    rw [HX.out, HY.out]
    have HB3 := Lib.hid (HB2.out.trans (hb.mono HB2.out.size))
    clear hb
    go_wp2_with fail
    refine (Once_i l w3 (HR.out.below HB3.out) hc (by omega)).mono ?_
    rintro e w4 ⟨v, rfl, ho, hb⟩
    have HO4 := Lib.hid (own_ex ho)
    have HB4 := Lib.hid (HB3.out.trans (hb.mono HB3.out.size))
    obtain ⟨A4, c4, rfl, _, _, hr4⟩ := HO4.out
    have HR4 := Lib.hid hr4
    clear ho hb hr4
    go_wp2_with fail
    refine (ticks_i _ w4 HR4.out HOL.out).mono ?_
    rintro e w5 ⟨rfl, hb⟩
    rw [HKO.out.1, HKO.out.2]
    have HB5 := Lib.hid (HB4.out.trans (hb.mono HB4.out.size))
    clear hb
    go_wp2_with fail
    refine (ticks_i l w5 (HR.out.below HB5.out) (by omega)).mono ?_
    rintro e w6 ⟨rfl, hb⟩
    rw [HX.out, HY.out]
    have HB6 := Lib.hid (HB5.out.trans (hb.mono HB5.out.size))
    clear hb
    go_wp2_with (go_at_call 7; refine (PeepM.awake w6).mono ?_; rintro e w99 ⟨rfl, hb⟩; have HZ := Lib.hid (HB6.out.trans (hb.mono HB6.out.size)); clear hb)
    go_ret
    exact ⟨rfl, HZ.out⟩

theorem own : ownKnob Try.prog.godebug = none := by kernel_rfl

set_option maxRecDepth 100000 in

theorem lifted (os : Os) (started : os.Started) (H : Type) (enc : TypeId × Value → H) :
    ReturnsInHanded {} Try.checked os 6 .any (Rows.peepTicksSpec.pre6 enc Try.prog Try.f6 Rows.peepTicksRow.domain false) (Rows.peepTicksSpec.post enc Try.prog Try.f6 false true false false) := by
  refine returnsInHanded_of_change (C := Try.checked) own started (by kernel_rfl) Try.func6
    (ChangeSpec.witness6 (enc := enc) (C := Try.checked) false ⟨#[], #[.slice none 0 0], []⟩ 8 (by kernel_rfl) (by kernel_rfl) (by kernel_rfl) (by kernel_rfl)) ?_
  intro W base args ds gs before hval0 hW hcnd _
  have hval : ∀ (j : Nat) t v, Try.f6.params[j]? = some t → args[j]? = some v → Value.okWide Try.prog W .any base t v := hval0
  have hW' := hW
  obtain ⟨p, q, hA0, hV, rfl, hfz, hnd⟩ := hW
  have hA : DataW.TrodAll enc Try.prog W 0 (fun _ => true) true Try.f6.params.toList args.toList ds p := hA0
  rw [Try.params6] at hA hval
  obtain ⟨v0, vs0, d0, ds0, p0, q0, hargs, rfl, rfl, h0, r0⟩ := trodAll_cons hA
  obtain ⟨rfl, rfl, rfl⟩ := trodAll_nil r0
  obtain rfl : args = #[v0] := by cases args; simp_all
  clear hV
  obtain ⟨A0, n0, c0, l0, rfl, m0, q0, r00⟩ := PeepM.open_ins (hval 0 22 v0 rfl rfl) h0
  clear hA0 hval0
  refine (walk A0 n0 c0 l0 r00 m0 q0).mono fun e W' ⟨he, hg⟩ => ?_
  subst he
  exact ⟨_, rfl, Law.post (by kernel_rfl) (by kernel_rfl) Try.underlying4 rfl rfl hW' hg ⟨rfl, rfl, rfl⟩⟩

theorem over : Rows.peepTicksRow.holds Try.pinned (OpenSpec.ofChange Rows.peepTicksSpec) :=
  OpenClaim.holds_of_wide 6 Try.f6 rfl rfl rfl rfl rfl rfl rfl ⟨rfl, rfl, rfl, rfl, rfl⟩ rfl rfl rfl rfl rfl (by kernel_rfl) Try.func6 (by kernel_rfl)
    (of_decide_eq_true (by kernel_rfl)) (by unfold Func.isWrapper; first | (rw [if_pos (by decide +kernel)]; kernel_rfl) | (rw [if_neg (by decide +kernel)]; exact ⟨rfl, rfl⟩))
    (fun os started H enc _ => lifted os started H enc)

/-- The statement. -/
theorem proved : Rows.PeepTicksSaid := over
#print axioms proved
end Go.Proofs.Ytmilnfboglhdgaa.peepTicks
