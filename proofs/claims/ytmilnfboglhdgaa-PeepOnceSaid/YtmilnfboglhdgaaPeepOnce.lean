/- PeepOnce: any instructions of 200 at most, made better once, are what the document says, and so is whether they can be. Conditions: none. -/
import Derived.Test.YtmilnfboglhdgaaPeepM
namespace Go.Proofs.Ytmilnfboglhdgaa.peepOnce
open Go.ChangeShapes Go.WideShapes Go.ChangeAt Go.Deep
open Go Go.RowKit NestP NestW Sq ValP ValW PeepP PeepW PeepX PeepY PeepZ PeepC PeepD PeepF PeepG PeepH PeepJ PeepK PeepL WorldD

set_option maxRecDepth 100000 in
set_option maxHeartbeats 4000000 in
theorem walk (A : Option Addr) (n c : Nat) (l : List Ins) {w : World} (hr : RdI w A n l) (hc : n ≤ c) (hcm : c ≤ maxLen) :
    Calls Try.prog 3 #[.slice A n c] w fun e w' => e = .returned (.bool true) ∧ Below w.heap.size w w' := by
  have HR := Lib.hid hr
  have HLN := Lib.hid hr.1
  have HB := Lib.hid (Below.refl w.heap.size w)
  clear hr
  by_cases hbig : 200 < n
  · have t1 : decide ((200 : Int) < (n : Int)) = true := decide_eq_true (by omega)
    have t2 : decide (200 < n) = true := decide_eq_true (by omega)
    clear hbig
    go_enter Try.func3, Try.ntmps3
    go_wp2_with (go_at_call 7; refine (PeepM.awake w).mono ?_; rintro e w99 ⟨rfl, hb⟩; have HZ := Lib.hid (HB.out.trans (hb.mono HB.out.size)); clear hb)
    go_ret
    exact ⟨rfl, HZ.out⟩
  have t1 : decide ((200 : Int) < (n : Int)) = false := decide_eq_false (by omega)
  have t2 : decide (200 < n) = false := decide_eq_false (by omega)
  have hn : n ≤ 4096 := by omega
  clear hbig
  have HOL := Lib.hid (show (onceL l).length ≤ 1048576 from Nat.le_trans (onceL_len l) (by rw [← HLN.out]; omega))
  obtain ⟨q, hq⟩ : ∃ q, decide (l = onceL l) = q := ⟨_, rfl⟩
  have hq2 : decide (onceL l = l) = q := by rw [← hq]; exact decide_eq_decide.2 ⟨Eq.symm, Eq.symm⟩
  have HQ1 := Lib.hid hq
  have HQ2 := Lib.hid hq2
  clear hq hq2
  go_enter Try.func3, Try.ntmps3
  go_wp2_with fail
  refine (Once_i l w HR.out hc (by omega)).mono ?_
  rintro e w1 ⟨v, rfl, ho, hb⟩
  have HO1 := Lib.hid (own_ex ho)
  have HB1 := Lib.hid hb
  obtain ⟨A1, c1, rfl, _, _, hr1⟩ := HO1.out
  have HR1 := Lib.hid hr1
  clear ho hb hr1
  go_wp2_with fail
  refine (Once_r l w1 (HR.out.below HB1.out) hc hcm (by omega)).mono ?_
  rintro e w2 ⟨A2, c2, rfl, _, _, hr2, hb⟩
  have HR2 := Lib.hid hr2
  have HR12 := Lib.hid (HR1.out.below hb)
  have HB2 := Lib.hid (HB1.out.trans (hb.mono HB1.out.size))
  clear hr2 hb
  go_wp2_with fail
  refine (same_r (onceL l) (onceL l) w2 HR12.out HR2.out HOL.out HOL.out).mono ?_
  rintro e w3 ⟨rfl, hb⟩
  rw [show decide (onceL l = onceL l) = true from decide_eq_true rfl]
  have HB3 := Lib.hid (HB2.out.trans (hb.mono HB2.out.size))
  clear hb
  go_wp2_with fail
  refine (Best_i l w3 (HR.out.below HB3.out) hc hn).mono ?_
  rintro e w4 ⟨rfl, hb⟩
  rw [HQ1.out]
  have HB4 := Lib.hid (HB3.out.trans (hb.mono HB3.out.size))
  clear hb
  go_wp2_with fail
  refine (Best_r l w4 (HR.out.below HB4.out) hc hcm hn).mono ?_
  rintro e w5 ⟨rfl, hb⟩
  rw [HQ2.out]
  have HB5 := Lib.hid (HB4.out.trans (hb.mono HB4.out.size))
  clear hb
  have hqq : (q == q) = true := by simp
  cases q with
  | true =>
    go_wp2_with (go_at_call 7; refine (PeepM.awake w5).mono ?_; rintro e w99 ⟨rfl, hb⟩; have HZ := Lib.hid (HB5.out.trans (hb.mono HB5.out.size)); clear hb)
    go_ret
    exact ⟨rfl, HZ.out⟩
  | false =>
    go_wp2_with (go_at_call 7; refine (PeepM.awake w5).mono ?_; rintro e w99 ⟨rfl, hb⟩; have HZ := Lib.hid (HB5.out.trans (hb.mono HB5.out.size)); clear hb)
    go_ret
    exact ⟨rfl, HZ.out⟩

theorem own : ownKnob Try.prog.godebug = none := by kernel_rfl

set_option maxRecDepth 100000 in

theorem lifted (os : Os) (started : os.Started) (H : Type) (enc : TypeId × Value → H) :
    ReturnsInHanded {} Try.checked os 3 .any (Rows.peepOnceSpec.pre6 enc Try.prog Try.f3 Rows.peepOnceRow.domain false) (Rows.peepOnceSpec.post enc Try.prog Try.f3 false true false false) := by
  refine returnsInHanded_of_change (C := Try.checked) own started (by kernel_rfl) Try.func3
    (ChangeSpec.witness6 (enc := enc) (C := Try.checked) false ⟨#[], #[.slice none 0 0], []⟩ 8 (by kernel_rfl) (by kernel_rfl) (by kernel_rfl) (by kernel_rfl)) ?_
  intro W base args ds gs before hval0 hW hcnd _
  have hval : ∀ (j : Nat) t v, Try.f3.params[j]? = some t → args[j]? = some v → Value.okWide Try.prog W .any base t v := hval0
  have hW' := hW
  obtain ⟨p, q, hA0, hV, rfl, hfz, hnd⟩ := hW
  have hA : DataW.TrodAll enc Try.prog W 0 (fun _ => true) true Try.f3.params.toList args.toList ds p := hA0
  rw [Try.params3] at hA hval
  obtain ⟨v0, vs0, d0, ds0, p0, q0, hargs, rfl, rfl, h0, r0⟩ := trodAll_cons hA
  obtain ⟨rfl, rfl, rfl⟩ := trodAll_nil r0
  obtain rfl : args = #[v0] := by cases args; simp_all
  clear hV
  obtain ⟨A0, n0, c0, l0, rfl, m0, q0, r00⟩ := PeepM.open_ins (hval 0 22 v0 rfl rfl) h0
  clear hA0 hval0
  refine (walk A0 n0 c0 l0 r00 m0 q0).mono fun e W' ⟨he, hg⟩ => ?_
  subst he
  exact ⟨_, rfl, Law.post (by kernel_rfl) (by kernel_rfl) Try.underlying4 rfl rfl hW' hg ⟨rfl, rfl, rfl⟩⟩

theorem over : Rows.peepOnceRow.holds Try.pinned (OpenSpec.ofChange Rows.peepOnceSpec) :=
  OpenClaim.holds_of_wide 3 Try.f3 rfl rfl rfl rfl rfl rfl rfl ⟨rfl, rfl, rfl, rfl, rfl⟩ rfl rfl rfl rfl rfl (by kernel_rfl) Try.func3 (by kernel_rfl)
    (of_decide_eq_true (by kernel_rfl)) (by unfold Func.isWrapper; first | (rw [if_pos (by decide +kernel)]; kernel_rfl) | (rw [if_neg (by decide +kernel)]; exact ⟨rfl, rfl⟩))
    (fun os started H enc _ => lifted os started H enc)

/-- The statement. -/
theorem proved : Rows.PeepOnceSaid := over
#print axioms proved
end Go.Proofs.Ytmilnfboglhdgaa.peepOnce
