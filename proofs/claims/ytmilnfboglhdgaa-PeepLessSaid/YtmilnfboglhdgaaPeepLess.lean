/- PeepLess: what is made better once has no more instructions, and is another list unless it was best. Conditions: none. -/
import Derived.Test.YtmilnfboglhdgaaPeepM
namespace Go.Proofs.Ytmilnfboglhdgaa.peepLess
open Go.ChangeShapes Go.WideShapes Go.ChangeAt Go.Deep
open Go Go.RowKit NestP NestW Sq ValP ValW PeepP PeepW PeepX PeepY PeepZ PeepC PeepD PeepF PeepG PeepH PeepJ PeepK PeepL WorldD

set_option maxRecDepth 100000 in
set_option maxHeartbeats 4000000 in
theorem walk (A : Option Addr) (n c : Nat) (l : List Ins) {w : World} (hr : RdI w A n l) (hc : n ≤ c) (hcm : c ≤ maxLen) :
    Calls Try.prog 5 #[.slice A n c] w fun e w' => e = .returned (.bool true) ∧ Below w.heap.size w w' := by
  have HR := Lib.hid hr
  have HLN := Lib.hid hr.1
  have HB := Lib.hid (Below.refl w.heap.size w)
  clear hr
  by_cases hbig : 200 < n
  · have t1 : decide ((200 : Int) < (n : Int)) = true := decide_eq_true (by omega)
    have t2 : decide (200 < n) = true := decide_eq_true (by omega)
    clear hbig
    go_enter Try.func5, Try.ntmps5
    go_wp2_with (go_at_call 7; refine (PeepM.awake w).mono ?_; rintro e w99 ⟨rfl, hb⟩; have HZ := Lib.hid (HB.out.trans (hb.mono HB.out.size)); clear hb)
    go_ret
    exact ⟨rfl, HZ.out⟩
  have t1 : decide ((200 : Int) < (n : Int)) = false := decide_eq_false (by omega)
  have t2 : decide (200 < n) = false := decide_eq_false (by omega)
  have hn : n ≤ 4096 := by omega
  clear hbig
  obtain ⟨k, hk⟩ : ∃ k, (onceL l).length = k := ⟨_, rfl⟩
  have HKN := Lib.hid (show k ≤ n by rw [← hk, HLN.out]; exact onceL_len l)
  have HK := Lib.hid hk
  obtain ⟨m, hm⟩ : ∃ m, (all (16 * l.length) l).length = m := ⟨_, rfl⟩
  have HMN := Lib.hid (show m ≤ n by rw [← hm, HLN.out]; exact all_len _ l)
  have HM := Lib.hid hm
  obtain ⟨q, hq⟩ : ∃ q, decide (l = onceL l) = q := ⟨_, rfl⟩
  have hq2 : decide (onceL l = l) = q := by rw [← hq]; exact decide_eq_decide.2 ⟨Eq.symm, Eq.symm⟩
  have HQ1 := Lib.hid hq
  have HQ2 := Lib.hid hq2
  clear hq hq2 hk hm
  have s1 : decide ((k : Int) ≤ (n : Int)) = true := decide_eq_true (by have := HKN.out; omega)
  have s2 : decide (k ≤ n) = true := decide_eq_true HKN.out
  have s3 : decide ((m : Int) ≤ (n : Int)) = true := decide_eq_true (by have := HMN.out; omega)
  have s4 : decide (m ≤ n) = true := decide_eq_true HMN.out
  go_enter Try.func5, Try.ntmps5
  go_wp2_with fail
  refine (Once_i l w HR.out hc (by omega)).mono ?_
  rintro e w1 ⟨v, rfl, ho, hb⟩
  have HO1 := Lib.hid (own_ex ho)
  have HB1 := Lib.hid hb
  obtain ⟨A1, c1, rfl, _, _, hr1⟩ := HO1.out
  have HR1 := Lib.hid hr1
  clear ho hb hr1
  rw [HK.out] at HR1 ⊢
  go_wp2_with fail
  refine (Best_i l w1 (HR.out.below HB1.out) hc hn).mono ?_
  rintro e w2 ⟨rfl, hb⟩
  rw [HQ1.out]
  have HB2 := Lib.hid (HB1.out.trans (hb.mono HB1.out.size))
  have HR2 := Lib.hid (HR1.out.below hb)
  clear hb
  go_wp2_with fail
  refine (same_r (onceL l) l w2 HR2.out (HR.out.below HB2.out) (by have := HKN.out; omega) (by omega)).mono ?_
  rintro e w3 ⟨rfl, hb⟩
  rw [HQ2.out]
  have HB3 := Lib.hid (HB2.out.trans (hb.mono HB2.out.size))
  clear hb
  cases q with
  | true =>
    go_wp2_with fail
    refine (All_i l w3 (HR.out.below HB3.out) hc hcm hn).mono ?_
    rintro e w4 ⟨v, rfl, ho, hb⟩
    have HO4 := Lib.hid (own_ex ho)
    have HB4 := Lib.hid (HB3.out.trans (hb.mono HB3.out.size))
    obtain ⟨A4, c4, rfl, _, _, _⟩ := HO4.out
    clear ho hb
    rw [HM.out]
    go_wp2_with (go_at_call 7; refine (PeepM.awake w4).mono ?_; rintro e w99 ⟨rfl, hb⟩; have HZ := Lib.hid (HB4.out.trans (hb.mono HB4.out.size)); clear hb)
    go_ret
    exact ⟨rfl, HZ.out⟩
  | false =>
    go_wp2_with fail
    refine (All_i l w3 (HR.out.below HB3.out) hc hcm hn).mono ?_
    rintro e w4 ⟨v, rfl, ho, hb⟩
    have HO4 := Lib.hid (own_ex ho)
    have HB4 := Lib.hid (HB3.out.trans (hb.mono HB3.out.size))
    obtain ⟨A4, c4, rfl, _, _, _⟩ := HO4.out
    clear ho hb
    rw [HM.out]
    go_wp2_with (go_at_call 7; refine (PeepM.awake w4).mono ?_; rintro e w99 ⟨rfl, hb⟩; have HZ := Lib.hid (HB4.out.trans (hb.mono HB4.out.size)); clear hb)
    go_ret
    exact ⟨rfl, HZ.out⟩

theorem own : ownKnob Try.prog.godebug = none := by kernel_rfl

set_option maxRecDepth 100000 in

theorem lifted (os : Os) (started : os.Started) (H : Type) (enc : TypeId × Value → H) :
    ReturnsInHanded {} Try.checked os 5 .any (Rows.peepLessSpec.pre6 enc Try.prog Try.f5 Rows.peepLessRow.domain false) (Rows.peepLessSpec.post enc Try.prog Try.f5 false true false false) := by
  refine returnsInHanded_of_change (C := Try.checked) own started (by kernel_rfl) Try.func5
    (ChangeSpec.witness6 (enc := enc) (C := Try.checked) false ⟨#[], #[.slice none 0 0], []⟩ 8 (by kernel_rfl) (by kernel_rfl) (by kernel_rfl) (by kernel_rfl)) ?_
  intro W base args ds gs before hval0 hW hcnd _
  have hval : ∀ (j : Nat) t v, Try.f5.params[j]? = some t → args[j]? = some v → Value.okWide Try.prog W .any base t v := hval0
  have hW' := hW
  obtain ⟨p, q, hA0, hV, rfl, hfz, hnd⟩ := hW
  have hA : DataW.TrodAll enc Try.prog W 0 (fun _ => true) true Try.f5.params.toList args.toList ds p := hA0
  rw [Try.params5] at hA hval
  obtain ⟨v0, vs0, d0, ds0, p0, q0, hargs, rfl, rfl, h0, r0⟩ := trodAll_cons hA
  obtain ⟨rfl, rfl, rfl⟩ := trodAll_nil r0
  obtain rfl : args = #[v0] := by cases args; simp_all
  clear hV
  obtain ⟨A0, n0, c0, l0, rfl, m0, q0, r00⟩ := PeepM.open_ins (hval 0 22 v0 rfl rfl) h0
  clear hA0 hval0
  refine (walk A0 n0 c0 l0 r00 m0 q0).mono fun e W' ⟨he, hg⟩ => ?_
  subst he
  exact ⟨_, rfl, Law.post (by kernel_rfl) (by kernel_rfl) Try.underlying4 rfl rfl hW' hg ⟨rfl, rfl, rfl⟩⟩

theorem over : Rows.peepLessRow.holds Try.pinned (OpenSpec.ofChange Rows.peepLessSpec) :=
  OpenClaim.holds_of_wide 5 Try.f5 rfl rfl rfl rfl rfl rfl rfl ⟨rfl, rfl, rfl, rfl, rfl⟩ rfl rfl rfl rfl rfl (by kernel_rfl) Try.func5 (by kernel_rfl)
    (of_decide_eq_true (by kernel_rfl)) (by unfold Func.isWrapper; first | (rw [if_pos (by decide +kernel)]; kernel_rfl) | (rw [if_neg (by decide +kernel)]; exact ⟨rfl, rfl⟩))
    (fun os started H enc _ => lifted os started H enc)

/-- The statement. -/
theorem proved : Rows.PeepLessSaid := over
#print axioms proved
end Go.Proofs.Ytmilnfboglhdgaa.peepLess
