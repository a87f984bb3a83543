/- PeepAll: any instructions of 60 at most, made better until nothing can be, are what the document says. Conditions: none. -/
import Derived.Test.YtmilnfboglhdgaaPeepM
namespace Go.Proofs.Ytmilnfboglhdgaa.peepAll
open Go.ChangeShapes Go.WideShapes Go.ChangeAt Go.Deep
open Go Go.RowKit NestP NestW Sq ValP ValW PeepP PeepW PeepX PeepY PeepZ PeepC PeepD PeepF PeepG PeepH PeepJ PeepK PeepL WorldD

set_option maxRecDepth 100000 in
set_option maxHeartbeats 4000000 in
theorem walk (A : Option Addr) (n c : Nat) (l : List Ins) {w : World} (hr : RdI w A n l) (hc : n ≤ c) (hcm : c ≤ maxLen) :
    Calls Try.prog 4 #[.slice A n c] w fun e w' => e = .returned (.bool true) ∧ Below w.heap.size w w' := by
  have HR := Lib.hid hr
  have HLN := Lib.hid hr.1
  have HB := Lib.hid (Below.refl w.heap.size w)
  clear hr
  by_cases hbig : 60 < n
  · have t1 : decide ((60 : Int) < (n : Int)) = true := decide_eq_true (by omega)
    have t2 : decide (60 < n) = true := decide_eq_true (by omega)
    clear hbig
    go_enter Try.func4, Try.ntmps4
    go_wp2_with (go_at_call 7; refine (PeepM.awake w).mono ?_; rintro e w99 ⟨rfl, hb⟩; have HZ := Lib.hid (HB.out.trans (hb.mono HB.out.size)); clear hb)
    go_ret
    exact ⟨rfl, HZ.out⟩
  have t1 : decide ((60 : Int) < (n : Int)) = false := decide_eq_false (by omega)
  have t2 : decide (60 < n) = false := decide_eq_false (by omega)
  have hn : n ≤ 4096 := by omega
  clear hbig
  have HOL := Lib.hid (show (all (16 * l.length) l).length ≤ 1048576 from Nat.le_trans (all_len _ l) (by rw [← HLN.out]; omega))
  go_enter Try.func4, Try.ntmps4
  go_wp2_with fail
  refine (All_i l w HR.out hc hcm hn).mono ?_
  rintro e w1 ⟨v, rfl, ho, hb⟩
  have HO1 := Lib.hid (own_ex ho)
  have HB1 := Lib.hid hb
  obtain ⟨A1, c1, rfl, _, _, hr1⟩ := HO1.out
  have HR1 := Lib.hid hr1
  clear ho hb hr1
  go_wp2_with fail
  refine (All_r l w1 (HR.out.below HB1.out) hc hcm hn).mono ?_
  rintro e w2 ⟨A2, c2, rfl, _, _, hr2, hb⟩
  have HR2 := Lib.hid hr2
  have HR12 := Lib.hid (HR1.out.below hb)
  have HB2 := Lib.hid (HB1.out.trans (hb.mono HB1.out.size))
  clear hr2 hb
  go_wp2_with fail
  refine (same_r _ _ w2 HR12.out HR2.out HOL.out HOL.out).mono ?_
  rintro e w3 ⟨rfl, hb⟩
  rw [show decide (all (16 * l.length) l = all (16 * l.length) l) = true from decide_eq_true rfl]
  have HB3 := Lib.hid (HB2.out.trans (hb.mono HB2.out.size))
  clear hb
  go_wp2_with (go_at_call 7; refine (PeepM.awake w3).mono ?_; rintro e w99 ⟨rfl, hb⟩; have HZ := Lib.hid (HB3.out.trans (hb.mono HB3.out.size)); clear hb)
  go_ret
  exact ⟨rfl, HZ.out⟩

theorem own : ownKnob Try.prog.godebug = none := by kernel_rfl

set_option maxRecDepth 100000 in

theorem lifted (os : Os) (started : os.Started) (H : Type) (enc : TypeId × Value → H) :
    ReturnsInHanded {} Try.checked os 4 .any (Rows.peepAllSpec.pre6 enc Try.prog Try.f4 Rows.peepAllRow.domain false) (Rows.peepAllSpec.post enc Try.prog Try.f4 false true false false) := by
  refine returnsInHanded_of_change (C := Try.checked) own started (by kernel_rfl) Try.func4
    (ChangeSpec.witness6 (enc := enc) (C := Try.checked) false ⟨#[], #[.slice none 0 0], []⟩ 8 (by kernel_rfl) (by kernel_rfl) (by kernel_rfl) (by kernel_rfl)) ?_
  intro W base args ds gs before hval0 hW hcnd _
  have hval : ∀ (j : Nat) t v, Try.f4.params[j]? = some t → args[j]? = some v → Value.okWide Try.prog W .any base t v := hval0
  have hW' := hW
  obtain ⟨p, q, hA0, hV, rfl, hfz, hnd⟩ := hW
  have hA : DataW.TrodAll enc Try.prog W 0 (fun _ => true) true Try.f4.params.toList args.toList ds p := hA0
  rw [Try.params4] at hA hval
  obtain ⟨v0, vs0, d0, ds0, p0, q0, hargs, rfl, rfl, h0, r0⟩ := trodAll_cons hA
  obtain ⟨rfl, rfl, rfl⟩ := trodAll_nil r0
  obtain rfl : args = #[v0] := by cases args; simp_all
  clear hV
  obtain ⟨A0, n0, c0, l0, rfl, m0, q0, r00⟩ := PeepM.open_ins (hval 0 22 v0 rfl rfl) h0
  clear hA0 hval0
  refine (walk A0 n0 c0 l0 r00 m0 q0).mono fun e W' ⟨he, hg⟩ => ?_
  subst he
  exact ⟨_, rfl, Law.post (by kernel_rfl) (by kernel_rfl) Try.underlying4 rfl rfl hW' hg ⟨rfl, rfl, rfl⟩⟩

theorem over : Rows.peepAllRow.holds Try.pinned (OpenSpec.ofChange Rows.peepAllSpec) :=
  OpenClaim.holds_of_wide 4 Try.f4 rfl rfl rfl rfl rfl rfl rfl ⟨rfl, rfl, rfl, rfl, rfl⟩ rfl rfl rfl rfl rfl (by kernel_rfl) Try.func4 (by kernel_rfl)
    (of_decide_eq_true (by kernel_rfl)) (by unfold Func.isWrapper; first | (rw [if_pos (by decide +kernel)]; kernel_rfl) | (rw [if_neg (by decide +kernel)]; exact ⟨rfl, rfl⟩))
    (fun os started H enc _ => lifted os started H enc)

/-- The statement. -/
theorem proved : Rows.PeepAllSaid := over
#print axioms proved
end Go.Proofs.Ytmilnfboglhdgaa.peepAll
