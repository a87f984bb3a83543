/- Sealed bytes, one of which is changed, are opened by no one. Conditions: none beyond what every reading of the arguments gives. -/
import Derived.Test.YtjfllfikeopgnaaSumD
namespace Go.Proofs.Ytjfllfikeopgnaa.sumSpoilt
open Go.ChangeShapes Go.WideShapes Go.ChangeAt Go.RowKit
open SumP Sq SumW SumX SumY SumZ SumO SumA SumD

set_option maxRecDepth 100000 in
set_option maxHeartbeats 1000000 in
theorem walk {w : World} (v : Value) (l : List UInt8) (hv : Rv encB w v l) (a : Int) (wa : (Lit.int .u16 a).wf = true) (b : Int) (wb : (Lit.int .u8 b).wf = true) :
    Calls Try.prog 6 #[v, .int .u16 a, .int .u8 b] w fun e w' => e = .returned (.bool true) ∧ Below w.heap.size w w' := by
  obtain ⟨A, n, c, rfl, hnc, hcm, hr⟩ := hv
  unfold maxLen at hcm
  obtain ⟨at', rfl, hat⟩ := u16_nat wa
  obtain ⟨x, rfl⟩ := u8_byte wb
  clear wa wb
  by_cases hbig : 2000 < n
  · go_enter Try.func6, Try.ntmps6
    go_wp2_with (go_at_call 9; refine (SumA.awake _).mono ?_; rintro e w9 ⟨rfl, hb9⟩)
    go_ret
    exact ⟨rfl, hb9⟩
  · have R := Lib.hid hr
    have L := Lib.hid hr.1
    have h0 := fun w' (h : w.heap.size ≤ w'.heap.size) => Lib.hid (own_nil (enc := encB) (E := EB) w' w.heap.size)
    clear hr
    go_enter Try.func6, Try.ntmps6
    obtain ⟨m, hmn⟩ : ∃ m, n + 4 = m := ⟨_, rfl⟩
    have hm4 : 4 ≤ m := by omega
    have hm5 : m ≤ 2004 := by omega
    have HL1 := Lib.hid (show (shut l).length = m by rw [shut_len, ← L.out, hmn])
    clear hmn
    obtain ⟨i, hi⟩ : ∃ i, at' % m = i := ⟨_, rfl⟩
    have him : i < m := by rw [← hi]; exact Nat.mod_lt _ (by omega)
    have hmod : (at' : Int) % (m : Int) = (i : Int) := by rw [← hi]; omega
    have i0 : (0 : Int) ≤ (i : Int) := by omega
    have i1 : (i : Int) < (m : Int) := by omega
    have hm0 : ((m : Int) == 0) = false := by simp; omega
    have hil : i < (shut l).length := by rw [HL1.out]; exact him
    have HIL := Lib.hid hil
    obtain ⟨y, hy⟩ : ∃ y, (shut l)[i] = y := ⟨_, rfl⟩
    have HY := Lib.hid hy
    clear hi hy hil
    go_wp2_with fail
    refine (seal_i A n c l _ R.out (by omega)).mono ?_
    rintro e w1 ⟨v1, rfl, hown1, hb1⟩
    obtain ⟨A1, c1, rfl, hl1, _⟩ := hown1.shape
    have R1 := Lib.hid hown1.rd
    have hO1 := Lib.hid (own_nil (enc := encB) (E := EB) w1 w.heap.size)
    rw [HL1.out] at R1 hl1 ⊢
    clear hown1 h0
    by_cases hyx : y = x
    · have hq : ((y.toNat : Int) == (x.toNat : Int)) = true := by rw [hyx]; simp
      clear hyx
      go_wp2_with (first
        | (at_builtin; refine wpList_append elB rfl _ _ rfl rfl hO1.out A1 m c1 (shut l) rfl R1.out (by simp [maxLen]; omega) (by simp; omega) hb1.size ?_; rintro x2 w2 hown2 hb2 hg2 ho2; rw [List.nil_append] at hown2; obtain ⟨A2, c2, rfl, hl2, hm2⟩ := hown2.shape; rw [HL1.out] at hown2 hl2 ⊢; obtain ⟨g, rfl, hBg, hglt, hcell, hfz⟩ := hown2.at_ (by omega); have hci : w2.cell? ⟨g, i, none⟩ = some (.int .u8 (y.toNat : Int)) := (by rw [← HY.out]; exact hcell i HIL.out); clear hown2 hg2 ho2 hcell)
        | (go_at_call 9; refine (SumA.awake _).mono ?_; rintro e w9 ⟨rfl, hb9⟩))
      go_ret
      exact ⟨rfl, Sq.join (hb1.trans hb2) hb9⟩
    · have hq : ((y.toNat : Int) == (x.toNat : Int)) = false := by
        rw [beq_eq_false_iff_ne]; intro h; exact hyx (UInt8.toNat_inj.1 (by omega))
      have HSP := Lib.hid (spoilt l i x HIL.out (fun h => hyx (HY.out.symm.trans h)))
      have HOP := Lib.hid (show opened ((shut l).set i x) = [] from if_neg (by rw [HSP.out]; simp))
      have HER := Lib.hid (show oerr ((shut l).set i x) = 14 by unfold oerr; rw [if_neg (by rw [List.length_set, HL1.out]; omega), if_neg (by rw [HSP.out]; simp)])
      clear hyx
      go_wp2_with (first
        | (at_builtin; refine wpList_append elB rfl _ _ rfl rfl hO1.out A1 m c1 (shut l) rfl R1.out (by simp [maxLen]; omega) (by simp; omega) hb1.size ?_; rintro x2 w2 hown2 hb2 hg2 ho2; rw [List.nil_append] at hown2; obtain ⟨A2, c2, rfl, hl2, hm2⟩ := hown2.shape; rw [HL1.out] at hown2 hl2 ⊢; obtain ⟨g, rfl, hBg, hglt, hcell, hfz⟩ := hown2.at_ (by omega); have hci : w2.cell? ⟨g, i, none⟩ = some (.int .u8 (y.toNat : Int)) := (by rw [← HY.out]; exact hcell i HIL.out); have hfi := hfz i; have HO3 := Lib.hid (hown2.store i x); clear hown2 hg2 ho2 hcell hfz))
      have hb3 : Below w.heap.size w2 (w2.setCell ⟨g, i, none⟩ (.int .u8 (x.toNat : Int))) := (Below.refl _ _).setCell hBg _
      have R3 := Lib.hid HO3.out.rd
      refine (open_i _ m c2 _ _ R3.out (by omega) hl2).mono ?_
      rintro e w4 ⟨v4, rfl, hown4, hb4⟩
      obtain ⟨A4, c4, rfl, _, _⟩ := hown4.shape
      rw [HER.out, HOP.out]
      clear hown4
      go_wp2_with (go_at_call 9; refine (SumA.awake _).mono ?_; rintro e w9 ⟨rfl, hb9⟩)
      go_ret
      exact ⟨rfl, Sq.join (joinB (Nat.le_refl _) ((hb1.trans hb2).trans hb3) (show Below (w2.setCell ⟨g, i, none⟩ (.int .u8 (x.toNat : Int))).heap.size _ _ from hb4)) hb9⟩

theorem own : ownKnob Try.prog.godebug = none := by kernel_rfl

set_option maxRecDepth 100000 in
theorem lifted (os : Os) (started : os.Started) (H : Type) (enc : TypeId × Value → H) :
    ReturnsInHanded {} Try.checked os 6 .any (Rows.sumSpoiltSpec.pre6 enc Try.prog Try.f6 Rows.sumSpoiltRow.domain false) (Rows.sumSpoiltSpec.post enc Try.prog Try.f6 false true false false) := by
  refine returnsInHanded_of_change (C := Try.checked) own started (by kernel_rfl) Try.func6
    (ChangeSpec.witness6 (enc := enc) (C := Try.checked) false ⟨#[], #[.slice none 0 0, .int .u16 0, .int .u8 0], []⟩ 8 (by kernel_rfl) (by kernel_rfl) (by kernel_rfl) (by kernel_rfl)) ?_
  intro W base args ds gs before hval0 hW hcnd _
  have hval : ∀ (j : Nat) t v, Try.f6.params[j]? = some t → args[j]? = some v → Value.okWide Try.prog W .any base t v := hval0
  have hW' := hW
  obtain ⟨p, q, hA0, hV, rfl, hfz, hnd⟩ := hW
  have hA : DataW.TrodAll enc Try.prog W 0 (fun _ => true) true Try.f6.params.toList args.toList ds p := hA0
  rw [Try.params6] at hA hval
  obtain ⟨v0, vs0, d0, ds0, p0, q0, hargs, rfl, rfl, h0, r0⟩ := trodAll_cons hA
  obtain ⟨v1, vs1, d1, ds1, p1, q1, rfl, rfl, rfl, h1, r1⟩ := trodAll_cons r0
  obtain ⟨v2, vs2, d2, ds2, p2, q2, rfl, rfl, rfl, h2, r2⟩ := trodAll_cons r1
  obtain ⟨rfl, rfl, rfl⟩ := trodAll_nil r2
  obtain rfl : args = #[v0, v1, v2] := by cases args; simp_all
  clear hV
  obtain ⟨l0, o0⟩ := SumD.open_bytes (hval 0 22 v0 rfl rfl) h0
  obtain ⟨a1, rfl, rfl, rfl, w1⟩ := open_int Try.underlying33 (hval 1 33 v1 rfl rfl) h1
  obtain ⟨a2, rfl, rfl, rfl, w2⟩ := open_int Try.underlying5 (hval 2 5 v2 rfl rfl) h2
  clear hA0 hval0
  refine (walk (w := W) v0 l0 o0 a1 w1 a2 w2).mono fun e W' ⟨he, hg⟩ => ?_
  subst he
  exact ⟨_, rfl, Law.post (by kernel_rfl) (by kernel_rfl) Try.underlying4 rfl rfl hW' hg ⟨rfl, rfl, rfl⟩⟩

theorem over : Rows.sumSpoiltRow.holds Try.pinned (OpenSpec.ofChange Rows.sumSpoiltSpec) :=
  OpenClaim.holds_of_wide 6 Try.f6 rfl rfl rfl rfl rfl rfl rfl ⟨rfl, rfl, rfl, rfl, rfl⟩ rfl rfl rfl rfl rfl (by kernel_rfl) Try.func6 (by kernel_rfl)
    (of_decide_eq_true (by kernel_rfl)) (by unfold Func.isWrapper; first | (rw [if_pos (by decide +kernel)]; kernel_rfl) | (rw [if_neg (by decide +kernel)]; exact ⟨rfl, rfl⟩))
    (fun os started H enc _ => lifted os started H enc)

/-- The statement. -/
theorem proved : Rows.SumSpoiltSaid := over
#print axioms proved
end Go.Proofs.Ytjfllfikeopgnaa.sumSpoilt
