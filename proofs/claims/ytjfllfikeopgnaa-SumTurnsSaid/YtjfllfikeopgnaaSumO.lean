/- The walks of Open, by the program and by the reference. -/
import Derived.Test.YtjfllfikeopgnaaSumZ
namespace Go.Proofs.Ytjfllfikeopgnaa.SumO
open Go Go.RowKit SumP Sq SumW SumX SumY SumZ

/-- What Open gives: the bytes, and the error's number. -/
def opened (l : List UInt8) : List UInt8 := if good l = true then body l else []
def oerr (l : List UInt8) : Int := if l.length < 4 then 2 else if good l = true then 0 else 14

theorem body_len (l : List UInt8) : (body l).length = l.length - 4 := by unfold body; simp
theorem high_run (A : Option Addr) (k c : Nat) (hk : 4 ≤ k) (hc : k ≤ c) (w0 : World) : (Instr.slice 22 (.slice A k c) none (some (.int .i64 ((k : Int) - 4))) none).run Try.prog w0 = .ok (.slice A (k - 4) c) w0 := by
  rw [show ((k : Int) - 4) = ((k - 4 : Nat) : Int) by omega]
  exact Slic.run_high 22 5 1 Try.underlying22 (by kernel_rfl) A k c (k - 4) (by omega) w0
theorem short_bad {l : List UInt8} (h : l.length < 4) : good l = false := decide_eq_false fun h' => by omega

set_option maxRecDepth 100000 in
theorem open_i (A : Option Addr) (k c : Nat) (l : List UInt8) (w : World) (hr : Rd encB w A k l) (hk : k ≤ 1000000) (hc : k ≤ c) :
    Calls Try.prog 14 #[.slice A k c] w fun e w' => ∃ v, e = .returned (.tuple #[v, .int .i64 (oerr l)]) ∧ Own encB EB w' w.heap.size v (opened l) ∧ Below w.heap.size w w' := by
  have R := Lib.hid hr
  have L := Lib.hid hr.1
  clear hr
  by_cases h4 : k < 4
  · have HB := short_bad (l := l) (by rw [← L.out]; exact h4)
    have H1 := Lib.hid (show opened l = [] from if_neg (by rw [HB]; simp))
    have H2 := Lib.hid (show oerr l = 2 from if_pos (by rw [← L.out]; exact h4))
    have t0 : decide ((k : Int) < 4) = true := by simp; omega
    clear HB
    go_enter Try.func14, Try.ntmps14
    go_wp2_with fail
    go_ret2
    exact ⟨_, by rw [H2.out]; rfl, by rw [H1.out]; exact own_nil _ _, Below.refl _ _⟩
  · have h4' : (4 : Int) ≤ (k : Int) := by omega
    have hhi := high_run A k c (by omega) hc
    have RB := Lib.hid (show Rd encB w A (k - 4) (body l) by unfold body; rw [← L.out]; exact R.out.high (k - 4) (by omega))
    have t0 : decide ((k : Int) < 4) = false := by simp; omega
    have HBL := Lib.hid (show (body l).length = k - 4 by rw [body_len, ← L.out])
    go_enter Try.func14, Try.ntmps14
    go_wp2_with fail
    refine (clone_i A (k - 4) c (body l) _ RB.out (by omega)).mono ?_
    rintro e w1 ⟨v, rfl, hown, hb1⟩
    obtain ⟨A1, c1, rfl, _, _⟩ := hown.shape
    rw [HBL.out] at hown ⊢
    have RO := Lib.hid hown.rd
    have HO := Lib.hid hown
    have R1 := Lib.hid (R.out.below hb1)
    clear hown hhi
    go_wp2_with fail
    refine (seal_i A1 (k - 4) c1 (body l) _ RO.out (by omega)).mono ?_
    rintro e w2 ⟨v2, rfl, hown, hb2⟩
    obtain ⟨A2, c2, rfl, _, _⟩ := hown.shape
    have RS := Lib.hid hown.rd
    have R2 := Lib.hid (R1.out.below hb2)
    have HO2 := Lib.hid (HO.out.below hb2)
    have hsl : (shut (body l)).length ≤ 1000000 := by rw [shut_len, HBL.out]; omega
    obtain ⟨m, hm⟩ : ∃ m, (shut (body l)).length = m := ⟨_, rfl⟩
    rw [hm] at RS hsl ⊢
    clear hown hm
    go_wp2_with fail
    refine (equal_i A2 A m c2 k c (shut (body l)) l _ RS.out R2.out (by omega)).mono ?_
    rintro e w3 ⟨rfl, hb3⟩
    have HO3 := Lib.hid (HO2.out.below hb3)
    have hbel := Lib.hid (Sq.join (Sq.join hb1 hb2) hb3)
    by_cases hg : shut (body l) = l
    · have HG := Lib.hid (show good l = true from decide_eq_true ⟨by rw [← L.out]; omega, hg⟩)
      have H1 := Lib.hid (show opened l = body l from if_pos HG.out)
      have H2 := Lib.hid (show oerr l = 0 by unfold oerr; rw [if_neg (by rw [← L.out]; exact h4), if_pos HG.out])
      rw [decide_eq_true hg]
      clear hg
      go_wp2_with fail
      go_ret2
      exact ⟨_, by rw [H2.out]; rfl, by rw [H1.out]; exact HO3.out, hbel.out⟩
    · have HG := Lib.hid (show good l = false from decide_eq_false fun h => hg h.2)
      have H1 := Lib.hid (show opened l = [] from if_neg (by rw [HG.out]; simp))
      have H2 := Lib.hid (show oerr l = 14 by unfold oerr; rw [if_neg (by rw [← L.out]; exact h4), if_neg (by rw [HG.out]; simp)])
      rw [decide_eq_false hg]
      clear hg
      go_wp2_with fail
      go_ret2
      exact ⟨_, by rw [H2.out]; rfl, by rw [H1.out]; exact own_nil _ _, hbel.out⟩

theorem good_tail {l : List UInt8} (_ : 4 ≤ l.length) : (shut (body l) = l) ↔ quad (on 0 (body l)) = l.drop (l.length - 4) := by
  unfold shut
  constructor
  · intro h'
    have e : body l ++ quad (on 0 (body l)) = body l ++ l.drop (l.length - 4) := by
      conv => rhs; unfold body; rw [List.take_append_drop]
      exact h'
    exact List.append_cancel_left e
  · intro h'
    rw [h']
    unfold body
    exact List.take_append_drop _ _

set_option maxRecDepth 100000 in
theorem open_r (A : Option Addr) (k c : Nat) (l : List UInt8) (w : World) (hr : Rd encB w A k l) (hk : k ≤ 1000000) (hc : k ≤ c) :
    Calls Try.prog 15 #[.slice A k c] w fun e w' => ∃ v, e = .returned (.tuple #[v, .int .i64 (oerr l)]) ∧ Own encB EB w' w.heap.size v (opened l) ∧ Below w.heap.size w w' := by
  have R := Lib.hid hr
  have L := Lib.hid hr.1
  clear hr
  by_cases h4 : k < 4
  · have HB := short_bad (l := l) (by rw [← L.out]; exact h4)
    have H1 := Lib.hid (show opened l = [] from if_neg (by rw [HB]; simp))
    have H2 := Lib.hid (show oerr l = 2 from if_pos (by rw [← L.out]; exact h4))
    have t0 : ((k : Int) - 4) < 0 := by omega
    clear HB
    go_enter Try.func15, Try.ntmps15
    go_wp2_with fail
    go_ret2
    exact ⟨_, by rw [H2.out]; rfl, by rw [H1.out]; exact own_nil _ _, Below.refl _ _⟩
  · have h4' : (4 : Int) ≤ (k : Int) := by omega
    have hhi := high_run A k c (by omega) hc
    have RB := Lib.hid (show Rd encB w A (k - 4) (body l) by unfold body; rw [← L.out]; exact R.out.high (k - 4) (by omega))
    go_enter Try.func15, Try.ntmps15
    go_wp2_with fail
    refine (of_r A (k - 4) c (body l) _ RB.out (by unfold maxLen; omega)).mono ?_
    rintro e w1 ⟨rfl, rfl⟩
    go_wp2_with fail
    refine (long_r none 0 0 [] _ _ (Rd.nil _ _) (by omega) (on_le (body l))).mono ?_
    rintro e w1 ⟨v, rfl, hown, hb1⟩
    rw [List.nil_append] at hown
    obtain ⟨A1, c1, rfl, _, _⟩ := hown.shape
    have RQ := Lib.hid hown.rd
    have R1 := Lib.hid (R.out.below hb1)
    have HRB1 := Lib.hid (RB.out.below hb1)
    rw [quad_len] at RQ ⊢
    clear hown
    have HQL := Lib.hid (quad_len (on 0 (body l)))
    go_wp2_with fail
    go_loopw [6] (fun i wr => ∃ j : Nat, j ≤ 4 ∧ i = .int .i64 (j : Int) ∧ (∀ i, i < j → (quad (on 0 (body l)))[i]? = (l.drop (l.length - 4))[i]?) ∧ ∃ q, wr = w1.drewN q) (fun i _ => 4 - (intOf i).toNat)
    case atStart => exact ⟨0, Nat.zero_le _, rfl, fun i hi => by omega, 0, rfl⟩
    case round =>
      obtain ⟨j, hj, rfl, hall, q, rfl⟩ := hrel
      have HALL := Lib.hid hall
      clear hall
      by_cases hlt : j < 4
      · obtain ⟨b, o, rfl, hb, hl, hcell⟩ := RQ.out.at_ hlt
        obtain ⟨b', o', rfl, hb', hl', hcell'⟩ := R1.out.at_ (show k - 4 + j < k by omega)
        have HE1 := Lib.hid (List.getElem?_eq_getElem hl)
        have HE2 := Lib.hid (show (l.drop (l.length - 4))[j]? = some l[k - 4 + j] by
          rw [List.getElem?_drop, ← L.out, List.getElem?_eq_getElem hl'])
        obtain ⟨x, hx⟩ : ∃ x, (quad (on 0 (body l)))[j] = x := ⟨_, rfl⟩
        obtain ⟨y, hy⟩ : ∃ y, l[k - 4 + j] = y := ⟨_, rfl⟩
        rw [hx] at hcell HE1
        rw [hy] at hcell' HE2
        unfold encB at hcell hcell'
        have hadd : ((k : Int) - 4 + (j : Int)).toNat = k - 4 + j := by omega
        have k0 : (0 : Int) ≤ (j : Int) := by omega
        have k1 : (j : Int) < 4 := by omega
        have k2 : (0 : Int) ≤ (k : Int) - 4 + (j : Int) := by omega
        have k3 : (k : Int) - 4 + (j : Int) < (k : Int) := by omega
        clear hx hy hl hl' hb hb' hhi
        by_cases hxy : x = y
        · subst hxy
          go_wp2_with fail
          go_quiet (fail)
          go_wp2_with fail
          go_roundw
          case rel =>
            refine ⟨j + 1, by omega, by go_num, fun i hi => ?_, _, rfl⟩
            rcases Nat.lt_or_eq_of_le (Nat.le_of_lt_succ hi) with h | rfl
            · exact HALL.out i h
            · rw [HE1.out, HE2.out]
          case measure => simp [intOf]; omega
        · have hne : ((x.toNat : Int) != (y.toNat : Int)) = true := by
            rw [bne_iff_ne]; intro h; exact hxy (UInt8.toNat_inj.1 (by omega))
          have HG := Lib.hid (show good l = false from decide_eq_false fun h => by
            have h1 := (good_tail h.1).1 h.2
            have h2 := HE1.out
            rw [h1, HE2.out] at h2
            injection h2 with h2
            exact hxy h2.symm)
          have H1 := Lib.hid (show opened l = [] from if_neg (by rw [HG.out]; simp))
          have H2 := Lib.hid (show oerr l = 14 by unfold oerr; rw [if_neg (by rw [← L.out]; exact h4), if_neg (by rw [HG.out]; simp)])
          clear hxy
          go_wp2_with fail
          go_quiet (fail)
          go_wp2_with fail
          go_ret2
          exact ⟨_, by rw [H2.out]; rfl, by rw [H1.out]; exact own_nil _ _, belowN (belowN hb1 _) _⟩
      · have hj4 : j = 4 := by omega
        have HG := Lib.hid (show good l = true from decide_eq_true ⟨by rw [← L.out]; omega, (good_tail (by rw [← L.out]; omega)).2 (by
          refine List.ext_getElem? fun i => ?_
          rcases Nat.lt_or_ge i j with h | h
          · exact HALL.out i h
          · rw [List.getElem?_eq_none (by rw [HQL.out]; omega), List.getElem?_eq_none (by rw [List.length_drop, ← L.out]; omega)])⟩)
        have H1 := Lib.hid (show opened l = body l from if_pos HG.out)
        have H2 := Lib.hid (show oerr l = 0 by unfold oerr; rw [if_neg (by rw [← L.out]; exact h4), if_pos HG.out])
        have h0 := Lib.hid (own_nil (enc := encB) (E := EB) (w1.drewN q) w.heap.size)
        have R0 := Lib.hid (HRB1.out.drewN q)
        have hd0 : decide (j < 4) = false := by simp; omega
        have hle := hb1.size
        clear hj4
        go_wp2_with (at_builtin; refine wpList_append elB rfl _ _ rfl rfl h0.out A (k - 4) c (body l) rfl R0.out (by simp [maxLen]; omega) (by simp; omega) (by exact hle) ?_; rintro v2 w2 hown2 hb2 hg2 ho2; rw [List.nil_append] at hown2; have HO2 := Lib.hid hown2; clear hown2 hg2 ho2)
        go_ret2
        exact ⟨_, by rw [H2.out]; rfl, by rw [H1.out]; exact HO2.out, (belowN hb1 _).trans hb2⟩
end Go.Proofs.Ytjfllfikeopgnaa.SumO
