/- The comparison of lists of texts. -/
import Derived.Test.YthnkfaddjenbhaaLetU
import Derived.Laws.StructEq
namespace Go.Proofs.Ythnkfaddjenbhaa.LetS
open Go Go.RowKit LetP Byt LetW LetX LetY LetZ LetQ Strs

/-- A slice value that reads as a list, with its length written out. -/
theorem Reads.shape {w : World} {v : Value} {l : List (List UInt8)} (h : Reads w v l) : ∃ a cap n, v = .slice a n cap ∧ n = l.length ∧ n ≤ maxLen := by
  rcases h with ⟨rfl, rfl⟩ | ⟨b, off, cap, rfl, h1, h2, h3, h4⟩
  · exact ⟨none, 0, 0, rfl, rfl, by unfold maxLen; omega⟩
  · exact ⟨_, cap, _, rfl, rfl, Nat.le_trans h1 h2⟩

theorem same_of (la lb : List (List UInt8)) (hl : la.length = lb.length) (h : ∀ i, i < la.length → la.getD i [] = lb.getD i []) : la = lb := by
  refine List.ext_getElem hl fun i h1 h2 => ?_
  have := h i h1
  rw [List.getD_eq_getElem?_getD, List.getD_eq_getElem?_getD, List.getElem?_eq_getElem h1, List.getElem?_eq_getElem h2] at this
  exact this

set_option maxRecDepth 100000 in
theorem same_r (va vb : Value) (la lb : List (List UInt8)) (w : World) (ha : Reads w va la) (hb : Reads w vb lb) :
    Calls Try.prog 22 #[va, vb] w fun r w' => r = .returned (.bool (decide (la = lb))) ∧ Below w.heap.size w w' := by
  obtain ⟨aa, ca, na, rfl, hna, hma⟩ := Reads.shape ha
  obtain ⟨ab, cb, nb, rfl, hnb, hmb⟩ := Reads.shape hb
  unfold maxLen at hma hmb
  by_cases hl : na = nb
  · subst hl
    rcases ha with ⟨h1, rfl⟩ | ⟨ba, oa, ca', h1, _, _, _, hca⟩
    · have h0 : na = 0 := by simpa using hna
      subst h0
      have hlb : lb = [] := List.length_eq_zero_iff.1 hnb.symm
      subst hlb
      clear hb hna hnb
      go_enter Try.func22, Try.ntmps22
      go_wp2_with fail
      go_rounds 1
      go_ret
      exact ⟨rfl, by go_grown⟩
    · injection h1 with e1 e2 e3
      subst e1
      rcases hb with ⟨h2, rfl⟩ | ⟨bb, ob, cb', h2, _, _, _, hcb⟩
      · have h0 : na = 0 := by simpa using hnb
        subst h0
        have hla : la = [] := List.length_eq_zero_iff.1 hna.symm
        subst hla
        clear hca e2 e3 hna hnb
        go_enter Try.func22, Try.ntmps22
        go_wp2_with fail
        go_rounds 1
        go_ret
        exact ⟨rfl, by go_grown⟩
      · injection h2 with f1 f2 f3
        subst f1
        have HA := Lib.hid hca
        have HB := Lib.hid hcb
        have HNA := Lib.hid hna
        have HNB := Lib.hid hnb
        clear hca hcb hna hnb e2 e3 f2 f3
        go_enter Try.func22, Try.ntmps22
        go_wp2_with fail
        go_loopw [5] (fun i wr => ∃ k : Nat, k ≤ na ∧ i = .int .i64 (k : Int) ∧ (∀ j, j < k → la.getD j [] = lb.getD j []) ∧ ∃ q, wr = w.drewN q) (fun i _ => na - (intOf i).toNat)
        case atStart => exact ⟨0, Nat.zero_le _, rfl, fun j hj => by omega, 0, rfl⟩
        case round =>
          obtain ⟨k, hk, rfl, hall, q, rfl⟩ := hrel
          have HALL := Lib.hid hall
          clear hall
          by_cases hlt : k < na
          · have c1 : w.cell? ⟨ba, oa + k, none⟩ = some (.string (str (la.getD k []))) := HA.out k (by rw [← HNA.out]; exact hlt)
            have c2 : w.cell? ⟨bb, ob + k, none⟩ = some (.string (str (lb.getD k []))) := HB.out k (by rw [← HNB.out]; exact hlt)
            have k0 : (0 : Int) ≤ (k : Int) := by omega
            have k1 : (k : Int) < (na : Int) := by omega
            obtain ⟨x, hx⟩ : ∃ x, la.getD k [] = x := ⟨_, rfl⟩
            obtain ⟨y, hy⟩ : ∃ y, lb.getD k [] = y := ⟨_, rfl⟩
            rw [hx] at c1
            rw [hy] at c2
            have HX := Lib.hid hx
            have HY := Lib.hid hy
            clear hx hy
            by_cases hxy : x = y
            · have HXY := Lib.hid hxy
              rw [← hxy] at c2
              clear hxy
              go_wp2
              go_quiet (fail)
              go_wp2
              go_roundw
              case rel =>
                refine ⟨k + 1, by omega, by go_num, fun j hj => ?_, ?_⟩
                · rcases Nat.lt_or_eq_of_le (Nat.le_of_lt_succ hj) with h | rfl
                  · exact HALL.out j h
                  · rw [HX.out, HY.out, HXY.out]
                · exact ⟨_, rfl⟩
              case measure => simp [intOf]; omega
            · have e1 : ¬ (str x).toList = (str y).toList := by rw [ByteArray.toList_eq, ByteArray.toList_eq]; exact hxy
              have e2 : (@BEq.beq (List UInt8) (@List.instBEq UInt8 (@instBEqOfDecidableEq UInt8 instDecidableEqUInt8)) (str x).toList (str y).toList) = false := beq_eq_false_iff_ne.2 e1
              have HXY := Lib.hid hxy
              clear hxy
              go_wp2
              go_quiet (fail)
              go_wp2
              go_ret
              refine ⟨Byt.retb ?_, belowN (belowN (Below.refl _ _) _) _⟩
              symm
              refine decide_eq_false fun h => HXY.out ?_
              rw [← HX.out, ← HY.out, h]
          · have hkn : k = na := by omega
            have HK := Lib.hid hkn
            clear hkn
            go_wp2
            go_ret
            refine ⟨Byt.retb ?_, belowN (Below.refl _ _) _⟩
            symm
            refine decide_eq_true (same_of _ _ (by rw [← HNA.out, ← HNB.out]) fun i hi => HALL.out i ?_)
            rw [HK.out, HNA.out]; exact hi
  · have t : ((na : Int) != (nb : Int)) = true := by simp; omega
    have HNA := Lib.hid hna
    have HNB := Lib.hid hnb
    have HL := Lib.hid hl
    clear ha hb hna hnb hl
    go_enter Try.func22, Try.ntmps22
    go_wp2
    go_ret
    refine ⟨Byt.retb ?_, by go_grown⟩
    symm
    refine decide_eq_false fun h => HL.out ?_
    rw [HNA.out, HNB.out, h]

end Go.Proofs.Ythnkfaddjenbhaa.LetS
