/- The walks that join texts, and the one that counts them. -/
import Derived.Test.YthnkfaddjenbhaaLetJ
import Derived.Test.YthnkfaddjenbhaaLetS
namespace Go.Proofs.Ythnkfaddjenbhaa.LetK
open Go Go.RowKit LetP Byt LetW LetX LetY LetZ LetQ Strs LetS LetJ

theorem str_append (a b : List UInt8) : str a ++ str b = str (a ++ b) := by
  apply ByteArray.ext
  simp [str]

theorem size_str (l : List UInt8) : (str l).size = l.length := by show l.toArray.size = _; simp
theorem glue_take (sp : List UInt8) (l : List (List UInt8)) (k : Nat) (hk : k < l.length) : (glue sp (l.take k)).length + sp.length + (l.getD k []).length ≤ l.flatten.length + 2 * (l.length * sp.length) := by
  have h1 := glue_len sp (l.take k)
  have e : l = l.take k ++ l.getD k [] :: l.drop (k + 1) := by
    rw [List.getD_eq_getElem?_getD, List.getElem?_eq_getElem hk, Option.getD_some, List.getElem_cons_drop, List.take_append_drop]
  have h2 : l.flatten.length = (l.take k).flatten.length + ((l.getD k []).length + (l.drop (k + 1)).flatten.length) := by
    conv => lhs; rw [e]
    rw [List.flatten_append, List.flatten_cons, List.length_append, List.length_append]
  have h3 : (l.take k).length * sp.length ≤ l.length * sp.length := Nat.mul_le_mul_right _ (by rw [List.length_take]; omega)
  have h4 : 1 * sp.length ≤ l.length * sp.length := Nat.mul_le_mul_right _ (by omega)
  omega

set_option maxRecDepth 100000 in
theorem join_i (va : Value) (l : List (List UInt8)) (sp : List UInt8) (w : World) (ha : Reads w va l) (hz : l.flatten.length + l.length * sp.length ≤ 1099511627776) :
    Calls Try.prog 24 #[va, .string (str sp)] w fun r w' => r = .returned (.string (str (glue sp l))) ∧ Below w.heap.size w w' := by
  obtain ⟨aa, ca, na, rfl, hna, hma⟩ := Reads.shape ha
  unfold maxLen at hma
  rcases ha with ⟨h1, rfl⟩ | ⟨ba, oa, ca', h1, _, _, _, hca⟩
  · have h0 : na = 0 := by simpa using hna
    subst h0
    injection h1 with e1 e2 e3
    subst e1 e3
    clear hna
    go_enter Try.func24, Try.ntmps24
    go_wp2_with fail
    go_rounds 1
    go_ret
    exact ⟨rfl, by go_grown⟩
  · injection h1 with e1 e2 e3
    subst e1
    have HA := Lib.hid hca
    have HNA := Lib.hid hna
    clear hca hna e2 e3
    go_enter Try.func24, Try.ntmps24
    go_wp2_with fail
    go_loopw [5, 10] (fun v i wr => ∃ k : Nat, k ≤ na ∧ i = .int .i64 (k : Int) ∧ v = .string (str (glue sp (l.take k))) ∧ wr = w) (fun _ i _ => na - (intOf i).toNat)
    case atStart => exact ⟨0, Nat.zero_le _, rfl, rfl, rfl⟩
    case round =>
      obtain ⟨k, hk, rfl, rfl, rfl⟩ := hrel
      by_cases hlt : k < na
      · have c1 : wr.cell? ⟨ba, oa + k, none⟩ = some (.string (str (l.getD k []))) := HA.out k (by rw [← HNA.out]; exact hlt)
        have k0 : (0 : Int) ≤ (k : Int) := by omega
        have k1 : (k : Int) < (na : Int) := by omega
        have hb := glue_take sp l k (by rw [← HNA.out]; exact hlt)
        have b1 : (str (glue sp (l.take k))).size + (str sp).size + (str (l.getD k [])).size ≤ 4398046511104 := by rw [size_str, size_str, size_str]; omega
        have b2 : (str (glue sp (l.take k))).size + (str (l.getD k [])).size ≤ 4398046511104 := by omega
        have b3 : (str (glue sp (l.take k))).size + (str sp).size ≤ 4398046511104 := by omega
        have b4 : (str (glue sp (l.take k))).size + (str sp).size + (str (l[k]?.getD [])).size ≤ 4398046511104 := by rw [← List.getD_eq_getElem?_getD]; exact b1
        have b5 : (str (glue sp (l.take k))).size + (str (l[k]?.getD [])).size ≤ 4398046511104 := by rw [← List.getD_eq_getElem?_getD]; exact b2
        clear hb
        have HT := Lib.hid (show l.take (k + 1) = l.take k ++ [l.getD k []] by
          have h' : k < l.length := by rw [← HNA.out]; exact hlt
          rw [List.take_add_one, List.getElem?_eq_getElem h', List.getD_eq_getElem?_getD, List.getElem?_eq_getElem h']; rfl)
        by_cases hk0 : k = 0
        · have t0 : decide ((0 : Int) < (k : Int)) = false := by simp [hk0]
          have t1 : decide (0 < k) = false := by simp [hk0]
          have HK0 := Lib.hid hk0
          clear hk0
          go_wp2_with fail
          go_roundw
          case rel =>
            refine ⟨k + 1, by omega, by go_num, ?_, trivial⟩
            rw [HT.out, HK0.out, List.take_zero, List.nil_append]
            rw [List.getD_eq_getElem?_getD]
            exact congrArg Value.string (str_append [] _)
          case measure => simp [intOf]; omega
        · have t0 : decide ((0 : Int) < (k : Int)) = true := by simp; omega
          have t1 : decide (0 < k) = true := by simp; omega
          have HK0 := Lib.hid hk0
          clear hk0
          go_wp2_with fail
          go_roundw
          case rel =>
            refine ⟨k + 1, by omega, by go_num, ?_, trivial⟩
            rw [HT.out, glue_snoc, if_neg (fun h => HK0.out (by have := congrArg List.length h; rw [List.length_take, ← HNA.out] at this; simp at this; omega)), str_append, str_append, List.getD_eq_getElem?_getD]
          case measure => simp [intOf]; omega
      · have hkn : k = na := by omega
        have HK := Lib.hid hkn
        have d0 : decide (k < na) = false := by simp; omega
        clear hkn
        go_wp2_with fail
        go_ret
        refine ⟨?_, by go_grown⟩
        rw [HK.out, HNA.out, List.take_length]
        rfl
end Go.Proofs.Ythnkfaddjenbhaa.LetK
