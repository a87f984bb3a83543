/- The walks that join texts by the reference, and the one that counts them. -/
import Derived.Test.YthnkfaddjenbhaaLetK
import Derived.Test.YthnkfaddjenbhaaSliceP
import Derived.Deep.QuietTactic
import Derived.BigQuiet
namespace Go.Proofs.Ythnkfaddjenbhaa.LetL
open Go Go.RowKit LetP Byt LetW LetX LetY LetZ LetQ Strs LetS LetJ LetK

theorem Reads.drewN {w : World} {v : Value} {l : List (List UInt8)} (h : Reads w v l) (n : Nat) : Reads (w.drewN n) v l := h

theorem reads_tail {w : World} {ba oa ca na : Nat} {l : List (List UInt8)} (hn : na = l.length) (h1 : l.length ≤ ca) (h2 : ca ≤ maxLen) (h3 : ba < w.heap.size)
    (h4 : ∀ i, i < l.length → w.cell? ⟨ba, oa + i, none⟩ = some (sv (l.getD i []))) (h0 : 0 < l.length) : Reads w (.slice (Slic.cutAt (some ⟨ba, oa, none⟩) ca 1 1) (na - 1) (ca - 1)) l.tail := by
  subst hn
  unfold Slic.cutAt
  split
  · rename_i hc
    exact .inr ⟨ba, oa, ca - 1, by simp, by simp; omega, by omega, h3, fun i hi => by simp at hi; omega⟩
  · refine .inr ⟨ba, oa + 1, ca - 1, by simp [Addr.add], by simp; omega, by omega, h3, fun i hi => ?_⟩
    rw [List.length_tail] at hi
    have := h4 (i + 1) (by omega)
    rw [show oa + 1 + i = oa + (i + 1) by omega, this]
    congr 2
    simp [List.getD_eq_getElem?_getD]

theorem glue_tail (sp : List UInt8) (l : List (List UInt8)) (h : 2 ≤ l.length) : glue sp l = l.getD 0 [] ++ sp ++ glue sp l.tail := by
  match l, h with
  | x :: y :: t, _ => rfl

theorem run_add_str {P : Program} {t : TypeId} {a b : ByteArray} (h : a.size + b.size ≤ 4398046511104) (w : World) : (binOp .add t (.string a) (.string b)).run P w = .ok (.string (a ++ b)) w :=
  by simp [binOp, run_string_add_sum w a b (by omega)]

set_option maxRecDepth 100000 in
theorem join_r (sp : List UInt8) (hsp : sp.length ≤ 1048576) : ∀ (k : Nat) (va : Value) (l : List (List UInt8)) (w : World), l.length ≤ k → Reads w va l → l.flatten.length + l.length * sp.length ≤ 1099511627776 →
    Calls Try.prog 26 #[va, .string (str sp)] w fun r w' => r = .returned (.string (str (glue sp l))) ∧ ∃ q, w' = w.drewN q := by
  intro k
  induction k with
  | zero =>
    intro va l w hk ha hz
    have hl : l = [] := List.length_eq_zero_iff.1 (by omega)
    subst hl
    obtain ⟨aa, ca, na, rfl, hna, hma⟩ := Reads.shape ha
    have h0 : na = 0 := by simpa using hna
    subst h0
    clear hna hma ha
    go_enter Try.func26, Try.ntmps26
    go_wp2_with fail
    go_ret
    exact ⟨rfl, 0, rfl⟩
  | succ k ih =>
    intro va l w hk ha hz
    obtain ⟨aa, ca, na, rfl, hna, hma⟩ := Reads.shape ha
    have hma' : na ≤ 9223372036854775807 := hma
    rcases ha with ⟨h1, rfl⟩ | ⟨ba, oa, ca', h1, h2, h3, h4, hca⟩
    · have h0 : na = 0 := by simpa using hna
      subst h0
      clear hna hma hma' ih
      go_enter Try.func26, Try.ntmps26
      go_wp2_with fail
      go_ret
      exact ⟨rfl, 0, rfl⟩
    · injection h1 with e1 e2 e3
      subst e1 e3
      have HIH := Lib.hid ih
      have HCA := Lib.hid hca
      clear ih
      by_cases hn0 : na = 0
      · have hl : l = [] := List.length_eq_zero_iff.1 (by omega)
        subst hl hn0
        clear hna hma hma' h2 h3 h4 hca e2 hk
        go_enter Try.func26, Try.ntmps26
        go_wp2_with fail
        go_ret
        exact ⟨rfl, 0, rfl⟩
      · have c1 : w.cell? ⟨ba, oa, none⟩ = some (.string (str (l.getD 0 []))) := hca 0 (by omega)
        have t0 : ((na : Int) == 0) = false := by simp; omega
        by_cases hn1 : na = 1
        · have hg : glue sp l = l.getD 0 [] := by
            match l, (show l.length = 1 by omega) with
            | [x], _ => rfl
          have HG := Lib.hid hg
          obtain ⟨x, hx⟩ : ∃ x, l.getD 0 [] = x := ⟨_, rfl⟩
          rw [hx] at c1
          have HX := Lib.hid hx
          subst hn1
          clear hg hx hna hma hma' h2 h3 h4 hca e2 hk hn0
          go_enter Try.func26, Try.ntmps26
          go_wp2_with fail
          go_ret
          exact ⟨by rw [HG.out, HX.out]; rfl, 0, rfl⟩
        · have hg := glue_tail sp l (by omega)
          have hr := reads_tail (na := na) hna h2 h3 h4 hca (by omega)
          have hb := glue_len sp l
          have hlt : l.tail.length = na - 1 := by rw [List.length_tail, hna]
          have hz2 : l.tail.flatten.length + l.tail.length * sp.length ≤ 1099511627776 := by
            match l, (show 0 < l.length by omega) with
            | a :: l, _ =>
              rw [List.flatten_cons, List.length_append, List.length_cons, Nat.succ_mul] at hz
              show l.flatten.length + l.length * sp.length ≤ _
              omega
          have hsz : (l.getD 0 []).length + sp.length + (glue sp l.tail).length = (glue sp l).length := by rw [hg, List.length_append, List.length_append]
          obtain ⟨x, hx⟩ : ∃ x, l.getD 0 [] = x := ⟨_, rfl⟩
          obtain ⟨T, hT⟩ : ∃ T, glue sp l.tail = T := ⟨_, rfl⟩
          rw [hx] at c1 hg hsz
          rw [hT] at hg hsz
          have b1 : (str x).size + (str sp).size ≤ 4398046511104 := by rw [size_str, size_str]; omega
          have b2 : (str x).size + (str sp).size + (str T).size ≤ 4398046511104 := by rw [size_str, size_str, size_str]; omega
          have b3 : (str x ++ str sp).size + (str T).size ≤ 4398046511104 := by rw [str_append, size_str, size_str, List.length_append]; omega
          have HG := Lib.hid hg
          have HR := Lib.hid hr
          have HT := Lib.hid hT
          have HLT := Lib.hid (show l.tail.length ≤ k by omega)
          have HZ2 := Lib.hid hz2
          have t1 : ((na : Int) == 1) = false := by simp; omega
          have hsl : ∀ w0, (Instr.slice 25 (.slice (some ⟨ba, oa, none⟩) na ca) (some (.int .i64 1)) none none).run Try.prog w0 = .ok (.slice (Slic.cutAt (some ⟨ba, oa, none⟩) ca 1 1) (na - 1) (ca - 1)) w0 :=
            fun w0 => Slic.run_low 25 9 1 Try.underlying25 (by kernel_rfl) (some ⟨ba, oa, none⟩) na ca 1 (by omega) w0
          have b3' : (str (x ++ sp)).size + (str T).size ≤ 4398046511104 := by rw [← str_append]; exact b3
          have ha1 : ∀ w0, (binOp .add 9 (.string (str x)) (.string (str sp))).run Try.prog w0 = .ok (.string (str (x ++ sp))) w0 := fun w0 => by rw [← str_append]; exact run_add_str b1 w0
          have ha2 : ∀ w0, (binOp .add 9 (.string (str (x ++ sp))) (.string (str T))).run Try.prog w0 = .ok (.string (str (x ++ sp ++ T))) w0 := fun w0 => by rw [← str_append]; exact run_add_str b3' w0
          have ha3 : ∀ w0, (Op.stringOp .add (str x) (str sp)).run Try.prog w0 = .ok (.string (str (x ++ sp))) w0 := fun w0 => by rw [← str_append]; exact run_string_add_sum w0 _ _ (by omega)
          have ha4 : ∀ w0, (Op.stringOp .add (str (x ++ sp)) (str T)).run Try.prog w0 = .ok (.string (str (x ++ sp ++ T))) w0 := fun w0 => by rw [← str_append (x ++ sp)]; exact run_string_add_sum w0 _ _ (by omega)
          have hih : ∀ m, Calls Try.prog 26 #[.slice (Slic.cutAt (some ⟨ba, oa, none⟩) ca 1 1) (na - 1) (ca - 1), .string (str sp)] (w.drewN m) fun r w' => r = .returned (.string (str T)) ∧ ∃ q, w' = (w.drewN m).drewN q := fun m => by
            have := HIH.out _ _ (w.drewN m) HLT.out (Reads.drewN HR.out m) HZ2.out
            rw [HT.out] at this
            exact this
          have H5 := Lib.hid hih
          clear hih
          have i0 : (0 : Int) < (na : Int) := by omega
          have i1 : (1 : Int) ≤ (na : Int) := by omega
          have i2 : 0 < na := by omega
          clear hg hr hT hx hb hlt hz2 hsz hna hma h2 h3 h4 hca e2 hk hn0 hn1 hz
          go_enter Try.func26, Try.ntmps26
          go_wp2_with fail
          go_quiet ((go_at_call 26; exact Calls.quiet_of (H5.out _)))
          go_wp2_with fail
          go_ret
          exact ⟨by rw [HG.out, List.append_assoc]; rfl, _, rfl⟩

/-- Texts are few, with few bytes in all. -/
def few (l : List (List UInt8)) : Bool := decide (l.length ≤ 300 ∧ l.flatten.length ≤ 3000)
theorem flat_take (l : List (List UInt8)) (k : Nat) (hk : k < l.length) : (l.take (k + 1)).flatten.length = (l.take k).flatten.length + (l.getD k []).length := by
  rw [List.take_add_one, List.getElem?_eq_getElem hk, List.getD_eq_getElem?_getD, List.getElem?_eq_getElem hk, List.flatten_append, List.length_append]
  simp only [Option.toList_some, List.flatten_cons, List.flatten_nil, List.append_nil, Option.getD_some]
theorem flat_le (l : List (List UInt8)) (k : Nat) : (l.take k).flatten.length ≤ l.flatten.length := by
  have : l.flatten.length = (l.take k).flatten.length + (l.drop k).flatten.length := by
    rw [← List.length_append, ← List.flatten_append, List.take_append_drop]
  omega

set_option maxRecDepth 100000 in
theorem few_r (va : Value) (l : List (List UInt8)) (w : World) (ha : Reads w va l) :
    Calls Try.prog 25 #[va, .int .i64 300, .int .i64 3000] w fun r w' => r = .returned (.bool (few l)) ∧ w = w' := by
  obtain ⟨aa, ca, na, rfl, hna, hma⟩ := Reads.shape ha
  have hma' : na ≤ 9223372036854775807 := hma
  by_cases hbig : 300 < na
  · have HF := Lib.hid (show few l = false from decide_eq_false fun h => by omega)
    have t0 : decide ((300 : Int) < (na : Int)) = true := by simp; omega
    clear ha hna hma
    go_enter Try.func25, Try.ntmps25
    go_wp2_with fail
    go_ret
    exact ⟨by rw [HF.out]; rfl, rfl⟩
  · have hna3 : na ≤ 300 := by omega
    rcases ha with ⟨h1, rfl⟩ | ⟨ba, oa, ca', h1, h2, h3, h4, hca⟩
    · have h0 : na = 0 := by simpa using hna
      subst h0
      clear hna hma hma' hbig hna3
      go_enter Try.func25, Try.ntmps25
      go_wp2_with fail
      go_rounds 1
      go_ret
      exact ⟨rfl, rfl⟩
    · injection h1 with e1 e2 e3
      subst e1 e3
      have HCA := Lib.hid hca
      have HNA := Lib.hid hna
      clear hca hna e2 h2 h3 h4 hma hbig
      go_enter Try.func25, Try.ntmps25
      go_wp2_with fail
      go_loop [7, 8] (fun s i => ∃ k m : Nat, k ≤ na ∧ i = .int .i64 (k : Int) ∧ s = .int .i64 (m : Int) ∧ m = (l.take k).flatten.length ∧ m ≤ k * 3000) (fun _ i => na - (intOf i).toNat)
      case atStart => exact ⟨0, 0, Nat.zero_le _, rfl, rfl, rfl, by omega⟩
      case round =>
        obtain ⟨k, m, hk, rfl, rfl, hm, hm3⟩ := hrel
        by_cases hlt : k < na
        · have hkl : k < l.length := by rw [← HNA.out]; exact hlt
          have c1 : w.cell? ⟨ba, oa + k, none⟩ = some (.string (str (l.getD k []))) := HCA.out k hkl
          have k0 : (0 : Int) ≤ (k : Int) := by omega
          have k1 : (k : Int) < (na : Int) := by omega
          have hft := flat_take l k hkl
          have hfl := flat_le l (k + 1)
          obtain ⟨x, hx⟩ : ∃ x, l.getD k [] = x := ⟨_, rfl⟩
          rw [hx] at c1 hft
          have hs := size_str x
          obtain ⟨z, hz⟩ : ∃ z, (str x).size = z := ⟨_, rfl⟩
          rw [hz] at hs
          have HZ := Lib.hid hz
          have HS := Lib.hid hs
          have HFT := Lib.hid hft
          have HM := Lib.hid hm
          have HFL := Lib.hid hfl
          clear hz hs hft hx hm hfl hkl
          have k2 : k * 3000 ≤ 900000 := by omega
          have k3 : m ≤ 900000 := by omega
          by_cases hx3 : 3000 < z
          · have t0 : decide ((3000 : Int) < (z : Int)) = true := by simp; omega
            have HF := Lib.hid (show few l = false from decide_eq_false fun h => by
              have h1 := HFT.out; have h2 := HFL.out; have h3 := HS.out; omega)
            have z1 : 3000 < (str x).size := by rw [HZ.out]; exact hx3
            go_wp2_with fail
            go_ret
            exact ⟨by rw [HF.out]; rfl, rfl⟩
          · have z1 : (str x).size ≤ 3000 := by rw [HZ.out]; omega
            go_wp2_with fail
            go_round
            case rel =>
              refine ⟨k + 1, m + (str x).size, by omega, by go_num, by go_num, ?_, by omega⟩
              have h1 := HFT.out; have h2 := HS.out; have h3 := HM.out; have h4 := HZ.out; omega
            case measure => simp [intOf]; omega
        · have hkn : k = na := by omega
          have HK := Lib.hid hkn
          have HM := Lib.hid hm
          have d0 : decide (k < na) = false := by simp; omega
          clear hkn hm
          go_wp2_with fail
          go_ret
          refine ⟨?_, rfl⟩
          have h1 := HM.out
          rw [HK.out, HNA.out, List.take_length] at h1
          have : few l = decide ((m : Int) ≤ 3000) := by
            unfold few
            have := HNA.out
            rw [Bool.eq_iff_iff, decide_eq_true_iff, decide_eq_true_iff]
            omega
          rw [this]
          rfl
end Go.Proofs.Ythnkfaddjenbhaa.LetL
