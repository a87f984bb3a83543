/- The walk of Words by the reference. Conditions: the line is of a size that the machine's numbers count. -/
import Derived.Test.YthnkfaddjenbhaaLetV
namespace Go.Proofs.Ythnkfaddjenbhaa.LetU
open Go Go.RowKit LetP Byt LetW LetX LetY LetZ LetQ Strs LetV

theorem row_at {s : ByteArray} {i J : Nat} (h1 : i ≤ J) (h2 : J < i + run (bs s) i) : ∃ hJ : J < s.size, row (s[J].toNat : Int) = true := by
  obtain ⟨k, rfl⟩ : ∃ k, J = i + k := ⟨J - i, by omega⟩
  exact row_in (by omega)
theorem row_end {s : ByteArray} {i J : Nat} (h1 : J = i + run (bs s) i) (h2 : J < s.size) : row (s[J].toNat : Int) = false := by
  subst h1
  exact row_out h2

set_option maxRecDepth 100000 in
set_option maxHeartbeats 1000000 in
theorem words_r (s : ByteArray) (hs : s.size ≤ 1073741824) (w : World) :
    Calls Try.prog 23 #[.string s] w fun e w' => ∃ v, e = .returned v ∧ Own w' w.heap.size v (words (bs s)) ∧ Below w.heap.size w w' := by
  go_enter Try.func23, Try.ntmps23
  go_wp2_with fail
  go_loopw [3, 4] (fun v i wr => ∃ (k : Nat) (out : List (List UInt8)), k ≤ s.size ∧ i = .int .i64 (k : Int) ∧ Own wr w.heap.size v out ∧ out.length ≤ k ∧ out ++ scan ((bs s).drop k) [] = words (bs s) ∧ Below w.heap.size w wr) (fun _ i _ => s.size - (intOf i).toNat)
  case atStart => exact ⟨0, [], Nat.zero_le _, rfl, own_nil _ _, Nat.le_refl _, by rw [List.drop_zero]; rfl, Below.refl _ _⟩
  case round =>
    obtain ⟨wo, rfl⟩ : ∃ wo : World, wo = wr := ⟨_, rfl⟩
    obtain ⟨i, out, hi, rfl, hown, hlen, hsc, hbw⟩ := hrel
    have HO := Lib.hid hown
    have HS := Lib.hid hsc
    clear hown hsc
    by_cases hlt : i < s.size
    · have hrl := run_le (bs s) i (by rw [len_bytes]; omega)
      rw [len_bytes] at hrl
      obtain ⟨n, hn⟩ : ∃ n, run (bs s) i = n := ⟨_, rfl⟩
      rw [hn] at hrl
      have HN := Lib.hid hn
      clear hn
      go_wp2_with fail
      go_loop [5] (fun n0 => ∃ J : Nat, i ≤ J ∧ J ≤ i + n ∧ n0 = .int .i64 (J : Int)) (fun n0 => i + n - (intOf n0).toNat)
      case atStart => exact ⟨i, Nat.le_refl _, by omega, rfl⟩
      case round =>
        obtain ⟨J, hJ1, hJ2, rfl⟩ := hrel
        by_cases hkn : J < i + n
        · obtain ⟨hik, hr⟩ := row_at (s := s) hJ1 (by rw [HN.out]; exact hkn)
          have i2 : (0 : Int) ≤ (J : Int) := by omega
          have i3 : (J : Int) < (s.size : Int) := by omega
          go_wp2_with (go_at_call 41; go_call (row_r _ _) as e w' ⟨rfl, rfl⟩)
          go_round
          case rel => exact ⟨J + 1, by omega, by omega, by go_num⟩
          case measure => simp [intOf]; omega
        · obtain ⟨k, hJ⟩ : ∃ k, J = i + k := ⟨J - i, by omega⟩
          have hkn2 : k = n := by omega
          subst hkn2
          have hJs : J ≤ s.size := by omega
          clear hJ2 hkn
          by_cases hk0 : 0 < k
          · have hword := words_word (l := bs s) (i := i) (by rw [HN.out]; exact hk0)
            rw [HN.out, ← hJ] at hword
            have hlw : lower (bs (s.extract i J)) = lower (((bs s).drop i).take k) := by rw [hJ, bs_extract]
            obtain ⟨W, hW⟩ : ∃ W, lower (((bs s).drop i).take k) = W := ⟨_, rfl⟩
            rw [hW] at hword hlw
            have HWD := Lib.hid hword
            have HLW := Lib.hid hlw
            have hes : (s.extract i J).size ≤ 1099511627776 := Nat.le_trans (size_extract s i J) (by omega)
            have HES := Lib.hid hes
            have i1 : (0 : Int) ≤ (i : Int) := by omega
            have i2 : (0 : Int) ≤ (J : Int) := by omega
            have i6 : (i : Int) < (J : Int) := by omega
            have i7 : i < J := by omega
            have hsl := fun w0 => slice_str s i J (J : Int) rfl (by omega) hJs w0
            have HJ := Lib.hid hJ
            by_cases hend : J < s.size
            · have hro := row_end (s := s) (i := i) (by rw [HN.out]; exact hJ) hend
              have i4 : (J : Int) < (s.size : Int) := by omega
              clear hword hlw hW hes hJ hrl
              go_wp2_with (first | (go_at_call 41; go_call (row_r _ _) as e w' ⟨rfl, rfl⟩) | (go_at_call 11; go_call (lower_r _ HES.out _) as e w3 ⟨rfl, hb3⟩; rw [HLW.out]; have HO3 := Lib.hid (HO.out.below hb3); have hB3 : w.heap.size ≤ w3.heap.size := Nat.le_trans hbw.size hb3.size) | (at_builtin; refine wpList_append_one rfl _ _ rfl _ _ _ rfl rfl HO3.out hB3 (by omega) ?_; rintro v' w5 hown5 hb5 ⟨n5, g5, cap5, rfl, HN5, hn5, hn6, hg5, hg6, hc5, hc6⟩; have HO5 := Lib.hid hown5; clear hown5))
              go_roundw
              case rel => exact ⟨J, out ++ [W], by omega, rfl, HO5.out, by rw [List.length_append, List.length_singleton]; omega, by rw [List.append_assoc, List.singleton_append, ← HWD.out]; exact HS.out, (joinB (Nat.le_refl _) hbw hb3).trans hb5⟩
              case measure => simp [intOf]; omega
            · have i4 : ¬ (J : Int) < (s.size : Int) := by omega
              have i5 : ¬ J < s.size := hend
              clear hword hlw hW hes hJ hrl
              go_wp2_with (first | (go_at_call 41; go_call (row_r _ _) as e w' ⟨rfl, rfl⟩) | (go_at_call 11; go_call (lower_r _ HES.out _) as e w3 ⟨rfl, hb3⟩; rw [HLW.out]; have HO3 := Lib.hid (HO.out.below hb3); have hB3 : w.heap.size ≤ w3.heap.size := Nat.le_trans hbw.size hb3.size) | (at_builtin; refine wpList_append_one rfl _ _ rfl _ _ _ rfl rfl HO3.out hB3 (by omega) ?_; rintro v' w5 hown5 hb5 ⟨n5, g5, cap5, rfl, HN5, hn5, hn6, hg5, hg6, hc5, hc6⟩; have HO5 := Lib.hid hown5; clear hown5))
              go_roundw
              case rel => exact ⟨J, out ++ [W], by omega, rfl, HO5.out, by rw [List.length_append, List.length_singleton]; omega, by rw [List.append_assoc, List.singleton_append, ← HWD.out]; exact HS.out, (joinB (Nat.le_refl _) hbw hb3).trans hb5⟩
              case measure => simp [intOf]; omega
          · have hk00 : J = i := by omega
            have hsep := words_sep (l := bs s) (i := i) (by rw [HN.out]; omega) (by rw [len_bytes]; exact hlt)
            have hbi := byte_at s i hlt
            have hsep2 : scan ((bs s).drop i) [] = sep s[i] ++ scan ((bs s).drop (i + 1)) [] := by rw [hsep]; congr 2
            have HSEP := Lib.hid hsep2
            have hik : J < s.size := by omega
            have hro := row_end (s := s) (i := i) (by rw [HN.out]; exact hJ) hik
            have i1 : (0 : Int) ≤ (i : Int) := by omega
            have i2 : (0 : Int) ≤ (J : Int) := by omega
            have i4 : (J : Int) < (s.size : Int) := by omega
            have i5 : (i : Int) < (s.size : Int) := by omega
            have i6 : ¬ (i : Int) < (J : Int) := by omega
            have i7 : ¬ i < J := by omega
            have hsl : ∀ w0, (Instr.slice 9 (.string s) (some (.int .i64 (i : Int))) (some (.int .i64 ((i : Int) + 1))) none).run Try.prog w0 = .ok (.string (str [s[i]])) w0 := fun w0 => by
              rw [← sep_text s i hlt]
              exact slice_str s i (i + 1) ((i : Int) + 1) (by omega) (by omega) (by omega) w0
            have HO3 := Lib.hid HO.out
            have hB3 : w.heap.size ≤ wo.heap.size := hbw.size
            have HK0 := Lib.hid hk00
            clear hsep hbi hsep2 hk0 hk00 hJ hrl
            by_cases c1 : (s[i].toNat : Int) = 46
            · have d1 : ((s[i].toNat : Int) == 46) = true := beq_iff_eq.2 c1
              have HB := Lib.hid (show sep s[i] = [[s[i]]] from if_pos (.inl c1))
              clear c1
              go_wp2_with (first | (go_at_call 41; go_call (row_r _ _) as e w' ⟨rfl, rfl⟩) | (at_builtin; refine wpList_append_one rfl _ _ rfl _ _ _ rfl rfl HO3.out hB3 (by omega) ?_; rintro v' w5 hown5 hb5 ⟨n5, g5, cap5, rfl, HN5, hn5, hn6, hg5, hg6, hc5, hc6⟩; have HO5 := Lib.hid hown5; clear hown5))
              go_roundw
              case rel => exact ⟨i + 1, out ++ [[s[i]]], by omega, by go_num, HO5.out, by rw [List.length_append, List.length_singleton]; omega, by rw [List.append_assoc, ← HB.out, ← HSEP.out]; exact HS.out, hbw.trans hb5⟩
              case measure => simp [intOf]; omega
            · have d1 : ((s[i].toNat : Int) == 46) = false := beq_eq_false_iff_ne.2 c1
              by_cases c2 : (s[i].toNat : Int) = 44
              · have d2 : ((s[i].toNat : Int) == 44) = true := beq_iff_eq.2 c2
                have HB := Lib.hid (show sep s[i] = [[s[i]]] from if_pos (.inr c2))
                clear c1 c2
                go_wp2_with (first | (go_at_call 41; go_call (row_r _ _) as e w' ⟨rfl, rfl⟩) | (at_builtin; refine wpList_append_one rfl _ _ rfl _ _ _ rfl rfl HO3.out hB3 (by omega) ?_; rintro v' w5 hown5 hb5 ⟨n5, g5, cap5, rfl, HN5, hn5, hn6, hg5, hg6, hc5, hc6⟩; have HO5 := Lib.hid hown5; clear hown5))
                go_roundw
                case rel => exact ⟨i + 1, out ++ [[s[i]]], by omega, by go_num, HO5.out, by rw [List.length_append, List.length_singleton]; omega, by rw [List.append_assoc, ← HB.out, ← HSEP.out]; exact HS.out, hbw.trans hb5⟩
                case measure => simp [intOf]; omega
              · have d2 : ((s[i].toNat : Int) == 44) = false := beq_eq_false_iff_ne.2 c2
                have HB := Lib.hid (show sep s[i] = [] from if_neg (fun h => h.elim c1 c2))
                clear c1 c2 hsl
                go_wp2_with (go_at_call 41; go_call (row_r _ _) as e w' ⟨rfl, rfl⟩)
                go_roundw
                case rel => exact ⟨i + 1, out, by omega, by go_num, HO.out, by omega, by have h := HS.out; rw [HSEP.out, HB.out, List.nil_append] at h; exact h, hbw⟩
                case measure => simp [intOf]; omega
    · have hke : i = s.size := by omega
      have HE := Lib.hid hke
      clear hke
      go_wp2_with fail
      go_ret
      refine ⟨_, rfl, ?_, hbw⟩
      have h := HS.out
      rw [HE.out, List.drop_eq_nil_of_le (by rw [len_bytes]; exact Nat.le_refl _)] at h
      rw [← h, show scan [] [] = [] from rfl, List.append_nil]
      exact HO.out
end Go.Proofs.Ythnkfaddjenbhaa.LetU
