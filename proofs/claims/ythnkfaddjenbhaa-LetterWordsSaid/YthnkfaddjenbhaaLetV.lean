/- The walks of Words, by the program and by the reference. Conditions: the line is of a size that the machine's numbers count. -/
import Derived.Test.YthnkfaddjenbhaaLetQ
import Derived.Test.YthnkfaddjenbhaaStrsP
namespace Go.Proofs.Ythnkfaddjenbhaa.LetV
open Go Go.RowKit LetP Byt LetW LetX LetY LetZ LetQ Strs

theorem bs_str (l : List UInt8) : bs (str l) = l := rfl
theorem bs_extract (s : ByteArray) (i n : Nat) : bs (s.extract i (i + n)) = ((bs s).drop i).take n := by
  rw [extract_str, bs_str, show i + n - i = n by omega]
theorem size_extract (s : ByteArray) (i j : Nat) : (s.extract i j).size ≤ s.size := by
  rw [ByteArray.size_extract]; omega
theorem byte_at (s : ByteArray) (k : Nat) (h : k < s.size) : (bs s)[k]'h = s[k] := by
  have := get_byte s k h
  rw [List.getElem?_eq_getElem (show k < (bs s).length from h)] at this
  injection this
theorem row_in {s : ByteArray} {i k : Nat} (h : k < run (bs s) i) : ∃ hk : i + k < s.size, row (s[i + k].toNat : Int) = true := by
  obtain ⟨hk, hr⟩ := run_lt h
  exact ⟨hk, by have e := byte_at s (i + k) hk; rw [← e]; exact hr⟩
theorem row_out {s : ByteArray} {i : Nat} (h : i + run (bs s) i < s.size) : row (s[i + run (bs s) i].toNat : Int) = false := by
  have e := byte_at s (i + run (bs s) i) h
  rw [← e]; exact run_stop (l := bs s) h
theorem word_text (s : ByteArray) (i : Nat) : (s.extract i (i + run (bs s) i)) = str (((bs s).drop i).take (run (bs s) i)) := by
  rw [extract_str, show i + run (bs s) i - i = run (bs s) i by omega]
theorem sep_text (s : ByteArray) (i : Nat) (h : i < s.size) : s.extract i (i + 1) = str [s[i]] := by
  rw [extract_str, show i + 1 - i = 1 by omega, List.drop_eq_getElem_cons (show i < (bs s).length from h), byte_at s i h]
  rfl

set_option maxRecDepth 100000 in
set_option maxHeartbeats 1000000 in
theorem words_i (s : ByteArray) (hs : s.size ≤ 1073741824) (w : World) :
    Calls Try.prog 15 #[.string s] w fun e w' => ∃ v, e = .returned v ∧ Own w' w.heap.size v (words (bs s)) ∧ Below w.heap.size w w' := by
  go_enter Try.func15, Try.ntmps15
  go_wp2_with fail
  go_loopw [4, 5] (fun v i wr => ∃ (k : Nat) (out : List (List UInt8)), k ≤ s.size ∧ i = .int .i64 (k : Int) ∧ Own wr w.heap.size v out ∧ out.length ≤ k ∧ out ++ scan ((bs s).drop k) [] = words (bs s) ∧ Below w.heap.size w wr) (fun _ i _ => s.size - (intOf i).toNat)
  case atStart => exact ⟨0, [], Nat.zero_le _, rfl, own_nil _ _, Nat.le_refl _, by rw [List.drop_zero]; rfl, Below.refl _ _⟩
  case round =>
    obtain ⟨wo, rfl⟩ : ∃ wo : World, wo = wr := ⟨_, rfl⟩
    obtain ⟨i, out, hi, rfl, hown, hlen, hsc, hbw⟩ := hrel
    have HO := Lib.hid hown
    have HS := Lib.hid hsc
    clear hown hsc
    by_cases hlt : i < s.size
    · have hrl := run_le (bs s) i (by rw [len_bytes]; omega)
      rw [len_bytes] at hrl
      obtain ⟨n, hn⟩ : ∃ n, run (bs s) i = n := ⟨_, rfl⟩
      rw [hn] at hrl
      have HN := Lib.hid hn
      clear hn
      go_wp2_with fail
      go_loop [6] (fun n0 => ∃ k : Nat, k ≤ n ∧ n0 = .int .i64 (k : Int)) (fun n0 => n - (intOf n0).toNat)
      case atStart => exact ⟨0, Nat.zero_le _, rfl⟩
      case round =>
        obtain ⟨k, hk, rfl⟩ := hrel
        by_cases hkn : k < n
        · obtain ⟨hik, hr⟩ := row_in (s := s) (i := i) (k := k) (by rw [HN.out]; exact hkn)
          have i1 : (0 : Int) ≤ (i : Int) := by omega
          have i2 : (0 : Int) ≤ (k : Int) := by omega
          have i3 : (i : Int) + (k : Int) < (s.size : Int) := by omega
          go_wp2_with (go_at_call 34; go_call (row_i _ _) as e w' ⟨rfl, rfl⟩)
          go_round
          case rel => exact ⟨k + 1, hkn, by go_num⟩
          case measure => simp [intOf]; omega
        · have hke : k = n := by omega
          subst hke
          clear hk hkn
          by_cases hk0 : 0 < k
          · have hword := words_word (l := bs s) (i := i) (by rw [HN.out]; exact hk0)
            rw [HN.out] at hword
            have hlw : lower (bs (s.extract i (i + k))) = lower (((bs s).drop i).take k) := by rw [bs_extract]
            obtain ⟨W, hW⟩ : ∃ W, lower (((bs s).drop i).take k) = W := ⟨_, rfl⟩
            rw [hW] at hword hlw
            have HWD := Lib.hid hword
            have HLW := Lib.hid hlw
            have hes : (s.extract i (i + k)).size ≤ 1099511627776 := Nat.le_trans (size_extract s i (i + k)) (by omega)
            have HES := Lib.hid hes
            have i1 : (0 : Int) ≤ (i : Int) := by omega
            have i2 : (0 : Int) ≤ (k : Int) := by omega
            have i3 : (i : Int) + (k : Int) ≤ (s.size : Int) := by omega
            have hsl := fun w0 => slice_str s i (i + k) ((i : Int) + (k : Int)) (by omega) (by omega) (by omega) w0
            have t0 : decide ((0 : Int) < (k : Int)) = true := by simp; omega
            have t1 : decide (0 < k) = true := by simp; omega
            clear hword hlw hW hes
            by_cases hend : i + k < s.size
            · have hro := row_out (s := s) (i := i) (by rw [HN.out]; exact hend)
              have hrk : row (s[i + k].toNat : Int) = false := by
                have e := HN.out
                have : ∀ (m : Nat) (hm : i + m < s.size), m = k → row (s[i + m].toNat : Int) = false → row (s[i + k].toNat : Int) = false := by
                  intro m hm he h; subst he; exact h
                exact this _ (by rw [e]; exact hend) e hro
              have i4 : (i : Int) + (k : Int) < (s.size : Int) := by omega
              clear hro
              go_wp2_with (first | (go_at_call 34; go_call (row_i _ _) as e w' ⟨rfl, rfl⟩) | (go_at_call 9; go_call (lower_i _ HES.out _) as e w3 ⟨rfl, hb3⟩; rw [HLW.out]; have HO3 := Lib.hid (HO.out.below hb3); have hB3 : w.heap.size ≤ w3.heap.size := Nat.le_trans hbw.size hb3.size) | (at_builtin; refine wpList_append_one rfl _ _ rfl _ _ _ rfl rfl HO3.out hB3 (by omega) ?_; rintro v' w5 hown5 hb5 ⟨n5, g5, cap5, rfl, HN5, hn5, hn6, hg5, hg6, hc5, hc6⟩; have HO5 := Lib.hid hown5; clear hown5))
              go_roundw
              case rel => exact ⟨i + k, out ++ [W], by omega, by congr 1, HO5.out, by rw [List.length_append, List.length_singleton]; omega, by rw [List.append_assoc, List.singleton_append, ← HWD.out]; exact HS.out, (joinB (Nat.le_refl _) hbw hb3).trans hb5⟩
              case measure => simp [intOf]; omega
            · have i4 : ¬ (i : Int) + (k : Int) < (s.size : Int) := by omega
              have i5 : ¬ i + k < s.size := hend
              go_wp2_with (first | (go_at_call 34; go_call (row_i _ _) as e w' ⟨rfl, rfl⟩) | (go_at_call 9; go_call (lower_i _ HES.out _) as e w3 ⟨rfl, hb3⟩; rw [HLW.out]; have HO3 := Lib.hid (HO.out.below hb3); have hB3 : w.heap.size ≤ w3.heap.size := Nat.le_trans hbw.size hb3.size) | (at_builtin; refine wpList_append_one rfl _ _ rfl _ _ _ rfl rfl HO3.out hB3 (by omega) ?_; rintro v' w5 hown5 hb5 ⟨n5, g5, cap5, rfl, HN5, hn5, hn6, hg5, hg6, hc5, hc6⟩; have HO5 := Lib.hid hown5; clear hown5))
              go_roundw
              case rel => exact ⟨i + k, out ++ [W], by omega, by congr 1, HO5.out, by rw [List.length_append, List.length_singleton]; omega, by rw [List.append_assoc, List.singleton_append, ← HWD.out]; exact HS.out, (joinB (Nat.le_refl _) hbw hb3).trans hb5⟩
              case measure => simp [intOf]; omega
          · have hk00 : k = 0 := by omega
            have hsep := words_sep (l := bs s) (i := i) (by rw [HN.out]; exact hk00) (by rw [len_bytes]; exact hlt)
            have hbi := byte_at s i hlt
            have hsep2 : scan ((bs s).drop i) [] = sep s[i] ++ scan ((bs s).drop (i + 1)) [] := by rw [hsep]; congr 2
            have HSEP := Lib.hid hsep2
            have hro := row_out (s := s) (i := i) (by rw [HN.out]; omega)
            have hik : i + k < s.size := by omega
            have hrk : row (s[i + k].toNat : Int) = false := by
              have : ∀ (m : Nat) (hm : i + m < s.size), m = k → row (s[i + m].toNat : Int) = false → row (s[i + k].toNat : Int) = false := by
                intro m hm he h; subst he; exact h
              exact this _ (by rw [HN.out]; exact hik) HN.out hro
            have i1 : (0 : Int) ≤ (i : Int) := by omega
            have i2 : (0 : Int) ≤ (k : Int) := by omega
            have i4 : (i : Int) + (k : Int) < (s.size : Int) := by omega
            have i5 : (i : Int) < (s.size : Int) := by omega
            have t0 : decide ((0 : Int) < (k : Int)) = false := by simp [hk00]
            have t1 : decide (0 < k) = false := by simp [hk00]
            have hsl : ∀ w0, (Instr.slice 9 (.string s) (some (.int .i64 (i : Int))) (some (.int .i64 ((i : Int) + 1))) none).run Try.prog w0 = .ok (.string (str [s[i]])) w0 := fun w0 => by
              rw [← sep_text s i hlt]
              exact slice_str s i (i + 1) ((i : Int) + 1) (by omega) (by omega) (by omega) w0
            have HO3 := Lib.hid HO.out
            have hB3 : w.heap.size ≤ wo.heap.size := hbw.size
            have HK0 := Lib.hid hk00
            clear hsep hbi hsep2 hro hk0 hk00
            by_cases c1 : (s[i].toNat : Int) = 46
            · have d1 : ((s[i].toNat : Int) == 46) = true := beq_iff_eq.2 c1
              have HB := Lib.hid (show sep s[i] = [[s[i]]] from if_pos (.inl c1))
              clear c1
              go_wp2_with (first | (go_at_call 34; go_call (row_i _ _) as e w' ⟨rfl, rfl⟩) | (at_builtin; refine wpList_append_one rfl _ _ rfl _ _ _ rfl rfl HO3.out hB3 (by omega) ?_; rintro v' w5 hown5 hb5 ⟨n5, g5, cap5, rfl, HN5, hn5, hn6, hg5, hg6, hc5, hc6⟩; have HO5 := Lib.hid hown5; clear hown5))
              go_roundw
              case rel => exact ⟨i + 1, out ++ [[s[i]]], by omega, by go_num, HO5.out, by rw [List.length_append, List.length_singleton]; omega, by rw [List.append_assoc, ← HB.out, ← HSEP.out]; exact HS.out, hbw.trans hb5⟩
              case measure => simp [intOf]; omega
            · have d1 : ((s[i].toNat : Int) == 46) = false := beq_eq_false_iff_ne.2 c1
              by_cases c2 : (s[i].toNat : Int) = 44
              · have d2 : ((s[i].toNat : Int) == 44) = true := beq_iff_eq.2 c2
                have HB := Lib.hid (show sep s[i] = [[s[i]]] from if_pos (.inr c2))
                clear c1 c2
                go_wp2_with (first | (go_at_call 34; go_call (row_i _ _) as e w' ⟨rfl, rfl⟩) | (at_builtin; refine wpList_append_one rfl _ _ rfl _ _ _ rfl rfl HO3.out hB3 (by omega) ?_; rintro v' w5 hown5 hb5 ⟨n5, g5, cap5, rfl, HN5, hn5, hn6, hg5, hg6, hc5, hc6⟩; have HO5 := Lib.hid hown5; clear hown5))
                go_roundw
                case rel => exact ⟨i + 1, out ++ [[s[i]]], by omega, by go_num, HO5.out, by rw [List.length_append, List.length_singleton]; omega, by rw [List.append_assoc, ← HB.out, ← HSEP.out]; exact HS.out, hbw.trans hb5⟩
                case measure => simp [intOf]; omega
              · have d2 : ((s[i].toNat : Int) == 44) = false := beq_eq_false_iff_ne.2 c2
                have HB := Lib.hid (show sep s[i] = [] from if_neg (fun h => h.elim c1 c2))
                clear c1 c2 hsl
                go_wp2_with (go_at_call 34; go_call (row_i _ _) as e w' ⟨rfl, rfl⟩)
                go_roundw
                case rel => exact ⟨i + 1, out, by omega, by go_num, HO.out, by omega, by have h := HS.out; rw [HSEP.out, HB.out, List.nil_append] at h; exact h, hbw⟩
                case measure => simp [intOf]; omega
    · have hke : i = s.size := by omega
      have HE := Lib.hid hke
      clear hke
      go_wp2_with fail
      go_ret
      refine ⟨_, rfl, ?_, hbw⟩
      have h := HS.out
      rw [HE.out, List.drop_eq_nil_of_le (by rw [len_bytes]; exact Nat.le_refl _)] at h
      rw [← h, show scan [] [] = [] from rfl, List.append_nil]
      exact HO.out
end Go.Proofs.Ythnkfaddjenbhaa.LetV
