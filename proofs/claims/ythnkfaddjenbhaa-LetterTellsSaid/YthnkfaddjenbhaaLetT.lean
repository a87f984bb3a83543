/- The walks of the reference's IsName, IsWord and IsText. Conditions: the text is of a size that the machine's numbers count. -/
import Derived.Test.YthnkfaddjenbhaaLetA
namespace Go.Proofs.Ythnkfaddjenbhaa.LetT
open Go Go.RowKit LetP Byt LetW LetX LetY LetZ

set_option maxRecDepth 100000 in
theorem isName_r (s : ByteArray) (hs : s.size ≤ 1099511627776) (w : World) : Calls Try.prog 18 #[.string s] w fun e w' => e = .returned (.bool (isName (bs s))) ∧ w = w' := by
  by_cases h0 : s.size = 0
  · have H := Lib.hid (show isName (bs s) = false from allOf_nil small nbyte 24 s h0)
    have t1 : (s.size : Int) < 1 := by omega
    clear h0
    go_enter Try.func18, Try.ntmps18
    go_wp2
    go_ret
    exact ⟨by rw [H.out]; rfl, rfl⟩
  · have hpos : 0 < s.size := by omega
    have t0 : ¬ (s.size : Int) < 1 := by omega
    by_cases hm : 24 < s.size
    · have H := Lib.hid (show isName (bs s) = false from allOf_long small nbyte 24 s hm)
      have t1 : (24 : Int) < (s.size : Int) := by omega
      clear h0
      go_enter Try.func18, Try.ntmps18
      go_wp2
      go_ret
      exact ⟨by rw [H.out]; rfl, rfl⟩
    · have t1 : ¬ (24 : Int) < (s.size : Int) := by omega
      have hsm : s.size ≤ 24 := by omega
      cases hf : small (s[0].toNat : Int) with
      | false =>
        have H := Lib.hid (show isName (bs s) = false from allOf_first small nbyte 24 s hpos hf)
        clear h0 hm
        skip
        go_enter Try.func18, Try.ntmps18
        go_wp2_with (first | (go_at_call 33; go_call (small_r _ _) as e w' ⟨rfl, rfl⟩) | (go_at_call 40; go_call (digit_r _ _) as e w' ⟨rfl, rfl⟩))
        go_ret
        exact ⟨by rw [H.out]; rfl, rfl⟩
      | true =>
        have HF := Lib.hid hf
        clear h0 hm
        skip
        go_enter Try.func18, Try.ntmps18
        go_wp2_with (first | (go_at_call 33; go_call (small_r _ _) as e w' ⟨rfl, rfl⟩) | (go_at_call 40; go_call (digit_r _ _) as e w' ⟨rfl, rfl⟩))
        go_loop [3] (fun i => ∃ k : Nat, k ≤ s.size ∧ i = .int .i64 (k : Int) ∧ ∀ j (hj : j < s.size), j < k → nbyte (s[j].toNat : Int) = true) (fun i => s.size - (intOf i).toNat)
        case atStart => exact ⟨0, Nat.zero_le _, rfl, fun j hj h => by omega⟩
        case round =>
          obtain ⟨k, hk, rfl, hall⟩ := hrel
          have HALL := Lib.hid hall
          clear hall
          by_cases hlt : k < s.size
          · have i1 : (0 : Int) ≤ (k : Int) := by omega
            have i2 : (k : Int) < (s.size : Int) := by omega
            cases he : nbyte (s[k].toNat : Int) with
            | false =>
              have H := Lib.hid (show isName (bs s) = false from allOf_bad small nbyte 24 k s hlt he)
              simp only [nbyte, Bool.or_eq_false_iff] at he
              obtain ⟨q1, q2, q3⟩ := he
              have q4 : ((s[k].toNat : Int) != 95) = true := by simpa [bne] using q3
              all_goals
                go_wp2_with (first | (go_at_call 33; go_call (small_r _ _) as e w' ⟨rfl, rfl⟩) | (go_at_call 40; go_call (digit_r _ _) as e w' ⟨rfl, rfl⟩))
                go_ret
                exact ⟨by rw [H.out]; rfl, rfl⟩
            | true =>
              have HE := Lib.hid he
              simp only [nbyte, Bool.or_eq_true] at he
              have hc : small (s[k].toNat : Int) = true ∨ (small (s[k].toNat : Int) = false ∧ digit (s[k].toNat : Int) = true) ∨ (small (s[k].toNat : Int) = false ∧ digit (s[k].toNat : Int) = false ∧ ((s[k].toNat : Int) != 95) = false) := by
                cases h1 : small (s[k].toNat : Int) with
                | true => exact .inl rfl
                | false =>
                  cases h2 : digit (s[k].toNat : Int) with
                  | true => exact .inr (.inl ⟨rfl, rfl⟩)
                  | false =>
                    rw [h1, h2] at he
                    exact .inr (.inr ⟨rfl, rfl, by simpa [bne] using he⟩)
              clear he
              rcases hc with q1 | ⟨q1, q2⟩ | ⟨q1, q2, q3⟩
              all_goals
                go_wp2_with (first | (go_at_call 33; go_call (small_r _ _) as e w' ⟨rfl, rfl⟩) | (go_at_call 40; go_call (digit_r _ _) as e w' ⟨rfl, rfl⟩))
                go_round
                case rel =>
                  refine ⟨k + 1, by omega, by go_num, fun j hj h => ?_⟩
                  rcases Nat.lt_or_eq_of_le (Nat.le_of_lt_succ h) with h | h
                  · exact HALL.out j hj h
                  · subst h; exact HE.out
                case measure => simp [intOf]; omega
          · have hkn : k = s.size := by omega
            have H := Lib.hid (show isName (bs s) = true from allOf_yes small nbyte 24 s hpos hsm HF.out (fun j hj => HALL.out j hj (by omega)))
            clear hkn
            go_wp2_with fail
            go_ret
            exact ⟨by rw [H.out]; rfl, rfl⟩
set_option maxRecDepth 100000 in
theorem isWord_r (s : ByteArray) (hs : s.size ≤ 1099511627776) (w : World) : Calls Try.prog 19 #[.string s] w fun e w' => e = .returned (.bool (isWord (bs s))) ∧ w = w' := by
  by_cases h0 : s.size = 0
  · have H := Lib.hid (show isWord (bs s) = false from allOf_nil wfirst wbyte 9 s h0)
    have t1 : (s.size : Int) < 1 := by omega
    clear h0
    go_enter Try.func19, Try.ntmps19
    go_wp2
    go_ret
    exact ⟨by rw [H.out]; rfl, rfl⟩
  · have hpos : 0 < s.size := by omega
    have t0 : ¬ (s.size : Int) < 1 := by omega
    by_cases hm : 9 < s.size
    · have H := Lib.hid (show isWord (bs s) = false from allOf_long wfirst wbyte 9 s hm)
      have t1 : (9 : Int) < (s.size : Int) := by omega
      clear h0
      go_enter Try.func19, Try.ntmps19
      go_wp2
      go_ret
      exact ⟨by rw [H.out]; rfl, rfl⟩
    · have t1 : ¬ (9 : Int) < (s.size : Int) := by omega
      have hsm : s.size ≤ 9 := by omega
      cases hf : wfirst (s[0].toNat : Int) with
      | false =>
        have H := Lib.hid (show isWord (bs s) = false from allOf_first wfirst wbyte 9 s hpos hf)
        clear h0 hm
        simp only [wfirst, Bool.or_eq_false_iff] at hf
        obtain ⟨p1, p2⟩ := hf
        go_enter Try.func19, Try.ntmps19
        go_wp2_with (first | (go_at_call 33; go_call (small_r _ _) as e w' ⟨rfl, rfl⟩) | (go_at_call 40; go_call (digit_r _ _) as e w' ⟨rfl, rfl⟩) | (go_at_call 32; go_call (great_r _ _) as e w' ⟨rfl, rfl⟩) | (go_at_call 41; go_call (row_r _ _) as e w' ⟨rfl, rfl⟩))
        go_ret
        exact ⟨by rw [H.out]; rfl, rfl⟩
      | true =>
        have HF := Lib.hid hf
        clear h0 hm
        have hfc : small (s[0].toNat : Int) = true ∨ (small (s[0].toNat : Int) = false ∧ digit (s[0].toNat : Int) = true) := by
          unfold wfirst at hf
          revert hf
          cases small (s[0].toNat : Int) <;> cases digit (s[0].toNat : Int) <;> simp
        clear hf
        rcases hfc with p1 | ⟨p1, p2⟩
        · go_enter Try.func19, Try.ntmps19
          go_wp2_with (first | (go_at_call 33; go_call (small_r _ _) as e w' ⟨rfl, rfl⟩) | (go_at_call 40; go_call (digit_r _ _) as e w' ⟨rfl, rfl⟩) | (go_at_call 32; go_call (great_r _ _) as e w' ⟨rfl, rfl⟩) | (go_at_call 41; go_call (row_r _ _) as e w' ⟨rfl, rfl⟩))
          go_loop [3] (fun i => ∃ k : Nat, k ≤ s.size ∧ i = .int .i64 (k : Int) ∧ ∀ j (hj : j < s.size), j < k → wbyte (s[j].toNat : Int) = true) (fun i => s.size - (intOf i).toNat)
          case atStart => exact ⟨0, Nat.zero_le _, rfl, fun j hj h => by omega⟩
          case round =>
            obtain ⟨k, hk, rfl, hall⟩ := hrel
            have HALL := Lib.hid hall
            clear hall
            by_cases hlt : k < s.size
            · have i1 : (0 : Int) ≤ (k : Int) := by omega
              have i2 : (k : Int) < (s.size : Int) := by omega
              cases he : wbyte (s[k].toNat : Int) with
              | false =>
                have H := Lib.hid (show isWord (bs s) = false from allOf_bad wfirst wbyte 9 k s hlt he)
                have hc : row (s[k].toNat : Int) = false ∨ (row (s[k].toNat : Int) = true ∧ great (s[k].toNat : Int) = true) := by
                  unfold wbyte wfirst at he
                  unfold row
                  revert he
                  cases small (s[k].toNat : Int) <;> cases great (s[k].toNat : Int) <;> cases digit (s[k].toNat : Int) <;> cases ((s[k].toNat : Int) == 45) <;> cases ((s[k].toNat : Int) == 39) <;> simp
                clear he
                rcases hc with q1 | ⟨q1, q2⟩
                all_goals
                  go_wp2_with (first | (go_at_call 33; go_call (small_r _ _) as e w' ⟨rfl, rfl⟩) | (go_at_call 40; go_call (digit_r _ _) as e w' ⟨rfl, rfl⟩) | (go_at_call 32; go_call (great_r _ _) as e w' ⟨rfl, rfl⟩) | (go_at_call 41; go_call (row_r _ _) as e w' ⟨rfl, rfl⟩))
                  go_ret
                  exact ⟨by rw [H.out]; rfl, rfl⟩
              | true =>
                have HE := Lib.hid he
                have hc : row (s[k].toNat : Int) = true ∧ great (s[k].toNat : Int) = false := by
                  have hg : great (s[k].toNat : Int) = false := by
                    unfold wbyte wfirst small digit at he
                    unfold great
                    simp at he
                    simp
                    omega
                  refine ⟨?_, hg⟩
                  unfold wbyte wfirst at he
                  unfold row
                  revert he
                  rw [hg]
                  cases small (s[k].toNat : Int) <;> cases digit (s[k].toNat : Int) <;> cases ((s[k].toNat : Int) == 45) <;> cases ((s[k].toNat : Int) == 39) <;> simp
                obtain ⟨q1, q2⟩ := hc
                clear he
                all_goals
                  go_wp2_with (first | (go_at_call 33; go_call (small_r _ _) as e w' ⟨rfl, rfl⟩) | (go_at_call 40; go_call (digit_r _ _) as e w' ⟨rfl, rfl⟩) | (go_at_call 32; go_call (great_r _ _) as e w' ⟨rfl, rfl⟩) | (go_at_call 41; go_call (row_r _ _) as e w' ⟨rfl, rfl⟩))
                  go_round
                  case rel =>
                    refine ⟨k + 1, by omega, by go_num, fun j hj h => ?_⟩
                    rcases Nat.lt_or_eq_of_le (Nat.le_of_lt_succ h) with h | h
                    · exact HALL.out j hj h
                    · subst h; exact HE.out
                  case measure => simp [intOf]; omega
            · have hkn : k = s.size := by omega
              have H := Lib.hid (show isWord (bs s) = true from allOf_yes wfirst wbyte 9 s hpos hsm HF.out (fun j hj => HALL.out j hj (by omega)))
              clear hkn
              go_wp2_with fail
              go_ret
              exact ⟨by rw [H.out]; rfl, rfl⟩
        · go_enter Try.func19, Try.ntmps19
          go_wp2_with (first | (go_at_call 33; go_call (small_r _ _) as e w' ⟨rfl, rfl⟩) | (go_at_call 40; go_call (digit_r _ _) as e w' ⟨rfl, rfl⟩) | (go_at_call 32; go_call (great_r _ _) as e w' ⟨rfl, rfl⟩) | (go_at_call 41; go_call (row_r _ _) as e w' ⟨rfl, rfl⟩))
          go_loop [3] (fun i => ∃ k : Nat, k ≤ s.size ∧ i = .int .i64 (k : Int) ∧ ∀ j (hj : j < s.size), j < k → wbyte (s[j].toNat : Int) = true) (fun i => s.size - (intOf i).toNat)
          case atStart => exact ⟨0, Nat.zero_le _, rfl, fun j hj h => by omega⟩
          case round =>
            obtain ⟨k, hk, rfl, hall⟩ := hrel
            have HALL := Lib.hid hall
            clear hall
            by_cases hlt : k < s.size
            · have i1 : (0 : Int) ≤ (k : Int) := by omega
              have i2 : (k : Int) < (s.size : Int) := by omega
              cases he : wbyte (s[k].toNat : Int) with
              | false =>
                have H := Lib.hid (show isWord (bs s) = false from allOf_bad wfirst wbyte 9 k s hlt he)
                have hc : row (s[k].toNat : Int) = false ∨ (row (s[k].toNat : Int) = true ∧ great (s[k].toNat : Int) = true) := by
                  unfold wbyte wfirst at he
                  unfold row
                  revert he
                  cases small (s[k].toNat : Int) <;> cases great (s[k].toNat : Int) <;> cases digit (s[k].toNat : Int) <;> cases ((s[k].toNat : Int) == 45) <;> cases ((s[k].toNat : Int) == 39) <;> simp
                clear he
                rcases hc with q1 | ⟨q1, q2⟩
                all_goals
                  go_wp2_with (first | (go_at_call 33; go_call (small_r _ _) as e w' ⟨rfl, rfl⟩) | (go_at_call 40; go_call (digit_r _ _) as e w' ⟨rfl, rfl⟩) | (go_at_call 32; go_call (great_r _ _) as e w' ⟨rfl, rfl⟩) | (go_at_call 41; go_call (row_r _ _) as e w' ⟨rfl, rfl⟩))
                  go_ret
                  exact ⟨by rw [H.out]; rfl, rfl⟩
              | true =>
                have HE := Lib.hid he
                have hc : row (s[k].toNat : Int) = true ∧ great (s[k].toNat : Int) = false := by
                  have hg : great (s[k].toNat : Int) = false := by
                    unfold wbyte wfirst small digit at he
                    unfold great
                    simp at he
                    simp
                    omega
                  refine ⟨?_, hg⟩
                  unfold wbyte wfirst at he
                  unfold row
                  revert he
                  rw [hg]
                  cases small (s[k].toNat : Int) <;> cases digit (s[k].toNat : Int) <;> cases ((s[k].toNat : Int) == 45) <;> cases ((s[k].toNat : Int) == 39) <;> simp
                obtain ⟨q1, q2⟩ := hc
                clear he
                all_goals
                  go_wp2_with (first | (go_at_call 33; go_call (small_r _ _) as e w' ⟨rfl, rfl⟩) | (go_at_call 40; go_call (digit_r _ _) as e w' ⟨rfl, rfl⟩) | (go_at_call 32; go_call (great_r _ _) as e w' ⟨rfl, rfl⟩) | (go_at_call 41; go_call (row_r _ _) as e w' ⟨rfl, rfl⟩))
                  go_round
                  case rel =>
                    refine ⟨k + 1, by omega, by go_num, fun j hj h => ?_⟩
                    rcases Nat.lt_or_eq_of_le (Nat.le_of_lt_succ h) with h | h
                    · exact HALL.out j hj h
                    · subst h; exact HE.out
                  case measure => simp [intOf]; omega
            · have hkn : k = s.size := by omega
              have H := Lib.hid (show isWord (bs s) = true from allOf_yes wfirst wbyte 9 s hpos hsm HF.out (fun j hj => HALL.out j hj (by omega)))
              clear hkn
              go_wp2_with fail
              go_ret
              exact ⟨by rw [H.out]; rfl, rfl⟩
end Go.Proofs.Ythnkfaddjenbhaa.LetT
