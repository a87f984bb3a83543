/- The walk of the reference's IsText. Conditions: the text is of a size that the machine's numbers count. -/
import Derived.Test.YthnkfaddjenbhaaLetT
namespace Go.Proofs.Ythnkfaddjenbhaa.LetR
open Go Go.RowKit LetP Byt LetW LetX LetY LetZ

theorem text_some (s : ByteArray) (h : 0 < s.size) : isText (bs s) = allOf tbyte tbyte 1024 (bs s) := by
  obtain ⟨t, ht⟩ := cons_byte s h
  unfold isText
  rw [ht]; rfl
theorem text_end (s : ByteArray) (he : ∀ k (hk : k < s.size), tbyte (s[k].toNat : Int) = true) : isText (bs s) = decide ((s.size : Int) ≤ 1024) := by
  by_cases h0 : s.size = 0
  · have hl : bs s = [] := List.length_eq_zero_iff.1 h0
    rw [hl, h0]; rfl
  · have hp : 0 < s.size := by omega
    rw [text_some s hp]
    by_cases hm : s.size ≤ 1024
    · rw [allOf_yes tbyte tbyte 1024 s hp hm (he 0 hp) he]
      exact (decide_eq_true (by omega)).symm
    · rw [allOf_long tbyte tbyte 1024 s (by omega)]
      exact (decide_eq_false (by omega)).symm

set_option maxRecDepth 100000 in
theorem isText_r (s : ByteArray) (hs : s.size ≤ 1099511627776) (w : World) : Calls Try.prog 21 #[.string s] w fun e w' => e = .returned (.bool (isText (bs s))) ∧ w = w' := by
  go_enter Try.func21, Try.ntmps21
  go_wp2_with fail
  go_loop [3] (fun i => ∃ k : Nat, k ≤ s.size ∧ i = .int .i64 (k : Int) ∧ ∀ j (hj : j < s.size), j < k → tbyte (s[j].toNat : Int) = true) (fun i => s.size - (intOf i).toNat)
  case atStart => exact ⟨0, Nat.zero_le _, rfl, fun j hj h => by omega⟩
  case round =>
    obtain ⟨k, hk, rfl, hall⟩ := hrel
    have HALL := Lib.hid hall
    clear hall
    by_cases hlt : k < s.size
    · have i1 : (0 : Int) ≤ (k : Int) := by omega
      have i2 : (k : Int) < (s.size : Int) := by omega
      obtain ⟨b, hb⟩ : ∃ b : Int, (s[k].toNat : Int) = b := ⟨_, rfl⟩
      cases he : tbyte (s[k].toNat : Int) with
      | false =>
        have H := Lib.hid (show isText (bs s) = false by rw [text_some s (by omega)]; exact allOf_bad tbyte tbyte 1024 k s hlt he)
        have hc : (s[k].toNat : Int) ≠ 10 ∧ ((s[k].toNat : Int) < 32 ∨ 126 < (s[k].toNat : Int)) := by
          unfold tbyte at he
          simp at he
          omega
        obtain ⟨q1, q2⟩ := hc
        have q3 : ((s[k].toNat : Int) != 10) = true := bne_iff_ne.2 q1
        clear he q1 hb
        rcases q2 with q2 | q2
        · go_wp2
          go_ret
          exact ⟨by rw [H.out]; rfl, rfl⟩
        · have q4 : ¬ (s[k].toNat : Int) < 32 := by omega
          go_wp2
          go_ret
          exact ⟨by rw [H.out]; rfl, rfl⟩
      | true =>
        have HE := Lib.hid he
        have hc : (s[k].toNat : Int) = 10 ∨ (¬ (s[k].toNat : Int) < 32 ∧ ¬ 126 < (s[k].toNat : Int)) := by
          unfold tbyte at he
          simp at he
          omega
        clear he hb
        rcases hc with q | ⟨q1, q2⟩
        · have q1 : ((s[k].toNat : Int) != 10) = false := by simp [bne, q]
          have q2 : (s[k].toNat : Int) < 32 := by omega
          clear q
          go_wp2
          go_round
          case rel =>
            refine ⟨k + 1, by omega, by go_num, fun j hj h => ?_⟩
            rcases Nat.lt_or_eq_of_le (Nat.le_of_lt_succ h) with h | h
            · exact HALL.out j hj h
            · subst h; exact HE.out
          case measure => simp [intOf]; omega
        · go_wp2
          go_round
          case rel =>
            refine ⟨k + 1, by omega, by go_num, fun j hj h => ?_⟩
            rcases Nat.lt_or_eq_of_le (Nat.le_of_lt_succ h) with h | h
            · exact HALL.out j hj h
            · subst h; exact HE.out
          case measure => simp [intOf]; omega
    · have hkn : k = s.size := by omega
      have H := Lib.hid (text_end s (fun j hj => HALL.out j hj (by omega)))
      clear hkn
      go_wp2_with fail
      go_ret
      exact ⟨by rw [H.out]; rfl, rfl⟩
end Go.Proofs.Ythnkfaddjenbhaa.LetR
