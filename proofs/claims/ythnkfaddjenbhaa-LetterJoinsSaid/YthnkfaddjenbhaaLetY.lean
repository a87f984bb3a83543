/- The walks of the tests of bytes and of texts: names, words, texts. Conditions: the text is of a size that the machine's numbers count. -/
import Derived.Test.YthnkfaddjenbhaaLetX
namespace Go.Proofs.Ythnkfaddjenbhaa.LetY
open Go Go.RowKit LetP Byt LetW LetX

def wfirst (n : Int) : Bool := small n || digit n
def wbyte (n : Int) : Bool := wfirst n || (n == 45 || n == 39)
def nbyte (n : Int) : Bool := small n || (digit n || n == 95)
def tbyte (n : Int) : Bool := (decide (32 ≤ n) && decide (n ≤ 126)) || n == 10
def row (n : Int) : Bool := small n || (great n || (digit n || (n == 45 || n == 39)))
def allOf (first each : Int → Bool) (most : Nat) (l : List UInt8) : Bool :=
  match l with
  | [] => false
  | b :: _ => decide (l.length ≤ most) && (first (code b) && l.all fun b => each (code b))
theorem get_byte (s : ByteArray) (k : Nat) (h : k < s.size) : (bs s)[k]? = some s[k] := by
  show s.data.toList[k]? = some s.data[k]
  rw [Array.getElem?_toList, Array.getElem?_eq_getElem]
theorem len_bytes (s : ByteArray) : (bs s).length = s.size := rfl
theorem allOf_nil (first each : Int → Bool) (most : Nat) (s : ByteArray) (h : s.size = 0) : allOf first each most (bs s) = false := by
  have hl : bs s = [] := List.length_eq_zero_iff.1 h
  rw [hl]; rfl
theorem allOf_long (first each : Int → Bool) (most : Nat) (s : ByteArray) (h : most < s.size) : allOf first each most (bs s) = false := by
  unfold allOf
  split
  · rfl
  · have h2 : ¬ (bs s).length ≤ most := by rw [len_bytes]; omega
    rw [decide_eq_false h2]; rfl
theorem cons_byte (s : ByteArray) (h : 0 < s.size) : ∃ t, bs s = s[0] :: t := by
  have h0 := get_byte s 0 h
  cases hb : bs s with
  | nil => rw [hb] at h0; cases h0
  | cons b t => rw [hb] at h0; simp at h0; exact ⟨t, by rw [h0]⟩
theorem allOf_first (first each : Int → Bool) (most : Nat) (s : ByteArray) (h : 0 < s.size) (hf : first (s[0].toNat : Int) = false) : allOf first each most (bs s) = false := by
  obtain ⟨t, ht⟩ := cons_byte s h
  rw [ht]
  show (decide _ && (first (code s[0]) && _)) = false
  rw [show first (code s[0]) = false from hf]; simp
theorem allOf_bad (first each : Int → Bool) (most k : Nat) (s : ByteArray) (h : k < s.size) (he : each (s[k].toNat : Int) = false) : allOf first each most (bs s) = false := by
  obtain ⟨t, ht⟩ := cons_byte s (by omega)
  have hm : s[k] ∈ bs s := List.mem_of_getElem? (get_byte s k h)
  have ha : (bs s).all (fun b => each (code b)) = false := by
    cases hh : (bs s).all (fun b => each (code b)) with
    | false => rfl
    | true => exact absurd (List.all_eq_true.1 hh _ hm) (by rw [show each (code s[k]) = false from he]; decide)
  rw [ht] at ha ⊢
  show (decide _ && (first (code s[0]) && _)) = false
  rw [ha]; simp
theorem allOf_yes (first each : Int → Bool) (most : Nat) (s : ByteArray) (h : 0 < s.size) (hm : s.size ≤ most) (hf : first (s[0].toNat : Int) = true) (he : ∀ k (hk : k < s.size), each (s[k].toNat : Int) = true) : allOf first each most (bs s) = true := by
  obtain ⟨t, ht⟩ := cons_byte s h
  have ha : (bs s).all (fun b => each (code b)) = true := by
    refine List.all_eq_true.2 fun b hb => ?_
    obtain ⟨k, hk, hbk⟩ := List.getElem_of_mem hb
    have hk' : k < s.size := hk
    have := get_byte s k hk'
    rw [List.getElem?_eq_getElem hk, hbk] at this
    injection this with this
    rw [this]
    exact he k hk'
  have hl : (s[0] :: t).length ≤ most := by rw [← ht, len_bytes]; exact hm
  rw [ht] at ha ⊢
  show (decide _ && (first (code s[0]) && _)) = true
  rw [ha, show first (code s[0]) = true from hf, decide_eq_true hl]; rfl

theorem extract_str (s : ByteArray) (i j : Nat) : s.extract i j = str (((bs s).drop i).take (j - i)) := by
  unfold str
  have h : (s.extract i j).data.toList = ((bs s).drop i).take (j - i) := by
    show (s.extract i j).data.toList = (s.data.toList.drop i).take (j - i)
    rw [ByteArray.data_extract, Array.toList_extract, List.extract_eq_take_drop]
  rw [← h]
def short (l : List UInt8) : List UInt8 := l.take 9
theorem nbyte_i (c : Int) (w : World) : Calls Try.prog 39 #[.int .u8 c] w fun e w' => e = .returned (.bool (nbyte c)) ∧ w = w' := by
  go_enter Try.func39, Try.ntmps39
  go_wp2_with (first | (go_at_call 31; go_call (small_i _ _) as e w' ⟨rfl, rfl⟩) | (go_at_call 35; go_call (digit_i _ _) as e w' ⟨rfl, rfl⟩))
  all_goals (go_ret; refine ⟨retb ?_, rfl⟩; (simp_all [nbyte] <;> omega))

theorem wfirst_i (c : Int) (w : World) : Calls Try.prog 36 #[.int .u8 c] w fun e w' => e = .returned (.bool (wfirst c)) ∧ w = w' := by
  go_enter Try.func36, Try.ntmps36
  go_wp2_with (first | (go_at_call 31; go_call (small_i _ _) as e w' ⟨rfl, rfl⟩) | (go_at_call 35; go_call (digit_i _ _) as e w' ⟨rfl, rfl⟩))
  all_goals (go_ret; refine ⟨retb ?_, rfl⟩; (simp_all [wfirst] <;> omega))

theorem tbyte_i (c : Int) (w : World) : Calls Try.prog 42 #[.int .u8 c] w fun e w' => e = .returned (.bool (tbyte c)) ∧ w = w' := by
  go_enter Try.func42, Try.ntmps42
  go_wp2_with (first | fail)
  all_goals (go_ret; refine ⟨retb ?_, rfl⟩; (simp_all [tbyte] <;> omega))

theorem row_i (c : Int) (w : World) : Calls Try.prog 34 #[.int .u8 c] w fun e w' => e = .returned (.bool (row c)) ∧ w = w' := by
  go_enter Try.func34, Try.ntmps34
  go_wp2_with (first | (go_at_call 31; go_call (small_i _ _) as e w' ⟨rfl, rfl⟩) | (go_at_call 29; go_call (great_i _ _) as e w' ⟨rfl, rfl⟩) | (go_at_call 35; go_call (digit_i _ _) as e w' ⟨rfl, rfl⟩))
  all_goals (go_ret; refine ⟨retb ?_, rfl⟩; (simp_all [row] <;> omega))

theorem row_r (c : Int) (w : World) : Calls Try.prog 41 #[.int .u8 c] w fun e w' => e = .returned (.bool (row c)) ∧ w = w' := by
  go_enter Try.func41, Try.ntmps41
  go_wp2_with (first | (go_at_call 33; go_call (small_r _ _) as e w' ⟨rfl, rfl⟩) | (go_at_call 32; go_call (great_r _ _) as e w' ⟨rfl, rfl⟩) | (go_at_call 40; go_call (digit_r _ _) as e w' ⟨rfl, rfl⟩))
  all_goals (go_ret; refine ⟨retb ?_, rfl⟩; (simp_all [row] <;> omega))

theorem wbyte_i (c : Int) (g : Addr) (w : World) (hc : w.cell? g = some (.func (.func 36) #[] #[])) : Calls Try.prog 38 #[.int .u8 c, .pointer (some g)] w fun e w' => e = .returned (.bool (wbyte c)) ∧ w = w' := by
  go_enter Try.func38, Try.ntmps38
  go_wp2_with (go_at_call 36; go_call (wfirst_i _ _) as e w' ⟨rfl, rfl⟩)
  all_goals (go_ret; refine ⟨retb ?_, rfl⟩; simp_all [wbyte])

set_option maxRecDepth 100000 in
theorem all_name (s : ByteArray) (most : Nat) (hs : s.size ≤ 1099511627776) (hmost : most ≤ 1024) (w : World) :
    Calls Try.prog 37 #[.string s, .int .i64 (most : Int), .func (.func 31) #[] #[], .func (.func 39) #[] #[]] w fun e w' => e = .returned (.bool (allOf small nbyte most (bs s))) ∧ w = w' := by
  by_cases h0 : s.size = 0
  · have H := Lib.hid (allOf_nil small nbyte most s h0)
    have t0 : decide ((s.size : Int) < 1) = true := by simp; omega
    have t1 : (s.size : Int) < 1 := by omega
    clear h0
    go_enter Try.func37, Try.ntmps37
    go_wp2
    go_ret
    exact ⟨by rw [H.out]; rfl, rfl⟩
  · have hpos : 0 < s.size := by omega
    have t0 : ¬ (s.size : Int) < 1 := by omega
    by_cases hm : most < s.size
    · have H := Lib.hid (allOf_long small nbyte most s hm)
      have t1 : (most : Int) < (s.size : Int) := by omega
      clear h0
      go_enter Try.func37, Try.ntmps37
      go_wp2
      go_ret
      exact ⟨by rw [H.out]; rfl, rfl⟩
    · have t1 : ¬ (most : Int) < (s.size : Int) := by omega
      have hsm : s.size ≤ most := by omega
      cases hf : small (s[0].toNat : Int) with
      | false =>
        have H := Lib.hid (allOf_first small nbyte most s hpos hf)
        clear h0 hm
        go_enter Try.func37, Try.ntmps37
        go_wp2_with (go_at_call 31; go_call (small_i _ _) as e w' ⟨rfl, rfl⟩)
        go_ret
        exact ⟨by rw [H.out]; rfl, rfl⟩
      | true =>
        have HF := Lib.hid hf
        clear h0 hm
        go_enter Try.func37, Try.ntmps37
        go_wp2_with (go_at_call 31; go_call (small_i _ _) as e w' ⟨rfl, rfl⟩)
        go_loop [28] (fun i => ∃ k : Nat, k ≤ s.size ∧ i = .int .i64 (k : Int) ∧ ∀ j (hj : j < s.size), j < k → nbyte (s[j].toNat : Int) = true) (fun i => s.size - (intOf i).toNat)
        case atStart => exact ⟨0, Nat.zero_le _, rfl, fun j hj h => by omega⟩
        case round =>
          obtain ⟨k, hk, rfl, hall⟩ := hrel
          have HALL := Lib.hid hall
          clear hall hf
          by_cases hlt : k < s.size
          · have i1 : (0 : Int) ≤ (k : Int) := by omega
            have i2 : (k : Int) < (s.size : Int) := by omega
            cases he : nbyte (s[k].toNat : Int) with
            | false =>
              have H := Lib.hid (allOf_bad small nbyte most k s hlt he)
              go_wp2_with (go_at_call 39; go_call (nbyte_i _ _) as e w' ⟨rfl, rfl⟩)
              go_ret
              exact ⟨by rw [H.out]; rfl, rfl⟩
            | true =>
              have HE := Lib.hid he
              go_wp2_with (go_at_call 39; go_call (nbyte_i _ _) as e w' ⟨rfl, rfl⟩)
              go_round
              case rel =>
                refine ⟨k + 1, by omega, by go_num, fun j hj h => ?_⟩
                rcases Nat.lt_or_eq_of_le (Nat.le_of_lt_succ h) with h | h
                · exact HALL.out j hj h
                · subst h; exact HE.out
              case measure => simp [intOf]; omega
          · have hkn : k = s.size := by omega
            have H := Lib.hid (allOf_yes small nbyte most s hpos hsm HF.out (fun j hj => HALL.out j hj (by omega)))
            clear hkn
            go_wp2_with fail
            go_ret
            exact ⟨by rw [H.out]; rfl, rfl⟩

set_option maxRecDepth 100000 in
theorem all_text (s : ByteArray) (most : Nat) (hs : s.size ≤ 1099511627776) (hmost : most ≤ 1024) (w : World) :
    Calls Try.prog 37 #[.string s, .int .i64 (most : Int), .func (.func 42) #[] #[], .func (.func 42) #[] #[]] w fun e w' => e = .returned (.bool (allOf tbyte tbyte most (bs s))) ∧ w = w' := by
  by_cases h0 : s.size = 0
  · have H := Lib.hid (allOf_nil tbyte tbyte most s h0)
    have t0 : decide ((s.size : Int) < 1) = true := by simp; omega
    have t1 : (s.size : Int) < 1 := by omega
    clear h0
    go_enter Try.func37, Try.ntmps37
    go_wp2
    go_ret
    exact ⟨by rw [H.out]; rfl, rfl⟩
  · have hpos : 0 < s.size := by omega
    have t0 : ¬ (s.size : Int) < 1 := by omega
    by_cases hm : most < s.size
    · have H := Lib.hid (allOf_long tbyte tbyte most s hm)
      have t1 : (most : Int) < (s.size : Int) := by omega
      clear h0
      go_enter Try.func37, Try.ntmps37
      go_wp2
      go_ret
      exact ⟨by rw [H.out]; rfl, rfl⟩
    · have t1 : ¬ (most : Int) < (s.size : Int) := by omega
      have hsm : s.size ≤ most := by omega
      cases hf : tbyte (s[0].toNat : Int) with
      | false =>
        have H := Lib.hid (allOf_first tbyte tbyte most s hpos hf)
        clear h0 hm
        go_enter Try.func37, Try.ntmps37
        go_wp2_with (go_at_call 42; go_call (tbyte_i _ _) as e w' ⟨rfl, rfl⟩)
        go_ret
        exact ⟨by rw [H.out]; rfl, rfl⟩
      | true =>
        have HF := Lib.hid hf
        clear h0 hm
        go_enter Try.func37, Try.ntmps37
        go_wp2_with (go_at_call 42; go_call (tbyte_i _ _) as e w' ⟨rfl, rfl⟩)
        go_loop [28] (fun i => ∃ k : Nat, k ≤ s.size ∧ i = .int .i64 (k : Int) ∧ ∀ j (hj : j < s.size), j < k → tbyte (s[j].toNat : Int) = true) (fun i => s.size - (intOf i).toNat)
        case atStart => exact ⟨0, Nat.zero_le _, rfl, fun j hj h => by omega⟩
        case round =>
          obtain ⟨k, hk, rfl, hall⟩ := hrel
          have HALL := Lib.hid hall
          clear hall hf
          by_cases hlt : k < s.size
          · have i1 : (0 : Int) ≤ (k : Int) := by omega
            have i2 : (k : Int) < (s.size : Int) := by omega
            cases he : tbyte (s[k].toNat : Int) with
            | false =>
              have H := Lib.hid (allOf_bad tbyte tbyte most k s hlt he)
              go_wp2_with (go_at_call 42; go_call (tbyte_i _ _) as e w' ⟨rfl, rfl⟩)
              go_ret
              exact ⟨by rw [H.out]; rfl, rfl⟩
            | true =>
              have HE := Lib.hid he
              go_wp2_with (go_at_call 42; go_call (tbyte_i _ _) as e w' ⟨rfl, rfl⟩)
              go_round
              case rel =>
                refine ⟨k + 1, by omega, by go_num, fun j hj h => ?_⟩
                rcases Nat.lt_or_eq_of_le (Nat.le_of_lt_succ h) with h | h
                · exact HALL.out j hj h
                · subst h; exact HE.out
              case measure => simp [intOf]; omega
          · have hkn : k = s.size := by omega
            have H := Lib.hid (allOf_yes tbyte tbyte most s hpos hsm HF.out (fun j hj => HALL.out j hj (by omega)))
            clear hkn
            go_wp2_with fail
            go_ret
            exact ⟨by rw [H.out]; rfl, rfl⟩

set_option maxRecDepth 100000 in
theorem all_word (s : ByteArray) (most : Nat) (hs : s.size ≤ 1099511627776) (hmost : most ≤ 1024) (g : Addr) (w : World) (hc : w.cell? g = some (.func (.func 36) #[] #[])) :
    Calls Try.prog 37 #[.string s, .int .i64 (most : Int), .func (.func 36) #[] #[], .func (.func 38) #[] #[.pointer (some g)]] w fun e w' => e = .returned (.bool (allOf wfirst wbyte most (bs s))) ∧ w = w' := by
  by_cases h0 : s.size = 0
  · have H := Lib.hid (allOf_nil wfirst wbyte most s h0)
    have t0 : decide ((s.size : Int) < 1) = true := by simp; omega
    have t1 : (s.size : Int) < 1 := by omega
    clear h0
    go_enter Try.func37, Try.ntmps37
    go_wp2
    go_ret
    exact ⟨by rw [H.out]; rfl, rfl⟩
  · have hpos : 0 < s.size := by omega
    have t0 : ¬ (s.size : Int) < 1 := by omega
    by_cases hm : most < s.size
    · have H := Lib.hid (allOf_long wfirst wbyte most s hm)
      have t1 : (most : Int) < (s.size : Int) := by omega
      clear h0
      go_enter Try.func37, Try.ntmps37
      go_wp2
      go_ret
      exact ⟨by rw [H.out]; rfl, rfl⟩
    · have t1 : ¬ (most : Int) < (s.size : Int) := by omega
      have hsm : s.size ≤ most := by omega
      cases hf : wfirst (s[0].toNat : Int) with
      | false =>
        have H := Lib.hid (allOf_first wfirst wbyte most s hpos hf)
        clear h0 hm
        go_enter Try.func37, Try.ntmps37
        go_wp2_with (go_at_call 36; go_call (wfirst_i _ _) as e w' ⟨rfl, rfl⟩)
        go_ret
        exact ⟨by rw [H.out]; rfl, rfl⟩
      | true =>
        have HF := Lib.hid hf
        clear h0 hm
        go_enter Try.func37, Try.ntmps37
        go_wp2_with (go_at_call 36; go_call (wfirst_i _ _) as e w' ⟨rfl, rfl⟩)
        go_loop [28] (fun i => ∃ k : Nat, k ≤ s.size ∧ i = .int .i64 (k : Int) ∧ ∀ j (hj : j < s.size), j < k → wbyte (s[j].toNat : Int) = true) (fun i => s.size - (intOf i).toNat)
        case atStart => exact ⟨0, Nat.zero_le _, rfl, fun j hj h => by omega⟩
        case round =>
          obtain ⟨k, hk, rfl, hall⟩ := hrel
          have HALL := Lib.hid hall
          clear hall hf
          by_cases hlt : k < s.size
          · have i1 : (0 : Int) ≤ (k : Int) := by omega
            have i2 : (k : Int) < (s.size : Int) := by omega
            cases he : wbyte (s[k].toNat : Int) with
            | false =>
              have H := Lib.hid (allOf_bad wfirst wbyte most k s hlt he)
              go_wp2_with (go_at_call 38; go_call (wbyte_i _ g _ hc) as e w' ⟨rfl, rfl⟩)
              go_ret
              exact ⟨by rw [H.out]; rfl, rfl⟩
            | true =>
              have HE := Lib.hid he
              go_wp2_with (go_at_call 38; go_call (wbyte_i _ g _ hc) as e w' ⟨rfl, rfl⟩)
              go_round
              case rel =>
                refine ⟨k + 1, by omega, by go_num, fun j hj h => ?_⟩
                rcases Nat.lt_or_eq_of_le (Nat.le_of_lt_succ h) with h | h
                · exact HALL.out j hj h
                · subst h; exact HE.out
              case measure => simp [intOf]; omega
          · have hkn : k = s.size := by omega
            have H := Lib.hid (allOf_yes wfirst wbyte most s hpos hsm HF.out (fun j hj => HALL.out j hj (by omega)))
            clear hkn
            go_wp2_with fail
            go_ret
            exact ⟨by rw [H.out]; rfl, rfl⟩

end Go.Proofs.Ythnkfaddjenbhaa.LetY
