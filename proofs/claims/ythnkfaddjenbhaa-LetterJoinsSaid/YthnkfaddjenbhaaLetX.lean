/- The walks of Lower and Cap, by the program and by the reference. Conditions: the text is of a size that the machine's numbers count. -/
import Derived.Test.YthnkfaddjenbhaaLetW
namespace Go.Proofs.Ythnkfaddjenbhaa.LetX
open Go Go.RowKit LetP Byt LetW

abbrev bs (s : ByteArray) : List UInt8 := s.data.toList
theorem lower_i (s : ByteArray) (hs : s.size ≤ 1099511627776) (w : World) : Calls Try.prog 9 #[.string s] w fun e w' => e = .returned (.string (str (lower (bs s)))) ∧ Below w.heap.size w w' := by
  have H := Lib.hid (turn_all low (bs s))
  go_enter Try.func9, Try.ntmps9
  go_wp2_with fail
  refine (turned_low s s.size s.size (Nat.le_refl _) (.inl rfl) hs (by omega) _).mono ?_
  rintro e w' ⟨rfl, hb⟩
  rw [show turn low s.size s.data.toList = lower (bs s) from H.out]
  go_wp2_with fail
  go_ret
  exact ⟨rfl, hb⟩

theorem cap_i (s : ByteArray) (hs : s.size ≤ 1099511627776) (w : World) : Calls Try.prog 10 #[.string s] w fun e w' => e = .returned (.string (str (capital (bs s)))) ∧ Below w.heap.size w w' := by
  go_enter Try.func10, Try.ntmps10
  go_wp2_with fail
  by_cases h0 : s.size = 0
  · have hl : bs s = [] := List.length_eq_zero_iff.1 h0
    refine (turned_cap s 1 0 (by omega) (.inr ⟨by omega, by omega⟩) hs (by omega) _).mono ?_
    rintro e w' ⟨rfl, hb⟩
    rw [show turn LetP.cap 0 s.data.toList = capital (bs s) by show turn LetP.cap 0 (bs s) = turn LetP.cap 1 (bs s); rw [hl]; rfl]
    clear hl h0
    go_wp2_with fail
    go_ret
    exact ⟨rfl, hb⟩
  · refine (turned_cap s 1 1 (by omega) (.inl rfl) hs (by omega) _).mono ?_
    rintro e w' ⟨rfl, hb⟩
    rw [show turn LetP.cap 1 s.data.toList = capital (bs s) from rfl]
    go_wp2_with fail
    go_ret
    exact ⟨rfl, hb⟩

set_option maxRecDepth 100000 in
theorem lower_r (s : ByteArray) (hs : s.size ≤ 1099511627776) (w : World) : Calls Try.prog 11 #[.string s] w fun e w' => e = .returned (.string (str (lower (bs s)))) ∧ Below w.heap.size w w' := by
  obtain ⟨g, cap, w1, hrun, hbuf, hb1⟩ := bytes_of s w
  have HBUF := Lib.hid hbuf
  clear hbuf
  have hl : s.data.toList.length = s.size := rfl
  have HL := Lib.hid hl
  clear hl
  go_enter Try.func11, Try.ntmps11
  go_wp2_with fail
  go_loopw [4] (fun i wr => ∃ k : Nat, k ≤ s.size ∧ i = .int .i64 (k : Int) ∧ Buf wr w.heap.size g s.size cap (turn low k s.data.toList) ∧ Below w.heap.size w wr) (fun i _ => s.size - (intOf i).toNat)
  case atStart => exact ⟨0, Nat.zero_le _, rfl, by rw [turn_zero]; exact HBUF.out, hb1⟩
  case round =>
    clear hrun
    obtain ⟨k, hk, rfl, hbk, hbw⟩ := hrel
    have HBK := Lib.hid hbk
    by_cases hlt : k < s.size
    · have hkl : k < s.data.toList.length := by rw [HL.out]; omega
      have hkt : k < (turn low k s.data.toList).length := by rw [turn_length]; exact hkl
      have c1 := hbk.2.2.2.2.1 k hkt
      have f1 := hbk.2.2.2.2.2 k hkt
      rw [turn_get _ _ _ hkl] at c1
      have hst := hbk.store k hkt (low s.data.toList[k])
      have hgt := turn_get low k s.data.toList hkl
      have hts := turn_step low k s.data.toList hkl
      rw [hts] at hst
      obtain ⟨b, hb⟩ : ∃ b, s.data.toList[k] = b := ⟨_, rfl⟩
      rw [hb] at c1 hst hgt hts
      have hgB : w.heap.size ≤ g := hbk.2.2.1
      have i1 : (0 : Int) ≤ (k : Int) := by omega
      have i2 : (k : Int) < (s.size : Int) := by omega
      have n0 : (0 : Int) ≤ (b.toNat : Int) := by omega
      have n1 := code_hi b
      unfold code at n1
      cases hg : great (code b) with
      | true =>
        have hcy := code_low_yes hg
        unfold code at hcy hg
        rw [hcy] at hst
        have HST := Lib.hid hst
        have hb2 : 65 ≤ (b.toNat : Int) ∧ (b.toNat : Int) ≤ 90 := by unfold great at hg; simpa using hg
        have n2 := hb2.2
        clear hbk hst hb hkt hkl hgt hts hcy hb2
        go_wp2_with (go_at_call 32; go_call (great_r _ _) as e w' ⟨rfl, rfl⟩)
        go_roundw
        case rel => exact ⟨k + 1, hlt, by go_num, HST.out, hbw.setCell (p := ⟨g, k, none⟩) hgB _⟩
        case measure => simp [intOf]; omega
      | false =>
        have hcn := code_low_no hg
        unfold code at hg
        rw [hcn] at hts
        have hsame : turn low (k + 1) s.data.toList = turn low k s.data.toList := by
          rw [← hts]
          refine List.ext_getElem (by rw [List.length_set]) fun j h1 h2 => ?_
          rw [List.getElem_set]
          split
          · rename_i hkj; subst hkj; exact hgt.symm
          · rfl
        have HSAME := Lib.hid hsame
        clear hbk hst hb hkt hkl hgt hts hsame hcn f1
        go_wp2_with (go_at_call 32; go_call (great_r _ _) as e w' ⟨rfl, rfl⟩)
        go_roundw
        case rel => exact ⟨k + 1, hlt, by go_num, by rw [HSAME.out]; exact HBK.out, hbw⟩
        case measure => simp [intOf]; omega
    · have hkn : k = s.size := by omega
      have HKN := Lib.hid hkn
      have hstr := string_of hbk
      have H := Lib.hid (turn_all low (bs s))
      clear hkn hbk
      go_wp2_with fail
      go_ret
      exact ⟨by rw [HKN.out]; exact congrArg (fun l => Ending.returned (.string (str l))) H.out, hbw⟩

set_option maxRecDepth 100000 in
theorem cap_r (s : ByteArray) (hs : s.size ≤ 1099511627776) (w : World) : Calls Try.prog 12 #[.string s] w fun e w' => e = .returned (.string (str (capital (bs s)))) ∧ Below w.heap.size w w' := by
  by_cases h0 : s.size = 0
  · have hl : bs s = [] := List.length_eq_zero_iff.1 h0
    have H := Lib.hid (show str (capital (bs s)) = s by rw [show capital (bs s) = bs s by rw [hl]; rfl]; exact str_data s)
    have t0 : ((s.size : Int) == 0) = true := by simp [h0]
    have t1 : (s.size == 0) = true := by simp [h0]
    clear hl h0
    go_enter Try.func12, Try.ntmps12
    go_wp2
    go_ret
    exact ⟨by rw [H.out]; rfl, Below.refl _ _⟩
  · have hpos : 0 < s.size := by omega
    have t0 : ((s.size : Int) == 0) = false := by simp [h0]
    have t1 : (s.size == 0) = false := by simp [h0]
    obtain ⟨b, t, hl⟩ : ∃ b t, bs s = b :: t := by
      cases h : bs s with
      | nil => exact absurd (congrArg List.length h) h0
      | cons b t => exact ⟨b, t, rfl⟩
    have hsb : s[0] = b := by
      have : (bs s)[0]? = some s[0] := by
        show s.data.toList[0]? = some s.data[0]
        rw [Array.getElem?_toList, Array.getElem?_eq_getElem]
      rw [hl] at this
      simpa using this.symm
    cases hg : small (code b) with
    | false =>
      have H := Lib.hid (show str (capital (bs s)) = s by rw [show capital (bs s) = bs s by rw [hl]; show LetP.cap b :: t = _; rw [code_cap_no hg]]; exact str_data s)
      have hsm : small (s[0].toNat : Int) = false := by rw [hsb]; exact hg
      clear hl hsb hg h0
      go_enter Try.func12, Try.ntmps12
      go_wp2_with (go_at_call 33; go_call (small_r _ _) as e w' ⟨rfl, rfl⟩)
      go_ret
      exact ⟨by rw [H.out]; rfl, Below.refl _ _⟩
    | true =>
      have hsm : small (s[0].toNat : Int) = true := by rw [hsb]; exact hg
      obtain ⟨g, cap, w1, hrun, hbuf, hb1⟩ := bytes_of s w
      have hlen : 0 < s.data.toList.length := hpos
      have c1 := hbuf.2.2.2.2.1 0 hlen
      have f1 := hbuf.2.2.2.2.2 0 hlen
      have hget : s.data.toList[0] = b := by
        have : bs s = b :: t := hl
        simp only [bs] at this
        simp [this]
      rw [hget] at c1
      have hst := hbuf.store 0 hlen (LetP.cap b)
      have hcap : s.data.toList.set 0 (LetP.cap b) = capital (bs s) := by
        rw [show s.data.toList = b :: t from hl, hl]
        rfl
      rw [hcap] at hst
      have hgB : w.heap.size ≤ g := hbuf.2.2.1
      have hcy := code_cap_yes hg
      unfold code at hcy hg
      rw [hcy] at hst
      have hstr := string_of hst
      have hb2 : 97 ≤ (b.toNat : Int) ∧ (b.toNat : Int) ≤ 122 := by unfold small at hg; simpa using hg
      have n1 := hb2.1
      have n2 := hb2.2
      have i2 : (0 : Int) < (s.size : Int) := by omega
      clear hl hsb hg h0 hbuf hget hst hcap hcy hb2 hlen
      go_enter Try.func12, Try.ntmps12
      go_wp2_with (go_at_call 33; go_call (small_r _ _) as e w' ⟨rfl, rfl⟩)
      go_ret
      exact ⟨rfl, hb1.setCell (p := ⟨g, 0, none⟩) hgB _⟩
end Go.Proofs.Ythnkfaddjenbhaa.LetX
