/- The walks of IsName, IsWord, IsText and Short, by the program and by the reference. Conditions: the text is of a size that the machine's numbers count. -/
import Derived.Test.YthnkfaddjenbhaaLetY
import Derived.Laws.EntriesVeiled
namespace Go.Proofs.Ythnkfaddjenbhaa.LetZ
open Go Go.RowKit LetP Byt LetW LetX LetY

def isName (l : List UInt8) : Bool := allOf small nbyte 24 l
def isWord (l : List UInt8) : Bool := allOf wfirst wbyte 9 l
def isText (l : List UInt8) : Bool := l.isEmpty || allOf tbyte tbyte 1024 l
theorem isName_i (s : ByteArray) (hs : s.size ≤ 1099511627776) (w : World) : Calls Try.prog 17 #[.string s] w fun e w' => e = .returned (.bool (isName (bs s))) ∧ w = w' := by
  go_enter Try.func17, Try.ntmps17
  go_wp2_with fail
  refine (all_name s 24 hs (by omega) _).mono ?_
  rintro e w' ⟨rfl, rfl⟩
  go_wp2_with fail
  go_ret
  exact ⟨rfl, rfl⟩

theorem isWord_i (s : ByteArray) (hs : s.size ≤ 1099511627776) (w : World) : Calls Try.prog 16 #[.string s] w fun e w' => e = .returned (.bool (isWord (bs s))) ∧ Below w.heap.size w w' := by
  go_enter Try.func16, Try.ntmps16
  go_wp2_with fail
  refine (all_word s 9 hs (by omega) ⟨w.heap.size, 0, none⟩ _ ?_).mono ?_
  · go_cell
  rintro e w' ⟨rfl, rfl⟩
  go_wp2_with fail
  go_ret
  exact ⟨rfl, by go_grown⟩

theorem isText_i (s : ByteArray) (hs : s.size ≤ 1099511627776) (w : World) : Calls Try.prog 20 #[.string s] w fun e w' => e = .returned (.bool (isText (bs s))) ∧ w = w' := by
  by_cases h0 : s.size = 0
  · have hl : bs s = [] := List.length_eq_zero_iff.1 h0
    have H := Lib.hid (show isText (bs s) = true by rw [hl]; rfl)
    have t0 : s.toList = [] := by rw [ByteArray.toList_eq]; exact hl
    clear hl h0 hs
    go_enter Try.func20, Try.ntmps20
    go_wp2
    go_ret
    exact ⟨by rw [H.out]; rfl, rfl⟩
  · have hne : bs s ≠ [] := fun h => h0 (by have := congrArg List.length h; exact this)
    have H := Lib.hid (show isText (bs s) = allOf tbyte tbyte 1024 (bs s) by unfold isText; rw [show (bs s).isEmpty = false from by simpa using hne]; rfl)
    have t1 : ¬ s.toList = [] := by rw [ByteArray.toList_eq]; exact hne
    have t2 : s.toList.isEmpty = false := by simpa using t1
    have HS := Lib.hid hs
    clear hne h0
    go_enter Try.func20, Try.ntmps20
    go_wp2_with fail
    refine (all_text s 1024 HS.out (by omega) _).mono ?_
    rintro e w' ⟨rfl, rfl⟩
    rw [← H.out]
    go_wp2_with fail
    go_ret
    exact ⟨rfl, rfl⟩

theorem short_i (s : ByteArray) (hs : s.size ≤ 1099511627776) (w : World) : Calls Try.prog 13 #[.string s] w fun e w' => e = .returned (.string (str (short (bs s)))) ∧ w = w' := by
  by_cases h : s.size ≤ 9
  · have H := Lib.hid (show str (short (bs s)) = s by unfold short; rw [List.take_of_length_le (by rw [len_bytes]; exact h)]; exact str_data s)
    go_enter Try.func13, Try.ntmps13
    go_wp2
    go_ret
    exact ⟨by rw [H.out]; rfl, rfl⟩
  · have H := Lib.hid (show str (short (bs s)) = s.extract 0 9 by rw [extract_str]; rfl)
    go_enter Try.func13, Try.ntmps13
    go_wp2
    go_ret
    exact ⟨by rw [H.out]; rfl, rfl⟩
theorem short_r (s : ByteArray) (hs : s.size ≤ 1099511627776) (w : World) : Calls Try.prog 14 #[.string s] w fun e w' => e = .returned (.string (str (short (bs s)))) ∧ w = w' := by
  by_cases h : s.size ≤ 9
  · have H := Lib.hid (show str (short (bs s)) = s by unfold short; rw [List.take_of_length_le (by rw [len_bytes]; exact h)]; exact str_data s)
    go_enter Try.func14, Try.ntmps14
    go_wp2
    go_ret
    exact ⟨by rw [H.out]; rfl, rfl⟩
  · have H := Lib.hid (show str (short (bs s)) = s.extract 0 9 by rw [extract_str]; rfl)
    have h9 : 9 < s.size := by omega
    clear h
    go_enter Try.func14, Try.ntmps14
    go_wp2
    go_ret
    exact ⟨by rw [H.out]; rfl, rfl⟩
end Go.Proofs.Ythnkfaddjenbhaa.LetZ
