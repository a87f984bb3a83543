/- The walks of the letters' small functions, and of the texts that are turned byte by byte. Conditions: as each theorem says. -/
import Derived.Test.YthnkfaddjenbhaaBytesP
import Derived.Test.YthnkfaddjenbhaaLetP
import Derived.Outline
import Derived.Deep.DeepCutAuto
import Derived.Deep.RegionHeld3
import Derived.Deep.QuietTactic
import Derived.BigQuiet
namespace Go.Proofs.Ythnkfaddjenbhaa.LetW
open Go Go.RowKit LetP Byt

theorem small_i (c : Int) (w : World) : Calls Try.prog 31 #[.int .u8 c] w fun e w' => e = .returned (.bool (LetP.small c)) ∧ w = w' := by
  go_enter Try.func31, Try.ntmps31
  go_wp2
  all_goals (go_ret; refine ⟨retb ?_, rfl⟩; (simp [LetP.small, *] <;> omega))

theorem great_i (c : Int) (w : World) : Calls Try.prog 29 #[.int .u8 c] w fun e w' => e = .returned (.bool (LetP.great c)) ∧ w = w' := by
  go_enter Try.func29, Try.ntmps29
  go_wp2
  all_goals (go_ret; refine ⟨retb ?_, rfl⟩; (simp [LetP.great, *] <;> omega))

theorem digit_i (c : Int) (w : World) : Calls Try.prog 35 #[.int .u8 c] w fun e w' => e = .returned (.bool (LetP.digit c)) ∧ w = w' := by
  go_enter Try.func35, Try.ntmps35
  go_wp2
  all_goals (go_ret; refine ⟨retb ?_, rfl⟩; (simp [LetP.digit, *] <;> omega))

theorem small_r (c : Int) (w : World) : Calls Try.prog 33 #[.int .u8 c] w fun e w' => e = .returned (.bool (LetP.small c)) ∧ w = w' := by
  go_enter Try.func33, Try.ntmps33
  go_wp2
  all_goals (go_ret; refine ⟨retb ?_, rfl⟩; (simp [LetP.small, *] <;> omega))

theorem great_r (c : Int) (w : World) : Calls Try.prog 32 #[.int .u8 c] w fun e w' => e = .returned (.bool (LetP.great c)) ∧ w = w' := by
  go_enter Try.func32, Try.ntmps32
  go_wp2
  all_goals (go_ret; refine ⟨retb ?_, rfl⟩; (simp [LetP.great, *] <;> omega))

theorem digit_r (c : Int) (w : World) : Calls Try.prog 40 #[.int .u8 c] w fun e w' => e = .returned (.bool (LetP.digit c)) ∧ w = w' := by
  go_enter Try.func40, Try.ntmps40
  go_wp2
  all_goals (go_ret; refine ⟨retb ?_, rfl⟩; (simp [LetP.digit, *] <;> omega))

theorem ret1 {j : IntKind} {a b : Int} (h : a = b) : Ending.returned (.int j a) = .returned (.int j b) := by rw [h]

theorem low_f (b : UInt8) (w : World) : Calls Try.prog 28 #[.int .u8 (code b)] w fun e w' => e = .returned (.int .u8 (code (LetP.low b))) ∧ w = w' := by
  have h0 := code_lo b
  have h1 := code_hi b
  cases h : LetP.great (code b) with
  | true =>
    have H := Lib.hid (code_low_yes h)
    have hb : 65 ≤ code b ∧ code b ≤ 90 := by unfold LetP.great at h; simpa using h
    have hb0 := hb.1
    have hb1 := hb.2
    clear hb
    go_enter Try.func28, Try.ntmps28
    go_wp2_with (go_at_call 29; go_call (great_i _ _) as e w' ⟨rfl, rfl⟩)
    go_ret
    refine ⟨?_, rfl⟩
    rw [H.out]
    exact ret1 (by omega)
  | false =>
    have H := Lib.hid (code_low_no h)
    go_enter Try.func28, Try.ntmps28
    go_wp2_with (go_at_call 29; go_call (great_i _ _) as e w' ⟨rfl, rfl⟩)
    go_ret
    refine ⟨?_, rfl⟩
    rw [H.out]
    rfl

theorem cap_f (b : UInt8) (w : World) : Calls Try.prog 30 #[.int .u8 (code b)] w fun e w' => e = .returned (.int .u8 (code (LetP.cap b))) ∧ w = w' := by
  have h0 := code_lo b
  have h1 := code_hi b
  cases h : LetP.small (code b) with
  | true =>
    have H := Lib.hid (code_cap_yes h)
    have hb : 97 ≤ code b ∧ code b ≤ 122 := by unfold LetP.small at h; simpa using h
    have hb0 := hb.1
    have hb1 := hb.2
    clear hb
    go_enter Try.func30, Try.ntmps30
    go_wp2_with (go_at_call 31; go_call (small_i _ _) as e w' ⟨rfl, rfl⟩)
    go_ret
    refine ⟨?_, rfl⟩
    rw [H.out]
    exact ret1 (by omega)
  | false =>
    have H := Lib.hid (code_cap_no h)
    go_enter Try.func30, Try.ntmps30
    go_wp2_with (go_at_call 31; go_call (small_i _ _) as e w' ⟨rfl, rfl⟩)
    go_ret
    refine ⟨?_, rfl⟩
    rw [H.out]
    rfl

theorem low_f_at (b : UInt8) (w : World) : Calls Try.prog 28 #[.int .u8 (b.toNat : Int)] w fun e w' => e = .returned (.int .u8 ((LetP.low b).toNat : Int)) ∧ w = w' := low_f b w

set_option maxRecDepth 100000 in
theorem turned_low (s : ByteArray) (u : Int) (n : Nat) (hn : n ≤ s.size) (hu : u = n ∨ (n = s.size ∧ s.size < u)) (hs : s.size ≤ 1099511627776) (hu2 : u ≤ 1099511627777) (w : World) :
    Calls Try.prog 27 #[.string s, .int .i64 u, .func (.func 28) #[] #[]] w fun e w' => e = .returned (.string (str (turn LetP.low n s.data.toList))) ∧ Below w.heap.size w w' := by
  obtain ⟨g, cap, w1, hrun, hbuf, hb1⟩ := bytes_of s w
  have HBUF := Lib.hid hbuf
  clear hbuf
  have hl : s.data.toList.length = s.size := rfl
  have HL := Lib.hid hl
  clear hl
  rcases hu with rfl | ⟨hns, hsu⟩
  · clear hu2
    go_enter Try.func27, Try.ntmps27
    go_wp2_with fail
    go_loopw [15] (fun i wr => ∃ k : Nat, k ≤ n ∧ i = .int .i64 (k : Int) ∧ Buf wr w.heap.size g s.size cap (turn LetP.low k s.data.toList) ∧ Below w.heap.size w wr) (fun i _ => n - (intOf i).toNat)
    case atStart => exact ⟨0, Nat.zero_le _, rfl, by rw [turn_zero]; exact HBUF.out, hb1⟩
    case round =>
      clear hrun
      obtain ⟨k, hk, rfl, hbk, hbw⟩ := hrel
      have HBK := Lib.hid hbk
      by_cases hlt : k < n
      · have hkl : k < s.data.toList.length := by rw [HL.out]; omega
        have hkt : k < (turn LetP.low k s.data.toList).length := by rw [turn_length]; exact hkl
        have c1 := hbk.2.2.2.2.1 k hkt
        have f1 := hbk.2.2.2.2.2 k hkt
        rw [turn_get _ _ _ hkl] at c1
        have hst := hbk.store k hkt (LetP.low s.data.toList[k])
        rw [turn_step _ _ _ hkl] at hst
        obtain ⟨b, hb⟩ : ∃ b, s.data.toList[k] = b := ⟨_, rfl⟩
        rw [hb] at c1 hst
        have HST := Lib.hid hst
        have hgB : w.heap.size ≤ g := hbk.2.2.1
        have i1 : (0 : Int) ≤ (k : Int) := by omega
        have i2 : (k : Int) < (s.size : Int) := by omega
        clear hbk hst hb hkt hkl
        go_wp2_with (go_at_call 28; go_call (low_f_at b _) as e w' ⟨rfl, rfl⟩)
        go_roundw
        case rel => exact ⟨k + 1, hlt, by go_num, HST.out, hbw.setCell (p := ⟨g, k, none⟩) hgB _⟩
        case measure => simp [intOf]; omega
      · have hkn : k = n := by omega
        have HKN := Lib.hid hkn
        have hstr := string_of hbk
        clear hkn hbk
        go_wp2_with fail
        go_ret
        exact ⟨by rw [HKN.out]; rfl, hbw⟩
  · subst hns
    go_enter Try.func27, Try.ntmps27
    go_wp2_with fail
    go_loopw [15] (fun i wr => ∃ k : Nat, k ≤ s.size ∧ i = .int .i64 (k : Int) ∧ Buf wr w.heap.size g s.size cap (turn LetP.low k s.data.toList) ∧ Below w.heap.size w wr) (fun i _ => s.size - (intOf i).toNat)
    case atStart => exact ⟨0, Nat.zero_le _, rfl, by rw [turn_zero]; exact HBUF.out, hb1⟩
    case round =>
      clear hrun
      obtain ⟨k, hk, rfl, hbk, hbw⟩ := hrel
      have HBK := Lib.hid hbk
      by_cases hlt : k < s.size
      · have hkl : k < s.data.toList.length := by rw [HL.out]; omega
        have hkt : k < (turn LetP.low k s.data.toList).length := by rw [turn_length]; exact hkl
        have c1 := hbk.2.2.2.2.1 k hkt
        have f1 := hbk.2.2.2.2.2 k hkt
        rw [turn_get _ _ _ hkl] at c1
        have hst := hbk.store k hkt (LetP.low s.data.toList[k])
        rw [turn_step _ _ _ hkl] at hst
        obtain ⟨b, hb⟩ : ∃ b, s.data.toList[k] = b := ⟨_, rfl⟩
        rw [hb] at c1 hst
        have HST := Lib.hid hst
        have hgB : w.heap.size ≤ g := hbk.2.2.1
        have i1 : (0 : Int) ≤ (k : Int) := by omega
        have i2 : (k : Int) < (s.size : Int) := by omega
        clear hbk hst hb hkt hkl
        go_wp2_with (go_at_call 28; go_call (low_f_at b _) as e w' ⟨rfl, rfl⟩)
        go_roundw
        case rel => exact ⟨k + 1, hlt, by go_num, HST.out, hbw.setCell (p := ⟨g, k, none⟩) hgB _⟩
        case measure => simp [intOf]; omega
      · have hkn : k = s.size := by omega
        have HKN := Lib.hid hkn
        have hstr := string_of hbk
        clear hkn hbk
        go_wp2_with fail
        go_ret
        exact ⟨by rw [HKN.out]; rfl, hbw⟩

theorem cap_f_at (b : UInt8) (w : World) : Calls Try.prog 30 #[.int .u8 (b.toNat : Int)] w fun e w' => e = .returned (.int .u8 ((LetP.cap b).toNat : Int)) ∧ w = w' := cap_f b w

set_option maxRecDepth 100000 in
theorem turned_cap (s : ByteArray) (u : Int) (n : Nat) (hn : n ≤ s.size) (hu : u = n ∨ (n = s.size ∧ s.size < u)) (hs : s.size ≤ 1099511627776) (hu2 : u ≤ 1099511627777) (w : World) :
    Calls Try.prog 27 #[.string s, .int .i64 u, .func (.func 30) #[] #[]] w fun e w' => e = .returned (.string (str (turn LetP.cap n s.data.toList))) ∧ Below w.heap.size w w' := by
  obtain ⟨g, cap, w1, hrun, hbuf, hb1⟩ := bytes_of s w
  have HBUF := Lib.hid hbuf
  clear hbuf
  have hl : s.data.toList.length = s.size := rfl
  have HL := Lib.hid hl
  clear hl
  rcases hu with rfl | ⟨hns, hsu⟩
  · clear hu2
    go_enter Try.func27, Try.ntmps27
    go_wp2_with fail
    go_loopw [15] (fun i wr => ∃ k : Nat, k ≤ n ∧ i = .int .i64 (k : Int) ∧ Buf wr w.heap.size g s.size cap (turn LetP.cap k s.data.toList) ∧ Below w.heap.size w wr) (fun i _ => n - (intOf i).toNat)
    case atStart => exact ⟨0, Nat.zero_le _, rfl, by rw [turn_zero]; exact HBUF.out, hb1⟩
    case round =>
      clear hrun
      obtain ⟨k, hk, rfl, hbk, hbw⟩ := hrel
      have HBK := Lib.hid hbk
      by_cases hlt : k < n
      · have hkl : k < s.data.toList.length := by rw [HL.out]; omega
        have hkt : k < (turn LetP.cap k s.data.toList).length := by rw [turn_length]; exact hkl
        have c1 := hbk.2.2.2.2.1 k hkt
        have f1 := hbk.2.2.2.2.2 k hkt
        rw [turn_get _ _ _ hkl] at c1
        have hst := hbk.store k hkt (LetP.cap s.data.toList[k])
        rw [turn_step _ _ _ hkl] at hst
        obtain ⟨b, hb⟩ : ∃ b, s.data.toList[k] = b := ⟨_, rfl⟩
        rw [hb] at c1 hst
        have HST := Lib.hid hst
        have hgB : w.heap.size ≤ g := hbk.2.2.1
        have i1 : (0 : Int) ≤ (k : Int) := by omega
        have i2 : (k : Int) < (s.size : Int) := by omega
        clear hbk hst hb hkt hkl
        go_wp2_with (go_at_call 30; go_call (cap_f_at b _) as e w' ⟨rfl, rfl⟩)
        go_roundw
        case rel => exact ⟨k + 1, hlt, by go_num, HST.out, hbw.setCell (p := ⟨g, k, none⟩) hgB _⟩
        case measure => simp [intOf]; omega
      · have hkn : k = n := by omega
        have HKN := Lib.hid hkn
        have hstr := string_of hbk
        clear hkn hbk
        go_wp2_with fail
        go_ret
        exact ⟨by rw [HKN.out]; rfl, hbw⟩
  · subst hns
    go_enter Try.func27, Try.ntmps27
    go_wp2_with fail
    go_loopw [15] (fun i wr => ∃ k : Nat, k ≤ s.size ∧ i = .int .i64 (k : Int) ∧ Buf wr w.heap.size g s.size cap (turn LetP.cap k s.data.toList) ∧ Below w.heap.size w wr) (fun i _ => s.size - (intOf i).toNat)
    case atStart => exact ⟨0, Nat.zero_le _, rfl, by rw [turn_zero]; exact HBUF.out, hb1⟩
    case round =>
      clear hrun
      obtain ⟨k, hk, rfl, hbk, hbw⟩ := hrel
      have HBK := Lib.hid hbk
      by_cases hlt : k < s.size
      · have hkl : k < s.data.toList.length := by rw [HL.out]; omega
        have hkt : k < (turn LetP.cap k s.data.toList).length := by rw [turn_length]; exact hkl
        have c1 := hbk.2.2.2.2.1 k hkt
        have f1 := hbk.2.2.2.2.2 k hkt
        rw [turn_get _ _ _ hkl] at c1
        have hst := hbk.store k hkt (LetP.cap s.data.toList[k])
        rw [turn_step _ _ _ hkl] at hst
        obtain ⟨b, hb⟩ : ∃ b, s.data.toList[k] = b := ⟨_, rfl⟩
        rw [hb] at c1 hst
        have HST := Lib.hid hst
        have hgB : w.heap.size ≤ g := hbk.2.2.1
        have i1 : (0 : Int) ≤ (k : Int) := by omega
        have i2 : (k : Int) < (s.size : Int) := by omega
        clear hbk hst hb hkt hkl
        go_wp2_with (go_at_call 30; go_call (cap_f_at b _) as e w' ⟨rfl, rfl⟩)
        go_roundw
        case rel => exact ⟨k + 1, hlt, by go_num, HST.out, hbw.setCell (p := ⟨g, k, none⟩) hgB _⟩
        case measure => simp [intOf]; omega
      · have hkn : k = s.size := by omega
        have HKN := Lib.hid hkn
        have hstr := string_of hbk
        clear hkn hbk
        go_wp2_with fail
        go_ret
        exact ⟨by rw [HKN.out]; rfl, hbw⟩

end Go.Proofs.Ythnkfaddjenbhaa.LetW
