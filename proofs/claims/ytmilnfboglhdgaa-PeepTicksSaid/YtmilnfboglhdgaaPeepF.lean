/- once, Once, All, Best of chapter 29, slices.Clone and Equal over instructions. Conditions: lengths of 4096 at most. -/
import Derived.Test.YtmilnfboglhdgaaPeepE
import Derived.BigQuiet
namespace Go.Proofs.Ytmilnfboglhdgaa.PeepF
open Go Go.RowKit NestP NestW Sq ValP ValW ValY PeepP PeepW PeepX PeepY PeepZ PeepC PeepD PeepE
theorem eqnil (w : World) (a : Option Addr) (n c : Nat) : (binOp .eql 22 (.slice a n c) (.slice none 0 0)).run Try.prog w = .ok (.bool a.isNone) w := by
  rw [Lib.run_eql_slice_nil w 22 30 a n c 0 0 Try.underlying22]
attribute [local go_sem] eqnil

theorem way_i {A : Option Addr} {n c : Nat} (l : List Ins) (i k : Nat) (w : World) (hr : RdI w A n l) (hc : n ≤ c) (hi : i < n) (hn : n ≤ 1048576) (hk : k < 10) :
    Calls Try.prog 21 #[.slice A n c, .int .i64 (k : Int), .int .i64 (i : Int)] w (WayP (way l i k) w) := by
  have : k = 0 ∨ k = 1 ∨ k = 2 ∨ k = 3 ∨ k = 4 ∨ k = 5 ∨ k = 6 ∨ k = 7 ∨ k = 8 ∨ k = 9 := by omega
  rcases this with rfl | rfl | rfl | rfl | rfl | rfl | rfl | rfl | rfl | rfl
  · exact way0_w l i w hr hc hi hn
  · exact way1_w l i w hr hc hi hn
  · exact way2_w l i w hr hc hi hn
  · exact way3_w l i w hr hc hi hn
  · exact way4_w l i w hr hc hi hn
  · exact way5_w l i w hr hc hi hn
  · exact way6_w l i w hr hc hi hn
  · exact way7_w l i w hr hc hi hn
  · exact way8_w l i w hr hc hi hn
  · exact way9_w l i w hr hc hi hn
theorem ways_up {l m : List Ins} {i k : Nat} (h : PeepP.ways l i k = some m) : ∀ d, PeepP.ways l i (k + d) = some m
  | 0 => h
  | d + 1 => by rw [← Nat.add_assoc, PeepP.ways, ways_up h d]
theorem once_up {l m : List Ins} {k : Nat} (h : onceTo l k = some m) : ∀ d, onceTo l (k + d) = some m
  | 0 => h
  | d + 1 => by rw [← Nat.add_assoc, onceTo, once_up h d]
/-- What once gives. -/
def OnceP (l : List Ins) (v0 : Value) (w : World) (e : Ending) (w' : World) : Prop := ∃ v, e = .returned (.tuple #[v, .bool (once l).isSome]) ∧ (∀ m, once l = some m → OwnI w' w.heap.size v m) ∧ (once l = none → v = v0) ∧ Below w.heap.size w w'
set_option maxRecDepth 100000 in
set_option maxHeartbeats 1000000 in
theorem once_i {A : Option Addr} {n c : Nat} (l : List Ins) (w : World) (hr : RdI w A n l) (hc : n ≤ c) (hn : n ≤ 1048576) :
    Calls Try.prog 17 #[.slice A n c] w (OnceP l (.slice A n c) w) := by
  have HR := Lib.hid hr
  have HL := Lib.hid (show l.length = n from hr.1.symm)
  clear hr
  go_enter Try.func17, Try.ntmps17
  go_wp2_with fail
  go_loopw [10] (fun iv wr => ∃ j : Nat, j ≤ n ∧ iv = .int .i64 (j : Int) ∧ Hid (onceTo l j = none) ∧ Below w.heap.size w wr) (fun iv _ => n - (intOf iv).toNat)
  case atStart => exact ⟨0, Nat.zero_le _, rfl, Lib.hid rfl, Below.refl _ _⟩
  case round =>
    obtain ⟨j, hj, rfl, HT, hbw⟩ := hrel
    have HBW := Lib.hid hbw
    clear hbw
    by_cases hlt : j < n
    · have k0 : (0 : Int) ≤ (j : Int) := by omega
      have k1 : (j : Int) < (n : Int) := by omega
      go_wp2_with fail
      go_loopw [13] (fun kv w2 => ∃ k : Nat, k ≤ 10 ∧ kv = .int .i64 (k : Int) ∧ Hid (PeepP.ways l j k = none) ∧ Below w.heap.size w w2) (fun kv _ => 10 - (intOf kv).toNat)
      case atStart => exact ⟨0, Nat.zero_le _, rfl, Lib.hid rfl, HBW.out⟩
      case round =>
        obtain ⟨k, hk, rfl, HK, hb2⟩ := hrel
        have HB2 := Lib.hid hb2
        clear hb2
        by_cases hk10 : k < 10
        · have m0 : (0 : Int) ≤ (k : Int) := by omega
          have m1 : (k : Int) < 10 := by omega
          have HW := Lib.hid (show PeepP.ways l j (k + 1) = way l j k by rw [PeepP.ways, HK.out])
          cases hw : way l j k with
          | some m =>
            have HS := Lib.hid hw
            have HO := Lib.hid (show once l = some m by
              have h1 : PeepP.ways l j 10 = some m := by
                have h := ways_up (HW.out.trans hw) (10 - (k + 1))
                rwa [show k + 1 + (10 - (k + 1)) = 10 by omega] at h
              have h2 : onceTo l (j + 1) = some m := by rw [onceTo, HT.out]; exact h1
              have h3 := once_up h2 (n - (j + 1))
              unfold once
              rw [HL.out]
              rwa [show j + 1 + (n - (j + 1)) = n by omega] at h3)
            clear hw
            go_wp2_with (go_at_call 21; refine (way_i l j k _ (HR.out.below HB2.out) hc hlt hn hk10).mono ?_; rintro e w3 ⟨v, rfl, ho, hb⟩; rw [HS.out] at ho ⊢; have HV := Lib.hid (ho m rfl); have HB3 := Lib.hid hb; clear ho hb)
            go_ret2
            exact ⟨v, by rw [HO.out]; rfl, fun m2 h => by rw [HO.out] at h; injection h with h; subst h; exact HV.out.lower HB2.out.size, fun h => by rw [HO.out] at h; (cases h), HB2.out.trans (HB3.out.mono HB2.out.size)⟩
          | none =>
            have HS := Lib.hid hw
            clear hw
            go_wp2_with (go_at_call 21; refine (way_i l j k _ (HR.out.below HB2.out) hc hlt hn hk10).mono ?_; rintro e w3 ⟨v, rfl, ho, hb⟩; rw [HS.out]; have HB3 := Lib.hid hb; clear ho hb)
            go_roundw
            case rel => exact ⟨k + 1, by omega, by go_num, Lib.hid (HW.out.trans HS.out), HB2.out.trans (HB3.out.mono HB2.out.size)⟩
            case measure => simp [intOf]; omega
        · obtain rfl : k = 10 := by omega
          go_wp2_with fail
          go_roundw
          case rel => exact ⟨j + 1, by omega, by go_num, Lib.hid (by rw [onceTo, HT.out]; exact HK.out), HB2.out⟩
          case measure => simp [intOf]; omega
    · obtain rfl : j = n := by omega
      have HO := Lib.hid (show once l = none by unfold once; rw [HL.out]; exact HT.out)
      go_wp2_with fail
      go_ret2
      exact ⟨_, by rw [HO.out]; rfl, fun m h => by rw [HO.out] at h; (cases h), fun _ => rfl, HBW.out⟩

set_option maxRecDepth 100000 in
set_option maxHeartbeats 1000000 in
theorem clone_i {A : Option Addr} {n c : Nat} (l : List Ins) (w : World) (hr : RdI w A n l) (hn : n ≤ 1048576) :
    Calls Try.prog 18 #[.slice A n c] w fun e w' => ∃ v, e = .returned v ∧ OwnI w' w.heap.size v l ∧ Below w.heap.size w w' := by
  have HR := Lib.hid hr
  clear hr
  go_enter Try.func18, Try.ntmps18
  cases A with
  | none =>
    obtain rfl : n = 0 := by
      rcases Nat.eq_zero_or_pos n with h | h
      · exact h
      · obtain ⟨b, o, h, _⟩ := HR.out.2 h; cases h
    obtain rfl : l = [] := List.length_eq_zero_iff.1 HR.out.1.symm
    go_wp2_with fail
    go_ret
    exact ⟨_, rfl, Sk.own_nil _ _, Below.refl _ _⟩
  | some a =>
    have H0 : OwnI (w.alloc (.cells #[] 30)) w.heap.size (.slice (some ⟨w.heap.size, 0, none⟩) 0 0) [] := Sk.own_lit w [] #[] InsE_len rfl (by simp) (Nat.le_refl _) 0 rfl
    go_wp2_with (at_builtin; refine Sk.wpList_append elI rfl (.tmp 5) (.tmp 6) rfl rfl H0 (some a) n c l rfl (HR.out.alloc _) (by unfold maxLen; simp; omega) (by simp; omega) (by simp) ?_; intro v' w1 ho hb _ _ _; have HO := Lib.hid ho; have HB := Lib.hid hb; clear ho hb)
    go_ret
    exact ⟨_, rfl, HO.out, ((Below.refl _ w).alloc (Nat.le_refl _) _).trans HB.out⟩
/-- A slice that is made, and reads. -/
def Gave (l : List Ins) (w : World) (e : Ending) (w' : World) : Prop := ∃ v, e = .returned v ∧ OwnI w' w.heap.size v l ∧ Below w.heap.size w w'
set_option maxRecDepth 100000 in
set_option maxHeartbeats 1000000 in
theorem Once_i {A : Option Addr} {n c : Nat} (l : List Ins) (w : World) (hr : RdI w A n l) (hc : n ≤ c) (hn : n ≤ 1048576) :
    Calls Try.prog 9 #[.slice A n c] w (Gave (onceL l) w) := by
  have HR := Lib.hid hr
  have HL := Lib.hid (show l.length = n from hr.1.symm)
  clear hr
  go_enter Try.func9, Try.ntmps9
  cases ho : once l with
  | none =>
    have HO := Lib.hid (show onceL l = l by unfold onceL; rw [ho]; rfl)
    have H1 := Lib.hid ho
    clear ho
    go_wp2_with (first
      | (go_at_call 17; refine (once_i l w HR.out hc hn).mono ?_; rintro e w1 ⟨v, rfl, _, hv, hb⟩; obtain rfl := hv H1.out; have HB := Lib.hid hb; clear hb hv)
      | (go_at_call 18; refine (clone_i l w1 (HR.out.below HB.out) hn).mono ?_; rintro e w2 ⟨v, rfl, ho2, hb⟩; have HV := Lib.hid ho2; have HB2 := Lib.hid hb; clear ho2 hb))
    go_ret
    exact ⟨v, rfl, by rw [HO.out]; exact HV.out.lower HB.out.size, HB.out.trans (HB2.out.mono HB.out.size)⟩
  | some m =>
    have HO := Lib.hid (show onceL l = m by unfold onceL; rw [ho]; rfl)
    have H1 := Lib.hid ho
    have HM := Lib.hid (show m.length ≤ 1048576 by have h := once_len ho; rw [HL.out] at h; omega)
    clear ho
    go_wp2_with (first
      | (go_at_call 17; refine (once_i l w HR.out hc hn).mono ?_; rintro e w1 ⟨v, rfl, hv, _, hb⟩; have HV1 := Lib.hid (hv m H1.out); have HB := Lib.hid hb; obtain ⟨A1, c1, rfl, _, _⟩ := HV1.out.shape; clear hb hv)
      | (go_at_call 18; refine (clone_i m w1 HV1.out.rd HM.out).mono ?_; rintro e w2 ⟨v, rfl, ho2, hb⟩; have HV := Lib.hid ho2; have HB2 := Lib.hid hb; clear ho2 hb))
    go_ret
    exact ⟨v, rfl, by rw [HO.out]; exact HV.out.lower HB.out.size, HB.out.trans (HB2.out.mono HB.out.size)⟩
end Go.Proofs.Ytmilnfboglhdgaa.PeepF
