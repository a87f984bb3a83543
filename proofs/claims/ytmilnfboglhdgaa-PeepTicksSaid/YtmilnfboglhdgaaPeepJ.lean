/- better, once, Once, All, Best, Same of the reference of chapter 29; All, Best of the program. Conditions: lengths of 4096 at most. -/
import Derived.Test.YtmilnfboglhdgaaPeepI
namespace Go.Proofs.Ytmilnfboglhdgaa.PeepJ
open Go Go.RowKit NestP NestW Sq ValP ValW ValY ValZ PeepP PeepW PeepX PeepY PeepZ PeepC PeepD PeepF PeepG PeepH PeepI

theorem Res.at {o : Option (List Ins)} {v0 : Value} {w w1 : World} {e : Ending} {w' : World} (h : Res o v0 w1 e w') (hb : Below w.heap.size w w1) : Res o v0 w e w' := by
  obtain ⟨v, h1, h2, h3, h4⟩ := h
  exact ⟨v, h1, fun m hm => (h2 m hm).lower hb.size, h3, hb.trans (h4.mono hb.size)⟩
theorem betterR_1 {l m : List Ins} {k : Nat} (h : reckR l k = some m) : betterR l k = some m := by unfold betterR; rw [h]
theorem betterR_2 {l m : List Ins} {k : Nat} (h : reckR l k = none) (h2 : knownR l k = some m) : betterR l k = some m := by unfold betterR; rw [h, h2]
theorem betterR_3 {l m : List Ins} {k : Nat} (h : reckR l k = none) (h2 : knownR l k = none) (h3 : goesR l k = some m) : betterR l k = some m := by unfold betterR; rw [h, h2, h3]
theorem betterR_4 {l : List Ins} {k : Nat} (h : reckR l k = none) (h2 : knownR l k = none) (h3 : goesR l k = none) : betterR l k = if op l k = 38 ∧ l.any (asks (ar l k)) = false then some (swap l k 1 []) else none := by unfold betterR; rw [h, h2, h3]
set_option maxRecDepth 100000 in
set_option maxHeartbeats 2000000 in
theorem better_r {A : Option Addr} {n c : Nat} (l : List Ins) (i : Nat) (w : World) (hr : RdI w A n l) (hc : n ≤ c) (hi : i < n) (hn : n ≤ 1048576) :
    Calls Try.prog 22 #[.slice A n c, .int .i64 (i : Int)] w (Res (betterR l i) (.slice A n c) w) := by
  obtain ⟨b, o, rfl, hb0, hcc⟩ := rd_open hr (Nat.lt_of_le_of_lt (Nat.zero_le _) hi)
  have HR := Lib.hid hr
  have i0 : (0 : Int) ≤ (i : Int) := Int.natCast_nonneg _
  have i1 : (i : Int) < (n : Int) := by omega
  clear hr hb0 hcc
  cases h1 : reckR l i with
  | some m =>
    have H1 := Lib.hid h1
    have HW := Lib.hid (betterR_1 h1)
    clear h1
    go_enter Try.func22, Try.ntmps22
    go_wp2_with (go_at_call 35; refine (reckoned_r l i w HR.out hc hi hn).mono ?_; rintro e w1 ⟨v, rfl, ho, _, hb⟩; rw [H1.out] at ho ⊢; have HV := Lib.hid (ho m rfl); have HB := Lib.hid hb; clear ho hb)
    go_ret2
    rw [HW.out]
    exact Res.yes HV.out HB.out
  | none =>
    have H1 := Lib.hid h1
    have GO1 := Lib.hid (reckoned_r l i w HR.out hc hi hn)
    cases h2 : knownR l i with
    | some m =>
      have H2 := Lib.hid h2
      have HW := Lib.hid (betterR_2 h1 h2)
      clear h1 h2
      go_enter Try.func22, Try.ntmps22
      go_wp2_with (first
        | (go_at_call 35; refine GO1.out.mono ?_; rintro e w1 ⟨v, rfl, _, _, hb⟩; rw [H1.out]; have HB := Lib.hid hb; clear hb)
        | (go_at_call 36; refine (known_r l i w1 (HR.out.below HB.out) hc hi hn).mono ?_; rintro e w2 ⟨v2, rfl, ho, _, hb⟩; rw [H2.out] at ho ⊢; have HV := Lib.hid (ho m rfl); have HB2 := Lib.hid hb; clear ho hb))
      go_ret2
      rw [HW.out]
      exact Res.yes (HV.out.lower HB.out.size) (HB.out.trans (HB2.out.mono HB.out.size))
    | none =>
      have H2 := Lib.hid h2
      cases h3 : goesR l i with
      | some m =>
        have H3 := Lib.hid h3
        have HW := Lib.hid (betterR_3 h1 h2 h3)
        clear h1 h2 h3
        go_enter Try.func22, Try.ntmps22
        go_wp2_with (first
          | (go_at_call 35; refine GO1.out.mono ?_; rintro e w1 ⟨v, rfl, _, _, hb⟩; rw [H1.out]; have HB := Lib.hid hb; clear hb)
          | (go_at_call 36; refine (known_r l i w1 (HR.out.below HB.out) hc hi hn).mono ?_; rintro e w2 ⟨v2, rfl, _, _, hb⟩; rw [H2.out]; have HB2 := Lib.hid (HB.out.trans (hb.mono HB.out.size)); clear hb)
          | (go_at_call 37; refine (goes_r l i w2 (HR.out.below HB2.out) hc hi hn).mono ?_; rintro e w3 ⟨v3, rfl, ho, _, hb⟩; rw [H3.out] at ho ⊢; have HV := Lib.hid (ho m rfl); have HB3 := Lib.hid hb; clear ho hb))
        go_ret2
        rw [HW.out]
        exact Res.yes (HV.out.lower HB2.out.size) (HB2.out.trans (HB3.out.mono HB2.out.size))
      | none =>
        have H3 := Lib.hid h3
        have H4 := Lib.hid (betterR_4 h1 h2 h3)
        obtain ⟨o0, ho0⟩ : ∃ x, op l i = x := ⟨_, rfl⟩
        obtain ⟨a0, ha0⟩ : ∃ x, ar l i = x := ⟨_, rfl⟩
        have HCE := Lib.hid (show ∀ U, RdI U (some ⟨b, o, none⟩) n l → U.cell? ⟨b, o + i * 2 + 1, none⟩ = some (.int .i64 a0) from fun U h => ha0 ▸ (rd_at h hi).2)
        have ca0 := fun (U : World) (h : RdI U (some ⟨b, o, none⟩) n l) => at_r (c := c) l i U h hn
        rw [ho0] at ca0 H4
        rw [ha0] at H4
        have CA0 := Lib.hid ca0
        clear h1 h2 h3 ho0 ha0 ca0
        have fin38 : (o0 == 38) = true ∨ (o0 == 38) = false := by cases (o0 == 38) <;> simp
        by_cases h38 : o0 = 38
        · subst h38
          clear fin38
          cases hq : l.any (asks a0) with
          | true =>
            have HW := Lib.hid (show betterR l i = none by rw [H4.out, hq, if_neg (by simp)])
            have HQ := Lib.hid hq
            go_enter Try.func22, Try.ntmps22
            go_wp2_with (first
              | (go_at_call 35; refine GO1.out.mono ?_; rintro e w1 ⟨v, rfl, _, _, hb⟩; rw [H1.out]; have HB := Lib.hid hb; clear hb)
              | (go_at_call 36; refine (known_r l i w1 (HR.out.below HB.out) hc hi hn).mono ?_; rintro e w2 ⟨v2, rfl, _, _, hb⟩; rw [H2.out]; have HB2 := Lib.hid (HB.out.trans (hb.mono HB.out.size)); clear hb)
              | (go_at_call 37; refine (goes_r l i w2 (HR.out.below HB2.out) hc hi hn).mono ?_; rintro e w3 ⟨v3, rfl, _, _, hb⟩; rw [H3.out]; have HB3 := Lib.hid (HB2.out.trans (hb.mono HB2.out.size)); have HR3 := Lib.hid (HR.out.below HB3.out); have z0 := HCE.out _ HR3.out; clear hb)
              | (go_at_call 38; refine (CA0.out w3 HR3.out).mono ?_; rintro e w9 ⟨rfl, rfl⟩)
              | (go_at_call 39; refine (asked_r l a0 w3 HR3.out hn).mono ?_; rintro e w9 ⟨rfl, rfl⟩; rw [HQ.out]))
            go_ret2
            rw [HW.out]
            exact Res.no HB3.out
          | false =>
            have HW := Lib.hid (show betterR l i = some (swap l i 1 []) by rw [H4.out, hq, if_pos ⟨rfl, rfl⟩])
            have HQ := Lib.hid hq
            go_enter Try.func22, Try.ntmps22
            go_wp2_with (first
              | (go_at_call 35; refine GO1.out.mono ?_; rintro e w1 ⟨v, rfl, _, _, hb⟩; rw [H1.out]; have HB := Lib.hid hb; clear hb)
              | (go_at_call 36; refine (known_r l i w1 (HR.out.below HB.out) hc hi hn).mono ?_; rintro e w2 ⟨v2, rfl, _, _, hb⟩; rw [H2.out]; have HB2 := Lib.hid (HB.out.trans (hb.mono HB.out.size)); clear hb)
              | (go_at_call 37; refine (goes_r l i w2 (HR.out.below HB2.out) hc hi hn).mono ?_; rintro e w3 ⟨v3, rfl, _, _, hb⟩; rw [H3.out]; have HB3 := Lib.hid (HB2.out.trans (hb.mono HB2.out.size)); have HR3 := Lib.hid (HR.out.below HB3.out); have z0 := HCE.out _ HR3.out; clear hb)
              | (go_at_call 38; refine (CA0.out w3 HR3.out).mono ?_; rintro e w9 ⟨rfl, rfl⟩)
              | (go_at_call 39; refine (asked_r l a0 w3 HR3.out hn).mono ?_; rintro e w9 ⟨rfl, rfl⟩; rw [HQ.out])
              | (go_at_call 40; refine (swap_r (B := none) (m := 0) (d := 0) l [] i 1 w3 HR3.out (Sk.Rd.nil _ none) hc hi hn (by omega)).mono ?_; rintro e w4 ⟨v4, rfl, ho, hb⟩; have HO := Lib.hid ho; have HB4 := Lib.hid hb; clear ho hb))
            go_ret2
            rw [HW.out]
            exact Res.yes (HO.out.lower HB3.out.size) (HB3.out.trans (HB4.out.mono HB3.out.size))
        · have t38 : (o0 == 38) = false := by simpa using h38
          have HW := Lib.hid (show betterR l i = none by rw [H4.out, if_neg (fun h => h38 h.1)])
          clear fin38 h38
          go_enter Try.func22, Try.ntmps22
          go_wp2_with (first
            | (go_at_call 35; refine GO1.out.mono ?_; rintro e w1 ⟨v, rfl, _, _, hb⟩; rw [H1.out]; have HB := Lib.hid hb; clear hb)
            | (go_at_call 36; refine (known_r l i w1 (HR.out.below HB.out) hc hi hn).mono ?_; rintro e w2 ⟨v2, rfl, _, _, hb⟩; rw [H2.out]; have HB2 := Lib.hid (HB.out.trans (hb.mono HB.out.size)); clear hb)
            | (go_at_call 37; refine (goes_r l i w2 (HR.out.below HB2.out) hc hi hn).mono ?_; rintro e w3 ⟨v3, rfl, _, _, hb⟩; rw [H3.out]; have HB3 := Lib.hid (HB2.out.trans (hb.mono HB2.out.size)); have HR3 := Lib.hid (HR.out.below HB3.out); clear hb)
            | (go_at_call 38; refine (CA0.out w3 HR3.out).mono ?_; rintro e w9 ⟨rfl, rfl⟩))
          go_ret2
          rw [HW.out]
          exact Res.no HB3.out

set_option maxRecDepth 100000 in
set_option maxHeartbeats 1000000 in
theorem once_r {A : Option Addr} {n c : Nat} (l : List Ins) (w : World) (hr : RdI w A n l) (hc : n ≤ c) (hn : n ≤ 1048576) :
    Calls Try.prog 19 #[.slice A n c] w (Res (once l) (.slice A n c) w) := by
  have HR := Lib.hid hr
  have HL := Lib.hid (show l.length = n from hr.1.symm)
  clear hr
  go_enter Try.func19, Try.ntmps19
  go_wp2_with fail
  go_loopw [4] (fun iv wr => ∃ j : Nat, j ≤ n ∧ iv = .int .i64 (j : Int) ∧ Hid (onceTo l j = none) ∧ Below w.heap.size w wr) (fun iv _ => n - (intOf iv).toNat)
  case atStart => exact ⟨0, Nat.zero_le _, rfl, Lib.hid rfl, Below.refl _ _⟩
  case round =>
    obtain ⟨j, hj, rfl, HT, hbw⟩ := hrel
    have HBW := Lib.hid hbw
    clear hbw
    by_cases hlt : j < n
    · have k0 : (0 : Int) ≤ (j : Int) := by omega
      have k1 : (j : Int) < (n : Int) := by omega
      have HB1 := Lib.hid (show onceTo l (j + 1) = betterR l j by rw [onceTo, HT.out, better_eq])
      cases hw : betterR l j with
      | some m =>
        have HS := Lib.hid hw
        have HO := Lib.hid (show once l = some m by
          have h3 := once_up (HB1.out.trans hw) (n - (j + 1))
          unfold once
          rw [HL.out]
          rwa [show j + 1 + (n - (j + 1)) = n by omega] at h3)
        clear hw
        go_wp2_with (go_at_call 22; refine (better_r l j wr (HR.out.below HBW.out) hc hlt hn).mono ?_; rintro e w3 ⟨v, rfl, ho, _, hb⟩; rw [HS.out] at ho ⊢; have HV := Lib.hid (ho m rfl); have HB3 := Lib.hid hb; clear ho hb)
        go_ret2
        rw [HO.out]
        exact Res.yes (HV.out.lower HBW.out.size) (HBW.out.trans (HB3.out.mono HBW.out.size))
      | none =>
        have HS := Lib.hid hw
        clear hw
        go_wp2_with (go_at_call 22; refine (better_r l j wr (HR.out.below HBW.out) hc hlt hn).mono ?_; rintro e w3 ⟨v, rfl, _, _, hb⟩; rw [HS.out]; have HB3 := Lib.hid hb; clear hb)
        go_roundw
        case rel => exact ⟨j + 1, by omega, by go_num, Lib.hid (HB1.out.trans HS.out), HBW.out.trans (HB3.out.mono HBW.out.size)⟩
        case measure => simp [intOf]; omega
    · obtain rfl : j = n := by omega
      have HO := Lib.hid (show once l = none by unfold once; rw [HL.out]; exact HT.out)
      go_wp2_with fail
      go_ret2
      rw [HO.out]
      exact Res.no HBW.out
/-- A slice that reads, and lies as it will. -/
def Reads (l : List Ins) (w : World) (e : Ending) (w' : World) : Prop := ∃ A c, e = .returned (.slice A l.length c) ∧ l.length ≤ c ∧ c ≤ maxLen ∧ RdI w' A l.length l ∧ Below w.heap.size w w'
set_option maxRecDepth 100000 in
theorem Once_r {A : Option Addr} {n c : Nat} (l : List Ins) (w : World) (hr : RdI w A n l) (hc : n ≤ c) (hcm : c ≤ maxLen) (hn : n ≤ 1048576) :
    Calls Try.prog 10 #[.slice A n c] w (Reads (onceL l) w) := by
  obtain rfl := hr.1
  have GO := Lib.hid (once_r l w hr hc hn)
  have HR := Lib.hid hr
  clear hr
  cases ho : once l with
  | none =>
    have HO := Lib.hid (show onceL l = l by unfold onceL; rw [ho]; rfl)
    have H1 := Lib.hid ho
    clear ho
    go_enter Try.func10, Try.ntmps10
    go_wp2_with (go_at_call 19; refine GO.out.mono ?_; rintro e w1 ⟨v, rfl, _, hv, hb⟩; obtain rfl := hv H1.out; have HB := Lib.hid hb; clear hb hv)
    go_ret
    rw [HO.out]
    exact ⟨A, c, rfl, hc, hcm, HR.out.below HB.out, HB.out⟩
  | some m =>
    have HO := Lib.hid (show onceL l = m by unfold onceL; rw [ho]; rfl)
    have H1 := Lib.hid ho
    clear ho
    go_enter Try.func10, Try.ntmps10
    go_wp2_with (go_at_call 19; refine GO.out.mono ?_; rintro e w1 ⟨v, rfl, hv, _, hb⟩; have HV := Lib.hid (own_ex (hv m H1.out)); have HB := Lib.hid hb; clear hb hv)
    go_ret
    rw [HO.out]
    obtain ⟨A1, c1, rfl, q1, q2, q3⟩ := HV.out
    exact ⟨A1, c1, rfl, q1, q2, q3, HB.out⟩
end Go.Proofs.Ytmilnfboglhdgaa.PeepJ
