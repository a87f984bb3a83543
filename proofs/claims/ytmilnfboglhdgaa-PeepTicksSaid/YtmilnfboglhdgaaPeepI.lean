/- goes of the reference of chapter 29. Conditions: lengths of 1048576 at most. -/
import Derived.Test.YtmilnfboglhdgaaPeepH
namespace Go.Proofs.Ytmilnfboglhdgaa.PeepI
open Go Go.RowKit NestP NestW Sq ValP ValW ValY ValZ PeepP PeepW PeepX PeepY PeepZ PeepC PeepD PeepF PeepG PeepH

def tailR (l : List Ins) (k : Nat) (o0 a0 : Int) : Option (List Ins) := match l.findIdx? (spot a0) with
  | none => none
  | some p => if op l (past l p) = 24 ∧ ar l (past l p) ≠ a0 then some (swap l k 1 [(o0, ar l (past l p))]) else none
theorem goes_def (l : List Ins) (k : Nat) : goesR l k = if endsB (op l k) = true ∧ k + 1 < upto l (k + 1) then some (swap l (k + 1) (upto l (k + 1) - k - 1) []) else if jumpsB (op l k) = false then none else if op l k = 24 ∧ (labs l (k + 1)).any (fun x => x.2 == ar l k) = true then some (swap l k 1 []) else tailR l k (op l k) (ar l k) := rfl
theorem goes_ends {l : List Ins} {k j : Nat} {o : Int} (ho : op l k = o) (he : endsB o = true) (hj : upto l (k + 1) = j) (h : k + 1 < j) : goesR l k = some (swap l (k + 1) (j - (k + 1)) []) := by
  rw [goes_def, ho, hj, if_pos ⟨he, h⟩, show j - k - 1 = j - (k + 1) by omega]
theorem goes_24 {l : List Ins} {k : Nat} {a : Int} (ho : op l k = 24) (ha : ar l k = a) (hj : upto l (k + 1) = k + 1) : goesR l k = if (labs l (k + 1)).any (fun x => x.2 == a) = true then some (swap l k 1 []) else tailR l k 24 a := by
  rw [goes_def, ho, ha, hj, if_neg (fun h => by omega), if_neg (by decide)]
  by_cases h : (labs l (k + 1)).any (fun x => x.2 == a) = true
  · rw [if_pos ⟨rfl, h⟩, if_pos h]
  · rw [if_neg (fun k => h k.2), if_neg h]
theorem goes_25 {l : List Ins} {k : Nat} {a : Int} (ho : op l k = 25) (ha : ar l k = a) : goesR l k = tailR l k 25 a := by
  rw [goes_def, ho, ha, if_neg (fun h => by have := h.1; revert this; decide), if_neg (by decide), if_neg (fun h => by have := h.1; revert this; decide)]
theorem goes_not {l : List Ins} {k : Nat} {o : Int} (ho : op l k = o) (hn : jumpsB o = false) (hj : endsB o = true → upto l (k + 1) = k + 1) : goesR l k = none := by
  rw [goes_def, ho, if_neg (fun h => by have := hj h.1; omega), if_pos hn]
theorem labs_at {l : List Ins} {i j : Nat} (h0 : i ≤ j) (h1 : j < past l i) : ∃ h : j - i < (labs l i).length, (labs l i)[j - i].2 = ar l j := by
  have hl : (labs l i).length = past l i - i := by unfold past; omega
  have h2 : j - i < (labs l i).length := by omega
  refine ⟨h2, ?_⟩
  have h3 : (labs l i)[j - i]? = l[j]? := by
    rw [← labs_take, List.getElem?_take, if_pos (by omega), List.getElem?_drop, show i + (j - i) = j by omega]
  rw [List.getElem?_eq_getElem h2] at h3
  have hj : j < l.length := (List.getElem?_eq_some_iff.1 h3.symm).1
  rw [List.getElem?_eq_getElem hj] at h3
  injection h3 with h3
  rw [h3, ar_lt hj]
theorem labs_more {l : List Ins} {a : Int} {j : Nat} (hl : j < l.length) (h : (l[j].2 == a) = false) (h0 : ∀ x ∈ l.take j, (x.2 == a) = false) : ∀ x ∈ l.take (j + 1), (x.2 == a) = false := take_more (p := fun x => x.2 == a) hl h h0
set_option maxRecDepth 100000 in
set_option maxHeartbeats 4000000 in
theorem goes_r24 {A : Option Addr} {n c : Nat} (l : List Ins) (i : Nat) (w : World) (hr : RdI w A n l) (hc : n ≤ c) (hi : i < n) (hn : n ≤ 1048576) (h24 : op l i = 24) :
    Calls Try.prog 37 #[.slice A n c, .int .i64 (i : Int)] w (Res (goesR l i) (.slice A n c) w) := by
  have HL := Lib.hid (show l.length = n from hr.1.symm)
  obtain ⟨b, o, rfl, hb0, hcc⟩ := rd_open hr (Nat.lt_of_le_of_lt (Nat.zero_le _) hi)
  have HR := Lib.hid hr
  have HRc := Lib.hid hr
  have HBc := Lib.hid (Below.refl w.heap.size w)
  obtain ⟨o0, ho0⟩ : ∃ x, op l i = x := ⟨_, rfl⟩
  obtain ⟨o1, ho1⟩ : ∃ x, op l (i + 1) = x := ⟨_, rfl⟩
  obtain ⟨o2, ho2⟩ : ∃ x, op l (i + 2) = x := ⟨_, rfl⟩
  obtain ⟨a0, ha0⟩ : ∃ x, ar l i = x := ⟨_, rfl⟩
  obtain ⟨a1, ha1⟩ : ∃ x, ar l (i + 1) = x := ⟨_, rfl⟩
  obtain ⟨a2, ha2⟩ : ∃ x, ar l (i + 2) = x := ⟨_, rfl⟩
  have HOP := Lib.hid (show op l i = o0 ∧ op l (i + 1) = o1 ∧ op l (i + 2) = o2 ∧ ar l i = a0 ∧ ar l (i + 1) = a1 ∧ ar l (i + 2) = a2 from ⟨ho0, ho1, ho2, ha0, ha1, ha2⟩)
  have ca0 := fun (U : World) (h : RdI U (some ⟨b, o, none⟩) n l) => at_r (c := c) l i U h hn
  have ca1 := fun (U : World) (h : RdI U (some ⟨b, o, none⟩) n l) => at_r1 (c := c) l i U h hn
  have ca2 := fun (U : World) (h : RdI U (some ⟨b, o, none⟩) n l) => at_r2 (c := c) l i U h hn
  rw [ho0] at ca0
  rw [ho1] at ca1
  rw [ho2] at ca2
  have CA0 := Lib.hid ca0
  have CA1 := Lib.hid ca1
  have CA2 := Lib.hid ca2
  have HCE := Lib.hid (show ∀ U, RdI U (some ⟨b, o, none⟩) n l → ∀ k, k < n → U.cell? ⟨b, o + k * 2, none⟩ = some (.int .i64 (op l k)) ∧ U.cell? ⟨b, o + k * 2 + 1, none⟩ = some (.int .i64 (ar l k)) from fun U h k hk => rd_at h hk)
  have i0 : (0 : Int) ≤ (i : Int) := Int.natCast_nonneg _
  have i1 : (i : Int) < (n : Int) := by omega
  have hx1 := i64w (x := (i : Int) + 1) (by omega) (by omega)
  have hx2 := i64w (x := (i : Int) + 2) (by omega) (by omega)
  have z0 : w.cell? ⟨b, o + i * 2 + 1, none⟩ = some (.int .i64 a0) := ha0 ▸ (HCE.out w hr i hi).2
  have HIN := Lib.hid (show ∀ k x, op l k = x → x ≠ 0 → k < n from fun k x h h2 => HL.out ▸ op_in (by rw [h]; exact h2))
  clear hr hb0 hcc ho0 ho1 ho2 ha0 ha1 ha2 ca0 ca1 ca2
  obtain rfl : o0 = 24 := HOP.out.1.symm.trans h24
  clear h24
  go_enter Try.func37, Try.ntmps37
  go_wp2_with (go_at_call 38; first | ((with_reducible refine (CA0.out _ HRc.out).mono ?_); rintro e w9 ⟨rfl, rfl⟩) | ((with_reducible refine (CA1.out _ HRc.out).mono ?_); rintro e w9 ⟨rfl, rfl⟩) | ((with_reducible refine (CA2.out _ HRc.out).mono ?_); rintro e w9 ⟨rfl, rfl⟩))
  go_loop [7] (fun iv => ∃ j : Nat, i + 1 ≤ j ∧ j ≤ n ∧ iv = .int .i64 (j : Int) ∧ Hid (upto l j = upto l (i + 1))) (fun iv => n - (intOf iv).toNat)
  case atStart => exact ⟨i + 1, Nat.le_refl _, hi, by congr 1, Lib.hid rfl⟩
  case round =>
    obtain ⟨j, hij, hj, rfl, HT1⟩ := hrel
    by_cases hlt : j < n
    · have c0 := (HCE.out w HR.out j hlt).1
      have HS := Lib.hid (upto_step (show j < l.length by rw [HL.out]; exact hlt))
      obtain ⟨z, hz⟩ : ∃ z, op l j = z := ⟨_, rfl⟩
      rw [hz] at c0 HS
      have k0 : (0 : Int) ≤ (j : Int) := by omega
      have k1 : (j : Int) < (n : Int) := by omega
      clear hz
      cases hz : (z == 38) with
      | false =>
        have HT2 := Lib.hid (show upto l (j + 1) = upto l (i + 1) by rw [← HT1.out, HS.out, if_neg (by simpa using hz)])
        have hz2 : (z != 38) = true := by simp only [bne, hz]; rfl
        go_wp2_with fail
        go_round
        case rel => exact ⟨j + 1, by omega, by omega, by go_num, HT2⟩
        case measure => simp [intOf]; omega
      | true =>
        have HU := Lib.hid (show upto l (i + 1) = j by rw [← HT1.out, HS.out, if_pos (by simpa using hz)])
        have hz2 : (z != 38) = false := by simp only [bne, hz]; rfl
        clear HS HT1
        by_cases hji : j = i + 1
        · have HJ := Lib.hid (show upto l (i + 1) = i + 1 from hji ▸ HU.out)
          have g1 : decide ((i : Int) + 1 < (j : Int)) = false := decide_eq_false (by omega)
          have g2 : decide (i + 1 < j) = false := decide_eq_false (by omega)
          clear hji HU
          have cbh := fun (U : World) (h : RdI U (some ⟨b, o, none⟩) n l) => behind_r (c := c) l (i + 1) U h hi hn
          rw [show ((i + 1 : Nat) : Int) = (i : Int) + 1 by omega] at cbh
          obtain ⟨T, hT⟩ : ∃ T, past l (i + 1) = T := ⟨_, rfl⟩
          rw [hT] at cbh
          have CBH := Lib.hid cbh
          have HTT := Lib.hid (show past l (i + 1) = T ∧ i + 1 ≤ T ∧ T ≤ n from ⟨hT, hT ▸ past_ge l (i + 1), hT ▸ past_le HL.out hi⟩)
          clear cbh hT
          have H24 := Lib.hid (goes_24 HOP.out.1 HOP.out.2.2.2.1 HJ.out)
          clear HJ
          go_wp2_with (go_at_call 54; refine (CBH.out w HR.out).mono ?_; rintro e w9 ⟨rfl, rfl⟩)
          clear g1 g2
          go_loopw [9] (fun iv wr => ∃ m : Nat, i + 1 ≤ m ∧ m ≤ T ∧ iv = .int .i64 (m : Int) ∧ Hid (∀ x ∈ (labs l (i + 1)).take (m - (i + 1)), (x.2 == a0) = false) ∧ Below w.heap.size w wr) (fun iv _ => T - (intOf iv).toNat)
          case atStart => exact ⟨i + 1, Nat.le_refl _, HTT.out.2.1, by congr 1, Lib.hid (by simp), Below.refl _ _⟩
          case round =>
            obtain ⟨m, hm1, hm2, rfl, HNO, hbw⟩ := hrel
            clear HRc HBc
            have HBc := Lib.hid hbw
            have HRc := Lib.hid (HR.out.below hbw)
            have z0 : wr.cell? ⟨b, o + i * 2 + 1, none⟩ = some (.int .i64 a0) := HOP.out.2.2.2.1 ▸ (HCE.out wr HRc.out i hi).2
            clear hbw
            by_cases hlt2 : m < T
            · have hmn : m < n := Nat.lt_of_lt_of_le hlt2 HTT.out.2.2
              have HLA := Lib.hid (labs_at hm1 (show m < past l (i + 1) by rw [HTT.out.1]; exact hlt2))
              have z1 := (HCE.out wr HRc.out m hmn).2
              obtain ⟨am, ham⟩ : ∃ x, ar l m = x := ⟨_, rfl⟩
              rw [ham] at z1 HLA
              clear ham
              have r0 : (0 : Int) ≤ (m : Int) := by omega
              have r1 : (m : Int) < (n : Int) := by omega
              have r2 : (m : Int) < (T : Int) := by omega
              cases hma : (am == a0) with
              | true =>
                have HW := Lib.hid (show goesR l i = some (swap l i 1 []) by
                  rw [H24.out, if_pos]
                  obtain ⟨h, he⟩ := HLA.out
                  exact List.any_eq_true.2 ⟨_, List.getElem_mem h, by rw [he]; exact hma⟩)
                go_upto_region 14 with fail
                go_quiet (fail)
                generalize hw5 : World.drewN wr _ = w5
                have HB5 := Lib.hid (show Below wr.heap.size wr w5 from hw5 ▸ belowN (Below.refl _ _) _)
                clear z0 z1
                have HRd := Lib.hid (HRc.out.below HB5.out)
                have HBd := Lib.hid (HBc.out.trans (HB5.out.mono HBc.out.size))
                clear hw5
                go_wp2_with (go_at_call 40; refine (swap_r (B := none) (m := 0) (d := 0) l [] i 1 w5 HRd.out (Sk.Rd.nil _ none) hc hi hn (by omega)).mono ?_; rintro e w4 ⟨v, rfl, ho, hb⟩; have HO := Lib.hid (ho.lower HBd.out.size); have HB4 := Lib.hid (HBd.out.trans (hb.mono HBd.out.size)); clear ho hb)
                go_ret2
                rw [HW.out]
                exact Res.yes HO.out HB4.out
              | false =>
                have HN2 := Lib.hid (show ∀ x ∈ (labs l (i + 1)).take (m + 1 - (i + 1)), (x.2 == a0) = false by
                  obtain ⟨h, he⟩ := HLA.out
                  rw [show m + 1 - (i + 1) = m - (i + 1) + 1 by omega]
                  exact labs_more h (by rw [he]; exact hma) HNO.out)
                go_upto_region 14 with fail
                go_quiet (fail)
                generalize hw5 : World.drewN wr _ = w5
                have HB5 := Lib.hid (show Below wr.heap.size wr w5 from hw5 ▸ belowN (Below.refl _ _) _)
                clear z0 z1
                have HBd := Lib.hid (HBc.out.trans (HB5.out.mono HBc.out.size))
                clear hw5
                go_wp2_with fail
                go_roundw
                case rel => exact ⟨m + 1, by omega, by omega, by go_num, HN2, HBd.out⟩
                case measure => simp [intOf]; omega
            · have HT := Lib.hid (show goesR l i = tailR l i 24 a0 by
                rw [H24.out, if_neg]
                rw [Bool.not_eq_true, List.any_eq_false]
                intro x hx
                have h := HNO.out
                have hl : (labs l (i + 1)).length = T - (i + 1) := by have h2 := HTT.out.1; unfold past at h2; omega
                rw [List.take_of_length_le (by omega)] at h
                rw [h x hx]; simp)
              have r2 : decide ((m : Int) < (T : Int)) = false := decide_eq_false (by omega)
              have r3 : decide (m < T) = false := decide_eq_false (by omega)
              clear HNO
              cases hf : l.findIdx? (spot a0) with
              | none =>
                have HFV := Lib.hid (show findV l (spot a0) = -1 by unfold findV; rw [hf])
                have HW := Lib.hid (show goesR l i = none by rw [HT.out]; unfold tailR; rw [hf])
                clear hf
                go_wp2_with (go_at_call 55; refine (where_r l a0 wr HRc.out hn).mono ?_; rintro e w9 ⟨rfl, rfl⟩; rw [HFV.out])
                go_ret2
                rw [HW.out]
                exact Res.no HBc.out
              | some p =>
                have HPN := Lib.hid (show p < n by obtain ⟨h, _⟩ := List.findIdx?_eq_some_iff_getElem.1 hf; rw [HL.out] at h; exact h)
                have HFV := Lib.hid (show findV l (spot a0) = (p : Int) by unfold findV; rw [hf])
                obtain ⟨q, hq⟩ : ∃ q, past l p = q := ⟨_, rfl⟩
                have HPP := Lib.hid hq
                have HQN := Lib.hid (show q ≤ n from hq ▸ past_le HL.out (Nat.le_of_lt HPN.out))
                have W8 := Lib.hid (show goesR l i = if op l q = 24 ∧ ar l q ≠ a0 then some (swap l i 1 [(24, ar l q)]) else none by rw [HT.out]; unfold tailR; rw [hf]; simp only; rw [hq])
                clear hf hq
                have p0 : decide ((p : Int) < 0) = false := decide_eq_false (by omega)
                obtain ⟨oq, hoq⟩ : ∃ x, op l q = x := ⟨_, rfl⟩
                obtain ⟨aq, haq⟩ : ∃ x, ar l q = x := ⟨_, rfl⟩
                have HOQ := Lib.hid hoq
                have HAQ := Lib.hid haq
                rw [hoq, haq] at W8
                have caq := fun (U : World) (h : RdI U (some ⟨b, o, none⟩) n l) => at_r (c := c) l q U h hn
                rw [hoq] at caq
                have CAQ := Lib.hid caq
                have hqi : oq ≠ 0 → q < n := fun h => HIN.out q oq hoq h
                clear hoq haq caq
                by_cases h24 : oq = 24
                · subst h24
                  have hqn := hqi (by decide)
                  have q0 : (0 : Int) ≤ (q : Int) := Int.natCast_nonneg _
                  have q1 : (q : Int) < (n : Int) := by omega
                  cases hna : (aq == a0) with
                  | true =>
                    have HW := Lib.hid (show goesR l i = none by rw [W8.out, if_neg (fun h => h.2 (by simpa using hna))])
                    have hnb : (aq != a0) = false := by simp only [bne, hna]; rfl
                    go_upto_region 20 with (first | (go_at_call 55; refine (where_r l a0 wr HRc.out hn).mono ?_; rintro e w9 ⟨rfl, rfl⟩; rw [HFV.out]) | (go_at_call 54; refine (behind_r l p wr HRc.out (Nat.le_of_lt HPN.out) hn).mono ?_; rintro e w9 ⟨rfl, rfl⟩; rw [HPP.out]))
                    obtain ⟨S, hSd⟩ : ∃ S : World → Prop, (fun U : World => RdI U (some ⟨b, o, none⟩) n l ∧ Below w.heap.size w U) = S := ⟨_, rfl⟩
                    have HSI := Lib.hid (show ∀ U, RdI U (some ⟨b, o, none⟩) n l → Below w.heap.size w U → S U from fun U h h2 => by rw [← hSd]; exact ⟨h, h2⟩)
                    have HSC := Lib.hid (show ∀ U, S U → U.cell? ⟨b, o + i * 2 + 1, none⟩ = some (.int .i64 a0) ∧ U.cell? ⟨b, o + q * 2 + 1, none⟩ = some (.int .i64 aq) from fun U h => by rw [← hSd] at h; exact ⟨HOP.out.2.2.2.1 ▸ (HCE.out U h.1 i hi).2, HAQ.out ▸ (HCE.out U h.1 q hqn).2⟩)
                    have HRd := Lib.hid (HRc.out.below (Below.drew (Below.refl _ _)))
                    have HBd := Lib.hid HBc.out.drew
                    have hS0 : S wr.drew := HSI.out _ HRd.out HBd.out
                    clear hSd z0 hqi
                    refine wp_region_held_drew (S := S) (by kernel_rfl) hS0 (fun hHeld => ?_)
                    refine Rg.take (i := 0) (t := 110) rfl rfl (by kernel_rfl) (by kernel_rfl) (by kernel_rfl) (fun _ _ _ h => h) (by rfl) (by intro w0 hSw; obtain ⟨s0, s1⟩ := HSC.out _ hSw; have s2 := hnb; first | (go_simp; done) | (go_simp; with_reducible rfl)) (by assumption) ?_
                    simp only [List.setIfInBounds_toArray, List.set_cons_zero, List.set_cons_succ]
                    refine Rg.take (i := 1) (t := 111) rfl rfl (by kernel_rfl) (by kernel_rfl) (by kernel_rfl) (fun _ _ _ h => h) (by rfl) (by intro w0 hSw; obtain ⟨s0, s1⟩ := HSC.out _ hSw; have s2 := hnb; first | (go_simp; done) | (go_simp; with_reducible rfl)) (by assumption) ?_
                    simp only [List.setIfInBounds_toArray, List.set_cons_zero, List.set_cons_succ]
                    refine Rg.one (i := 2) (by kernel_rfl) ?_
                    refine Rg.call (i := 2) (t := 112) rfl rfl (by rfl) (by go_simp; exact ⟨rfl, rfl⟩) ?_
                    refine (CAQ.out wr.drew HRd.out).mono ?_
                    rintro e w9 ⟨rfl, rfl⟩
                    refine ⟨_, rfl, S, fun _ h => h, hS0, ?_⟩
                    simp only [List.setIfInBounds_toArray, List.set_cons_zero, List.set_cons_succ]
                    refine Rg.take (i := 3) (t := 113) (v := .bool true) rfl rfl (by kernel_rfl) (by kernel_rfl) (by kernel_rfl) (fun _ _ _ h => h) (by rfl) (by intro w0 hSw; obtain ⟨s0, s1⟩ := HSC.out _ hSw; have s2 := hnb; first | (go_simp; done) | (go_simp; with_reducible rfl)) (by assumption) ?_
                    simp only [List.setIfInBounds_toArray, List.set_cons_zero, List.set_cons_succ]
                    refine Rg.take (i := 4) (t := 114) (v := .bool true) rfl rfl (by kernel_rfl) (by kernel_rfl) (by kernel_rfl) (fun _ _ _ h => h) (by rfl) (by intro w0 hSw; obtain ⟨s0, s1⟩ := HSC.out _ hSw; have s2 := hnb; first | (go_simp; done) | (go_simp; with_reducible rfl)) (by assumption) ?_
                    simp only [List.setIfInBounds_toArray, List.set_cons_zero, List.set_cons_succ]
                    refine Rg.take (i := 5) (t := 115) rfl rfl (by kernel_rfl) (by kernel_rfl) (by kernel_rfl) (fun _ _ _ h => h) (by rfl) (by intro w0 hSw; obtain ⟨s0, s1⟩ := HSC.out _ hSw; have s2 := hnb; first | (go_simp; done) | (go_simp; with_reducible rfl)) (by assumption) ?_
                    simp only [List.setIfInBounds_toArray, List.set_cons_zero, List.set_cons_succ]
                    refine Rg.take (i := 6) (t := 116) rfl rfl (by kernel_rfl) (by kernel_rfl) (by kernel_rfl) (fun _ _ _ h => h) (by rfl) (by intro w0 hSw; obtain ⟨s0, s1⟩ := HSC.out _ hSw; have s2 := hnb; first | (go_simp; done) | (go_simp; with_reducible rfl)) (by assumption) ?_
                    simp only [List.setIfInBounds_toArray, List.set_cons_zero, List.set_cons_succ]
                    refine Rg.take (i := 7) (t := 117) rfl rfl (by kernel_rfl) (by kernel_rfl) (by kernel_rfl) (fun _ _ _ h => h) (by rfl) (by intro w0 hSw; obtain ⟨s0, s1⟩ := HSC.out _ hSw; have s2 := hnb; first | (go_simp; done) | (go_simp; with_reducible rfl)) (by assumption) ?_
                    simp only [List.setIfInBounds_toArray, List.set_cons_zero, List.set_cons_succ]
                    refine Rg.take (i := 8) (t := 118) rfl rfl (by kernel_rfl) (by kernel_rfl) (by kernel_rfl) (fun _ _ _ h => h) (by rfl) (by intro w0 hSw; obtain ⟨s0, s1⟩ := HSC.out _ hSw; have s2 := hnb; first | (go_simp; done) | (go_simp; with_reducible rfl)) (by assumption) ?_
                    simp only [List.setIfInBounds_toArray, List.set_cons_zero, List.set_cons_succ]
                    refine Rg.take (i := 9) (t := 119) rfl rfl (by kernel_rfl) (by kernel_rfl) (by kernel_rfl) (fun _ _ _ h => h) (by rfl) (by intro w0 hSw; obtain ⟨s0, s1⟩ := HSC.out _ hSw; have s2 := hnb; first | (go_simp; done) | (go_simp; with_reducible rfl)) (by assumption) ?_
                    simp only [List.setIfInBounds_toArray, List.set_cons_zero, List.set_cons_succ]
                    refine Rg.take (i := 10) (t := 120) rfl rfl (by kernel_rfl) (by kernel_rfl) (by kernel_rfl) (fun _ _ _ h => h) (by rfl) (by intro w0 hSw; obtain ⟨s0, s1⟩ := HSC.out _ hSw; have s2 := hnb; first | (go_simp; done) | (go_simp; with_reducible rfl)) (by assumption) ?_
                    simp only [List.setIfInBounds_toArray, List.set_cons_zero, List.set_cons_succ]
                    refine Rg.take (i := 11) (t := 121) rfl rfl (by kernel_rfl) (by kernel_rfl) (by kernel_rfl) (fun _ _ _ h => h) (by rfl) (by intro w0 hSw; obtain ⟨s0, s1⟩ := HSC.out _ hSw; have s2 := hnb; first | (go_simp; done) | (go_simp; with_reducible rfl)) (by assumption) ?_
                    simp only [List.setIfInBounds_toArray, List.set_cons_zero, List.set_cons_succ]
                    refine Rg.take (i := 12) (t := 122) rfl rfl (by kernel_rfl) (by kernel_rfl) (by kernel_rfl) (fun _ _ _ h => h) (by rfl) (by intro w0 hSw; obtain ⟨s0, s1⟩ := HSC.out _ hSw; have s2 := hnb; first | (go_simp; done) | (go_simp; with_reducible rfl)) (by assumption) ?_
                    simp only [List.setIfInBounds_toArray, List.set_cons_zero, List.set_cons_succ]
                    refine Rg.take (i := 13) (t := 123) rfl rfl (by kernel_rfl) (by kernel_rfl) (by kernel_rfl) (fun _ _ _ h => h) (by rfl) (by intro w0 hSw; obtain ⟨s0, s1⟩ := HSC.out _ hSw; have s2 := hnb; first | (go_simp; done) | (go_simp; with_reducible rfl)) (by assumption) ?_
                    simp only [List.setIfInBounds_toArray, List.set_cons_zero, List.set_cons_succ]
                    refine Rg.take (i := 14) (t := 124) rfl rfl (by kernel_rfl) (by kernel_rfl) (by kernel_rfl) (fun _ _ _ h => h) (by rfl) (by intro w0 hSw; obtain ⟨s0, s1⟩ := HSC.out _ hSw; have s2 := hnb; first | (go_simp; done) | (go_simp; with_reducible rfl)) (by assumption) ?_
                    simp only [List.setIfInBounds_toArray, List.set_cons_zero, List.set_cons_succ]
                    refine Rg.take (i := 15) (t := 125) (v := .bool false) rfl rfl (by kernel_rfl) (by kernel_rfl) (by kernel_rfl) (fun _ _ _ h => h) (by rfl) (by intro w0 hSw; obtain ⟨s0, s1⟩ := HSC.out _ hSw; have s2 := hnb; first | (go_simp; done) | (go_simp; with_reducible rfl)) (by assumption) ?_
                    simp only [List.setIfInBounds_toArray, List.set_cons_zero, List.set_cons_succ]
                    refine Rg.take (i := 16) (t := 126) (v := .bool false) rfl rfl (by kernel_rfl) (by kernel_rfl) (by kernel_rfl) (fun _ _ _ h => h) (by rfl) (by intro w0 hSw; obtain ⟨s0, s1⟩ := HSC.out _ hSw; have s2 := hnb; first | (go_simp; done) | (go_simp; with_reducible rfl)) (by assumption) ?_
                    simp only [List.setIfInBounds_toArray, List.set_cons_zero, List.set_cons_succ]
                    refine wpAnyH_done (by kernel_rfl) ?_ _
                    clear hS0
                    go_wp2_with fail
                    go_ret2
                    rw [HW.out]
                    exact Res.no HBd.out
                  | false =>
                    have HW := Lib.hid (show goesR l i = some (swap l i 1 [(24, aq)]) by rw [W8.out, if_pos ⟨rfl, by simpa using hna⟩])
                    have hnb : (aq != a0) = true := by simp only [bne, hna]; rfl
                    go_upto_region 20 with (first | (go_at_call 55; refine (where_r l a0 wr HRc.out hn).mono ?_; rintro e w9 ⟨rfl, rfl⟩; rw [HFV.out]) | (go_at_call 54; refine (behind_r l p wr HRc.out (Nat.le_of_lt HPN.out) hn).mono ?_; rintro e w9 ⟨rfl, rfl⟩; rw [HPP.out]))
                    obtain ⟨S, hSd⟩ : ∃ S : World → Prop, (fun U : World => RdI U (some ⟨b, o, none⟩) n l ∧ Below w.heap.size w U) = S := ⟨_, rfl⟩
                    have HSI := Lib.hid (show ∀ U, RdI U (some ⟨b, o, none⟩) n l → Below w.heap.size w U → S U from fun U h h2 => by rw [← hSd]; exact ⟨h, h2⟩)
                    have HSC := Lib.hid (show ∀ U, S U → U.cell? ⟨b, o + i * 2 + 1, none⟩ = some (.int .i64 a0) ∧ U.cell? ⟨b, o + q * 2 + 1, none⟩ = some (.int .i64 aq) from fun U h => by rw [← hSd] at h; exact ⟨HOP.out.2.2.2.1 ▸ (HCE.out U h.1 i hi).2, HAQ.out ▸ (HCE.out U h.1 q hqn).2⟩)
                    have HRd := Lib.hid (HRc.out.below (Below.drew (Below.refl _ _)))
                    have HBd := Lib.hid HBc.out.drew
                    have hS0 : S wr.drew := HSI.out _ HRd.out HBd.out
                    clear hSd z0 hqi
                    refine wp_region_held_drew (S := S) (by kernel_rfl) hS0 (fun hHeld => ?_)
                    refine Rg.take (i := 0) (t := 110) rfl rfl (by kernel_rfl) (by kernel_rfl) (by kernel_rfl) (fun _ _ _ h => h) (by rfl) (by intro w0 hSw; obtain ⟨s0, s1⟩ := HSC.out _ hSw; have s2 := hnb; first | (go_simp; done) | (go_simp; with_reducible rfl)) (by assumption) ?_
                    simp only [List.setIfInBounds_toArray, List.set_cons_zero, List.set_cons_succ]
                    refine Rg.take (i := 1) (t := 111) rfl rfl (by kernel_rfl) (by kernel_rfl) (by kernel_rfl) (fun _ _ _ h => h) (by rfl) (by intro w0 hSw; obtain ⟨s0, s1⟩ := HSC.out _ hSw; have s2 := hnb; first | (go_simp; done) | (go_simp; with_reducible rfl)) (by assumption) ?_
                    simp only [List.setIfInBounds_toArray, List.set_cons_zero, List.set_cons_succ]
                    refine Rg.one (i := 2) (by kernel_rfl) ?_
                    refine Rg.call (i := 2) (t := 112) rfl rfl (by rfl) (by go_simp; exact ⟨rfl, rfl⟩) ?_
                    refine (CAQ.out wr.drew HRd.out).mono ?_
                    rintro e w9 ⟨rfl, rfl⟩
                    refine ⟨_, rfl, S, fun _ h => h, hS0, ?_⟩
                    simp only [List.setIfInBounds_toArray, List.set_cons_zero, List.set_cons_succ]
                    refine Rg.take (i := 3) (t := 113) (v := .bool true) rfl rfl (by kernel_rfl) (by kernel_rfl) (by kernel_rfl) (fun _ _ _ h => h) (by rfl) (by intro w0 hSw; obtain ⟨s0, s1⟩ := HSC.out _ hSw; have s2 := hnb; first | (go_simp; done) | (go_simp; with_reducible rfl)) (by assumption) ?_
                    simp only [List.setIfInBounds_toArray, List.set_cons_zero, List.set_cons_succ]
                    refine Rg.take (i := 4) (t := 114) (v := .bool true) rfl rfl (by kernel_rfl) (by kernel_rfl) (by kernel_rfl) (fun _ _ _ h => h) (by rfl) (by intro w0 hSw; obtain ⟨s0, s1⟩ := HSC.out _ hSw; have s2 := hnb; first | (go_simp; done) | (go_simp; with_reducible rfl)) (by assumption) ?_
                    simp only [List.setIfInBounds_toArray, List.set_cons_zero, List.set_cons_succ]
                    refine Rg.take (i := 5) (t := 115) rfl rfl (by kernel_rfl) (by kernel_rfl) (by kernel_rfl) (fun _ _ _ h => h) (by rfl) (by intro w0 hSw; obtain ⟨s0, s1⟩ := HSC.out _ hSw; have s2 := hnb; first | (go_simp; done) | (go_simp; with_reducible rfl)) (by assumption) ?_
                    simp only [List.setIfInBounds_toArray, List.set_cons_zero, List.set_cons_succ]
                    refine Rg.take (i := 6) (t := 116) rfl rfl (by kernel_rfl) (by kernel_rfl) (by kernel_rfl) (fun _ _ _ h => h) (by rfl) (by intro w0 hSw; obtain ⟨s0, s1⟩ := HSC.out _ hSw; have s2 := hnb; first | (go_simp; done) | (go_simp; with_reducible rfl)) (by assumption) ?_
                    simp only [List.setIfInBounds_toArray, List.set_cons_zero, List.set_cons_succ]
                    refine Rg.take (i := 7) (t := 117) rfl rfl (by kernel_rfl) (by kernel_rfl) (by kernel_rfl) (fun _ _ _ h => h) (by rfl) (by intro w0 hSw; obtain ⟨s0, s1⟩ := HSC.out _ hSw; have s2 := hnb; first | (go_simp; done) | (go_simp; with_reducible rfl)) (by assumption) ?_
                    simp only [List.setIfInBounds_toArray, List.set_cons_zero, List.set_cons_succ]
                    refine Rg.take (i := 8) (t := 118) rfl rfl (by kernel_rfl) (by kernel_rfl) (by kernel_rfl) (fun _ _ _ h => h) (by rfl) (by intro w0 hSw; obtain ⟨s0, s1⟩ := HSC.out _ hSw; have s2 := hnb; first | (go_simp; done) | (go_simp; with_reducible rfl)) (by assumption) ?_
                    simp only [List.setIfInBounds_toArray, List.set_cons_zero, List.set_cons_succ]
                    refine Rg.take (i := 9) (t := 119) rfl rfl (by kernel_rfl) (by kernel_rfl) (by kernel_rfl) (fun _ _ _ h => h) (by rfl) (by intro w0 hSw; obtain ⟨s0, s1⟩ := HSC.out _ hSw; have s2 := hnb; first | (go_simp; done) | (go_simp; with_reducible rfl)) (by assumption) ?_
                    simp only [List.setIfInBounds_toArray, List.set_cons_zero, List.set_cons_succ]
                    refine Rg.take (i := 10) (t := 120) rfl rfl (by kernel_rfl) (by kernel_rfl) (by kernel_rfl) (fun _ _ _ h => h) (by rfl) (by intro w0 hSw; obtain ⟨s0, s1⟩ := HSC.out _ hSw; have s2 := hnb; first | (go_simp; done) | (go_simp; with_reducible rfl)) (by assumption) ?_
                    simp only [List.setIfInBounds_toArray, List.set_cons_zero, List.set_cons_succ]
                    refine Rg.take (i := 11) (t := 121) rfl rfl (by kernel_rfl) (by kernel_rfl) (by kernel_rfl) (fun _ _ _ h => h) (by rfl) (by intro w0 hSw; obtain ⟨s0, s1⟩ := HSC.out _ hSw; have s2 := hnb; first | (go_simp; done) | (go_simp; with_reducible rfl)) (by assumption) ?_
                    simp only [List.setIfInBounds_toArray, List.set_cons_zero, List.set_cons_succ]
                    refine Rg.take (i := 12) (t := 122) rfl rfl (by kernel_rfl) (by kernel_rfl) (by kernel_rfl) (fun _ _ _ h => h) (by rfl) (by intro w0 hSw; obtain ⟨s0, s1⟩ := HSC.out _ hSw; have s2 := hnb; first | (go_simp; done) | (go_simp; with_reducible rfl)) (by assumption) ?_
                    simp only [List.setIfInBounds_toArray, List.set_cons_zero, List.set_cons_succ]
                    refine Rg.take (i := 13) (t := 123) rfl rfl (by kernel_rfl) (by kernel_rfl) (by kernel_rfl) (fun _ _ _ h => h) (by rfl) (by intro w0 hSw; obtain ⟨s0, s1⟩ := HSC.out _ hSw; have s2 := hnb; first | (go_simp; done) | (go_simp; with_reducible rfl)) (by assumption) ?_
                    simp only [List.setIfInBounds_toArray, List.set_cons_zero, List.set_cons_succ]
                    refine Rg.take (i := 14) (t := 124) rfl rfl (by kernel_rfl) (by kernel_rfl) (by kernel_rfl) (fun _ _ _ h => h) (by rfl) (by intro w0 hSw; obtain ⟨s0, s1⟩ := HSC.out _ hSw; have s2 := hnb; first | (go_simp; done) | (go_simp; with_reducible rfl)) (by assumption) ?_
                    simp only [List.setIfInBounds_toArray, List.set_cons_zero, List.set_cons_succ]
                    refine Rg.take (i := 15) (t := 125) (v := .bool true) rfl rfl (by kernel_rfl) (by kernel_rfl) (by kernel_rfl) (fun _ _ _ h => h) (by rfl) (by intro w0 hSw; obtain ⟨s0, s1⟩ := HSC.out _ hSw; have s2 := hnb; first | (go_simp; done) | (go_simp; with_reducible rfl)) (by assumption) ?_
                    simp only [List.setIfInBounds_toArray, List.set_cons_zero, List.set_cons_succ]
                    refine Rg.take (i := 16) (t := 126) (v := .bool true) rfl rfl (by kernel_rfl) (by kernel_rfl) (by kernel_rfl) (fun _ _ _ h => h) (by rfl) (by intro w0 hSw; obtain ⟨s0, s1⟩ := HSC.out _ hSw; have s2 := hnb; first | (go_simp; done) | (go_simp; with_reducible rfl)) (by assumption) ?_
                    simp only [List.setIfInBounds_toArray, List.set_cons_zero, List.set_cons_succ]
                    refine wpAnyH_done (by kernel_rfl) ?_ _
                    have s0 := (HSC.out _ hS0).1
                    have s1 := (HSC.out _ hS0).2
                    clear hS0
                    obtain ⟨w5, hw5⟩ : ∃ W, wr.drew = W := ⟨_, rfl⟩
                    rw [hw5] at HRd HBd s0 s1 ⊢
                    clear hw5
                    obtain ⟨w3, hw3⟩ : ∃ W, w5.alloc (.cells #[.int .i64 24, .int .i64 aq] 30) = W := ⟨_, rfl⟩
                    have HB3a := Lib.hid (show Below w5.heap.size w5 w3 by rw [← hw3]; exact (Below.refl _ _).alloc (Nat.le_refl _) _)
                    have HB3 := Lib.hid (HBd.out.trans (HB3a.out.mono HBd.out.size))
                    have HV3 := Lib.hid (show RdI w3 (some ⟨w5.heap.size, 0, none⟩) 1 [(24, aq)] by rw [← hw3]; exact Sk.rd_lit w5 30 [(24, aq)] #[.int .i64 24, .int .i64 aq] rfl 1 rfl)
                    go_wp2_with (go_at_call 40; refine (swap_r l [(24, aq)] i 1 w3 (HRd.out.below HB3a.out) HV3.out hc hi hn (by omega)).mono ?_; rintro e w4 ⟨v, rfl, ho, hb⟩; have HO := Lib.hid (ho.lower HB3.out.size); have HB4 := Lib.hid (HB3.out.trans (hb.mono HB3.out.size)); clear ho hb)
                    go_ret2
                    rw [HW.out]
                    exact Res.yes HO.out HB4.out
                · have t24 : (oq == 24) = false := by simpa using h24
                  have HW := Lib.hid (show goesR l i = none by rw [W8.out, if_neg (fun h => h24 h.1)])
                  clear h24 hqi
                  go_upto_region 20 with (first | (go_at_call 55; refine (where_r l a0 wr HRc.out hn).mono ?_; rintro e w9 ⟨rfl, rfl⟩; rw [HFV.out]) | (go_at_call 54; refine (behind_r l p wr HRc.out (Nat.le_of_lt HPN.out) hn).mono ?_; rintro e w9 ⟨rfl, rfl⟩; rw [HPP.out]))
                  obtain ⟨S, hSd⟩ : ∃ S : World → Prop, (fun _ : World => True) = S := ⟨_, rfl⟩
                  have hS0 : S wr.drew := by rw [← hSd]; trivial
                  have HRd := Lib.hid (HRc.out.below (Below.drew (Below.refl _ _)))
                  clear hSd z0
                  refine wp_region_held_drew (S := S) (by kernel_rfl) hS0 (fun hHeld => ?_)
                  refine Rg.take (i := 0) (t := 110) rfl rfl (by kernel_rfl) (by kernel_rfl) (by kernel_rfl) (fun _ _ _ h => h) (by rfl) (by intro w0 hSw; have s2 := t24; first | (go_simp; done) | (go_simp; with_reducible rfl)) (by assumption) ?_
                  simp only [List.setIfInBounds_toArray, List.set_cons_zero, List.set_cons_succ]
                  refine Rg.take (i := 1) (t := 111) rfl rfl (by kernel_rfl) (by kernel_rfl) (by kernel_rfl) (fun _ _ _ h => h) (by rfl) (by intro w0 hSw; have s2 := t24; first | (go_simp; done) | (go_simp; with_reducible rfl)) (by assumption) ?_
                  simp only [List.setIfInBounds_toArray, List.set_cons_zero, List.set_cons_succ]
                  refine Rg.one (i := 2) (by kernel_rfl) ?_
                  refine Rg.call (i := 2) (t := 112) rfl rfl (by rfl) (by go_simp; exact ⟨rfl, rfl⟩) ?_
                  refine (CAQ.out wr.drew HRd.out).mono ?_
                  rintro e w9 ⟨rfl, rfl⟩
                  refine ⟨_, rfl, S, fun _ h => h, hS0, ?_⟩
                  simp only [List.setIfInBounds_toArray, List.set_cons_zero, List.set_cons_succ]
                  refine Rg.take (i := 3) (t := 113) (v := .bool false) rfl rfl (by kernel_rfl) (by kernel_rfl) (by kernel_rfl) (fun _ _ _ h => h) (by rfl) (by intro w0 hSw; have s2 := t24; first | (go_simp; done) | (go_simp; with_reducible rfl)) (by assumption) ?_
                  simp only [List.setIfInBounds_toArray, List.set_cons_zero, List.set_cons_succ]
                  refine Rg.take (i := 4) (t := 114) (v := .bool false) rfl rfl (by kernel_rfl) (by kernel_rfl) (by kernel_rfl) (fun _ _ _ h => h) (by rfl) (by intro w0 hSw; have s2 := t24; first | (go_simp; done) | (go_simp; with_reducible rfl)) (by assumption) ?_
                  simp only [List.setIfInBounds_toArray, List.set_cons_zero, List.set_cons_succ]
                  refine Rg.pass (i := 5) (t := 115) rfl rfl (by kernel_rfl) (by kernel_rfl) (by kernel_rfl) (fun _ _ _ h => h) (by rfl) (by assumption) ?_
                  simp only [List.setIfInBounds_toArray, List.set_cons_zero, List.set_cons_succ]
                  refine Rg.pass (i := 6) (t := 116) rfl rfl (by kernel_rfl) (by kernel_rfl) (by kernel_rfl) (fun _ _ _ h => h) (by rfl) (by assumption) ?_
                  simp only [List.setIfInBounds_toArray, List.set_cons_zero, List.set_cons_succ]
                  refine Rg.pass (i := 7) (t := 117) rfl rfl (by kernel_rfl) (by kernel_rfl) (by kernel_rfl) (fun _ _ _ h => h) (by rfl) (by assumption) ?_
                  simp only [List.setIfInBounds_toArray, List.set_cons_zero, List.set_cons_succ]
                  refine Rg.pass (i := 8) (t := 118) rfl rfl (by kernel_rfl) (by kernel_rfl) (by kernel_rfl) (fun _ _ _ h => h) (by rfl) (by assumption) ?_
                  simp only [List.setIfInBounds_toArray, List.set_cons_zero, List.set_cons_succ]
                  refine Rg.pass (i := 9) (t := 119) rfl rfl (by kernel_rfl) (by kernel_rfl) (by kernel_rfl) (fun _ _ _ h => h) (by rfl) (by assumption) ?_
                  simp only [List.setIfInBounds_toArray, List.set_cons_zero, List.set_cons_succ]
                  refine Rg.pass (i := 10) (t := 120) rfl rfl (by kernel_rfl) (by kernel_rfl) (by kernel_rfl) (fun _ _ _ h => h) (by rfl) (by assumption) ?_
                  simp only [List.setIfInBounds_toArray, List.set_cons_zero, List.set_cons_succ]
                  refine Rg.pass (i := 11) (t := 121) rfl rfl (by kernel_rfl) (by kernel_rfl) (by kernel_rfl) (fun _ _ _ h => h) (by rfl) (by assumption) ?_
                  simp only [List.setIfInBounds_toArray, List.set_cons_zero, List.set_cons_succ]
                  refine Rg.pass (i := 12) (t := 122) rfl rfl (by kernel_rfl) (by kernel_rfl) (by kernel_rfl) (fun _ _ _ h => h) (by rfl) (by assumption) ?_
                  simp only [List.setIfInBounds_toArray, List.set_cons_zero, List.set_cons_succ]
                  refine Rg.pass (i := 13) (t := 123) rfl rfl (by kernel_rfl) (by kernel_rfl) (by kernel_rfl) (fun _ _ _ h => h) (by rfl) (by assumption) ?_
                  simp only [List.setIfInBounds_toArray, List.set_cons_zero, List.set_cons_succ]
                  refine Rg.pass (i := 14) (t := 124) rfl rfl (by kernel_rfl) (by kernel_rfl) (by kernel_rfl) (fun _ _ _ h => h) (by rfl) (by assumption) ?_
                  simp only [List.setIfInBounds_toArray, List.set_cons_zero, List.set_cons_succ]
                  refine Rg.pass (i := 15) (t := 125) rfl rfl (by kernel_rfl) (by kernel_rfl) (by kernel_rfl) (fun _ _ _ h => h) (by rfl) (by assumption) ?_
                  simp only [List.setIfInBounds_toArray, List.set_cons_zero, List.set_cons_succ]
                  refine Rg.take (i := 16) (t := 126) (v := .bool false) rfl rfl (by kernel_rfl) (by kernel_rfl) (by kernel_rfl) (fun _ _ _ h => h) (by rfl) (by intro w0 hSw; have s2 := t24; first | (go_simp; done) | (go_simp; with_reducible rfl)) (by assumption) ?_
                  simp only [List.setIfInBounds_toArray, List.set_cons_zero, List.set_cons_succ]
                  refine wpAnyH_done (by kernel_rfl) ?_ _
                  clear hS0
                  go_wp2_with fail
                  go_ret2
                  rw [HW.out]
                  exact Res.no HBc.out.drew
        · have HW := Lib.hid (goes_ends HOP.out.1 (by decide) HU.out (show i + 1 < j by omega))
          have g1 : decide ((i : Int) + 1 < (j : Int)) = true := decide_eq_true (by omega)
          have g2 : decide (i + 1 < j) = true := decide_eq_true (by omega)
          have y2 := i64w (x := (j : Int) - (i : Int)) (by omega) (by omega)
          have y3 := i64w (x := (j : Int) - (i : Int) - 1) (by omega) (by omega)
          have cs := fun (U : World) (h : RdI U (some ⟨b, o, none⟩) n l) => swap_r (B := none) (m := 0) (d := 0) l [] (i + 1) (j - (i + 1)) U h (Sk.Rd.nil _ none) hc (by omega) hn (by omega)
          rw [show ((i + 1 : Nat) : Int) = (i : Int) + 1 by omega, show ((j - (i + 1) : Nat) : Int) = (j : Int) - (i : Int) - 1 by omega] at cs
          have CS := Lib.hid cs
          clear cs hji HU
          go_wp2_with (go_at_call 40; refine (CS.out w HRc.out).mono ?_; rintro e w4 ⟨v, rfl, ho, hb⟩; have HO := Lib.hid (ho.lower HBc.out.size); have HB4 := Lib.hid (HBc.out.trans (hb.mono HBc.out.size)); clear ho hb)
          go_ret2
          rw [HW.out]
          exact Res.yes HO.out HB4.out
    · have HU := Lib.hid (show upto l (i + 1) = j by rw [← HT1.out, upto_end (by rw [HL.out]; omega)])
      have t1 : decide ((j : Int) < (n : Int)) = false := decide_eq_false (by omega)
      clear HT1
      by_cases hji : j = i + 1
      · have HJ := Lib.hid (show upto l (i + 1) = i + 1 from hji ▸ HU.out)
        have g1 : decide ((i : Int) + 1 < (j : Int)) = false := decide_eq_false (by omega)
        have g2 : decide (i + 1 < j) = false := decide_eq_false (by omega)
        clear hji HU
        have cbh := fun (U : World) (h : RdI U (some ⟨b, o, none⟩) n l) => behind_r (c := c) l (i + 1) U h hi hn
        rw [show ((i + 1 : Nat) : Int) = (i : Int) + 1 by omega] at cbh
        obtain ⟨T, hT⟩ : ∃ T, past l (i + 1) = T := ⟨_, rfl⟩
        rw [hT] at cbh
        have CBH := Lib.hid cbh
        have HTT := Lib.hid (show past l (i + 1) = T ∧ i + 1 ≤ T ∧ T ≤ n from ⟨hT, hT ▸ past_ge l (i + 1), hT ▸ past_le HL.out hi⟩)
        clear cbh hT
        have H24 := Lib.hid (goes_24 HOP.out.1 HOP.out.2.2.2.1 HJ.out)
        clear HJ
        go_wp2_with (go_at_call 54; refine (CBH.out w HR.out).mono ?_; rintro e w9 ⟨rfl, rfl⟩)
        clear g1 g2
        go_loopw [9] (fun iv wr => ∃ m : Nat, i + 1 ≤ m ∧ m ≤ T ∧ iv = .int .i64 (m : Int) ∧ Hid (∀ x ∈ (labs l (i + 1)).take (m - (i + 1)), (x.2 == a0) = false) ∧ Below w.heap.size w wr) (fun iv _ => T - (intOf iv).toNat)
        case atStart => exact ⟨i + 1, Nat.le_refl _, HTT.out.2.1, by congr 1, Lib.hid (by simp), Below.refl _ _⟩
        case round =>
          obtain ⟨m, hm1, hm2, rfl, HNO, hbw⟩ := hrel
          clear HRc HBc
          have HBc := Lib.hid hbw
          have HRc := Lib.hid (HR.out.below hbw)
          have z0 : wr.cell? ⟨b, o + i * 2 + 1, none⟩ = some (.int .i64 a0) := HOP.out.2.2.2.1 ▸ (HCE.out wr HRc.out i hi).2
          clear hbw
          by_cases hlt2 : m < T
          · have hmn : m < n := Nat.lt_of_lt_of_le hlt2 HTT.out.2.2
            have HLA := Lib.hid (labs_at hm1 (show m < past l (i + 1) by rw [HTT.out.1]; exact hlt2))
            have z1 := (HCE.out wr HRc.out m hmn).2
            obtain ⟨am, ham⟩ : ∃ x, ar l m = x := ⟨_, rfl⟩
            rw [ham] at z1 HLA
            clear ham
            have r0 : (0 : Int) ≤ (m : Int) := by omega
            have r1 : (m : Int) < (n : Int) := by omega
            have r2 : (m : Int) < (T : Int) := by omega
            cases hma : (am == a0) with
            | true =>
              have HW := Lib.hid (show goesR l i = some (swap l i 1 []) by
                rw [H24.out, if_pos]
                obtain ⟨h, he⟩ := HLA.out
                exact List.any_eq_true.2 ⟨_, List.getElem_mem h, by rw [he]; exact hma⟩)
              go_upto_region 14 with fail
              go_quiet (fail)
              generalize hw5 : World.drewN wr _ = w5
              have HB5 := Lib.hid (show Below wr.heap.size wr w5 from hw5 ▸ belowN (Below.refl _ _) _)
              clear z0 z1
              have HRd := Lib.hid (HRc.out.below HB5.out)
              have HBd := Lib.hid (HBc.out.trans (HB5.out.mono HBc.out.size))
              clear hw5
              go_wp2_with (go_at_call 40; refine (swap_r (B := none) (m := 0) (d := 0) l [] i 1 w5 HRd.out (Sk.Rd.nil _ none) hc hi hn (by omega)).mono ?_; rintro e w4 ⟨v, rfl, ho, hb⟩; have HO := Lib.hid (ho.lower HBd.out.size); have HB4 := Lib.hid (HBd.out.trans (hb.mono HBd.out.size)); clear ho hb)
              go_ret2
              rw [HW.out]
              exact Res.yes HO.out HB4.out
            | false =>
              have HN2 := Lib.hid (show ∀ x ∈ (labs l (i + 1)).take (m + 1 - (i + 1)), (x.2 == a0) = false by
                obtain ⟨h, he⟩ := HLA.out
                rw [show m + 1 - (i + 1) = m - (i + 1) + 1 by omega]
                exact labs_more h (by rw [he]; exact hma) HNO.out)
              go_upto_region 14 with fail
              go_quiet (fail)
              generalize hw5 : World.drewN wr _ = w5
              have HB5 := Lib.hid (show Below wr.heap.size wr w5 from hw5 ▸ belowN (Below.refl _ _) _)
              clear z0 z1
              have HBd := Lib.hid (HBc.out.trans (HB5.out.mono HBc.out.size))
              clear hw5
              go_wp2_with fail
              go_roundw
              case rel => exact ⟨m + 1, by omega, by omega, by go_num, HN2, HBd.out⟩
              case measure => simp [intOf]; omega
          · have HT := Lib.hid (show goesR l i = tailR l i 24 a0 by
              rw [H24.out, if_neg]
              rw [Bool.not_eq_true, List.any_eq_false]
              intro x hx
              have h := HNO.out
              have hl : (labs l (i + 1)).length = T - (i + 1) := by have h2 := HTT.out.1; unfold past at h2; omega
              rw [List.take_of_length_le (by omega)] at h
              rw [h x hx]; simp)
            have r2 : decide ((m : Int) < (T : Int)) = false := decide_eq_false (by omega)
            have r3 : decide (m < T) = false := decide_eq_false (by omega)
            clear HNO
            cases hf : l.findIdx? (spot a0) with
            | none =>
              have HFV := Lib.hid (show findV l (spot a0) = -1 by unfold findV; rw [hf])
              have HW := Lib.hid (show goesR l i = none by rw [HT.out]; unfold tailR; rw [hf])
              clear hf
              go_wp2_with (go_at_call 55; refine (where_r l a0 wr HRc.out hn).mono ?_; rintro e w9 ⟨rfl, rfl⟩; rw [HFV.out])
              go_ret2
              rw [HW.out]
              exact Res.no HBc.out
            | some p =>
              have HPN := Lib.hid (show p < n by obtain ⟨h, _⟩ := List.findIdx?_eq_some_iff_getElem.1 hf; rw [HL.out] at h; exact h)
              have HFV := Lib.hid (show findV l (spot a0) = (p : Int) by unfold findV; rw [hf])
              obtain ⟨q, hq⟩ : ∃ q, past l p = q := ⟨_, rfl⟩
              have HPP := Lib.hid hq
              have HQN := Lib.hid (show q ≤ n from hq ▸ past_le HL.out (Nat.le_of_lt HPN.out))
              have W8 := Lib.hid (show goesR l i = if op l q = 24 ∧ ar l q ≠ a0 then some (swap l i 1 [(24, ar l q)]) else none by rw [HT.out]; unfold tailR; rw [hf]; simp only; rw [hq])
              clear hf hq
              have p0 : decide ((p : Int) < 0) = false := decide_eq_false (by omega)
              obtain ⟨oq, hoq⟩ : ∃ x, op l q = x := ⟨_, rfl⟩
              obtain ⟨aq, haq⟩ : ∃ x, ar l q = x := ⟨_, rfl⟩
              have HOQ := Lib.hid hoq
              have HAQ := Lib.hid haq
              rw [hoq, haq] at W8
              have caq := fun (U : World) (h : RdI U (some ⟨b, o, none⟩) n l) => at_r (c := c) l q U h hn
              rw [hoq] at caq
              have CAQ := Lib.hid caq
              have hqi : oq ≠ 0 → q < n := fun h => HIN.out q oq hoq h
              clear hoq haq caq
              by_cases h24 : oq = 24
              · subst h24
                have hqn := hqi (by decide)
                have q0 : (0 : Int) ≤ (q : Int) := Int.natCast_nonneg _
                have q1 : (q : Int) < (n : Int) := by omega
                cases hna : (aq == a0) with
                | true =>
                  have HW := Lib.hid (show goesR l i = none by rw [W8.out, if_neg (fun h => h.2 (by simpa using hna))])
                  have hnb : (aq != a0) = false := by simp only [bne, hna]; rfl
                  go_upto_region 20 with (first | (go_at_call 55; refine (where_r l a0 wr HRc.out hn).mono ?_; rintro e w9 ⟨rfl, rfl⟩; rw [HFV.out]) | (go_at_call 54; refine (behind_r l p wr HRc.out (Nat.le_of_lt HPN.out) hn).mono ?_; rintro e w9 ⟨rfl, rfl⟩; rw [HPP.out]))
                  obtain ⟨S, hSd⟩ : ∃ S : World → Prop, (fun U : World => RdI U (some ⟨b, o, none⟩) n l ∧ Below w.heap.size w U) = S := ⟨_, rfl⟩
                  have HSI := Lib.hid (show ∀ U, RdI U (some ⟨b, o, none⟩) n l → Below w.heap.size w U → S U from fun U h h2 => by rw [← hSd]; exact ⟨h, h2⟩)
                  have HSC := Lib.hid (show ∀ U, S U → U.cell? ⟨b, o + i * 2 + 1, none⟩ = some (.int .i64 a0) ∧ U.cell? ⟨b, o + q * 2 + 1, none⟩ = some (.int .i64 aq) from fun U h => by rw [← hSd] at h; exact ⟨HOP.out.2.2.2.1 ▸ (HCE.out U h.1 i hi).2, HAQ.out ▸ (HCE.out U h.1 q hqn).2⟩)
                  have HRd := Lib.hid (HRc.out.below (Below.drew (Below.refl _ _)))
                  have HBd := Lib.hid HBc.out.drew
                  have hS0 : S wr.drew := HSI.out _ HRd.out HBd.out
                  clear hSd z0 hqi
                  refine wp_region_held_drew (S := S) (by kernel_rfl) hS0 (fun hHeld => ?_)
                  refine Rg.take (i := 0) (t := 110) rfl rfl (by kernel_rfl) (by kernel_rfl) (by kernel_rfl) (fun _ _ _ h => h) (by rfl) (by intro w0 hSw; obtain ⟨s0, s1⟩ := HSC.out _ hSw; have s2 := hnb; first | (go_simp; done) | (go_simp; with_reducible rfl)) (by assumption) ?_
                  simp only [List.setIfInBounds_toArray, List.set_cons_zero, List.set_cons_succ]
                  refine Rg.take (i := 1) (t := 111) rfl rfl (by kernel_rfl) (by kernel_rfl) (by kernel_rfl) (fun _ _ _ h => h) (by rfl) (by intro w0 hSw; obtain ⟨s0, s1⟩ := HSC.out _ hSw; have s2 := hnb; first | (go_simp; done) | (go_simp; with_reducible rfl)) (by assumption) ?_
                  simp only [List.setIfInBounds_toArray, List.set_cons_zero, List.set_cons_succ]
                  refine Rg.one (i := 2) (by kernel_rfl) ?_
                  refine Rg.call (i := 2) (t := 112) rfl rfl (by rfl) (by go_simp; exact ⟨rfl, rfl⟩) ?_
                  refine (CAQ.out wr.drew HRd.out).mono ?_
                  rintro e w9 ⟨rfl, rfl⟩
                  refine ⟨_, rfl, S, fun _ h => h, hS0, ?_⟩
                  simp only [List.setIfInBounds_toArray, List.set_cons_zero, List.set_cons_succ]
                  refine Rg.take (i := 3) (t := 113) (v := .bool true) rfl rfl (by kernel_rfl) (by kernel_rfl) (by kernel_rfl) (fun _ _ _ h => h) (by rfl) (by intro w0 hSw; obtain ⟨s0, s1⟩ := HSC.out _ hSw; have s2 := hnb; first | (go_simp; done) | (go_simp; with_reducible rfl)) (by assumption) ?_
                  simp only [List.setIfInBounds_toArray, List.set_cons_zero, List.set_cons_succ]
                  refine Rg.take (i := 4) (t := 114) (v := .bool true) rfl rfl (by kernel_rfl) (by kernel_rfl) (by kernel_rfl) (fun _ _ _ h => h) (by rfl) (by intro w0 hSw; obtain ⟨s0, s1⟩ := HSC.out _ hSw; have s2 := hnb; first | (go_simp; done) | (go_simp; with_reducible rfl)) (by assumption) ?_
                  simp only [List.setIfInBounds_toArray, List.set_cons_zero, List.set_cons_succ]
                  refine Rg.take (i := 5) (t := 115) rfl rfl (by kernel_rfl) (by kernel_rfl) (by kernel_rfl) (fun _ _ _ h => h) (by rfl) (by intro w0 hSw; obtain ⟨s0, s1⟩ := HSC.out _ hSw; have s2 := hnb; first | (go_simp; done) | (go_simp; with_reducible rfl)) (by assumption) ?_
                  simp only [List.setIfInBounds_toArray, List.set_cons_zero, List.set_cons_succ]
                  refine Rg.take (i := 6) (t := 116) rfl rfl (by kernel_rfl) (by kernel_rfl) (by kernel_rfl) (fun _ _ _ h => h) (by rfl) (by intro w0 hSw; obtain ⟨s0, s1⟩ := HSC.out _ hSw; have s2 := hnb; first | (go_simp; done) | (go_simp; with_reducible rfl)) (by assumption) ?_
                  simp only [List.setIfInBounds_toArray, List.set_cons_zero, List.set_cons_succ]
                  refine Rg.take (i := 7) (t := 117) rfl rfl (by kernel_rfl) (by kernel_rfl) (by kernel_rfl) (fun _ _ _ h => h) (by rfl) (by intro w0 hSw; obtain ⟨s0, s1⟩ := HSC.out _ hSw; have s2 := hnb; first | (go_simp; done) | (go_simp; with_reducible rfl)) (by assumption) ?_
                  simp only [List.setIfInBounds_toArray, List.set_cons_zero, List.set_cons_succ]
                  refine Rg.take (i := 8) (t := 118) rfl rfl (by kernel_rfl) (by kernel_rfl) (by kernel_rfl) (fun _ _ _ h => h) (by rfl) (by intro w0 hSw; obtain ⟨s0, s1⟩ := HSC.out _ hSw; have s2 := hnb; first | (go_simp; done) | (go_simp; with_reducible rfl)) (by assumption) ?_
                  simp only [List.setIfInBounds_toArray, List.set_cons_zero, List.set_cons_succ]
                  refine Rg.take (i := 9) (t := 119) rfl rfl (by kernel_rfl) (by kernel_rfl) (by kernel_rfl) (fun _ _ _ h => h) (by rfl) (by intro w0 hSw; obtain ⟨s0, s1⟩ := HSC.out _ hSw; have s2 := hnb; first | (go_simp; done) | (go_simp; with_reducible rfl)) (by assumption) ?_
                  simp only [List.setIfInBounds_toArray, List.set_cons_zero, List.set_cons_succ]
                  refine Rg.take (i := 10) (t := 120) rfl rfl (by kernel_rfl) (by kernel_rfl) (by kernel_rfl) (fun _ _ _ h => h) (by rfl) (by intro w0 hSw; obtain ⟨s0, s1⟩ := HSC.out _ hSw; have s2 := hnb; first | (go_simp; done) | (go_simp; with_reducible rfl)) (by assumption) ?_
                  simp only [List.setIfInBounds_toArray, List.set_cons_zero, List.set_cons_succ]
                  refine Rg.take (i := 11) (t := 121) rfl rfl (by kernel_rfl) (by kernel_rfl) (by kernel_rfl) (fun _ _ _ h => h) (by rfl) (by intro w0 hSw; obtain ⟨s0, s1⟩ := HSC.out _ hSw; have s2 := hnb; first | (go_simp; done) | (go_simp; with_reducible rfl)) (by assumption) ?_
                  simp only [List.setIfInBounds_toArray, List.set_cons_zero, List.set_cons_succ]
                  refine Rg.take (i := 12) (t := 122) rfl rfl (by kernel_rfl) (by kernel_rfl) (by kernel_rfl) (fun _ _ _ h => h) (by rfl) (by intro w0 hSw; obtain ⟨s0, s1⟩ := HSC.out _ hSw; have s2 := hnb; first | (go_simp; done) | (go_simp; with_reducible rfl)) (by assumption) ?_
                  simp only [List.setIfInBounds_toArray, List.set_cons_zero, List.set_cons_succ]
                  refine Rg.take (i := 13) (t := 123) rfl rfl (by kernel_rfl) (by kernel_rfl) (by kernel_rfl) (fun _ _ _ h => h) (by rfl) (by intro w0 hSw; obtain ⟨s0, s1⟩ := HSC.out _ hSw; have s2 := hnb; first | (go_simp; done) | (go_simp; with_reducible rfl)) (by assumption) ?_
                  simp only [List.setIfInBounds_toArray, List.set_cons_zero, List.set_cons_succ]
                  refine Rg.take (i := 14) (t := 124) rfl rfl (by kernel_rfl) (by kernel_rfl) (by kernel_rfl) (fun _ _ _ h => h) (by rfl) (by intro w0 hSw; obtain ⟨s0, s1⟩ := HSC.out _ hSw; have s2 := hnb; first | (go_simp; done) | (go_simp; with_reducible rfl)) (by assumption) ?_
                  simp only [List.setIfInBounds_toArray, List.set_cons_zero, List.set_cons_succ]
                  refine Rg.take (i := 15) (t := 125) (v := .bool false) rfl rfl (by kernel_rfl) (by kernel_rfl) (by kernel_rfl) (fun _ _ _ h => h) (by rfl) (by intro w0 hSw; obtain ⟨s0, s1⟩ := HSC.out _ hSw; have s2 := hnb; first | (go_simp; done) | (go_simp; with_reducible rfl)) (by assumption) ?_
                  simp only [List.setIfInBounds_toArray, List.set_cons_zero, List.set_cons_succ]
                  refine Rg.take (i := 16) (t := 126) (v := .bool false) rfl rfl (by kernel_rfl) (by kernel_rfl) (by kernel_rfl) (fun _ _ _ h => h) (by rfl) (by intro w0 hSw; obtain ⟨s0, s1⟩ := HSC.out _ hSw; have s2 := hnb; first | (go_simp; done) | (go_simp; with_reducible rfl)) (by assumption) ?_
                  simp only [List.setIfInBounds_toArray, List.set_cons_zero, List.set_cons_succ]
                  refine wpAnyH_done (by kernel_rfl) ?_ _
                  clear hS0
                  go_wp2_with fail
                  go_ret2
                  rw [HW.out]
                  exact Res.no HBd.out
                | false =>
                  have HW := Lib.hid (show goesR l i = some (swap l i 1 [(24, aq)]) by rw [W8.out, if_pos ⟨rfl, by simpa using hna⟩])
                  have hnb : (aq != a0) = true := by simp only [bne, hna]; rfl
                  go_upto_region 20 with (first | (go_at_call 55; refine (where_r l a0 wr HRc.out hn).mono ?_; rintro e w9 ⟨rfl, rfl⟩; rw [HFV.out]) | (go_at_call 54; refine (behind_r l p wr HRc.out (Nat.le_of_lt HPN.out) hn).mono ?_; rintro e w9 ⟨rfl, rfl⟩; rw [HPP.out]))
                  obtain ⟨S, hSd⟩ : ∃ S : World → Prop, (fun U : World => RdI U (some ⟨b, o, none⟩) n l ∧ Below w.heap.size w U) = S := ⟨_, rfl⟩
                  have HSI := Lib.hid (show ∀ U, RdI U (some ⟨b, o, none⟩) n l → Below w.heap.size w U → S U from fun U h h2 => by rw [← hSd]; exact ⟨h, h2⟩)
                  have HSC := Lib.hid (show ∀ U, S U → U.cell? ⟨b, o + i * 2 + 1, none⟩ = some (.int .i64 a0) ∧ U.cell? ⟨b, o + q * 2 + 1, none⟩ = some (.int .i64 aq) from fun U h => by rw [← hSd] at h; exact ⟨HOP.out.2.2.2.1 ▸ (HCE.out U h.1 i hi).2, HAQ.out ▸ (HCE.out U h.1 q hqn).2⟩)
                  have HRd := Lib.hid (HRc.out.below (Below.drew (Below.refl _ _)))
                  have HBd := Lib.hid HBc.out.drew
                  have hS0 : S wr.drew := HSI.out _ HRd.out HBd.out
                  clear hSd z0 hqi
                  refine wp_region_held_drew (S := S) (by kernel_rfl) hS0 (fun hHeld => ?_)
                  refine Rg.take (i := 0) (t := 110) rfl rfl (by kernel_rfl) (by kernel_rfl) (by kernel_rfl) (fun _ _ _ h => h) (by rfl) (by intro w0 hSw; obtain ⟨s0, s1⟩ := HSC.out _ hSw; have s2 := hnb; first | (go_simp; done) | (go_simp; with_reducible rfl)) (by assumption) ?_
                  simp only [List.setIfInBounds_toArray, List.set_cons_zero, List.set_cons_succ]
                  refine Rg.take (i := 1) (t := 111) rfl rfl (by kernel_rfl) (by kernel_rfl) (by kernel_rfl) (fun _ _ _ h => h) (by rfl) (by intro w0 hSw; obtain ⟨s0, s1⟩ := HSC.out _ hSw; have s2 := hnb; first | (go_simp; done) | (go_simp; with_reducible rfl)) (by assumption) ?_
                  simp only [List.setIfInBounds_toArray, List.set_cons_zero, List.set_cons_succ]
                  refine Rg.one (i := 2) (by kernel_rfl) ?_
                  refine Rg.call (i := 2) (t := 112) rfl rfl (by rfl) (by go_simp; exact ⟨rfl, rfl⟩) ?_
                  refine (CAQ.out wr.drew HRd.out).mono ?_
                  rintro e w9 ⟨rfl, rfl⟩
                  refine ⟨_, rfl, S, fun _ h => h, hS0, ?_⟩
                  simp only [List.setIfInBounds_toArray, List.set_cons_zero, List.set_cons_succ]
                  refine Rg.take (i := 3) (t := 113) (v := .bool true) rfl rfl (by kernel_rfl) (by kernel_rfl) (by kernel_rfl) (fun _ _ _ h => h) (by rfl) (by intro w0 hSw; obtain ⟨s0, s1⟩ := HSC.out _ hSw; have s2 := hnb; first | (go_simp; done) | (go_simp; with_reducible rfl)) (by assumption) ?_
                  simp only [List.setIfInBounds_toArray, List.set_cons_zero, List.set_cons_succ]
                  refine Rg.take (i := 4) (t := 114) (v := .bool true) rfl rfl (by kernel_rfl) (by kernel_rfl) (by kernel_rfl) (fun _ _ _ h => h) (by rfl) (by intro w0 hSw; obtain ⟨s0, s1⟩ := HSC.out _ hSw; have s2 := hnb; first | (go_simp; done) | (go_simp; with_reducible rfl)) (by assumption) ?_
                  simp only [List.setIfInBounds_toArray, List.set_cons_zero, List.set_cons_succ]
                  refine Rg.take (i := 5) (t := 115) rfl rfl (by kernel_rfl) (by kernel_rfl) (by kernel_rfl) (fun _ _ _ h => h) (by rfl) (by intro w0 hSw; obtain ⟨s0, s1⟩ := HSC.out _ hSw; have s2 := hnb; first | (go_simp; done) | (go_simp; with_reducible rfl)) (by assumption) ?_
                  simp only [List.setIfInBounds_toArray, List.set_cons_zero, List.set_cons_succ]
                  refine Rg.take (i := 6) (t := 116) rfl rfl (by kernel_rfl) (by kernel_rfl) (by kernel_rfl) (fun _ _ _ h => h) (by rfl) (by intro w0 hSw; obtain ⟨s0, s1⟩ := HSC.out _ hSw; have s2 := hnb; first | (go_simp; done) | (go_simp; with_reducible rfl)) (by assumption) ?_
                  simp only [List.setIfInBounds_toArray, List.set_cons_zero, List.set_cons_succ]
                  refine Rg.take (i := 7) (t := 117) rfl rfl (by kernel_rfl) (by kernel_rfl) (by kernel_rfl) (fun _ _ _ h => h) (by rfl) (by intro w0 hSw; obtain ⟨s0, s1⟩ := HSC.out _ hSw; have s2 := hnb; first | (go_simp; done) | (go_simp; with_reducible rfl)) (by assumption) ?_
                  simp only [List.setIfInBounds_toArray, List.set_cons_zero, List.set_cons_succ]
                  refine Rg.take (i := 8) (t := 118) rfl rfl (by kernel_rfl) (by kernel_rfl) (by kernel_rfl) (fun _ _ _ h => h) (by rfl) (by intro w0 hSw; obtain ⟨s0, s1⟩ := HSC.out _ hSw; have s2 := hnb; first | (go_simp; done) | (go_simp; with_reducible rfl)) (by assumption) ?_
                  simp only [List.setIfInBounds_toArray, List.set_cons_zero, List.set_cons_succ]
                  refine Rg.take (i := 9) (t := 119) rfl rfl (by kernel_rfl) (by kernel_rfl) (by kernel_rfl) (fun _ _ _ h => h) (by rfl) (by intro w0 hSw; obtain ⟨s0, s1⟩ := HSC.out _ hSw; have s2 := hnb; first | (go_simp; done) | (go_simp; with_reducible rfl)) (by assumption) ?_
                  simp only [List.setIfInBounds_toArray, List.set_cons_zero, List.set_cons_succ]
                  refine Rg.take (i := 10) (t := 120) rfl rfl (by kernel_rfl) (by kernel_rfl) (by kernel_rfl) (fun _ _ _ h => h) (by rfl) (by intro w0 hSw; obtain ⟨s0, s1⟩ := HSC.out _ hSw; have s2 := hnb; first | (go_simp; done) | (go_simp; with_reducible rfl)) (by assumption) ?_
                  simp only [List.setIfInBounds_toArray, List.set_cons_zero, List.set_cons_succ]
                  refine Rg.take (i := 11) (t := 121) rfl rfl (by kernel_rfl) (by kernel_rfl) (by kernel_rfl) (fun _ _ _ h => h) (by rfl) (by intro w0 hSw; obtain ⟨s0, s1⟩ := HSC.out _ hSw; have s2 := hnb; first | (go_simp; done) | (go_simp; with_reducible rfl)) (by assumption) ?_
                  simp only [List.setIfInBounds_toArray, List.set_cons_zero, List.set_cons_succ]
                  refine Rg.take (i := 12) (t := 122) rfl rfl (by kernel_rfl) (by kernel_rfl) (by kernel_rfl) (fun _ _ _ h => h) (by rfl) (by intro w0 hSw; obtain ⟨s0, s1⟩ := HSC.out _ hSw; have s2 := hnb; first | (go_simp; done) | (go_simp; with_reducible rfl)) (by assumption) ?_
                  simp only [List.setIfInBounds_toArray, List.set_cons_zero, List.set_cons_succ]
                  refine Rg.take (i := 13) (t := 123) rfl rfl (by kernel_rfl) (by kernel_rfl) (by kernel_rfl) (fun _ _ _ h => h) (by rfl) (by intro w0 hSw; obtain ⟨s0, s1⟩ := HSC.out _ hSw; have s2 := hnb; first | (go_simp; done) | (go_simp; with_reducible rfl)) (by assumption) ?_
                  simp only [List.setIfInBounds_toArray, List.set_cons_zero, List.set_cons_succ]
                  refine Rg.take (i := 14) (t := 124) rfl rfl (by kernel_rfl) (by kernel_rfl) (by kernel_rfl) (fun _ _ _ h => h) (by rfl) (by intro w0 hSw; obtain ⟨s0, s1⟩ := HSC.out _ hSw; have s2 := hnb; first | (go_simp; done) | (go_simp; with_reducible rfl)) (by assumption) ?_
                  simp only [List.setIfInBounds_toArray, List.set_cons_zero, List.set_cons_succ]
                  refine Rg.take (i := 15) (t := 125) (v := .bool true) rfl rfl (by kernel_rfl) (by kernel_rfl) (by kernel_rfl) (fun _ _ _ h => h) (by rfl) (by intro w0 hSw; obtain ⟨s0, s1⟩ := HSC.out _ hSw; have s2 := hnb; first | (go_simp; done) | (go_simp; with_reducible rfl)) (by assumption) ?_
                  simp only [List.setIfInBounds_toArray, List.set_cons_zero, List.set_cons_succ]
                  refine Rg.take (i := 16) (t := 126) (v := .bool true) rfl rfl (by kernel_rfl) (by kernel_rfl) (by kernel_rfl) (fun _ _ _ h => h) (by rfl) (by intro w0 hSw; obtain ⟨s0, s1⟩ := HSC.out _ hSw; have s2 := hnb; first | (go_simp; done) | (go_simp; with_reducible rfl)) (by assumption) ?_
                  simp only [List.setIfInBounds_toArray, List.set_cons_zero, List.set_cons_succ]
                  refine wpAnyH_done (by kernel_rfl) ?_ _
                  have s0 := (HSC.out _ hS0).1
                  have s1 := (HSC.out _ hS0).2
                  clear hS0
                  obtain ⟨w5, hw5⟩ : ∃ W, wr.drew = W := ⟨_, rfl⟩
                  rw [hw5] at HRd HBd s0 s1 ⊢
                  clear hw5
                  obtain ⟨w3, hw3⟩ : ∃ W, w5.alloc (.cells #[.int .i64 24, .int .i64 aq] 30) = W := ⟨_, rfl⟩
                  have HB3a := Lib.hid (show Below w5.heap.size w5 w3 by rw [← hw3]; exact (Below.refl _ _).alloc (Nat.le_refl _) _)
                  have HB3 := Lib.hid (HBd.out.trans (HB3a.out.mono HBd.out.size))
                  have HV3 := Lib.hid (show RdI w3 (some ⟨w5.heap.size, 0, none⟩) 1 [(24, aq)] by rw [← hw3]; exact Sk.rd_lit w5 30 [(24, aq)] #[.int .i64 24, .int .i64 aq] rfl 1 rfl)
                  go_wp2_with (go_at_call 40; refine (swap_r l [(24, aq)] i 1 w3 (HRd.out.below HB3a.out) HV3.out hc hi hn (by omega)).mono ?_; rintro e w4 ⟨v, rfl, ho, hb⟩; have HO := Lib.hid (ho.lower HB3.out.size); have HB4 := Lib.hid (HB3.out.trans (hb.mono HB3.out.size)); clear ho hb)
                  go_ret2
                  rw [HW.out]
                  exact Res.yes HO.out HB4.out
              · have t24 : (oq == 24) = false := by simpa using h24
                have HW := Lib.hid (show goesR l i = none by rw [W8.out, if_neg (fun h => h24 h.1)])
                clear h24 hqi
                go_upto_region 20 with (first | (go_at_call 55; refine (where_r l a0 wr HRc.out hn).mono ?_; rintro e w9 ⟨rfl, rfl⟩; rw [HFV.out]) | (go_at_call 54; refine (behind_r l p wr HRc.out (Nat.le_of_lt HPN.out) hn).mono ?_; rintro e w9 ⟨rfl, rfl⟩; rw [HPP.out]))
                obtain ⟨S, hSd⟩ : ∃ S : World → Prop, (fun _ : World => True) = S := ⟨_, rfl⟩
                have hS0 : S wr.drew := by rw [← hSd]; trivial
                have HRd := Lib.hid (HRc.out.below (Below.drew (Below.refl _ _)))
                clear hSd z0
                refine wp_region_held_drew (S := S) (by kernel_rfl) hS0 (fun hHeld => ?_)
                refine Rg.take (i := 0) (t := 110) rfl rfl (by kernel_rfl) (by kernel_rfl) (by kernel_rfl) (fun _ _ _ h => h) (by rfl) (by intro w0 hSw; have s2 := t24; first | (go_simp; done) | (go_simp; with_reducible rfl)) (by assumption) ?_
                simp only [List.setIfInBounds_toArray, List.set_cons_zero, List.set_cons_succ]
                refine Rg.take (i := 1) (t := 111) rfl rfl (by kernel_rfl) (by kernel_rfl) (by kernel_rfl) (fun _ _ _ h => h) (by rfl) (by intro w0 hSw; have s2 := t24; first | (go_simp; done) | (go_simp; with_reducible rfl)) (by assumption) ?_
                simp only [List.setIfInBounds_toArray, List.set_cons_zero, List.set_cons_succ]
                refine Rg.one (i := 2) (by kernel_rfl) ?_
                refine Rg.call (i := 2) (t := 112) rfl rfl (by rfl) (by go_simp; exact ⟨rfl, rfl⟩) ?_
                refine (CAQ.out wr.drew HRd.out).mono ?_
                rintro e w9 ⟨rfl, rfl⟩
                refine ⟨_, rfl, S, fun _ h => h, hS0, ?_⟩
                simp only [List.setIfInBounds_toArray, List.set_cons_zero, List.set_cons_succ]
                refine Rg.take (i := 3) (t := 113) (v := .bool false) rfl rfl (by kernel_rfl) (by kernel_rfl) (by kernel_rfl) (fun _ _ _ h => h) (by rfl) (by intro w0 hSw; have s2 := t24; first | (go_simp; done) | (go_simp; with_reducible rfl)) (by assumption) ?_
                simp only [List.setIfInBounds_toArray, List.set_cons_zero, List.set_cons_succ]
                refine Rg.take (i := 4) (t := 114) (v := .bool false) rfl rfl (by kernel_rfl) (by kernel_rfl) (by kernel_rfl) (fun _ _ _ h => h) (by rfl) (by intro w0 hSw; have s2 := t24; first | (go_simp; done) | (go_simp; with_reducible rfl)) (by assumption) ?_
                simp only [List.setIfInBounds_toArray, List.set_cons_zero, List.set_cons_succ]
                refine Rg.pass (i := 5) (t := 115) rfl rfl (by kernel_rfl) (by kernel_rfl) (by kernel_rfl) (fun _ _ _ h => h) (by rfl) (by assumption) ?_
                simp only [List.setIfInBounds_toArray, List.set_cons_zero, List.set_cons_succ]
                refine Rg.pass (i := 6) (t := 116) rfl rfl (by kernel_rfl) (by kernel_rfl) (by kernel_rfl) (fun _ _ _ h => h) (by rfl) (by assumption) ?_
                simp only [List.setIfInBounds_toArray, List.set_cons_zero, List.set_cons_succ]
                refine Rg.pass (i := 7) (t := 117) rfl rfl (by kernel_rfl) (by kernel_rfl) (by kernel_rfl) (fun _ _ _ h => h) (by rfl) (by assumption) ?_
                simp only [List.setIfInBounds_toArray, List.set_cons_zero, List.set_cons_succ]
                refine Rg.pass (i := 8) (t := 118) rfl rfl (by kernel_rfl) (by kernel_rfl) (by kernel_rfl) (fun _ _ _ h => h) (by rfl) (by assumption) ?_
                simp only [List.setIfInBounds_toArray, List.set_cons_zero, List.set_cons_succ]
                refine Rg.pass (i := 9) (t := 119) rfl rfl (by kernel_rfl) (by kernel_rfl) (by kernel_rfl) (fun _ _ _ h => h) (by rfl) (by assumption) ?_
                simp only [List.setIfInBounds_toArray, List.set_cons_zero, List.set_cons_succ]
                refine Rg.pass (i := 10) (t := 120) rfl rfl (by kernel_rfl) (by kernel_rfl) (by kernel_rfl) (fun _ _ _ h => h) (by rfl) (by assumption) ?_
                simp only [List.setIfInBounds_toArray, List.set_cons_zero, List.set_cons_succ]
                refine Rg.pass (i := 11) (t := 121) rfl rfl (by kernel_rfl) (by kernel_rfl) (by kernel_rfl) (fun _ _ _ h => h) (by rfl) (by assumption) ?_
                simp only [List.setIfInBounds_toArray, List.set_cons_zero, List.set_cons_succ]
                refine Rg.pass (i := 12) (t := 122) rfl rfl (by kernel_rfl) (by kernel_rfl) (by kernel_rfl) (fun _ _ _ h => h) (by rfl) (by assumption) ?_
                simp only [List.setIfInBounds_toArray, List.set_cons_zero, List.set_cons_succ]
                refine Rg.pass (i := 13) (t := 123) rfl rfl (by kernel_rfl) (by kernel_rfl) (by kernel_rfl) (fun _ _ _ h => h) (by rfl) (by assumption) ?_
                simp only [List.setIfInBounds_toArray, List.set_cons_zero, List.set_cons_succ]
                refine Rg.pass (i := 14) (t := 124) rfl rfl (by kernel_rfl) (by kernel_rfl) (by kernel_rfl) (fun _ _ _ h => h) (by rfl) (by assumption) ?_
                simp only [List.setIfInBounds_toArray, List.set_cons_zero, List.set_cons_succ]
                refine Rg.pass (i := 15) (t := 125) rfl rfl (by kernel_rfl) (by kernel_rfl) (by kernel_rfl) (fun _ _ _ h => h) (by rfl) (by assumption) ?_
                simp only [List.setIfInBounds_toArray, List.set_cons_zero, List.set_cons_succ]
                refine Rg.take (i := 16) (t := 126) (v := .bool false) rfl rfl (by kernel_rfl) (by kernel_rfl) (by kernel_rfl) (fun _ _ _ h => h) (by rfl) (by intro w0 hSw; have s2 := t24; first | (go_simp; done) | (go_simp; with_reducible rfl)) (by assumption) ?_
                simp only [List.setIfInBounds_toArray, List.set_cons_zero, List.set_cons_succ]
                refine wpAnyH_done (by kernel_rfl) ?_ _
                clear hS0
                go_wp2_with fail
                go_ret2
                rw [HW.out]
                exact Res.no HBc.out.drew
      · have HW := Lib.hid (goes_ends HOP.out.1 (by decide) HU.out (show i + 1 < j by omega))
        have g1 : decide ((i : Int) + 1 < (j : Int)) = true := decide_eq_true (by omega)
        have g2 : decide (i + 1 < j) = true := decide_eq_true (by omega)
        have y2 := i64w (x := (j : Int) - (i : Int)) (by omega) (by omega)
        have y3 := i64w (x := (j : Int) - (i : Int) - 1) (by omega) (by omega)
        have cs := fun (U : World) (h : RdI U (some ⟨b, o, none⟩) n l) => swap_r (B := none) (m := 0) (d := 0) l [] (i + 1) (j - (i + 1)) U h (Sk.Rd.nil _ none) hc (by omega) hn (by omega)
        rw [show ((i + 1 : Nat) : Int) = (i : Int) + 1 by omega, show ((j - (i + 1) : Nat) : Int) = (j : Int) - (i : Int) - 1 by omega] at cs
        have CS := Lib.hid cs
        clear cs hji HU
        go_wp2_with (go_at_call 40; refine (CS.out w HRc.out).mono ?_; rintro e w4 ⟨v, rfl, ho, hb⟩; have HO := Lib.hid (ho.lower HBc.out.size); have HB4 := Lib.hid (HBc.out.trans (hb.mono HBc.out.size)); clear ho hb)
        go_ret2
        rw [HW.out]
        exact Res.yes HO.out HB4.out
set_option maxRecDepth 100000 in
set_option maxHeartbeats 4000000 in
theorem goes_r25 {A : Option Addr} {n c : Nat} (l : List Ins) (i : Nat) (w : World) (hr : RdI w A n l) (hc : n ≤ c) (hi : i < n) (hn : n ≤ 1048576) (h25 : op l i = 25) :
    Calls Try.prog 37 #[.slice A n c, .int .i64 (i : Int)] w (Res (goesR l i) (.slice A n c) w) := by
  have HL := Lib.hid (show l.length = n from hr.1.symm)
  obtain ⟨b, o, rfl, hb0, hcc⟩ := rd_open hr (Nat.lt_of_le_of_lt (Nat.zero_le _) hi)
  have HR := Lib.hid hr
  have HRc := Lib.hid hr
  have HBc := Lib.hid (Below.refl w.heap.size w)
  obtain ⟨o0, ho0⟩ : ∃ x, op l i = x := ⟨_, rfl⟩
  obtain ⟨o1, ho1⟩ : ∃ x, op l (i + 1) = x := ⟨_, rfl⟩
  obtain ⟨o2, ho2⟩ : ∃ x, op l (i + 2) = x := ⟨_, rfl⟩
  obtain ⟨a0, ha0⟩ : ∃ x, ar l i = x := ⟨_, rfl⟩
  obtain ⟨a1, ha1⟩ : ∃ x, ar l (i + 1) = x := ⟨_, rfl⟩
  obtain ⟨a2, ha2⟩ : ∃ x, ar l (i + 2) = x := ⟨_, rfl⟩
  have HOP := Lib.hid (show op l i = o0 ∧ op l (i + 1) = o1 ∧ op l (i + 2) = o2 ∧ ar l i = a0 ∧ ar l (i + 1) = a1 ∧ ar l (i + 2) = a2 from ⟨ho0, ho1, ho2, ha0, ha1, ha2⟩)
  have ca0 := fun (U : World) (h : RdI U (some ⟨b, o, none⟩) n l) => at_r (c := c) l i U h hn
  have ca1 := fun (U : World) (h : RdI U (some ⟨b, o, none⟩) n l) => at_r1 (c := c) l i U h hn
  have ca2 := fun (U : World) (h : RdI U (some ⟨b, o, none⟩) n l) => at_r2 (c := c) l i U h hn
  rw [ho0] at ca0
  rw [ho1] at ca1
  rw [ho2] at ca2
  have CA0 := Lib.hid ca0
  have CA1 := Lib.hid ca1
  have CA2 := Lib.hid ca2
  have HCE := Lib.hid (show ∀ U, RdI U (some ⟨b, o, none⟩) n l → ∀ k, k < n → U.cell? ⟨b, o + k * 2, none⟩ = some (.int .i64 (op l k)) ∧ U.cell? ⟨b, o + k * 2 + 1, none⟩ = some (.int .i64 (ar l k)) from fun U h k hk => rd_at h hk)
  have i0 : (0 : Int) ≤ (i : Int) := Int.natCast_nonneg _
  have i1 : (i : Int) < (n : Int) := by omega
  have hx1 := i64w (x := (i : Int) + 1) (by omega) (by omega)
  have hx2 := i64w (x := (i : Int) + 2) (by omega) (by omega)
  have z0 : w.cell? ⟨b, o + i * 2 + 1, none⟩ = some (.int .i64 a0) := ha0 ▸ (HCE.out w hr i hi).2
  have HIN := Lib.hid (show ∀ k x, op l k = x → x ≠ 0 → k < n from fun k x h h2 => HL.out ▸ op_in (by rw [h]; exact h2))
  clear hr hb0 hcc ho0 ho1 ho2 ha0 ha1 ha2 ca0 ca1 ca2
  obtain rfl : o0 = 25 := HOP.out.1.symm.trans h25
  have HT := Lib.hid (goes_25 HOP.out.1 HOP.out.2.2.2.1)
  clear h25
  have cbh := fun (U : World) (h : RdI U (some ⟨b, o, none⟩) n l) => behind_r (c := c) l (i + 1) U h hi hn
  rw [show ((i + 1 : Nat) : Int) = (i : Int) + 1 by omega] at cbh
  obtain ⟨T, hT⟩ : ∃ T, past l (i + 1) = T := ⟨_, rfl⟩
  rw [hT] at cbh
  have CBH := Lib.hid cbh
  have HTT := Lib.hid (show past l (i + 1) = T ∧ i + 1 ≤ T ∧ T ≤ n from ⟨hT, hT ▸ past_ge l (i + 1), hT ▸ past_le HL.out hi⟩)
  clear cbh hT
  go_enter Try.func37, Try.ntmps37
  go_wp2_with (first | (go_at_call 38; first | ((with_reducible refine (CA0.out _ HRc.out).mono ?_); rintro e w9 ⟨rfl, rfl⟩) | ((with_reducible refine (CA1.out _ HRc.out).mono ?_); rintro e w9 ⟨rfl, rfl⟩) | ((with_reducible refine (CA2.out _ HRc.out).mono ?_); rintro e w9 ⟨rfl, rfl⟩)) | (go_at_call 54; refine (CBH.out w HR.out).mono ?_; rintro e w9 ⟨rfl, rfl⟩))
  go_loop [9] (fun iv => iv = .int .i64 ((i : Int) + 1)) (fun _ => 0)
  case atStart => rfl
  case round =>
    obtain rfl := hrel
    cases hf : l.findIdx? (spot a0) with
    | none =>
      have HFV := Lib.hid (show findV l (spot a0) = -1 by unfold findV; rw [hf])
      have HW := Lib.hid (show goesR l i = none by rw [HT.out]; unfold tailR; rw [hf])
      clear hf
      go_wp2_with (go_at_call 55; refine (where_r l a0 w HRc.out hn).mono ?_; rintro e w9 ⟨rfl, rfl⟩; rw [HFV.out])
      go_ret2
      rw [HW.out]
      exact Res.no HBc.out
    | some p =>
      have HPN := Lib.hid (show p < n by obtain ⟨h, _⟩ := List.findIdx?_eq_some_iff_getElem.1 hf; rw [HL.out] at h; exact h)
      have HFV := Lib.hid (show findV l (spot a0) = (p : Int) by unfold findV; rw [hf])
      obtain ⟨q, hq⟩ : ∃ q, past l p = q := ⟨_, rfl⟩
      have HPP := Lib.hid hq
      have HQN := Lib.hid (show q ≤ n from hq ▸ past_le HL.out (Nat.le_of_lt HPN.out))
      have W8 := Lib.hid (show goesR l i = if op l q = 24 ∧ ar l q ≠ a0 then some (swap l i 1 [(25, ar l q)]) else none by rw [HT.out]; unfold tailR; rw [hf]; simp only; rw [hq])
      clear hf hq
      have p0 : decide ((p : Int) < 0) = false := decide_eq_false (by omega)
      obtain ⟨oq, hoq⟩ : ∃ x, op l q = x := ⟨_, rfl⟩
      obtain ⟨aq, haq⟩ : ∃ x, ar l q = x := ⟨_, rfl⟩
      have HOQ := Lib.hid hoq
      have HAQ := Lib.hid haq
      rw [hoq, haq] at W8
      have caq := fun (U : World) (h : RdI U (some ⟨b, o, none⟩) n l) => at_r (c := c) l q U h hn
      rw [hoq] at caq
      have CAQ := Lib.hid caq
      have hqi : oq ≠ 0 → q < n := fun h => HIN.out q oq hoq h
      clear hoq haq caq
      by_cases h24 : oq = 24
      · subst h24
        have hqn := hqi (by decide)
        have q0 : (0 : Int) ≤ (q : Int) := Int.natCast_nonneg _
        have q1 : (q : Int) < (n : Int) := by omega
        cases hna : (aq == a0) with
        | true =>
          have HW := Lib.hid (show goesR l i = none by rw [W8.out, if_neg (fun h => h.2 (by simpa using hna))])
          have hnb : (aq != a0) = false := by simp only [bne, hna]; rfl
          go_upto_region 20 with (first | (go_at_call 55; refine (where_r l a0 w HRc.out hn).mono ?_; rintro e w9 ⟨rfl, rfl⟩; rw [HFV.out]) | (go_at_call 54; refine (behind_r l p w HRc.out (Nat.le_of_lt HPN.out) hn).mono ?_; rintro e w9 ⟨rfl, rfl⟩; rw [HPP.out]))
          obtain ⟨S, hSd⟩ : ∃ S : World → Prop, (fun U : World => RdI U (some ⟨b, o, none⟩) n l ∧ Below w.heap.size w U) = S := ⟨_, rfl⟩
          have HSI := Lib.hid (show ∀ U, RdI U (some ⟨b, o, none⟩) n l → Below w.heap.size w U → S U from fun U h h2 => by rw [← hSd]; exact ⟨h, h2⟩)
          have HSC := Lib.hid (show ∀ U, S U → U.cell? ⟨b, o + i * 2 + 1, none⟩ = some (.int .i64 a0) ∧ U.cell? ⟨b, o + q * 2 + 1, none⟩ = some (.int .i64 aq) from fun U h => by rw [← hSd] at h; exact ⟨HOP.out.2.2.2.1 ▸ (HCE.out U h.1 i hi).2, HAQ.out ▸ (HCE.out U h.1 q hqn).2⟩)
          have HRd := Lib.hid (HRc.out.below (Below.drew (Below.refl _ _)))
          have HBd := Lib.hid HBc.out.drew
          have hS0 : S w.drew := HSI.out _ HRd.out HBd.out
          clear hSd z0 hqi
          refine wp_region_held_drew (S := S) (by kernel_rfl) hS0 (fun hHeld => ?_)
          refine Rg.take (i := 0) (t := 110) rfl rfl (by kernel_rfl) (by kernel_rfl) (by kernel_rfl) (fun _ _ _ h => h) (by rfl) (by intro w0 hSw; obtain ⟨s0, s1⟩ := HSC.out _ hSw; have s2 := hnb; first | (go_simp; done) | (go_simp; with_reducible rfl)) (by assumption) ?_
          simp only [List.setIfInBounds_toArray, List.set_cons_zero, List.set_cons_succ]
          refine Rg.take (i := 1) (t := 111) rfl rfl (by kernel_rfl) (by kernel_rfl) (by kernel_rfl) (fun _ _ _ h => h) (by rfl) (by intro w0 hSw; obtain ⟨s0, s1⟩ := HSC.out _ hSw; have s2 := hnb; first | (go_simp; done) | (go_simp; with_reducible rfl)) (by assumption) ?_
          simp only [List.setIfInBounds_toArray, List.set_cons_zero, List.set_cons_succ]
          refine Rg.one (i := 2) (by kernel_rfl) ?_
          refine Rg.call (i := 2) (t := 112) rfl rfl (by rfl) (by go_simp; exact ⟨rfl, rfl⟩) ?_
          refine (CAQ.out w.drew HRd.out).mono ?_
          rintro e w9 ⟨rfl, rfl⟩
          refine ⟨_, rfl, S, fun _ h => h, hS0, ?_⟩
          simp only [List.setIfInBounds_toArray, List.set_cons_zero, List.set_cons_succ]
          refine Rg.take (i := 3) (t := 113) (v := .bool true) rfl rfl (by kernel_rfl) (by kernel_rfl) (by kernel_rfl) (fun _ _ _ h => h) (by rfl) (by intro w0 hSw; obtain ⟨s0, s1⟩ := HSC.out _ hSw; have s2 := hnb; first | (go_simp; done) | (go_simp; with_reducible rfl)) (by assumption) ?_
          simp only [List.setIfInBounds_toArray, List.set_cons_zero, List.set_cons_succ]
          refine Rg.take (i := 4) (t := 114) (v := .bool true) rfl rfl (by kernel_rfl) (by kernel_rfl) (by kernel_rfl) (fun _ _ _ h => h) (by rfl) (by intro w0 hSw; obtain ⟨s0, s1⟩ := HSC.out _ hSw; have s2 := hnb; first | (go_simp; done) | (go_simp; with_reducible rfl)) (by assumption) ?_
          simp only [List.setIfInBounds_toArray, List.set_cons_zero, List.set_cons_succ]
          refine Rg.take (i := 5) (t := 115) rfl rfl (by kernel_rfl) (by kernel_rfl) (by kernel_rfl) (fun _ _ _ h => h) (by rfl) (by intro w0 hSw; obtain ⟨s0, s1⟩ := HSC.out _ hSw; have s2 := hnb; first | (go_simp; done) | (go_simp; with_reducible rfl)) (by assumption) ?_
          simp only [List.setIfInBounds_toArray, List.set_cons_zero, List.set_cons_succ]
          refine Rg.take (i := 6) (t := 116) rfl rfl (by kernel_rfl) (by kernel_rfl) (by kernel_rfl) (fun _ _ _ h => h) (by rfl) (by intro w0 hSw; obtain ⟨s0, s1⟩ := HSC.out _ hSw; have s2 := hnb; first | (go_simp; done) | (go_simp; with_reducible rfl)) (by assumption) ?_
          simp only [List.setIfInBounds_toArray, List.set_cons_zero, List.set_cons_succ]
          refine Rg.take (i := 7) (t := 117) rfl rfl (by kernel_rfl) (by kernel_rfl) (by kernel_rfl) (fun _ _ _ h => h) (by rfl) (by intro w0 hSw; obtain ⟨s0, s1⟩ := HSC.out _ hSw; have s2 := hnb; first | (go_simp; done) | (go_simp; with_reducible rfl)) (by assumption) ?_
          simp only [List.setIfInBounds_toArray, List.set_cons_zero, List.set_cons_succ]
          refine Rg.take (i := 8) (t := 118) rfl rfl (by kernel_rfl) (by kernel_rfl) (by kernel_rfl) (fun _ _ _ h => h) (by rfl) (by intro w0 hSw; obtain ⟨s0, s1⟩ := HSC.out _ hSw; have s2 := hnb; first | (go_simp; done) | (go_simp; with_reducible rfl)) (by assumption) ?_
          simp only [List.setIfInBounds_toArray, List.set_cons_zero, List.set_cons_succ]
          refine Rg.take (i := 9) (t := 119) rfl rfl (by kernel_rfl) (by kernel_rfl) (by kernel_rfl) (fun _ _ _ h => h) (by rfl) (by intro w0 hSw; obtain ⟨s0, s1⟩ := HSC.out _ hSw; have s2 := hnb; first | (go_simp; done) | (go_simp; with_reducible rfl)) (by assumption) ?_
          simp only [List.setIfInBounds_toArray, List.set_cons_zero, List.set_cons_succ]
          refine Rg.take (i := 10) (t := 120) rfl rfl (by kernel_rfl) (by kernel_rfl) (by kernel_rfl) (fun _ _ _ h => h) (by rfl) (by intro w0 hSw; obtain ⟨s0, s1⟩ := HSC.out _ hSw; have s2 := hnb; first | (go_simp; done) | (go_simp; with_reducible rfl)) (by assumption) ?_
          simp only [List.setIfInBounds_toArray, List.set_cons_zero, List.set_cons_succ]
          refine Rg.take (i := 11) (t := 121) rfl rfl (by kernel_rfl) (by kernel_rfl) (by kernel_rfl) (fun _ _ _ h => h) (by rfl) (by intro w0 hSw; obtain ⟨s0, s1⟩ := HSC.out _ hSw; have s2 := hnb; first | (go_simp; done) | (go_simp; with_reducible rfl)) (by assumption) ?_
          simp only [List.setIfInBounds_toArray, List.set_cons_zero, List.set_cons_succ]
          refine Rg.take (i := 12) (t := 122) rfl rfl (by kernel_rfl) (by kernel_rfl) (by kernel_rfl) (fun _ _ _ h => h) (by rfl) (by intro w0 hSw; obtain ⟨s0, s1⟩ := HSC.out _ hSw; have s2 := hnb; first | (go_simp; done) | (go_simp; with_reducible rfl)) (by assumption) ?_
          simp only [List.setIfInBounds_toArray, List.set_cons_zero, List.set_cons_succ]
          refine Rg.take (i := 13) (t := 123) rfl rfl (by kernel_rfl) (by kernel_rfl) (by kernel_rfl) (fun _ _ _ h => h) (by rfl) (by intro w0 hSw; obtain ⟨s0, s1⟩ := HSC.out _ hSw; have s2 := hnb; first | (go_simp; done) | (go_simp; with_reducible rfl)) (by assumption) ?_
          simp only [List.setIfInBounds_toArray, List.set_cons_zero, List.set_cons_succ]
          refine Rg.take (i := 14) (t := 124) rfl rfl (by kernel_rfl) (by kernel_rfl) (by kernel_rfl) (fun _ _ _ h => h) (by rfl) (by intro w0 hSw; obtain ⟨s0, s1⟩ := HSC.out _ hSw; have s2 := hnb; first | (go_simp; done) | (go_simp; with_reducible rfl)) (by assumption) ?_
          simp only [List.setIfInBounds_toArray, List.set_cons_zero, List.set_cons_succ]
          refine Rg.take (i := 15) (t := 125) (v := .bool false) rfl rfl (by kernel_rfl) (by kernel_rfl) (by kernel_rfl) (fun _ _ _ h => h) (by rfl) (by intro w0 hSw; obtain ⟨s0, s1⟩ := HSC.out _ hSw; have s2 := hnb; first | (go_simp; done) | (go_simp; with_reducible rfl)) (by assumption) ?_
          simp only [List.setIfInBounds_toArray, List.set_cons_zero, List.set_cons_succ]
          refine Rg.take (i := 16) (t := 126) (v := .bool false) rfl rfl (by kernel_rfl) (by kernel_rfl) (by kernel_rfl) (fun _ _ _ h => h) (by rfl) (by intro w0 hSw; obtain ⟨s0, s1⟩ := HSC.out _ hSw; have s2 := hnb; first | (go_simp; done) | (go_simp; with_reducible rfl)) (by assumption) ?_
          simp only [List.setIfInBounds_toArray, List.set_cons_zero, List.set_cons_succ]
          refine wpAnyH_done (by kernel_rfl) ?_ _
          clear hS0
          go_wp2_with fail
          go_ret2
          rw [HW.out]
          exact Res.no HBd.out
        | false =>
          have HW := Lib.hid (show goesR l i = some (swap l i 1 [(25, aq)]) by rw [W8.out, if_pos ⟨rfl, by simpa using hna⟩])
          have hnb : (aq != a0) = true := by simp only [bne, hna]; rfl
          go_upto_region 20 with (first | (go_at_call 55; refine (where_r l a0 w HRc.out hn).mono ?_; rintro e w9 ⟨rfl, rfl⟩; rw [HFV.out]) | (go_at_call 54; refine (behind_r l p w HRc.out (Nat.le_of_lt HPN.out) hn).mono ?_; rintro e w9 ⟨rfl, rfl⟩; rw [HPP.out]))
          obtain ⟨S, hSd⟩ : ∃ S : World → Prop, (fun U : World => RdI U (some ⟨b, o, none⟩) n l ∧ Below w.heap.size w U) = S := ⟨_, rfl⟩
          have HSI := Lib.hid (show ∀ U, RdI U (some ⟨b, o, none⟩) n l → Below w.heap.size w U → S U from fun U h h2 => by rw [← hSd]; exact ⟨h, h2⟩)
          have HSC := Lib.hid (show ∀ U, S U → U.cell? ⟨b, o + i * 2 + 1, none⟩ = some (.int .i64 a0) ∧ U.cell? ⟨b, o + q * 2 + 1, none⟩ = some (.int .i64 aq) from fun U h => by rw [← hSd] at h; exact ⟨HOP.out.2.2.2.1 ▸ (HCE.out U h.1 i hi).2, HAQ.out ▸ (HCE.out U h.1 q hqn).2⟩)
          have HRd := Lib.hid (HRc.out.below (Below.drew (Below.refl _ _)))
          have HBd := Lib.hid HBc.out.drew
          have hS0 : S w.drew := HSI.out _ HRd.out HBd.out
          clear hSd z0 hqi
          refine wp_region_held_drew (S := S) (by kernel_rfl) hS0 (fun hHeld => ?_)
          refine Rg.take (i := 0) (t := 110) rfl rfl (by kernel_rfl) (by kernel_rfl) (by kernel_rfl) (fun _ _ _ h => h) (by rfl) (by intro w0 hSw; obtain ⟨s0, s1⟩ := HSC.out _ hSw; have s2 := hnb; first | (go_simp; done) | (go_simp; with_reducible rfl)) (by assumption) ?_
          simp only [List.setIfInBounds_toArray, List.set_cons_zero, List.set_cons_succ]
          refine Rg.take (i := 1) (t := 111) rfl rfl (by kernel_rfl) (by kernel_rfl) (by kernel_rfl) (fun _ _ _ h => h) (by rfl) (by intro w0 hSw; obtain ⟨s0, s1⟩ := HSC.out _ hSw; have s2 := hnb; first | (go_simp; done) | (go_simp; with_reducible rfl)) (by assumption) ?_
          simp only [List.setIfInBounds_toArray, List.set_cons_zero, List.set_cons_succ]
          refine Rg.one (i := 2) (by kernel_rfl) ?_
          refine Rg.call (i := 2) (t := 112) rfl rfl (by rfl) (by go_simp; exact ⟨rfl, rfl⟩) ?_
          refine (CAQ.out w.drew HRd.out).mono ?_
          rintro e w9 ⟨rfl, rfl⟩
          refine ⟨_, rfl, S, fun _ h => h, hS0, ?_⟩
          simp only [List.setIfInBounds_toArray, List.set_cons_zero, List.set_cons_succ]
          refine Rg.take (i := 3) (t := 113) (v := .bool true) rfl rfl (by kernel_rfl) (by kernel_rfl) (by kernel_rfl) (fun _ _ _ h => h) (by rfl) (by intro w0 hSw; obtain ⟨s0, s1⟩ := HSC.out _ hSw; have s2 := hnb; first | (go_simp; done) | (go_simp; with_reducible rfl)) (by assumption) ?_
          simp only [List.setIfInBounds_toArray, List.set_cons_zero, List.set_cons_succ]
          refine Rg.take (i := 4) (t := 114) (v := .bool true) rfl rfl (by kernel_rfl) (by kernel_rfl) (by kernel_rfl) (fun _ _ _ h => h) (by rfl) (by intro w0 hSw; obtain ⟨s0, s1⟩ := HSC.out _ hSw; have s2 := hnb; first | (go_simp; done) | (go_simp; with_reducible rfl)) (by assumption) ?_
          simp only [List.setIfInBounds_toArray, List.set_cons_zero, List.set_cons_succ]
          refine Rg.take (i := 5) (t := 115) rfl rfl (by kernel_rfl) (by kernel_rfl) (by kernel_rfl) (fun _ _ _ h => h) (by rfl) (by intro w0 hSw; obtain ⟨s0, s1⟩ := HSC.out _ hSw; have s2 := hnb; first | (go_simp; done) | (go_simp; with_reducible rfl)) (by assumption) ?_
          simp only [List.setIfInBounds_toArray, List.set_cons_zero, List.set_cons_succ]
          refine Rg.take (i := 6) (t := 116) rfl rfl (by kernel_rfl) (by kernel_rfl) (by kernel_rfl) (fun _ _ _ h => h) (by rfl) (by intro w0 hSw; obtain ⟨s0, s1⟩ := HSC.out _ hSw; have s2 := hnb; first | (go_simp; done) | (go_simp; with_reducible rfl)) (by assumption) ?_
          simp only [List.setIfInBounds_toArray, List.set_cons_zero, List.set_cons_succ]
          refine Rg.take (i := 7) (t := 117) rfl rfl (by kernel_rfl) (by kernel_rfl) (by kernel_rfl) (fun _ _ _ h => h) (by rfl) (by intro w0 hSw; obtain ⟨s0, s1⟩ := HSC.out _ hSw; have s2 := hnb; first | (go_simp; done) | (go_simp; with_reducible rfl)) (by assumption) ?_
          simp only [List.setIfInBounds_toArray, List.set_cons_zero, List.set_cons_succ]
          refine Rg.take (i := 8) (t := 118) rfl rfl (by kernel_rfl) (by kernel_rfl) (by kernel_rfl) (fun _ _ _ h => h) (by rfl) (by intro w0 hSw; obtain ⟨s0, s1⟩ := HSC.out _ hSw; have s2 := hnb; first | (go_simp; done) | (go_simp; with_reducible rfl)) (by assumption) ?_
          simp only [List.setIfInBounds_toArray, List.set_cons_zero, List.set_cons_succ]
          refine Rg.take (i := 9) (t := 119) rfl rfl (by kernel_rfl) (by kernel_rfl) (by kernel_rfl) (fun _ _ _ h => h) (by rfl) (by intro w0 hSw; obtain ⟨s0, s1⟩ := HSC.out _ hSw; have s2 := hnb; first | (go_simp; done) | (go_simp; with_reducible rfl)) (by assumption) ?_
          simp only [List.setIfInBounds_toArray, List.set_cons_zero, List.set_cons_succ]
          refine Rg.take (i := 10) (t := 120) rfl rfl (by kernel_rfl) (by kernel_rfl) (by kernel_rfl) (fun _ _ _ h => h) (by rfl) (by intro w0 hSw; obtain ⟨s0, s1⟩ := HSC.out _ hSw; have s2 := hnb; first | (go_simp; done) | (go_simp; with_reducible rfl)) (by assumption) ?_
          simp only [List.setIfInBounds_toArray, List.set_cons_zero, List.set_cons_succ]
          refine Rg.take (i := 11) (t := 121) rfl rfl (by kernel_rfl) (by kernel_rfl) (by kernel_rfl) (fun _ _ _ h => h) (by rfl) (by intro w0 hSw; obtain ⟨s0, s1⟩ := HSC.out _ hSw; have s2 := hnb; first | (go_simp; done) | (go_simp; with_reducible rfl)) (by assumption) ?_
          simp only [List.setIfInBounds_toArray, List.set_cons_zero, List.set_cons_succ]
          refine Rg.take (i := 12) (t := 122) rfl rfl (by kernel_rfl) (by kernel_rfl) (by kernel_rfl) (fun _ _ _ h => h) (by rfl) (by intro w0 hSw; obtain ⟨s0, s1⟩ := HSC.out _ hSw; have s2 := hnb; first | (go_simp; done) | (go_simp; with_reducible rfl)) (by assumption) ?_
          simp only [List.setIfInBounds_toArray, List.set_cons_zero, List.set_cons_succ]
          refine Rg.take (i := 13) (t := 123) rfl rfl (by kernel_rfl) (by kernel_rfl) (by kernel_rfl) (fun _ _ _ h => h) (by rfl) (by intro w0 hSw; obtain ⟨s0, s1⟩ := HSC.out _ hSw; have s2 := hnb; first | (go_simp; done) | (go_simp; with_reducible rfl)) (by assumption) ?_
          simp only [List.setIfInBounds_toArray, List.set_cons_zero, List.set_cons_succ]
          refine Rg.take (i := 14) (t := 124) rfl rfl (by kernel_rfl) (by kernel_rfl) (by kernel_rfl) (fun _ _ _ h => h) (by rfl) (by intro w0 hSw; obtain ⟨s0, s1⟩ := HSC.out _ hSw; have s2 := hnb; first | (go_simp; done) | (go_simp; with_reducible rfl)) (by assumption) ?_
          simp only [List.setIfInBounds_toArray, List.set_cons_zero, List.set_cons_succ]
          refine Rg.take (i := 15) (t := 125) (v := .bool true) rfl rfl (by kernel_rfl) (by kernel_rfl) (by kernel_rfl) (fun _ _ _ h => h) (by rfl) (by intro w0 hSw; obtain ⟨s0, s1⟩ := HSC.out _ hSw; have s2 := hnb; first | (go_simp; done) | (go_simp; with_reducible rfl)) (by assumption) ?_
          simp only [List.setIfInBounds_toArray, List.set_cons_zero, List.set_cons_succ]
          refine Rg.take (i := 16) (t := 126) (v := .bool true) rfl rfl (by kernel_rfl) (by kernel_rfl) (by kernel_rfl) (fun _ _ _ h => h) (by rfl) (by intro w0 hSw; obtain ⟨s0, s1⟩ := HSC.out _ hSw; have s2 := hnb; first | (go_simp; done) | (go_simp; with_reducible rfl)) (by assumption) ?_
          simp only [List.setIfInBounds_toArray, List.set_cons_zero, List.set_cons_succ]
          refine wpAnyH_done (by kernel_rfl) ?_ _
          have s0 := (HSC.out _ hS0).1
          have s1 := (HSC.out _ hS0).2
          clear hS0
          obtain ⟨w5, hw5⟩ : ∃ W, w.drew = W := ⟨_, rfl⟩
          rw [hw5] at HRd HBd s0 s1 ⊢
          clear hw5
          obtain ⟨w3, hw3⟩ : ∃ W, w5.alloc (.cells #[.int .i64 25, .int .i64 aq] 30) = W := ⟨_, rfl⟩
          have HB3a := Lib.hid (show Below w5.heap.size w5 w3 by rw [← hw3]; exact (Below.refl _ _).alloc (Nat.le_refl _) _)
          have HB3 := Lib.hid (HBd.out.trans (HB3a.out.mono HBd.out.size))
          have HV3 := Lib.hid (show RdI w3 (some ⟨w5.heap.size, 0, none⟩) 1 [(25, aq)] by rw [← hw3]; exact Sk.rd_lit w5 30 [(25, aq)] #[.int .i64 25, .int .i64 aq] rfl 1 rfl)
          go_wp2_with (go_at_call 40; refine (swap_r l [(25, aq)] i 1 w3 (HRd.out.below HB3a.out) HV3.out hc hi hn (by omega)).mono ?_; rintro e w4 ⟨v, rfl, ho, hb⟩; have HO := Lib.hid (ho.lower HB3.out.size); have HB4 := Lib.hid (HB3.out.trans (hb.mono HB3.out.size)); clear ho hb)
          go_ret2
          rw [HW.out]
          exact Res.yes HO.out HB4.out
      · have t24 : (oq == 24) = false := by simpa using h24
        have HW := Lib.hid (show goesR l i = none by rw [W8.out, if_neg (fun h => h24 h.1)])
        clear h24 hqi
        go_upto_region 20 with (first | (go_at_call 55; refine (where_r l a0 w HRc.out hn).mono ?_; rintro e w9 ⟨rfl, rfl⟩; rw [HFV.out]) | (go_at_call 54; refine (behind_r l p w HRc.out (Nat.le_of_lt HPN.out) hn).mono ?_; rintro e w9 ⟨rfl, rfl⟩; rw [HPP.out]))
        obtain ⟨S, hSd⟩ : ∃ S : World → Prop, (fun _ : World => True) = S := ⟨_, rfl⟩
        have hS0 : S w.drew := by rw [← hSd]; trivial
        have HRd := Lib.hid (HRc.out.below (Below.drew (Below.refl _ _)))
        clear hSd z0
        refine wp_region_held_drew (S := S) (by kernel_rfl) hS0 (fun hHeld => ?_)
        refine Rg.take (i := 0) (t := 110) rfl rfl (by kernel_rfl) (by kernel_rfl) (by kernel_rfl) (fun _ _ _ h => h) (by rfl) (by intro w0 hSw; have s2 := t24; first | (go_simp; done) | (go_simp; with_reducible rfl)) (by assumption) ?_
        simp only [List.setIfInBounds_toArray, List.set_cons_zero, List.set_cons_succ]
        refine Rg.take (i := 1) (t := 111) rfl rfl (by kernel_rfl) (by kernel_rfl) (by kernel_rfl) (fun _ _ _ h => h) (by rfl) (by intro w0 hSw; have s2 := t24; first | (go_simp; done) | (go_simp; with_reducible rfl)) (by assumption) ?_
        simp only [List.setIfInBounds_toArray, List.set_cons_zero, List.set_cons_succ]
        refine Rg.one (i := 2) (by kernel_rfl) ?_
        refine Rg.call (i := 2) (t := 112) rfl rfl (by rfl) (by go_simp; exact ⟨rfl, rfl⟩) ?_
        refine (CAQ.out w.drew HRd.out).mono ?_
        rintro e w9 ⟨rfl, rfl⟩
        refine ⟨_, rfl, S, fun _ h => h, hS0, ?_⟩
        simp only [List.setIfInBounds_toArray, List.set_cons_zero, List.set_cons_succ]
        refine Rg.take (i := 3) (t := 113) (v := .bool false) rfl rfl (by kernel_rfl) (by kernel_rfl) (by kernel_rfl) (fun _ _ _ h => h) (by rfl) (by intro w0 hSw; have s2 := t24; first | (go_simp; done) | (go_simp; with_reducible rfl)) (by assumption) ?_
        simp only [List.setIfInBounds_toArray, List.set_cons_zero, List.set_cons_succ]
        refine Rg.take (i := 4) (t := 114) (v := .bool false) rfl rfl (by kernel_rfl) (by kernel_rfl) (by kernel_rfl) (fun _ _ _ h => h) (by rfl) (by intro w0 hSw; have s2 := t24; first | (go_simp; done) | (go_simp; with_reducible rfl)) (by assumption) ?_
        simp only [List.setIfInBounds_toArray, List.set_cons_zero, List.set_cons_succ]
        refine Rg.pass (i := 5) (t := 115) rfl rfl (by kernel_rfl) (by kernel_rfl) (by kernel_rfl) (fun _ _ _ h => h) (by rfl) (by assumption) ?_
        simp only [List.setIfInBounds_toArray, List.set_cons_zero, List.set_cons_succ]
        refine Rg.pass (i := 6) (t := 116) rfl rfl (by kernel_rfl) (by kernel_rfl) (by kernel_rfl) (fun _ _ _ h => h) (by rfl) (by assumption) ?_
        simp only [List.setIfInBounds_toArray, List.set_cons_zero, List.set_cons_succ]
        refine Rg.pass (i := 7) (t := 117) rfl rfl (by kernel_rfl) (by kernel_rfl) (by kernel_rfl) (fun _ _ _ h => h) (by rfl) (by assumption) ?_
        simp only [List.setIfInBounds_toArray, List.set_cons_zero, List.set_cons_succ]
        refine Rg.pass (i := 8) (t := 118) rfl rfl (by kernel_rfl) (by kernel_rfl) (by kernel_rfl) (fun _ _ _ h => h) (by rfl) (by assumption) ?_
        simp only [List.setIfInBounds_toArray, List.set_cons_zero, List.set_cons_succ]
        refine Rg.pass (i := 9) (t := 119) rfl rfl (by kernel_rfl) (by kernel_rfl) (by kernel_rfl) (fun _ _ _ h => h) (by rfl) (by assumption) ?_
        simp only [List.setIfInBounds_toArray, List.set_cons_zero, List.set_cons_succ]
        refine Rg.pass (i := 10) (t := 120) rfl rfl (by kernel_rfl) (by kernel_rfl) (by kernel_rfl) (fun _ _ _ h => h) (by rfl) (by assumption) ?_
        simp only [List.setIfInBounds_toArray, List.set_cons_zero, List.set_cons_succ]
        refine Rg.pass (i := 11) (t := 121) rfl rfl (by kernel_rfl) (by kernel_rfl) (by kernel_rfl) (fun _ _ _ h => h) (by rfl) (by assumption) ?_
        simp only [List.setIfInBounds_toArray, List.set_cons_zero, List.set_cons_succ]
        refine Rg.pass (i := 12) (t := 122) rfl rfl (by kernel_rfl) (by kernel_rfl) (by kernel_rfl) (fun _ _ _ h => h) (by rfl) (by assumption) ?_
        simp only [List.setIfInBounds_toArray, List.set_cons_zero, List.set_cons_succ]
        refine Rg.pass (i := 13) (t := 123) rfl rfl (by kernel_rfl) (by kernel_rfl) (by kernel_rfl) (fun _ _ _ h => h) (by rfl) (by assumption) ?_
        simp only [List.setIfInBounds_toArray, List.set_cons_zero, List.set_cons_succ]
        refine Rg.pass (i := 14) (t := 124) rfl rfl (by kernel_rfl) (by kernel_rfl) (by kernel_rfl) (fun _ _ _ h => h) (by rfl) (by assumption) ?_
        simp only [List.setIfInBounds_toArray, List.set_cons_zero, List.set_cons_succ]
        refine Rg.pass (i := 15) (t := 125) rfl rfl (by kernel_rfl) (by kernel_rfl) (by kernel_rfl) (fun _ _ _ h => h) (by rfl) (by assumption) ?_
        simp only [List.setIfInBounds_toArray, List.set_cons_zero, List.set_cons_succ]
        refine Rg.take (i := 16) (t := 126) (v := .bool false) rfl rfl (by kernel_rfl) (by kernel_rfl) (by kernel_rfl) (fun _ _ _ h => h) (by rfl) (by intro w0 hSw; have s2 := t24; first | (go_simp; done) | (go_simp; with_reducible rfl)) (by assumption) ?_
        simp only [List.setIfInBounds_toArray, List.set_cons_zero, List.set_cons_succ]
        refine wpAnyH_done (by kernel_rfl) ?_ _
        clear hS0
        go_wp2_with fail
        go_ret2
        rw [HW.out]
        exact Res.no HBc.out.drew
set_option maxRecDepth 100000 in
set_option maxHeartbeats 4000000 in
theorem goes_r {A : Option Addr} {n c : Nat} (l : List Ins) (i : Nat) (w : World) (hr : RdI w A n l) (hc : n ≤ c) (hi : i < n) (hn : n ≤ 1048576) :
    Calls Try.prog 37 #[.slice A n c, .int .i64 (i : Int)] w (Res (goesR l i) (.slice A n c) w) := by
  by_cases h24 : op l i = 24
  · exact goes_r24 l i w hr hc hi hn h24
  by_cases h25 : op l i = 25
  · exact goes_r25 l i w hr hc hi hn h25
  have HL := Lib.hid (show l.length = n from hr.1.symm)
  obtain ⟨b, o, rfl, hb0, hcc⟩ := rd_open hr (Nat.lt_of_le_of_lt (Nat.zero_le _) hi)
  have HR := Lib.hid hr
  have HRc := Lib.hid hr
  have HBc := Lib.hid (Below.refl w.heap.size w)
  obtain ⟨o0, ho0⟩ : ∃ x, op l i = x := ⟨_, rfl⟩
  obtain ⟨o1, ho1⟩ : ∃ x, op l (i + 1) = x := ⟨_, rfl⟩
  obtain ⟨o2, ho2⟩ : ∃ x, op l (i + 2) = x := ⟨_, rfl⟩
  obtain ⟨a0, ha0⟩ : ∃ x, ar l i = x := ⟨_, rfl⟩
  obtain ⟨a1, ha1⟩ : ∃ x, ar l (i + 1) = x := ⟨_, rfl⟩
  obtain ⟨a2, ha2⟩ : ∃ x, ar l (i + 2) = x := ⟨_, rfl⟩
  have HOP := Lib.hid (show op l i = o0 ∧ op l (i + 1) = o1 ∧ op l (i + 2) = o2 ∧ ar l i = a0 ∧ ar l (i + 1) = a1 ∧ ar l (i + 2) = a2 from ⟨ho0, ho1, ho2, ha0, ha1, ha2⟩)
  have ca0 := fun (U : World) (h : RdI U (some ⟨b, o, none⟩) n l) => at_r (c := c) l i U h hn
  have ca1 := fun (U : World) (h : RdI U (some ⟨b, o, none⟩) n l) => at_r1 (c := c) l i U h hn
  have ca2 := fun (U : World) (h : RdI U (some ⟨b, o, none⟩) n l) => at_r2 (c := c) l i U h hn
  rw [ho0] at ca0
  rw [ho1] at ca1
  rw [ho2] at ca2
  have CA0 := Lib.hid ca0
  have CA1 := Lib.hid ca1
  have CA2 := Lib.hid ca2
  have HCE := Lib.hid (show ∀ U, RdI U (some ⟨b, o, none⟩) n l → ∀ k, k < n → U.cell? ⟨b, o + k * 2, none⟩ = some (.int .i64 (op l k)) ∧ U.cell? ⟨b, o + k * 2 + 1, none⟩ = some (.int .i64 (ar l k)) from fun U h k hk => rd_at h hk)
  have i0 : (0 : Int) ≤ (i : Int) := Int.natCast_nonneg _
  have i1 : (i : Int) < (n : Int) := by omega
  have hx1 := i64w (x := (i : Int) + 1) (by omega) (by omega)
  have hx2 := i64w (x := (i : Int) + 2) (by omega) (by omega)
  have z0 : w.cell? ⟨b, o + i * 2 + 1, none⟩ = some (.int .i64 a0) := ha0 ▸ (HCE.out w hr i hi).2
  have HIN := Lib.hid (show ∀ k x, op l k = x → x ≠ 0 → k < n from fun k x h h2 => HL.out ▸ op_in (by rw [h]; exact h2))
  clear hr hb0 hcc ho0 ho1 ho2 ha0 ha1 ha2 ca0 ca1 ca2
  have g24 : o0 ≠ 24 := fun h => h24 (HOP.out.1.trans h)
  have g25 : o0 ≠ 25 := fun h => h25 (HOP.out.1.trans h)
  clear h24 h25
  by_cases h27 : o0 = 27
  · subst h27
    go_enter Try.func37, Try.ntmps37
    go_wp2_with (go_at_call 38; first | ((with_reducible refine (CA0.out _ HRc.out).mono ?_); rintro e w9 ⟨rfl, rfl⟩) | ((with_reducible refine (CA1.out _ HRc.out).mono ?_); rintro e w9 ⟨rfl, rfl⟩) | ((with_reducible refine (CA2.out _ HRc.out).mono ?_); rintro e w9 ⟨rfl, rfl⟩))
    go_loop [7] (fun iv => ∃ j : Nat, i + 1 ≤ j ∧ j ≤ n ∧ iv = .int .i64 (j : Int) ∧ Hid (upto l j = upto l (i + 1))) (fun iv => n - (intOf iv).toNat)
    case atStart => exact ⟨i + 1, Nat.le_refl _, hi, by congr 1, Lib.hid rfl⟩
    case round =>
      obtain ⟨j, hij, hj, rfl, HT1⟩ := hrel
      by_cases hlt : j < n
      · have c0 := (HCE.out w HR.out j hlt).1
        have HS := Lib.hid (upto_step (show j < l.length by rw [HL.out]; exact hlt))
        obtain ⟨z, hz⟩ : ∃ z, op l j = z := ⟨_, rfl⟩
        rw [hz] at c0 HS
        have k0 : (0 : Int) ≤ (j : Int) := by omega
        have k1 : (j : Int) < (n : Int) := by omega
        clear hz
        cases hz : (z == 38) with
        | false =>
          have HT2 := Lib.hid (show upto l (j + 1) = upto l (i + 1) by rw [← HT1.out, HS.out, if_neg (by simpa using hz)])
          have hz2 : (z != 38) = true := by simp only [bne, hz]; rfl
          go_wp2_with fail
          go_round
          case rel => exact ⟨j + 1, by omega, by omega, by go_num, HT2⟩
          case measure => simp [intOf]; omega
        | true =>
          have HU := Lib.hid (show upto l (i + 1) = j by rw [← HT1.out, HS.out, if_pos (by simpa using hz)])
          have hz2 : (z != 38) = false := by simp only [bne, hz]; rfl
          clear HS HT1
          by_cases hji : j = i + 1
          · have HJ := Lib.hid (show upto l (i + 1) = i + 1 from hji ▸ HU.out)
            have g1 : decide ((i : Int) + 1 < (j : Int)) = false := decide_eq_false (by omega)
            have g2 : decide (i + 1 < j) = false := decide_eq_false (by omega)
            clear hji HU
            have HW := Lib.hid (goes_not HOP.out.1 (by decide) (fun _ => HJ.out))
            go_wp2_with fail
            go_ret2
            rw [HW.out]
            exact Res.no HBc.out
          · have HW := Lib.hid (goes_ends HOP.out.1 (by decide) HU.out (show i + 1 < j by omega))
            have g1 : decide ((i : Int) + 1 < (j : Int)) = true := decide_eq_true (by omega)
            have g2 : decide (i + 1 < j) = true := decide_eq_true (by omega)
            have y2 := i64w (x := (j : Int) - (i : Int)) (by omega) (by omega)
            have y3 := i64w (x := (j : Int) - (i : Int) - 1) (by omega) (by omega)
            have cs := fun (U : World) (h : RdI U (some ⟨b, o, none⟩) n l) => swap_r (B := none) (m := 0) (d := 0) l [] (i + 1) (j - (i + 1)) U h (Sk.Rd.nil _ none) hc (by omega) hn (by omega)
            rw [show ((i + 1 : Nat) : Int) = (i : Int) + 1 by omega, show ((j - (i + 1) : Nat) : Int) = (j : Int) - (i : Int) - 1 by omega] at cs
            have CS := Lib.hid cs
            clear cs hji HU
            go_wp2_with (go_at_call 40; refine (CS.out w HRc.out).mono ?_; rintro e w4 ⟨v, rfl, ho, hb⟩; have HO := Lib.hid (ho.lower HBc.out.size); have HB4 := Lib.hid (HBc.out.trans (hb.mono HBc.out.size)); clear ho hb)
            go_ret2
            rw [HW.out]
            exact Res.yes HO.out HB4.out
      · have HU := Lib.hid (show upto l (i + 1) = j by rw [← HT1.out, upto_end (by rw [HL.out]; omega)])
        have t1 : decide ((j : Int) < (n : Int)) = false := decide_eq_false (by omega)
        clear HT1
        by_cases hji : j = i + 1
        · have HJ := Lib.hid (show upto l (i + 1) = i + 1 from hji ▸ HU.out)
          have g1 : decide ((i : Int) + 1 < (j : Int)) = false := decide_eq_false (by omega)
          have g2 : decide (i + 1 < j) = false := decide_eq_false (by omega)
          clear hji HU
          have HW := Lib.hid (goes_not HOP.out.1 (by decide) (fun _ => HJ.out))
          go_wp2_with fail
          go_ret2
          rw [HW.out]
          exact Res.no HBc.out
        · have HW := Lib.hid (goes_ends HOP.out.1 (by decide) HU.out (show i + 1 < j by omega))
          have g1 : decide ((i : Int) + 1 < (j : Int)) = true := decide_eq_true (by omega)
          have g2 : decide (i + 1 < j) = true := decide_eq_true (by omega)
          have y2 := i64w (x := (j : Int) - (i : Int)) (by omega) (by omega)
          have y3 := i64w (x := (j : Int) - (i : Int) - 1) (by omega) (by omega)
          have cs := fun (U : World) (h : RdI U (some ⟨b, o, none⟩) n l) => swap_r (B := none) (m := 0) (d := 0) l [] (i + 1) (j - (i + 1)) U h (Sk.Rd.nil _ none) hc (by omega) hn (by omega)
          rw [show ((i + 1 : Nat) : Int) = (i : Int) + 1 by omega, show ((j - (i + 1) : Nat) : Int) = (j : Int) - (i : Int) - 1 by omega] at cs
          have CS := Lib.hid cs
          clear cs hji HU
          go_wp2_with (go_at_call 40; refine (CS.out w HRc.out).mono ?_; rintro e w4 ⟨v, rfl, ho, hb⟩; have HO := Lib.hid (ho.lower HBc.out.size); have HB4 := Lib.hid (HBc.out.trans (hb.mono HBc.out.size)); clear ho hb)
          go_ret2
          rw [HW.out]
          exact Res.yes HO.out HB4.out
  by_cases h28 : o0 = 28
  · subst h28
    go_enter Try.func37, Try.ntmps37
    go_wp2_with (go_at_call 38; first | ((with_reducible refine (CA0.out _ HRc.out).mono ?_); rintro e w9 ⟨rfl, rfl⟩) | ((with_reducible refine (CA1.out _ HRc.out).mono ?_); rintro e w9 ⟨rfl, rfl⟩) | ((with_reducible refine (CA2.out _ HRc.out).mono ?_); rintro e w9 ⟨rfl, rfl⟩))
    go_loop [7] (fun iv => ∃ j : Nat, i + 1 ≤ j ∧ j ≤ n ∧ iv = .int .i64 (j : Int) ∧ Hid (upto l j = upto l (i + 1))) (fun iv => n - (intOf iv).toNat)
    case atStart => exact ⟨i + 1, Nat.le_refl _, hi, by congr 1, Lib.hid rfl⟩
    case round =>
      obtain ⟨j, hij, hj, rfl, HT1⟩ := hrel
      by_cases hlt : j < n
      · have c0 := (HCE.out w HR.out j hlt).1
        have HS := Lib.hid (upto_step (show j < l.length by rw [HL.out]; exact hlt))
        obtain ⟨z, hz⟩ : ∃ z, op l j = z := ⟨_, rfl⟩
        rw [hz] at c0 HS
        have k0 : (0 : Int) ≤ (j : Int) := by omega
        have k1 : (j : Int) < (n : Int) := by omega
        clear hz
        cases hz : (z == 38) with
        | false =>
          have HT2 := Lib.hid (show upto l (j + 1) = upto l (i + 1) by rw [← HT1.out, HS.out, if_neg (by simpa using hz)])
          have hz2 : (z != 38) = true := by simp only [bne, hz]; rfl
          go_wp2_with fail
          go_round
          case rel => exact ⟨j + 1, by omega, by omega, by go_num, HT2⟩
          case measure => simp [intOf]; omega
        | true =>
          have HU := Lib.hid (show upto l (i + 1) = j by rw [← HT1.out, HS.out, if_pos (by simpa using hz)])
          have hz2 : (z != 38) = false := by simp only [bne, hz]; rfl
          clear HS HT1
          by_cases hji : j = i + 1
          · have HJ := Lib.hid (show upto l (i + 1) = i + 1 from hji ▸ HU.out)
            have g1 : decide ((i : Int) + 1 < (j : Int)) = false := decide_eq_false (by omega)
            have g2 : decide (i + 1 < j) = false := decide_eq_false (by omega)
            clear hji HU
            have HW := Lib.hid (goes_not HOP.out.1 (by decide) (fun _ => HJ.out))
            go_wp2_with fail
            go_ret2
            rw [HW.out]
            exact Res.no HBc.out
          · have HW := Lib.hid (goes_ends HOP.out.1 (by decide) HU.out (show i + 1 < j by omega))
            have g1 : decide ((i : Int) + 1 < (j : Int)) = true := decide_eq_true (by omega)
            have g2 : decide (i + 1 < j) = true := decide_eq_true (by omega)
            have y2 := i64w (x := (j : Int) - (i : Int)) (by omega) (by omega)
            have y3 := i64w (x := (j : Int) - (i : Int) - 1) (by omega) (by omega)
            have cs := fun (U : World) (h : RdI U (some ⟨b, o, none⟩) n l) => swap_r (B := none) (m := 0) (d := 0) l [] (i + 1) (j - (i + 1)) U h (Sk.Rd.nil _ none) hc (by omega) hn (by omega)
            rw [show ((i + 1 : Nat) : Int) = (i : Int) + 1 by omega, show ((j - (i + 1) : Nat) : Int) = (j : Int) - (i : Int) - 1 by omega] at cs
            have CS := Lib.hid cs
            clear cs hji HU
            go_wp2_with (go_at_call 40; refine (CS.out w HRc.out).mono ?_; rintro e w4 ⟨v, rfl, ho, hb⟩; have HO := Lib.hid (ho.lower HBc.out.size); have HB4 := Lib.hid (HBc.out.trans (hb.mono HBc.out.size)); clear ho hb)
            go_ret2
            rw [HW.out]
            exact Res.yes HO.out HB4.out
      · have HU := Lib.hid (show upto l (i + 1) = j by rw [← HT1.out, upto_end (by rw [HL.out]; omega)])
        have t1 : decide ((j : Int) < (n : Int)) = false := decide_eq_false (by omega)
        clear HT1
        by_cases hji : j = i + 1
        · have HJ := Lib.hid (show upto l (i + 1) = i + 1 from hji ▸ HU.out)
          have g1 : decide ((i : Int) + 1 < (j : Int)) = false := decide_eq_false (by omega)
          have g2 : decide (i + 1 < j) = false := decide_eq_false (by omega)
          clear hji HU
          have HW := Lib.hid (goes_not HOP.out.1 (by decide) (fun _ => HJ.out))
          go_wp2_with fail
          go_ret2
          rw [HW.out]
          exact Res.no HBc.out
        · have HW := Lib.hid (goes_ends HOP.out.1 (by decide) HU.out (show i + 1 < j by omega))
          have g1 : decide ((i : Int) + 1 < (j : Int)) = true := decide_eq_true (by omega)
          have g2 : decide (i + 1 < j) = true := decide_eq_true (by omega)
          have y2 := i64w (x := (j : Int) - (i : Int)) (by omega) (by omega)
          have y3 := i64w (x := (j : Int) - (i : Int) - 1) (by omega) (by omega)
          have cs := fun (U : World) (h : RdI U (some ⟨b, o, none⟩) n l) => swap_r (B := none) (m := 0) (d := 0) l [] (i + 1) (j - (i + 1)) U h (Sk.Rd.nil _ none) hc (by omega) hn (by omega)
          rw [show ((i + 1 : Nat) : Int) = (i : Int) + 1 by omega, show ((j - (i + 1) : Nat) : Int) = (j : Int) - (i : Int) - 1 by omega] at cs
          have CS := Lib.hid cs
          clear cs hji HU
          go_wp2_with (go_at_call 40; refine (CS.out w HRc.out).mono ?_; rintro e w4 ⟨v, rfl, ho, hb⟩; have HO := Lib.hid (ho.lower HBc.out.size); have HB4 := Lib.hid (HBc.out.trans (hb.mono HBc.out.size)); clear ho hb)
          go_ret2
          rw [HW.out]
          exact Res.yes HO.out HB4.out
  by_cases h29 : o0 = 29
  · subst h29
    go_enter Try.func37, Try.ntmps37
    go_wp2_with (go_at_call 38; first | ((with_reducible refine (CA0.out _ HRc.out).mono ?_); rintro e w9 ⟨rfl, rfl⟩) | ((with_reducible refine (CA1.out _ HRc.out).mono ?_); rintro e w9 ⟨rfl, rfl⟩) | ((with_reducible refine (CA2.out _ HRc.out).mono ?_); rintro e w9 ⟨rfl, rfl⟩))
    go_loop [7] (fun iv => ∃ j : Nat, i + 1 ≤ j ∧ j ≤ n ∧ iv = .int .i64 (j : Int) ∧ Hid (upto l j = upto l (i + 1))) (fun iv => n - (intOf iv).toNat)
    case atStart => exact ⟨i + 1, Nat.le_refl _, hi, by congr 1, Lib.hid rfl⟩
    case round =>
      obtain ⟨j, hij, hj, rfl, HT1⟩ := hrel
      by_cases hlt : j < n
      · have c0 := (HCE.out w HR.out j hlt).1
        have HS := Lib.hid (upto_step (show j < l.length by rw [HL.out]; exact hlt))
        obtain ⟨z, hz⟩ : ∃ z, op l j = z := ⟨_, rfl⟩
        rw [hz] at c0 HS
        have k0 : (0 : Int) ≤ (j : Int) := by omega
        have k1 : (j : Int) < (n : Int) := by omega
        clear hz
        cases hz : (z == 38) with
        | false =>
          have HT2 := Lib.hid (show upto l (j + 1) = upto l (i + 1) by rw [← HT1.out, HS.out, if_neg (by simpa using hz)])
          have hz2 : (z != 38) = true := by simp only [bne, hz]; rfl
          go_wp2_with fail
          go_round
          case rel => exact ⟨j + 1, by omega, by omega, by go_num, HT2⟩
          case measure => simp [intOf]; omega
        | true =>
          have HU := Lib.hid (show upto l (i + 1) = j by rw [← HT1.out, HS.out, if_pos (by simpa using hz)])
          have hz2 : (z != 38) = false := by simp only [bne, hz]; rfl
          clear HS HT1
          by_cases hji : j = i + 1
          · have HJ := Lib.hid (show upto l (i + 1) = i + 1 from hji ▸ HU.out)
            have g1 : decide ((i : Int) + 1 < (j : Int)) = false := decide_eq_false (by omega)
            have g2 : decide (i + 1 < j) = false := decide_eq_false (by omega)
            clear hji HU
            have HW := Lib.hid (goes_not HOP.out.1 (by decide) (fun _ => HJ.out))
            go_wp2_with fail
            go_ret2
            rw [HW.out]
            exact Res.no HBc.out
          · have HW := Lib.hid (goes_ends HOP.out.1 (by decide) HU.out (show i + 1 < j by omega))
            have g1 : decide ((i : Int) + 1 < (j : Int)) = true := decide_eq_true (by omega)
            have g2 : decide (i + 1 < j) = true := decide_eq_true (by omega)
            have y2 := i64w (x := (j : Int) - (i : Int)) (by omega) (by omega)
            have y3 := i64w (x := (j : Int) - (i : Int) - 1) (by omega) (by omega)
            have cs := fun (U : World) (h : RdI U (some ⟨b, o, none⟩) n l) => swap_r (B := none) (m := 0) (d := 0) l [] (i + 1) (j - (i + 1)) U h (Sk.Rd.nil _ none) hc (by omega) hn (by omega)
            rw [show ((i + 1 : Nat) : Int) = (i : Int) + 1 by omega, show ((j - (i + 1) : Nat) : Int) = (j : Int) - (i : Int) - 1 by omega] at cs
            have CS := Lib.hid cs
            clear cs hji HU
            go_wp2_with (go_at_call 40; refine (CS.out w HRc.out).mono ?_; rintro e w4 ⟨v, rfl, ho, hb⟩; have HO := Lib.hid (ho.lower HBc.out.size); have HB4 := Lib.hid (HBc.out.trans (hb.mono HBc.out.size)); clear ho hb)
            go_ret2
            rw [HW.out]
            exact Res.yes HO.out HB4.out
      · have HU := Lib.hid (show upto l (i + 1) = j by rw [← HT1.out, upto_end (by rw [HL.out]; omega)])
        have t1 : decide ((j : Int) < (n : Int)) = false := decide_eq_false (by omega)
        clear HT1
        by_cases hji : j = i + 1
        · have HJ := Lib.hid (show upto l (i + 1) = i + 1 from hji ▸ HU.out)
          have g1 : decide ((i : Int) + 1 < (j : Int)) = false := decide_eq_false (by omega)
          have g2 : decide (i + 1 < j) = false := decide_eq_false (by omega)
          clear hji HU
          have HW := Lib.hid (goes_not HOP.out.1 (by decide) (fun _ => HJ.out))
          go_wp2_with fail
          go_ret2
          rw [HW.out]
          exact Res.no HBc.out
        · have HW := Lib.hid (goes_ends HOP.out.1 (by decide) HU.out (show i + 1 < j by omega))
          have g1 : decide ((i : Int) + 1 < (j : Int)) = true := decide_eq_true (by omega)
          have g2 : decide (i + 1 < j) = true := decide_eq_true (by omega)
          have y2 := i64w (x := (j : Int) - (i : Int)) (by omega) (by omega)
          have y3 := i64w (x := (j : Int) - (i : Int) - 1) (by omega) (by omega)
          have cs := fun (U : World) (h : RdI U (some ⟨b, o, none⟩) n l) => swap_r (B := none) (m := 0) (d := 0) l [] (i + 1) (j - (i + 1)) U h (Sk.Rd.nil _ none) hc (by omega) hn (by omega)
          rw [show ((i + 1 : Nat) : Int) = (i : Int) + 1 by omega, show ((j - (i + 1) : Nat) : Int) = (j : Int) - (i : Int) - 1 by omega] at cs
          have CS := Lib.hid cs
          clear cs hji HU
          go_wp2_with (go_at_call 40; refine (CS.out w HRc.out).mono ?_; rintro e w4 ⟨v, rfl, ho, hb⟩; have HO := Lib.hid (ho.lower HBc.out.size); have HB4 := Lib.hid (HBc.out.trans (hb.mono HBc.out.size)); clear ho hb)
          go_ret2
          rw [HW.out]
          exact Res.yes HO.out HB4.out
  by_cases h30 : o0 = 30
  · subst h30
    go_enter Try.func37, Try.ntmps37
    go_wp2_with (go_at_call 38; first | ((with_reducible refine (CA0.out _ HRc.out).mono ?_); rintro e w9 ⟨rfl, rfl⟩) | ((with_reducible refine (CA1.out _ HRc.out).mono ?_); rintro e w9 ⟨rfl, rfl⟩) | ((with_reducible refine (CA2.out _ HRc.out).mono ?_); rintro e w9 ⟨rfl, rfl⟩))
    go_loop [7] (fun iv => ∃ j : Nat, i + 1 ≤ j ∧ j ≤ n ∧ iv = .int .i64 (j : Int) ∧ Hid (upto l j = upto l (i + 1))) (fun iv => n - (intOf iv).toNat)
    case atStart => exact ⟨i + 1, Nat.le_refl _, hi, by congr 1, Lib.hid rfl⟩
    case round =>
      obtain ⟨j, hij, hj, rfl, HT1⟩ := hrel
      by_cases hlt : j < n
      · have c0 := (HCE.out w HR.out j hlt).1
        have HS := Lib.hid (upto_step (show j < l.length by rw [HL.out]; exact hlt))
        obtain ⟨z, hz⟩ : ∃ z, op l j = z := ⟨_, rfl⟩
        rw [hz] at c0 HS
        have k0 : (0 : Int) ≤ (j : Int) := by omega
        have k1 : (j : Int) < (n : Int) := by omega
        clear hz
        cases hz : (z == 38) with
        | false =>
          have HT2 := Lib.hid (show upto l (j + 1) = upto l (i + 1) by rw [← HT1.out, HS.out, if_neg (by simpa using hz)])
          have hz2 : (z != 38) = true := by simp only [bne, hz]; rfl
          go_wp2_with fail
          go_round
          case rel => exact ⟨j + 1, by omega, by omega, by go_num, HT2⟩
          case measure => simp [intOf]; omega
        | true =>
          have HU := Lib.hid (show upto l (i + 1) = j by rw [← HT1.out, HS.out, if_pos (by simpa using hz)])
          have hz2 : (z != 38) = false := by simp only [bne, hz]; rfl
          clear HS HT1
          by_cases hji : j = i + 1
          · have HJ := Lib.hid (show upto l (i + 1) = i + 1 from hji ▸ HU.out)
            have g1 : decide ((i : Int) + 1 < (j : Int)) = false := decide_eq_false (by omega)
            have g2 : decide (i + 1 < j) = false := decide_eq_false (by omega)
            clear hji HU
            have HW := Lib.hid (goes_not HOP.out.1 (by decide) (fun _ => HJ.out))
            go_wp2_with fail
            go_ret2
            rw [HW.out]
            exact Res.no HBc.out
          · have HW := Lib.hid (goes_ends HOP.out.1 (by decide) HU.out (show i + 1 < j by omega))
            have g1 : decide ((i : Int) + 1 < (j : Int)) = true := decide_eq_true (by omega)
            have g2 : decide (i + 1 < j) = true := decide_eq_true (by omega)
            have y2 := i64w (x := (j : Int) - (i : Int)) (by omega) (by omega)
            have y3 := i64w (x := (j : Int) - (i : Int) - 1) (by omega) (by omega)
            have cs := fun (U : World) (h : RdI U (some ⟨b, o, none⟩) n l) => swap_r (B := none) (m := 0) (d := 0) l [] (i + 1) (j - (i + 1)) U h (Sk.Rd.nil _ none) hc (by omega) hn (by omega)
            rw [show ((i + 1 : Nat) : Int) = (i : Int) + 1 by omega, show ((j - (i + 1) : Nat) : Int) = (j : Int) - (i : Int) - 1 by omega] at cs
            have CS := Lib.hid cs
            clear cs hji HU
            go_wp2_with (go_at_call 40; refine (CS.out w HRc.out).mono ?_; rintro e w4 ⟨v, rfl, ho, hb⟩; have HO := Lib.hid (ho.lower HBc.out.size); have HB4 := Lib.hid (HBc.out.trans (hb.mono HBc.out.size)); clear ho hb)
            go_ret2
            rw [HW.out]
            exact Res.yes HO.out HB4.out
      · have HU := Lib.hid (show upto l (i + 1) = j by rw [← HT1.out, upto_end (by rw [HL.out]; omega)])
        have t1 : decide ((j : Int) < (n : Int)) = false := decide_eq_false (by omega)
        clear HT1
        by_cases hji : j = i + 1
        · have HJ := Lib.hid (show upto l (i + 1) = i + 1 from hji ▸ HU.out)
          have g1 : decide ((i : Int) + 1 < (j : Int)) = false := decide_eq_false (by omega)
          have g2 : decide (i + 1 < j) = false := decide_eq_false (by omega)
          clear hji HU
          have HW := Lib.hid (goes_not HOP.out.1 (by decide) (fun _ => HJ.out))
          go_wp2_with fail
          go_ret2
          rw [HW.out]
          exact Res.no HBc.out
        · have HW := Lib.hid (goes_ends HOP.out.1 (by decide) HU.out (show i + 1 < j by omega))
          have g1 : decide ((i : Int) + 1 < (j : Int)) = true := decide_eq_true (by omega)
          have g2 : decide (i + 1 < j) = true := decide_eq_true (by omega)
          have y2 := i64w (x := (j : Int) - (i : Int)) (by omega) (by omega)
          have y3 := i64w (x := (j : Int) - (i : Int) - 1) (by omega) (by omega)
          have cs := fun (U : World) (h : RdI U (some ⟨b, o, none⟩) n l) => swap_r (B := none) (m := 0) (d := 0) l [] (i + 1) (j - (i + 1)) U h (Sk.Rd.nil _ none) hc (by omega) hn (by omega)
          rw [show ((i + 1 : Nat) : Int) = (i : Int) + 1 by omega, show ((j - (i + 1) : Nat) : Int) = (j : Int) - (i : Int) - 1 by omega] at cs
          have CS := Lib.hid cs
          clear cs hji HU
          go_wp2_with (go_at_call 40; refine (CS.out w HRc.out).mono ?_; rintro e w4 ⟨v, rfl, ho, hb⟩; have HO := Lib.hid (ho.lower HBc.out.size); have HB4 := Lib.hid (HBc.out.trans (hb.mono HBc.out.size)); clear ho hb)
          go_ret2
          rw [HW.out]
          exact Res.yes HO.out HB4.out
  have HW := Lib.hid (goes_not HOP.out.1 (by unfold jumpsB; simp [g24, g25]) (fun h => by unfold endsB at h; simp [g24, h27, h28, h29, h30] at h))
  have s24 : (o0 == 24) = false := by simpa using g24
  have s25 : (o0 == 25) = false := by simpa using g25
  have s27 : (o0 == 27) = false := by simpa using h27
  have s28 : (o0 == 28) = false := by simpa using h28
  have s29 : (o0 == 29) = false := by simpa using h29
  have s30 : (o0 == 30) = false := by simpa using h30
  have s24n : (o0 != 24) = true := by simpa using g24
  have s25n : (o0 != 25) = true := by simpa using g25
  clear g24 g25 h27 h28 h29 h30
  go_enter Try.func37, Try.ntmps37
  go_wp2_with (go_at_call 38; first | ((with_reducible refine (CA0.out _ HRc.out).mono ?_); rintro e w9 ⟨rfl, rfl⟩) | ((with_reducible refine (CA1.out _ HRc.out).mono ?_); rintro e w9 ⟨rfl, rfl⟩) | ((with_reducible refine (CA2.out _ HRc.out).mono ?_); rintro e w9 ⟨rfl, rfl⟩))
  go_ret2
  rw [HW.out]
  exact Res.no HBc.out
end Go.Proofs.Ytmilnfboglhdgaa.PeepI
