/- further, and the ten ways, of chapter 29. Conditions: lengths of 1048576 at most. -/
import Derived.Test.YtmilnfboglhdgaaPeepC
import Derived.Test.YtmilnfboglhdgaaCore
namespace Go.Proofs.Ytmilnfboglhdgaa.PeepD
open Go Go.RowKit NestP NestW Sq ValP ValW ValY PeepP PeepW PeepX PeepY PeepZ PeepC

theorem rd_at {w : World} {b o n : Nat} {l : List Ins} (h : RdI w (some ⟨b, o, none⟩) n l) {k : Nat} (hk : k < n) : w.cell? ⟨b, o + k * 2, none⟩ = some (.int .i64 (op l k)) ∧ w.cell? ⟨b, o + k * 2 + 1, none⟩ = some (.int .i64 (ar l k)) := by
  obtain ⟨b', o', e, _, hc⟩ := rd_open h (Nat.lt_of_le_of_lt (Nat.zero_le _) hk)
  injection e with e
  injection e with e1 e2
  subst e1 e2
  exact hc k hk
theorem boxes {w W : World} {A : Option Addr} {n c i : Nat} {l : List Ins} (hr : RdI w A n l) (h : (w.alloc (.cells #[.slice A n c] 31)).alloc (.cells #[.int .i64 (i : Int)] 3) = W) :
    Bx2 W w.heap.size (w.heap.size + 1) A n c i l ∧ Below w.heap.size w W := by
  obtain ⟨hs, h1, h2, hb⟩ := MvR.alloc2 h
  exact ⟨⟨by simp [World.cell?, h1], by simp [World.cell?, h2], hr.below hb, by omega, by omega⟩, hb⟩
theorem WayP.up {o : Option (List Ins)} {w w1 : World} {e : Ending} {w' : World} (h : WayP o w1 e w') (hb : Below w.heap.size w w1) : WayP o w e w' := by
  obtain ⟨v, h1, h2, h3⟩ := h
  exact ⟨v, h1, fun m hm => (h2 m hm).lower hb.size, hb.trans (h3.mono hb.size)⟩
theorem labs_take (l : List Ins) (i : Nat) : (l.drop i).take (past l i - i) = labs l i := by
  have h : past l i - i = (labs l i).length := by unfold past; omega
  rw [h]
  exact (List.prefix_iff_eq_take.1 (List.takeWhile_prefix _)).symm
theorem past_le {l : List Ins} {i n : Nat} (hl : l.length = n) (h : i ≤ n) : past l i ≤ n := hl ▸ past_op l i (hl.symm ▸ h)
theorem past_ge (l : List Ins) (i : Nat) : i ≤ past l i := Nat.le_add_right _ _
theorem run_cut {P : Program} (t e : TypeId) (size : Nat) (hu : P.underlying t = some (.slice e)) (hs : (P.info? e).map (·.size) = some size) (a : Option Addr) (len cap l h : Nat) (hl : l ≤ h) (hh : h ≤ cap) (w : World) :
    (Instr.slice t (.slice a len cap) (some (.int .i64 (l : Int))) (some (.int .i64 (h : Int))) none).run P w = .ok (.slice (Slic.cutAt a cap l size) (h - l) (cap - l)) w := by
  obtain ⟨i, hi, hz⟩ : ∃ i, P.info? e = some i ∧ i.size = size := by
    cases h : P.info? e with
    | none => rw [h] at hs; cases hs
    | some i => rw [h] at hs; exact ⟨i, rfl, by simpa using hs⟩
  simp [Instr.slice, Instr.sliceBounds, Instr.sliceBound, run_underlying hu, asIntOf, sizeOf, typeInfo, hi, hz, Slic.cutAt]
  rw [if_pos hh, if_pos hl]
theorem at_none {l : List Ins} {p : Ins → Bool} {k : Int} (h : (k = -1 ∧ l.findIdx? p = none) ∨ ∃ j : Nat, k = (j : Int) ∧ j < l.length ∧ l.findIdx? p = some j) (hf : l.findIdx? p = none) : k = -1 := by
  rcases h with h | ⟨j, _, _, h⟩
  · exact h.1
  · rw [hf] at h; cases h
theorem at_some {l : List Ins} {p : Ins → Bool} {k : Int} {q : Nat} (h : (k = -1 ∧ l.findIdx? p = none) ∨ ∃ j : Nat, k = (j : Int) ∧ j < l.length ∧ l.findIdx? p = some j) (hf : l.findIdx? p = some q) : k = (q : Int) := by
  rcases h with h | ⟨j, e, _, h⟩
  · rw [hf] at h; cases h.2
  · rw [hf] at h
    injection h with h
    rw [e, h]
/-- x[l:h] reads. -/
theorem rd_cut {w : World} {A : Option Addr} {n : Nat} {l : List Ins} (hr : RdI w A n l) {lo hi cap : Nat} (h1 : lo ≤ hi) (h2 : hi ≤ n) (hc : n ≤ cap) : RdI w (Slic.cutAt A cap lo 2) (hi - lo) ((l.drop lo).take (hi - lo)) :=
  (hr.low InsE_len lo cap (Nat.le_trans h1 h2) hc).high (hi - lo) (by omega)
set_option maxRecDepth 100000 in
set_option maxHeartbeats 1000000 in
theorem further_i {A : Option Addr} {n c : Nat} (l : List Ins) (i : Nat) (w : World) (hr : RdI w A n l) (hc : n ≤ c) (hi : i < n) (hn : n ≤ 1048576) :
    Calls Try.prog 32 #[.slice A n c, .int .i64 (i : Int)] w (WayP (way8 l i) w) := by
  have HL := Lib.hid (show l.length = n from hr.1.symm)
  obtain ⟨b, o, rfl, hb0, _⟩ := rd_open hr (Nat.lt_of_le_of_lt (Nat.zero_le _) hi)
  obtain ⟨w1, hw1⟩ : ∃ W, (w.alloc (.cells #[.slice (some ⟨b, o, none⟩) n c] 31)).alloc (.cells #[.int .i64 (i : Int)] 3) = W := ⟨_, rfl⟩
  obtain ⟨hx, hbx⟩ := boxes (i := i) (c := c) hr hw1
  have HX := Lib.hid hx
  have HB := Lib.hid hbx
  clear hr hx hbx hb0
  obtain ⟨o0, ho0⟩ : ∃ x, op l i = x := ⟨_, rfl⟩
  obtain ⟨a0, ha0⟩ : ∃ x, ar l i = x := ⟨_, rfl⟩
  have HO0 := Lib.hid ho0
  have HA0 := Lib.hid ha0
  have HCL := Lib.hid (show ∀ U, Bx2 U w.heap.size (w.heap.size + 1) (some ⟨b, o, none⟩) n c i l → U.cell? ⟨b, o + i * 2, none⟩ = some (.int .i64 o0) ∧ U.cell? ⟨b, o + i * 2 + 1, none⟩ = some (.int .i64 a0) from fun U h => by have h2 := rd_at h.rd hi; rw [ho0, ha0] at h2; exact h2)
  clear ho0 ha0
  have i0 : (0 : Int) ≤ (i : Int) := Int.natCast_nonneg _
  have i1 : (i : Int) < (n : Int) := by omega
  have x0 := HX.out.box
  have x1 := HX.out.idx
  have c0 := (HCL.out _ HX.out).1
  have c1 := (HCL.out _ HX.out).2
  cases hj : jumpsB o0 with
  | false =>
    have HJ := Lib.hid hj
    have HW := Lib.hid (show way8 l i = none by unfold way8; rw [HO0.out, hj, if_neg (by simp)])
    clear hj
    go_enter Try.func32, Try.ntmps32
    go_wp2_with (first | (go_at_call 47; refine (indexFunc_i 48 _ (.pointer (some ⟨w.heap.size, 0, none⟩)) (.pointer (some ⟨w.heap.size + 1, 0, none⟩)) rfl l (spot (ar l i)) w1 HX.out.rd hn (fun _ _ => rfl) (fun x U hU => fur1_i l i x U (HX.out.below hU) hi hn)).mono ?_; rintro e w2 ⟨kk, rfl, hk, hb⟩; have HK := Lib.hid hk; clear hk; have HX2 := Lib.hid (HX.out.below hb); clear x0 x1 c0 c1 HX; have HX := HX2; clear HX2; have HB2 := Lib.hid (HB.out.trans (hb.mono HB.out.size)); clear HB; have HB := HB2; clear HB2 hb; have x0 := HX.out.box; have x1 := HX.out.idx; have c0 := (HCL.out _ HX.out).1; have c1 := (HCL.out _ HX.out).2) | (go_at_call 34; refine (jumps_i (o0, a0) w2).mono ?_; rintro e w3 ⟨rfl, hb⟩; have HX2 := Lib.hid (HX.out.below hb); clear x0 x1 c0 c1 HX; have HX := HX2; clear HX2; have HB2 := Lib.hid (HB.out.trans (hb.mono HB.out.size)); clear HB; have HB := HB2; clear HB2 hb; have x0 := HX.out.box; have x1 := HX.out.idx; have c0 := (HCL.out _ HX.out).1; have c1 := (HCL.out _ HX.out).2; rw [HJ.out]))
    go_ret2
    rw [HW.out]
    exact WayP.no HB.out
  | true =>
    have HJ := Lib.hid hj
    clear hj
    cases hf : l.findIdx? (spot (ar l i)) with
    | none =>
      have HF := Lib.hid hf
      have HW := Lib.hid (show way8 l i = none by unfold way8; rw [hf]; split <;> rfl)
      clear hf
      go_enter Try.func32, Try.ntmps32
      go_wp2_with (first | (go_at_call 47; refine (indexFunc_i 48 _ (.pointer (some ⟨w.heap.size, 0, none⟩)) (.pointer (some ⟨w.heap.size + 1, 0, none⟩)) rfl l (spot (ar l i)) w1 HX.out.rd hn (fun _ _ => rfl) (fun x U hU => fur1_i l i x U (HX.out.below hU) hi hn)).mono ?_; rintro e w2 ⟨kk, rfl, hk, hb⟩; have HK := Lib.hid hk; clear hk; obtain rfl := at_none HK.out HF.out; have HX2 := Lib.hid (HX.out.below hb); clear x0 x1 c0 c1 HX; have HX := HX2; clear HX2; have HB2 := Lib.hid (HB.out.trans (hb.mono HB.out.size)); clear HB; have HB := HB2; clear HB2 hb; have x0 := HX.out.box; have x1 := HX.out.idx; have c0 := (HCL.out _ HX.out).1; have c1 := (HCL.out _ HX.out).2) | (go_at_call 34; refine (jumps_i (o0, a0) w2).mono ?_; rintro e w3 ⟨rfl, hb⟩; have HX2 := Lib.hid (HX.out.below hb); clear x0 x1 c0 c1 HX; have HX := HX2; clear HX2; have HB2 := Lib.hid (HB.out.trans (hb.mono HB.out.size)); clear HB; have HB := HB2; clear HB2 hb; have x0 := HX.out.box; have x1 := HX.out.idx; have c0 := (HCL.out _ HX.out).1; have c1 := (HCL.out _ HX.out).2; rw [HJ.out]))
      go_ret2
      rw [HW.out]
      exact WayP.no HB.out
    | some p =>
      have HF := Lib.hid hf
      have HPN := Lib.hid (show p < n by obtain ⟨h, _⟩ := List.findIdx?_eq_some_iff_getElem.1 hf; rw [HL.out] at h; exact h)
      obtain ⟨q, hq⟩ : ∃ q, past l p = q := ⟨_, rfl⟩
      have HPP := Lib.hid hq
      have HQN := Lib.hid (show q ≤ n from hq ▸ past_le HL.out (Nat.le_of_lt HPN.out))
      have W8 := Lib.hid (show way8 l i = if q < n ∧ op l q = 24 ∧ ar l q ≠ a0 then some (swap l i 1 [(o0, ar l q)]) else none by unfold way8; rw [HO0.out, HJ.out, if_pos rfl, hf]; simp only; rw [hq, HL.out, HA0.out])
      clear hf hq
      have p0 : decide ((p : Int) < 0) = false := decide_eq_false (by omega)
      by_cases hqn : q < n
      · have HQ := Lib.hid hqn
        have HD := Lib.hid (show ∀ U, Bx2 U w.heap.size (w.heap.size + 1) (some ⟨b, o, none⟩) n c i l → U.cell? ⟨b, o + q * 2, none⟩ = some (.int .i64 (op l q)) ∧ U.cell? ⟨b, o + q * 2 + 1, none⟩ = some (.int .i64 (ar l q)) from fun U h => rd_at h.rd hqn)
        obtain ⟨oq, hoq⟩ : ∃ x, op l q = x := ⟨_, rfl⟩
        obtain ⟨aq, haq⟩ : ∃ x, ar l q = x := ⟨_, rfl⟩
        rw [hoq, haq] at HD W8
        clear hoq haq
        have q0 : (0 : Int) ≤ (q : Int) := Int.natCast_nonneg _
        have q1 : (q : Int) < (n : Int) := by omega
        have t1 : decide ((n : Int) ≤ (q : Int)) = false := decide_eq_false (by omega)
        have t1n : decide (n ≤ q) = false := decide_eq_false (by omega)
        clear hqn
        by_cases h24 : oq = 24
        · have t2 : (oq != 24) = false := by simpa using h24
          cases hna : (aq == a0) with
          | true =>
            have HW := Lib.hid (show way8 l i = none by rw [W8.out, if_neg (fun h => h.2.2 (by simpa using hna))])
            clear h24
            go_enter Try.func32, Try.ntmps32
            go_upto_region 5 with (first | (go_at_call 47; refine (indexFunc_i 48 _ (.pointer (some ⟨w.heap.size, 0, none⟩)) (.pointer (some ⟨w.heap.size + 1, 0, none⟩)) rfl l (spot (ar l i)) w1 HX.out.rd hn (fun _ _ => rfl) (fun x U hU => fur1_i l i x U (HX.out.below hU) hi hn)).mono ?_; rintro e w2 ⟨kk, rfl, hk, hb⟩; have HK := Lib.hid hk; clear hk; obtain rfl := at_some HK.out HF.out; have HX2 := Lib.hid (HX.out.below hb); clear x0 x1 c0 c1 HX; have HX := HX2; clear HX2; have HB2 := Lib.hid (HB.out.trans (hb.mono HB.out.size)); clear HB; have HB := HB2; clear HB2 hb; have x0 := HX.out.box; have x1 := HX.out.idx; have c0 := (HCL.out _ HX.out).1; have c1 := (HCL.out _ HX.out).2) | (go_at_call 34; refine (jumps_i (o0, a0) w2).mono ?_; rintro e w3 ⟨rfl, hb⟩; have HX2 := Lib.hid (HX.out.below hb); clear x0 x1 c0 c1 HX; have HX := HX2; clear HX2; have HB2 := Lib.hid (HB.out.trans (hb.mono HB.out.size)); clear HB; have HB := HB2; clear HB2 hb; have x0 := HX.out.box; have x1 := HX.out.idx; have c0 := (HCL.out _ HX.out).1; have c1 := (HCL.out _ HX.out).2; rw [HJ.out]) | (go_at_call 30; refine (past_i l p w3 HX.out.rd (Nat.le_of_lt HPN.out) hn).mono ?_; rintro e w4 ⟨rfl, rfl⟩; rw [HPP.out]))
            have d0 := (HD.out _ HX.out).1
            have d1 := (HD.out _ HX.out).2
            go_quiet (fail)
            go_wp2_with fail
            go_ret2
            rw [HW.out]
            exact WayP.no (belowN HB.out _)
          | false =>
            have HW := Lib.hid (show way8 l i = some (swap l i 1 [(o0, aq)]) by rw [W8.out, if_pos ⟨HQ.out, h24, by simpa using hna⟩])
            clear h24
            go_enter Try.func32, Try.ntmps32
            go_upto_region 5 with (first | (go_at_call 47; refine (indexFunc_i 48 _ (.pointer (some ⟨w.heap.size, 0, none⟩)) (.pointer (some ⟨w.heap.size + 1, 0, none⟩)) rfl l (spot (ar l i)) w1 HX.out.rd hn (fun _ _ => rfl) (fun x U hU => fur1_i l i x U (HX.out.below hU) hi hn)).mono ?_; rintro e w2 ⟨kk, rfl, hk, hb⟩; have HK := Lib.hid hk; clear hk; obtain rfl := at_some HK.out HF.out; have HX2 := Lib.hid (HX.out.below hb); clear x0 x1 c0 c1 HX; have HX := HX2; clear HX2; have HB2 := Lib.hid (HB.out.trans (hb.mono HB.out.size)); clear HB; have HB := HB2; clear HB2 hb; have x0 := HX.out.box; have x1 := HX.out.idx; have c0 := (HCL.out _ HX.out).1; have c1 := (HCL.out _ HX.out).2) | (go_at_call 34; refine (jumps_i (o0, a0) w2).mono ?_; rintro e w3 ⟨rfl, hb⟩; have HX2 := Lib.hid (HX.out.below hb); clear x0 x1 c0 c1 HX; have HX := HX2; clear HX2; have HB2 := Lib.hid (HB.out.trans (hb.mono HB.out.size)); clear HB; have HB := HB2; clear HB2 hb; have x0 := HX.out.box; have x1 := HX.out.idx; have c0 := (HCL.out _ HX.out).1; have c1 := (HCL.out _ HX.out).2; rw [HJ.out]) | (go_at_call 30; refine (past_i l p w3 HX.out.rd (Nat.le_of_lt HPN.out) hn).mono ?_; rintro e w4 ⟨rfl, rfl⟩; rw [HPP.out]))
            have d0 := (HD.out _ HX.out).1
            have d1 := (HD.out _ HX.out).2
            go_quiet (fail)
            go_upto_region 7 with fail
            clear d0 d1 x0 x1 c0 c1
            generalize hw4 : World.drewN w3 _ = w4
            have HB4 := Lib.hid (show Below w.heap.size w w4 from hw4 ▸ belowN HB.out _)
            have HX4 := Lib.hid (show Bx2 w4 w.heap.size (w.heap.size + 1) (some ⟨b, o, none⟩) n c i l from hw4 ▸ HX.out.below (belowN (Below.refl _ _) _))
            clear hw4
            obtain ⟨S, hSd⟩ : ∃ S : World → Prop, (fun U : World => Bx2 U w.heap.size (w.heap.size + 1) (some ⟨b, o, none⟩) n c i l) = S := ⟨_, rfl⟩
            have HSC := Lib.hid (show ∀ U, S U → Bx2 U w.heap.size (w.heap.size + 1) (some ⟨b, o, none⟩) n c i l from fun U h => by rw [← hSd] at h; exact h)
            have HSI := Lib.hid (show ∀ U, Bx2 U w.heap.size (w.heap.size + 1) (some ⟨b, o, none⟩) n c i l → S U from fun U h => by rw [← hSd]; exact h)
            have hS0 : S w4.drew := HSI.out _ (HX4.out.below (Below.drew (Below.refl _ _)))
            clear hSd
            refine wp_region_held_drew (S := S) (by kernel_rfl) hS0 (fun hHeld => ?_)
            refine Rg.take (i := 0) (t := 48) rfl rfl (by kernel_rfl) (by kernel_rfl) (by kernel_rfl) (fun _ _ _ h => h) (by rfl) (by intro w0 hSw; have hbx := HSC.out _ hSw; have x0 := hbx.box; have x1 := hbx.idx; have c0 := (HCL.out _ hbx).1; have c1 := (HCL.out _ hbx).2; have d0 := (HD.out _ hbx).1; have d1 := (HD.out _ hbx).2; first | (go_simp; done) | (go_simp; with_reducible rfl)) (by assumption) ?_
            simp only [List.setIfInBounds_toArray, List.set_cons_zero, List.set_cons_succ]
            refine Rg.take (i := 1) (t := 49) rfl rfl (by kernel_rfl) (by kernel_rfl) (by kernel_rfl) (fun _ _ _ h => h) (by rfl) (by intro w0 hSw; have hbx := HSC.out _ hSw; have x0 := hbx.box; have x1 := hbx.idx; have c0 := (HCL.out _ hbx).1; have c1 := (HCL.out _ hbx).2; have d0 := (HD.out _ hbx).1; have d1 := (HD.out _ hbx).2; first | (go_simp; done) | (go_simp; with_reducible rfl)) (by assumption) ?_
            simp only [List.setIfInBounds_toArray, List.set_cons_zero, List.set_cons_succ]
            refine Rg.take (i := 2) (t := 50) rfl rfl (by kernel_rfl) (by kernel_rfl) (by kernel_rfl) (fun _ _ _ h => h) (by rfl) (by intro w0 hSw; have hbx := HSC.out _ hSw; have x0 := hbx.box; have x1 := hbx.idx; have c0 := (HCL.out _ hbx).1; have c1 := (HCL.out _ hbx).2; have d0 := (HD.out _ hbx).1; have d1 := (HD.out _ hbx).2; first | (go_simp; done) | (go_simp; with_reducible rfl)) (by assumption) ?_
            simp only [List.setIfInBounds_toArray, List.set_cons_zero, List.set_cons_succ]
            refine Rg.take (i := 3) (t := 51) rfl rfl (by kernel_rfl) (by kernel_rfl) (by kernel_rfl) (fun _ _ _ h => h) (by rfl) (by intro w0 hSw; have hbx := HSC.out _ hSw; have x0 := hbx.box; have x1 := hbx.idx; have c0 := (HCL.out _ hbx).1; have c1 := (HCL.out _ hbx).2; have d0 := (HD.out _ hbx).1; have d1 := (HD.out _ hbx).2; first | (go_simp; done) | (go_simp; with_reducible rfl)) (by assumption) ?_
            simp only [List.setIfInBounds_toArray, List.set_cons_zero, List.set_cons_succ]
            refine Rg.take (i := 4) (t := 52) rfl rfl (by kernel_rfl) (by kernel_rfl) (by kernel_rfl) (fun _ _ _ h => h) (by rfl) (by intro w0 hSw; have hbx := HSC.out _ hSw; have x0 := hbx.box; have x1 := hbx.idx; have c0 := (HCL.out _ hbx).1; have c1 := (HCL.out _ hbx).2; have d0 := (HD.out _ hbx).1; have d1 := (HD.out _ hbx).2; first | (go_simp; done) | (go_simp; with_reducible rfl)) (by assumption) ?_
            simp only [List.setIfInBounds_toArray, List.set_cons_zero, List.set_cons_succ]
            refine Rg.take (i := 5) (t := 53) rfl rfl (by kernel_rfl) (by kernel_rfl) (by kernel_rfl) (fun _ _ _ h => h) (by rfl) (by intro w0 hSw; have hbx := HSC.out _ hSw; have x0 := hbx.box; have x1 := hbx.idx; have c0 := (HCL.out _ hbx).1; have c1 := (HCL.out _ hbx).2; have d0 := (HD.out _ hbx).1; have d1 := (HD.out _ hbx).2; first | (go_simp; done) | (go_simp; with_reducible rfl)) (by assumption) ?_
            simp only [List.setIfInBounds_toArray, List.set_cons_zero, List.set_cons_succ]
            refine Rg.take (i := 6) (t := 54) rfl rfl (by kernel_rfl) (by kernel_rfl) (by kernel_rfl) (fun _ _ _ h => h) (by rfl) (by intro w0 hSw; have hbx := HSC.out _ hSw; have x0 := hbx.box; have x1 := hbx.idx; have c0 := (HCL.out _ hbx).1; have c1 := (HCL.out _ hbx).2; have d0 := (HD.out _ hbx).1; have d1 := (HD.out _ hbx).2; first | (go_simp; done) | (go_simp; with_reducible rfl)) (by assumption) ?_
            simp only [List.setIfInBounds_toArray, List.set_cons_zero, List.set_cons_succ]
            refine Rg.take (i := 7) (t := 55) rfl rfl (by kernel_rfl) (by kernel_rfl) (by kernel_rfl) (fun _ _ _ h => h) (by rfl) (by intro w0 hSw; have hbx := HSC.out _ hSw; have x0 := hbx.box; have x1 := hbx.idx; have c0 := (HCL.out _ hbx).1; have c1 := (HCL.out _ hbx).2; have d0 := (HD.out _ hbx).1; have d1 := (HD.out _ hbx).2; first | (go_simp; done) | (go_simp; with_reducible rfl)) (by assumption) ?_
            simp only [List.setIfInBounds_toArray, List.set_cons_zero, List.set_cons_succ]
            refine Rg.take (i := 8) (t := 56) rfl rfl (by kernel_rfl) (by kernel_rfl) (by kernel_rfl) (fun _ _ _ h => h) (by rfl) (by intro w0 hSw; have hbx := HSC.out _ hSw; have x0 := hbx.box; have x1 := hbx.idx; have c0 := (HCL.out _ hbx).1; have c1 := (HCL.out _ hbx).2; have d0 := (HD.out _ hbx).1; have d1 := (HD.out _ hbx).2; first | (go_simp; done) | (go_simp; with_reducible rfl)) (by assumption) ?_
            simp only [List.setIfInBounds_toArray, List.set_cons_zero, List.set_cons_succ]
            refine Rg.take (i := 9) (t := 57) rfl rfl (by kernel_rfl) (by kernel_rfl) (by kernel_rfl) (fun _ _ _ h => h) (by rfl) (by intro w0 hSw; have hbx := HSC.out _ hSw; have x0 := hbx.box; have x1 := hbx.idx; have c0 := (HCL.out _ hbx).1; have c1 := (HCL.out _ hbx).2; have d0 := (HD.out _ hbx).1; have d1 := (HD.out _ hbx).2; first | (go_simp; done) | (go_simp; with_reducible rfl)) (by assumption) ?_
            simp only [List.setIfInBounds_toArray, List.set_cons_zero, List.set_cons_succ]
            refine Rg.take (i := 10) (t := 58) rfl rfl (by kernel_rfl) (by kernel_rfl) (by kernel_rfl) (fun _ _ _ h => h) (by rfl) (by intro w0 hSw; have hbx := HSC.out _ hSw; have x0 := hbx.box; have x1 := hbx.idx; have c0 := (HCL.out _ hbx).1; have c1 := (HCL.out _ hbx).2; have d0 := (HD.out _ hbx).1; have d1 := (HD.out _ hbx).2; first | (go_simp; done) | (go_simp; with_reducible rfl)) (by assumption) ?_
            simp only [List.setIfInBounds_toArray, List.set_cons_zero, List.set_cons_succ]
            refine Rg.take (i := 11) (t := 59) rfl rfl (by kernel_rfl) (by kernel_rfl) (by kernel_rfl) (fun _ _ _ h => h) (by rfl) (by intro w0 hSw; have hbx := HSC.out _ hSw; have x0 := hbx.box; have x1 := hbx.idx; have c0 := (HCL.out _ hbx).1; have c1 := (HCL.out _ hbx).2; have d0 := (HD.out _ hbx).1; have d1 := (HD.out _ hbx).2; first | (go_simp; done) | (go_simp; with_reducible rfl)) (by assumption) ?_
            simp only [List.setIfInBounds_toArray, List.set_cons_zero, List.set_cons_succ]
            refine Rg.take (i := 12) (t := 60) rfl rfl (by kernel_rfl) (by kernel_rfl) (by kernel_rfl) (fun _ _ _ h => h) (by rfl) (by intro w0 hSw; have hbx := HSC.out _ hSw; have x0 := hbx.box; have x1 := hbx.idx; have c0 := (HCL.out _ hbx).1; have c1 := (HCL.out _ hbx).2; have d0 := (HD.out _ hbx).1; have d1 := (HD.out _ hbx).2; first | (go_simp; done) | (go_simp; with_reducible rfl)) (by assumption) ?_
            simp only [List.setIfInBounds_toArray, List.set_cons_zero, List.set_cons_succ]
            refine Rg.one (i := 13) (by kernel_rfl) ?_
            refine Rg.eff (i := 13) (t := 61) rfl rfl (by rfl) (by go_simp; first | exact ⟨rfl, rfl⟩ | exact rfl) (S) (fun _ h => h) (HSI.out _ (HX4.out.below (((Below.refl _ _).alloc (Nat.le_refl _) _).drew))) ?_
            simp only [List.setIfInBounds_toArray, List.set_cons_zero, List.set_cons_succ]
            obtain ⟨w5, hw5⟩ : ∃ w5, (w4.alloc (.cells #[.int .i64 o0, .int .i64 aq] 30)).drew = w5 := ⟨_, rfl⟩
            rw [hw5]
            have hb5 : Below w4.heap.size w4 w5 := by rw [← hw5]; exact ((Below.refl _ _).alloc (Nat.le_refl _) _).drew
            have hR5 : RdI w5 (some ⟨w4.heap.size, 0, none⟩) 1 [(o0, aq)] := by rw [← hw5]; exact Sk.rd_lit w4 30 [(o0, aq)] #[.int .i64 o0, .int .i64 aq] rfl 1 rfl
            have HB5 := Lib.hid (HB4.out.trans (hb5.mono HB4.out.size))
            have HX5 := Lib.hid ((HX4.out).below hb5)
            clear hb5
            refine Rg.one (i := 14) (by kernel_rfl) ?_
            refine Rg.call (i := 14) (t := 62) rfl rfl (by rfl) (by go_simp; exact ⟨rfl, rfl⟩) ?_
            refine (with_i l [(o0, aq)] i 1 w5 HX5.out.rd hR5 hc hi hn (by omega)).mono ?_
            rintro e w6 ⟨v, rfl, ho, hb6⟩
            have HO6 := Lib.hid (ho.lower HB5.out.size)
            have HB6 := Lib.hid (HB5.out.trans (hb6.mono HB5.out.size))
            have HS6 := HSI.out _ (HX5.out.below hb6)
            clear ho hb6 hR5 hw5
            refine ⟨_, rfl, S, fun _ h => h, HS6, ?_⟩
            simp only [List.setIfInBounds_toArray, List.set_cons_zero, List.set_cons_succ]
            refine Rg.take (i := 15) (t := 4) rfl rfl (by kernel_rfl) (by kernel_rfl) (by kernel_rfl) (fun _ _ _ h => h) (by rfl) (by intro w0 hSw; have hbx := HSC.out _ hSw; have x0 := hbx.box; have x1 := hbx.idx; have c0 := (HCL.out _ hbx).1; have c1 := (HCL.out _ hbx).2; have d0 := (HD.out _ hbx).1; have d1 := (HD.out _ hbx).2; first | (go_simp; done) | (go_simp; with_reducible rfl)) (by assumption) ?_
            simp only [List.setIfInBounds_toArray, List.set_cons_zero, List.set_cons_succ]
            refine Rg.take (i := 16) (t := 5) rfl rfl (by kernel_rfl) (by kernel_rfl) (by kernel_rfl) (fun _ _ _ h => h) (by rfl) (by intro w0 hSw; have hbx := HSC.out _ hSw; have x0 := hbx.box; have x1 := hbx.idx; have c0 := (HCL.out _ hbx).1; have c1 := (HCL.out _ hbx).2; have d0 := (HD.out _ hbx).1; have d1 := (HD.out _ hbx).2; first | (go_simp; done) | (go_simp; with_reducible rfl)) (by assumption) ?_
            simp only [List.setIfInBounds_toArray, List.set_cons_zero, List.set_cons_succ]
            refine wpAnyH_done (by kernel_rfl) ?_ _
            go_wp2_with fail
            go_ret2
            rw [HW.out]
            exact WayP.yes HO6.out HB6.out
        · have t2 : (oq != 24) = true := by simpa using h24
          have HW := Lib.hid (show way8 l i = none by rw [W8.out, if_neg (fun h => h24 h.2.1)])
          clear h24
          go_enter Try.func32, Try.ntmps32
          go_upto_region 5 with (first | (go_at_call 47; refine (indexFunc_i 48 _ (.pointer (some ⟨w.heap.size, 0, none⟩)) (.pointer (some ⟨w.heap.size + 1, 0, none⟩)) rfl l (spot (ar l i)) w1 HX.out.rd hn (fun _ _ => rfl) (fun x U hU => fur1_i l i x U (HX.out.below hU) hi hn)).mono ?_; rintro e w2 ⟨kk, rfl, hk, hb⟩; have HK := Lib.hid hk; clear hk; obtain rfl := at_some HK.out HF.out; have HX2 := Lib.hid (HX.out.below hb); clear x0 x1 c0 c1 HX; have HX := HX2; clear HX2; have HB2 := Lib.hid (HB.out.trans (hb.mono HB.out.size)); clear HB; have HB := HB2; clear HB2 hb; have x0 := HX.out.box; have x1 := HX.out.idx; have c0 := (HCL.out _ HX.out).1; have c1 := (HCL.out _ HX.out).2) | (go_at_call 34; refine (jumps_i (o0, a0) w2).mono ?_; rintro e w3 ⟨rfl, hb⟩; have HX2 := Lib.hid (HX.out.below hb); clear x0 x1 c0 c1 HX; have HX := HX2; clear HX2; have HB2 := Lib.hid (HB.out.trans (hb.mono HB.out.size)); clear HB; have HB := HB2; clear HB2 hb; have x0 := HX.out.box; have x1 := HX.out.idx; have c0 := (HCL.out _ HX.out).1; have c1 := (HCL.out _ HX.out).2; rw [HJ.out]) | (go_at_call 30; refine (past_i l p w3 HX.out.rd (Nat.le_of_lt HPN.out) hn).mono ?_; rintro e w4 ⟨rfl, rfl⟩; rw [HPP.out]))
          have d0 := (HD.out _ HX.out).1
          have d1 := (HD.out _ HX.out).2
          go_quiet (fail)
          go_wp2_with fail
          go_ret2
          rw [HW.out]
          exact WayP.no (belowN HB.out _)
      · have t1 : decide ((n : Int) ≤ (q : Int)) = true := decide_eq_true (by omega)
        have t1n : decide (n ≤ q) = true := decide_eq_true (by omega)
        have HW := Lib.hid (show way8 l i = none by rw [W8.out, if_neg (fun h => hqn h.1)])
        clear hqn
        go_enter Try.func32, Try.ntmps32
        go_upto_region 5 with (first | (go_at_call 47; refine (indexFunc_i 48 _ (.pointer (some ⟨w.heap.size, 0, none⟩)) (.pointer (some ⟨w.heap.size + 1, 0, none⟩)) rfl l (spot (ar l i)) w1 HX.out.rd hn (fun _ _ => rfl) (fun x U hU => fur1_i l i x U (HX.out.below hU) hi hn)).mono ?_; rintro e w2 ⟨kk, rfl, hk, hb⟩; have HK := Lib.hid hk; clear hk; obtain rfl := at_some HK.out HF.out; have HX2 := Lib.hid (HX.out.below hb); clear x0 x1 c0 c1 HX; have HX := HX2; clear HX2; have HB2 := Lib.hid (HB.out.trans (hb.mono HB.out.size)); clear HB; have HB := HB2; clear HB2 hb; have x0 := HX.out.box; have x1 := HX.out.idx; have c0 := (HCL.out _ HX.out).1; have c1 := (HCL.out _ HX.out).2) | (go_at_call 34; refine (jumps_i (o0, a0) w2).mono ?_; rintro e w3 ⟨rfl, hb⟩; have HX2 := Lib.hid (HX.out.below hb); clear x0 x1 c0 c1 HX; have HX := HX2; clear HX2; have HB2 := Lib.hid (HB.out.trans (hb.mono HB.out.size)); clear HB; have HB := HB2; clear HB2 hb; have x0 := HX.out.box; have x1 := HX.out.idx; have c0 := (HCL.out _ HX.out).1; have c1 := (HCL.out _ HX.out).2; rw [HJ.out]) | (go_at_call 30; refine (past_i l p w3 HX.out.rd (Nat.le_of_lt HPN.out) hn).mono ?_; rintro e w4 ⟨rfl, rfl⟩; rw [HPP.out]))
        go_quiet (fail)
        go_wp2_with fail
        go_ret2
        rw [HW.out]
        exact WayP.no (belowN HB.out _)
end Go.Proofs.Ytmilnfboglhdgaa.PeepD
