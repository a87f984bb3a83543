/- reckoned, known of the reference of chapter 29. Conditions: lengths of 1048576 at most. -/
import Derived.Test.YtmilnfboglhdgaaPeepG
import Derived.Test.YtmilnfboglhdgaaValZ
namespace Go.Proofs.Ytmilnfboglhdgaa.PeepH
open Go Go.RowKit NestP NestW Sq ValP ValW ValY ValZ PeepP PeepW PeepX PeepY PeepZ PeepC PeepD PeepF PeepG

/-- What a step of the reference gives: the better list, or the same one and false. -/
def Res (o : Option (List Ins)) (v0 : Value) (w : World) (e : Ending) (w' : World) : Prop := ∃ v, e = .returned (.tuple #[v, .bool o.isSome]) ∧ (∀ m, o = some m → OwnI w' w.heap.size v m) ∧ (o = none → v = v0) ∧ Below w.heap.size w w'
theorem Res.yes {w w' : World} {v v0 : Value} {m : List Ins} (h : OwnI w' w.heap.size v m) (hb : Below w.heap.size w w') : Res (some m) v0 w (.returned (.tuple #[v, .bool true])) w' := ⟨v, rfl, fun _ e => (Option.some.inj e) ▸ h, fun e => by (cases e), hb⟩
theorem Res.no {w w' : World} {v0 : Value} (hb : Below w.heap.size w w') : Res none v0 w (.returned (.tuple #[v0, .bool false])) w' := ⟨v0, rfl, fun _ e => (by cases e), fun _ => rfl, hb⟩
/-- Bin in a world of nothing. -/
theorem bin_or (k a b : Int) (w : World) :
    Calls Try.prog 49 #[.agg #[.slice none 0 0, .slice none 0 0, .slice none 0 0, .slice none 0 0, .slice none 0 0, .slice none 0 0, .slice none 0 0, .int .u64 0, .int .i64 0, .int .i64 0, .int .i64 0, .int .i64 0, .int .i64 0], .int .i64 k, .int .i64 a, .int .i64 b] w fun e w' => e = .returned (.tuple #[.int .i64 (bz k a b), .int .i64 (be k b)]) ∧ Below w.heap.size w w' := by
  have h := bin_r (v0 := .slice none 0 0) (v4 := .slice none 0 0) (v5 := .slice none 0 0) (v6 := .slice none 0 0) (v7 := .int .u64 0) (v8 := .int .i64 0) (v9 := .int .i64 0) (v10 := .int .i64 0) (v11 := .int .i64 0) (v12 := .int .i64 0) (A1 := none) (A2 := none) (A3 := none) (n := 0) (c1 := 0) (n2 := 0) (c2 := 0) (n3 := 0) (c3 := 0) ⟨[], [], [], [], [], [], [], 0, 0, 0, 0, 0, 0⟩ k a b w (Sq.Rd.nil w none)
  have e1 : at' [] (wr a) = 0 := by unfold at'; simp
  have e2 : isT 0 (wr a) = false := by unfold isT; simp; omega
  refine h.mono fun e w' ⟨h1, h2⟩ => ⟨?_, h2⟩
  rw [h1]
  show Ending.returned (.tuple #[.int .i64 (opV (at' [] (wr a)) (isT 0 (wr a)) k (wr a) (wr b)), .int .i64 (opE (isT 0 (wr a)) k (wr b))]) = _
  rw [e1, e2]
  rfl
set_option maxRecDepth 100000 in
set_option maxHeartbeats 2000000 in
theorem reckoned_r {A : Option Addr} {n c : Nat} (l : List Ins) (i : Nat) (w : World) (hr : RdI w A n l) (hc : n ≤ c) (hi : i < n) (hn : n ≤ 1048576) :
    Calls Try.prog 35 #[.slice A n c, .int .i64 (i : Int)] w (Res (reckR l i) (.slice A n c) w) := by
  have HL := Lib.hid (show l.length = n from hr.1.symm)
  obtain ⟨b, o, rfl, hb0, hcc⟩ := rd_open hr (Nat.lt_of_le_of_lt (Nat.zero_le _) hi)
  have HR := Lib.hid hr
  have HRc := Lib.hid hr
  have HBc := Lib.hid (Below.refl w.heap.size w)
  obtain ⟨o0, ho0⟩ : ∃ x, op l i = x := ⟨_, rfl⟩
  obtain ⟨o1, ho1⟩ : ∃ x, op l (i + 1) = x := ⟨_, rfl⟩
  obtain ⟨o2, ho2⟩ : ∃ x, op l (i + 2) = x := ⟨_, rfl⟩
  obtain ⟨a0, ha0⟩ : ∃ x, ar l i = x := ⟨_, rfl⟩
  obtain ⟨a1, ha1⟩ : ∃ x, ar l (i + 1) = x := ⟨_, rfl⟩
  obtain ⟨a2, ha2⟩ : ∃ x, ar l (i + 2) = x := ⟨_, rfl⟩
  have HOP := Lib.hid (show op l i = o0 ∧ op l (i + 1) = o1 ∧ op l (i + 2) = o2 ∧ ar l i = a0 ∧ ar l (i + 1) = a1 ∧ ar l (i + 2) = a2 from ⟨ho0, ho1, ho2, ha0, ha1, ha2⟩)
  have ca0 := fun (U : World) (h : RdI U (some ⟨b, o, none⟩) n l) => at_r (c := c) l i U h hn
  have ca1 := fun (U : World) (h : RdI U (some ⟨b, o, none⟩) n l) => at_r1 (c := c) l i U h hn
  have ca2 := fun (U : World) (h : RdI U (some ⟨b, o, none⟩) n l) => at_r2 (c := c) l i U h hn
  rw [ho0] at ca0
  rw [ho1] at ca1
  rw [ho2] at ca2
  have CA0 := Lib.hid ca0
  have CA1 := Lib.hid ca1
  have CA2 := Lib.hid ca2
  have HCE := Lib.hid (show ∀ U, RdI U (some ⟨b, o, none⟩) n l → ∀ k, k < n → U.cell? ⟨b, o + k * 2, none⟩ = some (.int .i64 (op l k)) ∧ U.cell? ⟨b, o + k * 2 + 1, none⟩ = some (.int .i64 (ar l k)) from fun U h k hk => rd_at h hk)
  have i0 : (0 : Int) ≤ (i : Int) := Int.natCast_nonneg _
  have i1 : (i : Int) < (n : Int) := by omega
  have hx1 := i64w (x := (i : Int) + 1) (by omega) (by omega)
  have hx2 := i64w (x := (i : Int) + 2) (by omega) (by omega)
  have z0 : w.cell? ⟨b, o + i * 2 + 1, none⟩ = some (.int .i64 a0) := ha0 ▸ (HCE.out w hr i hi).2
  have HIN := Lib.hid (show ∀ k x, op l k = x → x ≠ 0 → k < n from fun k x h h2 => HL.out ▸ op_in (by rw [h]; exact h2))
  clear hr hb0 hcc ho0 ho1 ho2 ha0 ha1 ha2 ca0 ca1 ca2
  by_cases h0 : o0 = 1
  · subst h0
    by_cases h1 : o1 = 1
    · subst h1
      by_cases h8 : o2 = 8
      · subst h8
        have h3 : i + 3 ≤ n := by have h := HIN.out (i + 2) 8 HOP.out.2.2.1 (by decide); omega
        have z1 : w.cell? ⟨b, o + (i + 1) * 2 + 1, none⟩ = some (.int .i64 a1) := HOP.out.2.2.2.2.1 ▸ (HCE.out w HR.out (i + 1) (by omega)).2
        have z2 : w.cell? ⟨b, o + (i + 2) * 2 + 1, none⟩ = some (.int .i64 a2) := HOP.out.2.2.2.2.2 ▸ (HCE.out w HR.out (i + 2) (by omega)).2
        have j2 : (0 : Int) ≤ (i : Int) + 1 := by omega
        have j3 : (i : Int) + 1 < (n : Int) := by omega
        have j4 : (0 : Int) ≤ (i : Int) + 2 := by omega
        have j5 : (i : Int) + 2 < (n : Int) := by omega
        have hn1 : ((i : Int) + 1).toNat = i + 1 := by omega
        have hn2 : ((i : Int) + 2).toNat = i + 2 := by omega
        by_cases h9 : a2 = 9
        · subst h9
          have HW := Lib.hid (show reckR l i = none by obtain ⟨q0, q1, q2, q3, q4, q5⟩ := HOP.out; unfold reckR; rw [q0, q1, q2, q3, q4, q5]; simp)
          go_enter Try.func35, Try.ntmps35
          go_wp2_with (go_at_call 38; first | ((with_reducible refine (CA0.out _ HRc.out).mono ?_); rintro e w9 ⟨rfl, rfl⟩) | ((with_reducible refine (CA1.out _ HRc.out).mono ?_); rintro e w9 ⟨rfl, rfl⟩) | ((with_reducible refine (CA2.out _ HRc.out).mono ?_); rintro e w9 ⟨rfl, rfl⟩))
          go_ret2
          rw [HW.out]
          exact Res.no HBc.out
        · have t9 : (a2 == 9) = false := by simpa using h9
          have t9n : (a2 != 9) = true := by simpa using h9
          have W2 := Lib.hid (show reckR l i = if be a2 a1 = 0 then some (swap l i 3 [(1, wr (bz a2 a0 a1))]) else none by obtain ⟨q0, q1, q2, q3, q4, q5⟩ := HOP.out; unfold reckR; rw [q0, q1, q2, q3, q4, q5]; simp [h9])
          clear h9
          go_enter Try.func35, Try.ntmps35
          go_upto_region 2 with (go_at_call 38; first | ((with_reducible refine (CA0.out _ HRc.out).mono ?_); rintro e w9 ⟨rfl, rfl⟩) | ((with_reducible refine (CA1.out _ HRc.out).mono ?_); rintro e w9 ⟨rfl, rfl⟩) | ((with_reducible refine (CA2.out _ HRc.out).mono ?_); rintro e w9 ⟨rfl, rfl⟩))
          obtain ⟨S, hSd⟩ : ∃ S : World → Prop, (fun U : World => RdI U (some ⟨b, o, none⟩) n l) = S := ⟨_, rfl⟩
          have HSB := Lib.hid (show ∀ U, Below w.heap.size w U → S U from fun U h => by rw [← hSd]; exact HR.out.below h)
          have HSC := Lib.hid (show ∀ U, S U → U.cell? ⟨b, o + i * 2 + 1, none⟩ = some (.int .i64 a0) ∧ U.cell? ⟨b, o + (i + 1) * 2 + 1, none⟩ = some (.int .i64 a1) ∧ U.cell? ⟨b, o + (i + 2) * 2 + 1, none⟩ = some (.int .i64 a2) from fun U h => by
            rw [← hSd] at h
            obtain ⟨q0, q1, q2, q3, q4, q5⟩ := HOP.out
            exact ⟨q3 ▸ (HCE.out U h i hi).2, q4 ▸ (HCE.out U h (i + 1) (by omega)).2, q5 ▸ (HCE.out U h (i + 2) (by omega)).2⟩)
          have hS0 : S w.drew := HSB.out _ (Below.drew (Below.refl _ _))
          clear hSd z0 z1 z2
          refine wp_region_held_drew (S := S) (by kernel_rfl) hS0 (fun hHeld => ?_)
          refine Rg.take (i := 0) (t := 36) rfl rfl (by kernel_rfl) (by kernel_rfl) (by kernel_rfl) (fun _ _ _ h => h) (by rfl) (by intro w0 hSw; have y1 := hx1; have y2 := hx2; have y3 := hn1; have y4 := hn2; obtain ⟨s0, s1, s2⟩ := HSC.out _ hSw; first | (go_simp; done) | (go_simp; with_reducible rfl)) (by assumption) ?_
          simp only [List.setIfInBounds_toArray, List.set_cons_zero, List.set_cons_succ]
          refine Rg.take (i := 1) (t := 37) rfl rfl (by kernel_rfl) (by kernel_rfl) (by kernel_rfl) (fun _ _ _ h => h) (by rfl) (by intro w0 hSw; have y1 := hx1; have y2 := hx2; have y3 := hn1; have y4 := hn2; obtain ⟨s0, s1, s2⟩ := HSC.out _ hSw; first | (go_simp; done) | (go_simp; with_reducible rfl)) (by assumption) ?_
          simp only [List.setIfInBounds_toArray, List.set_cons_zero, List.set_cons_succ]
          refine Rg.take (i := 2) (t := 38) rfl rfl (by kernel_rfl) (by kernel_rfl) (by kernel_rfl) (fun _ _ _ h => h) (by rfl) (by intro w0 hSw; have y1 := hx1; have y2 := hx2; have y3 := hn1; have y4 := hn2; obtain ⟨s0, s1, s2⟩ := HSC.out _ hSw; first | (go_simp; done) | (go_simp; with_reducible rfl)) (by assumption) ?_
          simp only [List.setIfInBounds_toArray, List.set_cons_zero, List.set_cons_succ]
          refine Rg.take (i := 3) (t := 39) rfl rfl (by kernel_rfl) (by kernel_rfl) (by kernel_rfl) (fun _ _ _ h => h) (by rfl) (by intro w0 hSw; have y1 := hx1; have y2 := hx2; have y3 := hn1; have y4 := hn2; obtain ⟨s0, s1, s2⟩ := HSC.out _ hSw; first | (go_simp; done) | (go_simp; with_reducible rfl)) (by assumption) ?_
          simp only [List.setIfInBounds_toArray, List.set_cons_zero, List.set_cons_succ]
          refine Rg.take (i := 4) (t := 40) rfl rfl (by kernel_rfl) (by kernel_rfl) (by kernel_rfl) (fun _ _ _ h => h) (by rfl) (by intro w0 hSw; have y1 := hx1; have y2 := hx2; have y3 := hn1; have y4 := hn2; obtain ⟨s0, s1, s2⟩ := HSC.out _ hSw; first | (go_simp; done) | (go_simp; with_reducible rfl)) (by assumption) ?_
          simp only [List.setIfInBounds_toArray, List.set_cons_zero, List.set_cons_succ]
          refine Rg.take (i := 5) (t := 41) rfl rfl (by kernel_rfl) (by kernel_rfl) (by kernel_rfl) (fun _ _ _ h => h) (by rfl) (by intro w0 hSw; have y1 := hx1; have y2 := hx2; have y3 := hn1; have y4 := hn2; obtain ⟨s0, s1, s2⟩ := HSC.out _ hSw; first | (go_simp; done) | (go_simp; with_reducible rfl)) (by assumption) ?_
          simp only [List.setIfInBounds_toArray, List.set_cons_zero, List.set_cons_succ]
          refine Rg.take (i := 6) (t := 42) rfl rfl (by kernel_rfl) (by kernel_rfl) (by kernel_rfl) (fun _ _ _ h => h) (by rfl) (by intro w0 hSw; have y1 := hx1; have y2 := hx2; have y3 := hn1; have y4 := hn2; obtain ⟨s0, s1, s2⟩ := HSC.out _ hSw; first | (go_simp; done) | (go_simp; with_reducible rfl)) (by assumption) ?_
          simp only [List.setIfInBounds_toArray, List.set_cons_zero, List.set_cons_succ]
          refine Rg.take (i := 7) (t := 43) rfl rfl (by kernel_rfl) (by kernel_rfl) (by kernel_rfl) (fun _ _ _ h => h) (by rfl) (by intro w0 hSw; have y1 := hx1; have y2 := hx2; have y3 := hn1; have y4 := hn2; obtain ⟨s0, s1, s2⟩ := HSC.out _ hSw; first | (go_simp; done) | (go_simp; with_reducible rfl)) (by assumption) ?_
          simp only [List.setIfInBounds_toArray, List.set_cons_zero, List.set_cons_succ]
          refine Rg.take (i := 8) (t := 44) rfl rfl (by kernel_rfl) (by kernel_rfl) (by kernel_rfl) (fun _ _ _ h => h) (by rfl) (by intro w0 hSw; have y1 := hx1; have y2 := hx2; have y3 := hn1; have y4 := hn2; obtain ⟨s0, s1, s2⟩ := HSC.out _ hSw; first | (go_simp; done) | (go_simp; with_reducible rfl)) (by assumption) ?_
          simp only [List.setIfInBounds_toArray, List.set_cons_zero, List.set_cons_succ]
          refine Rg.take (i := 9) (t := 45) rfl rfl (by kernel_rfl) (by kernel_rfl) (by kernel_rfl) (fun _ _ _ h => h) (by rfl) (by intro w0 hSw; have y1 := hx1; have y2 := hx2; have y3 := hn1; have y4 := hn2; obtain ⟨s0, s1, s2⟩ := HSC.out _ hSw; first | (go_simp; done) | (go_simp; with_reducible rfl)) (by assumption) ?_
          simp only [List.setIfInBounds_toArray, List.set_cons_zero, List.set_cons_succ]
          refine Rg.take (i := 10) (t := 46) rfl rfl (by kernel_rfl) (by kernel_rfl) (by kernel_rfl) (fun _ _ _ h => h) (by rfl) (by intro w0 hSw; have y1 := hx1; have y2 := hx2; have y3 := hn1; have y4 := hn2; obtain ⟨s0, s1, s2⟩ := HSC.out _ hSw; first | (go_simp; done) | (go_simp; with_reducible rfl)) (by assumption) ?_
          simp only [List.setIfInBounds_toArray, List.set_cons_zero, List.set_cons_succ]
          refine Rg.take (i := 11) (t := 47) rfl rfl (by kernel_rfl) (by kernel_rfl) (by kernel_rfl) (fun _ _ _ h => h) (by rfl) (by intro w0 hSw; have y1 := hx1; have y2 := hx2; have y3 := hn1; have y4 := hn2; obtain ⟨s0, s1, s2⟩ := HSC.out _ hSw; first | (go_simp; done) | (go_simp; with_reducible rfl)) (by assumption) ?_
          simp only [List.setIfInBounds_toArray, List.set_cons_zero, List.set_cons_succ]
          refine Rg.take (i := 12) (t := 48) rfl rfl (by kernel_rfl) (by kernel_rfl) (by kernel_rfl) (fun _ _ _ h => h) (by rfl) (by intro w0 hSw; have y1 := hx1; have y2 := hx2; have y3 := hn1; have y4 := hn2; obtain ⟨s0, s1, s2⟩ := HSC.out _ hSw; first | (go_simp; done) | (go_simp; with_reducible rfl)) (by assumption) ?_
          simp only [List.setIfInBounds_toArray, List.set_cons_zero, List.set_cons_succ]
          refine Rg.take (i := 13) (t := 49) rfl rfl (by kernel_rfl) (by kernel_rfl) (by kernel_rfl) (fun _ _ _ h => h) (by rfl) (by intro w0 hSw; have y1 := hx1; have y2 := hx2; have y3 := hn1; have y4 := hn2; obtain ⟨s0, s1, s2⟩ := HSC.out _ hSw; first | (go_simp; done) | (go_simp; with_reducible rfl)) (by assumption) ?_
          simp only [List.setIfInBounds_toArray, List.set_cons_zero, List.set_cons_succ]
          refine Rg.take (i := 14) (t := 50) rfl rfl (by kernel_rfl) (by kernel_rfl) (by kernel_rfl) (fun _ _ _ h => h) (by rfl) (by intro w0 hSw; have y1 := hx1; have y2 := hx2; have y3 := hn1; have y4 := hn2; obtain ⟨s0, s1, s2⟩ := HSC.out _ hSw; first | (go_simp; done) | (go_simp; with_reducible rfl)) (by assumption) ?_
          simp only [List.setIfInBounds_toArray, List.set_cons_zero, List.set_cons_succ]
          refine Rg.take (i := 15) (t := 51) rfl rfl (by kernel_rfl) (by kernel_rfl) (by kernel_rfl) (fun _ _ _ h => h) (by rfl) (by intro w0 hSw; have y1 := hx1; have y2 := hx2; have y3 := hn1; have y4 := hn2; obtain ⟨s0, s1, s2⟩ := HSC.out _ hSw; first | (go_simp; done) | (go_simp; with_reducible rfl)) (by assumption) ?_
          simp only [List.setIfInBounds_toArray, List.set_cons_zero, List.set_cons_succ]
          refine Rg.take (i := 16) (t := 52) rfl rfl (by kernel_rfl) (by kernel_rfl) (by kernel_rfl) (fun _ _ _ h => h) (by rfl) (by intro w0 hSw; have y1 := hx1; have y2 := hx2; have y3 := hn1; have y4 := hn2; obtain ⟨s0, s1, s2⟩ := HSC.out _ hSw; first | (go_simp; done) | (go_simp; with_reducible rfl)) (by assumption) ?_
          simp only [List.setIfInBounds_toArray, List.set_cons_zero, List.set_cons_succ]
          refine Rg.take (i := 17) (t := 53) rfl rfl (by kernel_rfl) (by kernel_rfl) (by kernel_rfl) (fun _ _ _ h => h) (by rfl) (by intro w0 hSw; have y1 := hx1; have y2 := hx2; have y3 := hn1; have y4 := hn2; obtain ⟨s0, s1, s2⟩ := HSC.out _ hSw; first | (go_simp; done) | (go_simp; with_reducible rfl)) (by assumption) ?_
          simp only [List.setIfInBounds_toArray, List.set_cons_zero, List.set_cons_succ]
          refine Rg.one (i := 18) (by kernel_rfl) ?_
          refine Rg.call (i := 18) (t := 54) rfl rfl (by rfl) (by go_simp; exact ⟨rfl, rfl⟩) ?_
          refine (bin_or a2 a0 a1 w.drew).mono ?_
          rintro e w2 ⟨rfl, hb2⟩
          have HS2 := HSB.out w2 ((Below.drew (Below.refl w.heap.size w)).trans hb2)
          clear HBc HRc
          have HBc := Lib.hid ((Below.drew (Below.refl w.heap.size w)).trans hb2)
          have HRc := Lib.hid (HR.out.below HBc.out)
          clear hb2
          refine ⟨_, rfl, S, fun _ h => h, HS2, ?_⟩
          simp only [List.setIfInBounds_toArray, List.set_cons_zero, List.set_cons_succ]
          refine Rg.take (i := 19) (t := 35) rfl rfl (by kernel_rfl) (by kernel_rfl) (by kernel_rfl) (fun _ _ _ h => h) (by rfl) (by intro w0 hSw; have y1 := hx1; have y2 := hx2; have y3 := hn1; have y4 := hn2; obtain ⟨s0, s1, s2⟩ := HSC.out _ hSw; first | (go_simp; done) | (go_simp; with_reducible rfl)) (by assumption) ?_
          simp only [List.setIfInBounds_toArray, List.set_cons_zero, List.set_cons_succ]
          refine Rg.take (i := 20) (t := 55) rfl rfl (by kernel_rfl) (by kernel_rfl) (by kernel_rfl) (fun _ _ _ h => h) (by rfl) (by intro w0 hSw; have y1 := hx1; have y2 := hx2; have y3 := hn1; have y4 := hn2; obtain ⟨s0, s1, s2⟩ := HSC.out _ hSw; first | (go_simp; done) | (go_simp; with_reducible rfl)) (by assumption) ?_
          simp only [List.setIfInBounds_toArray, List.set_cons_zero, List.set_cons_succ]
          refine Rg.take (i := 21) (t := 56) rfl rfl (by kernel_rfl) (by kernel_rfl) (by kernel_rfl) (fun _ _ _ h => h) (by rfl) (by intro w0 hSw; have y1 := hx1; have y2 := hx2; have y3 := hn1; have y4 := hn2; obtain ⟨s0, s1, s2⟩ := HSC.out _ hSw; first | (go_simp; done) | (go_simp; with_reducible rfl)) (by assumption) ?_
          simp only [List.setIfInBounds_toArray, List.set_cons_zero, List.set_cons_succ]
          refine Rg.take (i := 22) (t := 6) rfl rfl (by kernel_rfl) (by kernel_rfl) (by kernel_rfl) (fun _ _ _ h => h) (by rfl) (by intro w0 hSw; have y1 := hx1; have y2 := hx2; have y3 := hn1; have y4 := hn2; obtain ⟨s0, s1, s2⟩ := HSC.out _ hSw; first | (go_simp; done) | (go_simp; with_reducible rfl)) (by assumption) ?_
          simp only [List.setIfInBounds_toArray, List.set_cons_zero, List.set_cons_succ]
          refine Rg.take (i := 23) (t := 7) rfl rfl (by kernel_rfl) (by kernel_rfl) (by kernel_rfl) (fun _ _ _ h => h) (by rfl) (by intro w0 hSw; have y1 := hx1; have y2 := hx2; have y3 := hn1; have y4 := hn2; obtain ⟨s0, s1, s2⟩ := HSC.out _ hSw; first | (go_simp; done) | (go_simp; with_reducible rfl)) (by assumption) ?_
          simp only [List.setIfInBounds_toArray, List.set_cons_zero, List.set_cons_succ]
          refine wpAnyH_done (by kernel_rfl) ?_ _
          clear hS0
          by_cases he : be a2 a1 = 0
          · have HW := Lib.hid (show reckR l i = some (swap l i 3 [(1, wr (bz a2 a0 a1))]) by rw [W2.out, if_pos he])
            rw [he]
            go_wp2_with (first | (go_at_call 50; refine (push_r _ w2).mono ?_; rintro e w3 ⟨v3, rfl, ho, hb⟩; obtain ⟨A3, c3, rfl, _, _, hq⟩ := own_ex ho; have HV3 := Lib.hid hq; have HB3 := Lib.hid (HBc.out.trans (hb.mono HBc.out.size)); clear ho hb hq) | (go_at_call 40; refine (swap_r l _ i 3 w3 (HR.out.below HB3.out) HV3.out hc h3 hn (by simp)).mono ?_; rintro e w4 ⟨v, rfl, ho, hb⟩; have HO := Lib.hid (ho.lower HB3.out.size); have HB4 := Lib.hid (HB3.out.trans (hb.mono HB3.out.size)); clear ho hb))
            go_ret2
            rw [HW.out]
            exact Res.yes HO.out HB4.out
          · have HW := Lib.hid (show reckR l i = none by rw [W2.out, if_neg he])
            have t0 : (be a2 a1 == 0) = false := by simpa using he
            have t1 : (be a2 a1 != 0) = true := by simpa using he
            have z0 := (HSC.out _ HS2).1
            clear HS2
            go_wp2_with (go_at_call 38; first | ((with_reducible refine (CA0.out _ HRc.out).mono ?_); rintro e w9 ⟨rfl, rfl⟩) | ((with_reducible refine (CA1.out _ HRc.out).mono ?_); rintro e w9 ⟨rfl, rfl⟩) | ((with_reducible refine (CA2.out _ HRc.out).mono ?_); rintro e w9 ⟨rfl, rfl⟩))
            go_ret2
            rw [HW.out]
            exact Res.no HBc.out
      · have t8 : (o2 == 8) = false := by simpa using h8
        have HW := Lib.hid (show reckR l i = none by obtain ⟨q0, q1, q2, q3, q4, q5⟩ := HOP.out; unfold reckR; rw [q0, q1, q2, q3, q4, q5]; simp [h8])
        clear h8
        go_enter Try.func35, Try.ntmps35
        go_wp2_with (go_at_call 38; first | ((with_reducible refine (CA0.out _ HRc.out).mono ?_); rintro e w9 ⟨rfl, rfl⟩) | ((with_reducible refine (CA1.out _ HRc.out).mono ?_); rintro e w9 ⟨rfl, rfl⟩) | ((with_reducible refine (CA2.out _ HRc.out).mono ?_); rintro e w9 ⟨rfl, rfl⟩))
        go_ret2
        rw [HW.out]
        exact Res.no HBc.out
    · have h2 : o1 ≠ 0 → i + 2 ≤ n := fun h => by have h := HIN.out (i + 1) o1 HOP.out.2.1 h; omega
      have H2 := Lib.hid h2
      clear h2
      by_cases h9 : o1 = 9
      · subst h9
        have h2 := H2.out (by decide)
        have HW := Lib.hid (show reckR l i = some (swap l i 2 [(1, wr (wr (-(wr a0))))]) by obtain ⟨q0, q1, q2, q3, q4, q5⟩ := HOP.out; unfold reckR; rw [q0, q1, q2, q3, q4, q5]; simp)
        go_enter Try.func35, Try.ntmps35
        go_wp2_with (first
          | (go_at_call 38; first | ((with_reducible refine (CA0.out _ HRc.out).mono ?_); rintro e w9 ⟨rfl, rfl⟩) | ((with_reducible refine (CA1.out _ HRc.out).mono ?_); rintro e w9 ⟨rfl, rfl⟩) | ((with_reducible refine (CA2.out _ HRc.out).mono ?_); rintro e w9 ⟨rfl, rfl⟩))
          | (go_at_call 51; refine (neg_r a0 w).mono ?_; rintro e w9 ⟨rfl, rfl⟩)
          | (go_at_call 50; refine (push_r _ w).mono ?_; rintro e w3 ⟨v3, rfl, ho, hb⟩; obtain ⟨A3, c3, rfl, _, _, hq⟩ := own_ex ho; have HV3 := Lib.hid hq; have HB3 := Lib.hid (HBc.out.trans (hb.mono HBc.out.size)); clear ho hb hq)
          | (go_at_call 40; refine (swap_r l _ i 2 w3 (HR.out.below HB3.out) HV3.out hc h2 hn (by simp)).mono ?_; rintro e w4 ⟨v, rfl, ho, hb⟩; have HO := Lib.hid (ho.lower HB3.out.size); have HB4 := Lib.hid (HB3.out.trans (hb.mono HB3.out.size)); clear ho hb))
        go_ret2
        rw [HW.out]
        exact Res.yes HO.out HB4.out
      by_cases h10 : o1 = 10
      · subst h10
        have h2 := H2.out (by decide)
        have HW := Lib.hid (show reckR l i = some (swap l i 2 [(1, wr (tr (wr a0 == 0)))]) by obtain ⟨q0, q1, q2, q3, q4, q5⟩ := HOP.out; unfold reckR; rw [q0, q1, q2, q3, q4, q5]; simp [notV])
        go_enter Try.func35, Try.ntmps35
        go_wp2_with (first
          | (go_at_call 38; first | ((with_reducible refine (CA0.out _ HRc.out).mono ?_); rintro e w9 ⟨rfl, rfl⟩) | ((with_reducible refine (CA1.out _ HRc.out).mono ?_); rintro e w9 ⟨rfl, rfl⟩) | ((with_reducible refine (CA2.out _ HRc.out).mono ?_); rintro e w9 ⟨rfl, rfl⟩))
          | (go_at_call 52; refine (not_r a0 w).mono ?_; rintro e w9 ⟨rfl, rfl⟩)
          | (go_at_call 50; refine (push_r _ w).mono ?_; rintro e w3 ⟨v3, rfl, ho, hb⟩; obtain ⟨A3, c3, rfl, _, _, hq⟩ := own_ex ho; have HV3 := Lib.hid hq; have HB3 := Lib.hid (HBc.out.trans (hb.mono HBc.out.size)); clear ho hb hq)
          | (go_at_call 40; refine (swap_r l _ i 2 w3 (HR.out.below HB3.out) HV3.out hc h2 hn (by simp)).mono ?_; rintro e w4 ⟨v, rfl, ho, hb⟩; have HO := Lib.hid (ho.lower HB3.out.size); have HB4 := Lib.hid (HB3.out.trans (hb.mono HB3.out.size)); clear ho hb))
        go_ret2
        rw [HW.out]
        exact Res.yes HO.out HB4.out
      by_cases h11 : o1 = 11
      · subst h11
        have h2 := H2.out (by decide)
        have cn := fun (U : World) => not_r a0 U
        obtain ⟨q, hq⟩ : ∃ q, tr (wr a0 == 0) = q := ⟨_, rfl⟩
        have HW0 := Lib.hid (show reckR l i = some (swap l i 2 [(1, wr (1 - q))]) by obtain ⟨q0, q1, q2, q3, q4, q5⟩ := HOP.out; unfold reckR; rw [q0, q1, q2, q3, q4, q5]; simp [notV, hq])
        rw [hq] at cn
        have CN := Lib.hid cn
        have hq2 : q = 0 ∨ q = 1 := hq ▸ tr_cases _
        clear hq cn
        rcases hq2 with rfl | rfl
        · have HW := HW0
          go_enter Try.func35, Try.ntmps35
          go_wp2_with (first
            | (go_at_call 38; first | ((with_reducible refine (CA0.out _ HRc.out).mono ?_); rintro e w9 ⟨rfl, rfl⟩) | ((with_reducible refine (CA1.out _ HRc.out).mono ?_); rintro e w9 ⟨rfl, rfl⟩) | ((with_reducible refine (CA2.out _ HRc.out).mono ?_); rintro e w9 ⟨rfl, rfl⟩))
            | (go_at_call 52; refine (CN.out w).mono ?_; rintro e w9 ⟨rfl, rfl⟩)
            | (go_at_call 50; refine (push_r _ w).mono ?_; rintro e w3 ⟨v3, rfl, ho, hb⟩; obtain ⟨A3, c3, rfl, _, _, hq⟩ := own_ex ho; have HV3 := Lib.hid hq; have HB3 := Lib.hid (HBc.out.trans (hb.mono HBc.out.size)); clear ho hb hq)
            | (go_at_call 40; refine (swap_r l _ i 2 w3 (HR.out.below HB3.out) HV3.out hc h2 hn (by simp)).mono ?_; rintro e w4 ⟨v, rfl, ho, hb⟩; have HO := Lib.hid (ho.lower HB3.out.size); have HB4 := Lib.hid (HB3.out.trans (hb.mono HB3.out.size)); clear ho hb))
          go_ret2
          rw [HW.out]
          exact Res.yes HO.out HB4.out
        · have HW := HW0
          go_enter Try.func35, Try.ntmps35
          go_wp2_with (first
            | (go_at_call 38; first | ((with_reducible refine (CA0.out _ HRc.out).mono ?_); rintro e w9 ⟨rfl, rfl⟩) | ((with_reducible refine (CA1.out _ HRc.out).mono ?_); rintro e w9 ⟨rfl, rfl⟩) | ((with_reducible refine (CA2.out _ HRc.out).mono ?_); rintro e w9 ⟨rfl, rfl⟩))
            | (go_at_call 52; refine (CN.out w).mono ?_; rintro e w9 ⟨rfl, rfl⟩)
            | (go_at_call 50; refine (push_r _ w).mono ?_; rintro e w3 ⟨v3, rfl, ho, hb⟩; obtain ⟨A3, c3, rfl, _, _, hq⟩ := own_ex ho; have HV3 := Lib.hid hq; have HB3 := Lib.hid (HBc.out.trans (hb.mono HBc.out.size)); clear ho hb hq)
            | (go_at_call 40; refine (swap_r l _ i 2 w3 (HR.out.below HB3.out) HV3.out hc h2 hn (by simp)).mono ?_; rintro e w4 ⟨v, rfl, ho, hb⟩; have HO := Lib.hid (ho.lower HB3.out.size); have HB4 := Lib.hid (HB3.out.trans (hb.mono HB3.out.size)); clear ho hb))
          go_ret2
          rw [HW.out]
          exact Res.yes HO.out HB4.out
      have t1 : (o1 == 1) = false := by simpa using h1
      have t2 : (o1 == 9) = false := by simpa using h9
      have t3 : (o1 == 10) = false := by simpa using h10
      have t4 : (o1 == 11) = false := by simpa using h11
      have HW := Lib.hid (show reckR l i = none by obtain ⟨q0, q1, q2, q3, q4, q5⟩ := HOP.out; unfold reckR; rw [q0, q1, q2, q3, q4, q5]; simp [h1, h9, h10, h11])
      clear h1 h9 h10 h11
      go_enter Try.func35, Try.ntmps35
      go_wp2_with (go_at_call 38; first | ((with_reducible refine (CA0.out _ HRc.out).mono ?_); rintro e w9 ⟨rfl, rfl⟩) | ((with_reducible refine (CA1.out _ HRc.out).mono ?_); rintro e w9 ⟨rfl, rfl⟩) | ((with_reducible refine (CA2.out _ HRc.out).mono ?_); rintro e w9 ⟨rfl, rfl⟩))
      go_ret2
      rw [HW.out]
      exact Res.no HBc.out
  · have t0 : (o0 == 1) = false := by simpa using h0
    have t0n : (o0 != 1) = true := by simpa using h0
    have HW := Lib.hid (show reckR l i = none by obtain ⟨q0, q1, q2, q3, q4, q5⟩ := HOP.out; unfold reckR; rw [q0, q1, q2, q3, q4, q5]; simp [h0])
    clear h0
    go_enter Try.func35, Try.ntmps35
    go_wp2_with (go_at_call 38; first | ((with_reducible refine (CA0.out _ HRc.out).mono ?_); rintro e w9 ⟨rfl, rfl⟩) | ((with_reducible refine (CA1.out _ HRc.out).mono ?_); rintro e w9 ⟨rfl, rfl⟩) | ((with_reducible refine (CA2.out _ HRc.out).mono ?_); rintro e w9 ⟨rfl, rfl⟩))
    go_ret2
    rw [HW.out]
    exact Res.no HBc.out
set_option maxRecDepth 100000 in
set_option maxHeartbeats 2000000 in
theorem known_r {A : Option Addr} {n c : Nat} (l : List Ins) (i : Nat) (w : World) (hr : RdI w A n l) (hc : n ≤ c) (hi : i < n) (hn : n ≤ 1048576) :
    Calls Try.prog 36 #[.slice A n c, .int .i64 (i : Int)] w (Res (knownR l i) (.slice A n c) w) := by
  have HL := Lib.hid (show l.length = n from hr.1.symm)
  obtain ⟨b, o, rfl, hb0, hcc⟩ := rd_open hr (Nat.lt_of_le_of_lt (Nat.zero_le _) hi)
  have HR := Lib.hid hr
  have HRc := Lib.hid hr
  have HBc := Lib.hid (Below.refl w.heap.size w)
  obtain ⟨o0, ho0⟩ : ∃ x, op l i = x := ⟨_, rfl⟩
  obtain ⟨o1, ho1⟩ : ∃ x, op l (i + 1) = x := ⟨_, rfl⟩
  obtain ⟨o2, ho2⟩ : ∃ x, op l (i + 2) = x := ⟨_, rfl⟩
  obtain ⟨a0, ha0⟩ : ∃ x, ar l i = x := ⟨_, rfl⟩
  obtain ⟨a1, ha1⟩ : ∃ x, ar l (i + 1) = x := ⟨_, rfl⟩
  obtain ⟨a2, ha2⟩ : ∃ x, ar l (i + 2) = x := ⟨_, rfl⟩
  have HOP := Lib.hid (show op l i = o0 ∧ op l (i + 1) = o1 ∧ op l (i + 2) = o2 ∧ ar l i = a0 ∧ ar l (i + 1) = a1 ∧ ar l (i + 2) = a2 from ⟨ho0, ho1, ho2, ha0, ha1, ha2⟩)
  have ca0 := fun (U : World) (h : RdI U (some ⟨b, o, none⟩) n l) => at_r (c := c) l i U h hn
  have ca1 := fun (U : World) (h : RdI U (some ⟨b, o, none⟩) n l) => at_r1 (c := c) l i U h hn
  have ca2 := fun (U : World) (h : RdI U (some ⟨b, o, none⟩) n l) => at_r2 (c := c) l i U h hn
  rw [ho0] at ca0
  rw [ho1] at ca1
  rw [ho2] at ca2
  have CA0 := Lib.hid ca0
  have CA1 := Lib.hid ca1
  have CA2 := Lib.hid ca2
  have HCE := Lib.hid (show ∀ U, RdI U (some ⟨b, o, none⟩) n l → ∀ k, k < n → U.cell? ⟨b, o + k * 2, none⟩ = some (.int .i64 (op l k)) ∧ U.cell? ⟨b, o + k * 2 + 1, none⟩ = some (.int .i64 (ar l k)) from fun U h k hk => rd_at h hk)
  have i0 : (0 : Int) ≤ (i : Int) := Int.natCast_nonneg _
  have i1 : (i : Int) < (n : Int) := by omega
  have hx1 := i64w (x := (i : Int) + 1) (by omega) (by omega)
  have hx2 := i64w (x := (i : Int) + 2) (by omega) (by omega)
  have z0 : w.cell? ⟨b, o + i * 2 + 1, none⟩ = some (.int .i64 a0) := ha0 ▸ (HCE.out w hr i hi).2
  have HIN := Lib.hid (show ∀ k x, op l k = x → x ≠ 0 → k < n from fun k x h h2 => HL.out ▸ op_in (by rw [h]; exact h2))
  clear hr hb0 hcc ho0 ho1 ho2 ha0 ha1 ha2 ca0 ca1 ca2
  have H2 := Lib.hid (show o1 ≠ 0 → i + 2 ≤ n from fun h => by have h := HIN.out (i + 1) o1 HOP.out.2.1 h; omega)
  by_cases h10 : o0 = 10
  · subst h10
    by_cases h11 : o1 = 10
    · subst h11
      by_cases h25 : o2 = 25
      · subst h25
        have h2 := H2.out (by decide)
        have HW := Lib.hid (show knownR l i = some (swap l i 2 []) by obtain ⟨q0, q1, q2, q3, q4, q5⟩ := HOP.out; unfold knownR; rw [q0, q1, q2, q3, q4]; simp)
        go_enter Try.func36, Try.ntmps36
        go_wp2_with (first
          | (go_at_call 38; first | ((with_reducible refine (CA0.out _ HRc.out).mono ?_); rintro e w9 ⟨rfl, rfl⟩) | ((with_reducible refine (CA1.out _ HRc.out).mono ?_); rintro e w9 ⟨rfl, rfl⟩) | ((with_reducible refine (CA2.out _ HRc.out).mono ?_); rintro e w9 ⟨rfl, rfl⟩))
          | (go_at_call 40; refine (swap_r (B := none) (m := 0) (d := 0) l [] i 2 w HRc.out (Sk.Rd.nil _ none) hc h2 hn (by omega)).mono ?_; rintro e w4 ⟨v, rfl, ho, hb⟩; have HO := Lib.hid (ho.lower HBc.out.size); have HB4 := Lib.hid (HBc.out.trans (hb.mono HBc.out.size)); clear ho hb))
        go_ret2
        rw [HW.out]
        exact Res.yes HO.out HB4.out
      · have t2 : (o2 == 25) = false := by simpa using h25
        have HW := Lib.hid (show knownR l i = none by obtain ⟨q0, q1, q2, q3, q4, q5⟩ := HOP.out; unfold knownR; rw [q0, q1, q2, q3, q4]; simp [h25])
        clear h25
        go_enter Try.func36, Try.ntmps36
        go_wp2_with (go_at_call 38; first | ((with_reducible refine (CA0.out _ HRc.out).mono ?_); rintro e w9 ⟨rfl, rfl⟩) | ((with_reducible refine (CA1.out _ HRc.out).mono ?_); rintro e w9 ⟨rfl, rfl⟩) | ((with_reducible refine (CA2.out _ HRc.out).mono ?_); rintro e w9 ⟨rfl, rfl⟩))
        go_ret2
        rw [HW.out]
        exact Res.no HBc.out
    · have t1 : (o1 == 10) = false := by simpa using h11
      have HW := Lib.hid (show knownR l i = none by obtain ⟨q0, q1, q2, q3, q4, q5⟩ := HOP.out; unfold knownR; rw [q0, q1, q2, q3, q4]; simp [h11])
      clear h11
      go_enter Try.func36, Try.ntmps36
      go_wp2_with (go_at_call 38; first | ((with_reducible refine (CA0.out _ HRc.out).mono ?_); rintro e w9 ⟨rfl, rfl⟩) | ((with_reducible refine (CA1.out _ HRc.out).mono ?_); rintro e w9 ⟨rfl, rfl⟩) | ((with_reducible refine (CA2.out _ HRc.out).mono ?_); rintro e w9 ⟨rfl, rfl⟩))
      go_ret2
      rw [HW.out]
      exact Res.no HBc.out
  have s0 : (o0 == 10) = false := by simpa using h10
  by_cases h1 : o0 = 1
  · subst h1
    clear s0 h10
    by_cases h25 : o1 = 25
    · subst h25
      have h2 := H2.out (by decide)
      have z1 : w.cell? ⟨b, o + (i + 1) * 2 + 1, none⟩ = some (.int .i64 a1) := HOP.out.2.2.2.2.1 ▸ (HCE.out w HR.out (i + 1) (by omega)).2
      have j2 : (0 : Int) ≤ (i : Int) + 1 := by omega
      have j3 : (i : Int) + 1 < (n : Int) := by omega
      have hn1 : ((i : Int) + 1).toNat = i + 1 := by omega
      have cw := fun (U : World) => wrap_r a0 U
      have HW0 := Lib.hid (show knownR l i = if wr a0 = 0 then some (swap l i 2 [(24, a1)]) else some (swap l i 2 []) by obtain ⟨q0, q1, q2, q3, q4, q5⟩ := HOP.out; unfold knownR; rw [q0, q1, q2, q3, q4]; simp)
      obtain ⟨q, hq⟩ : ∃ q, wr a0 = q := ⟨_, rfl⟩
      rw [hq] at cw HW0
      have CW := Lib.hid cw
      clear hq cw
      by_cases hq : q = 0
      · subst hq
        have HW := Lib.hid (show knownR l i = some (swap l i 2 [(24, a1)]) by rw [HW0.out, if_pos rfl])
        obtain ⟨w3, hw3⟩ : ∃ W, w.alloc (.cells #[.int .i64 24, .int .i64 a1] 30) = W := ⟨_, rfl⟩
        have HB3 := Lib.hid (show Below w.heap.size w w3 by rw [← hw3]; exact (Below.refl _ _).alloc (Nat.le_refl _) _)
        have HV3 := Lib.hid (show RdI w3 (some ⟨w.heap.size, 0, none⟩) 1 [(24, a1)] by rw [← hw3]; exact Sk.rd_lit w 30 [(24, a1)] #[.int .i64 24, .int .i64 a1] rfl 1 rfl)
        go_enter Try.func36, Try.ntmps36
        go_wp2_with (first
          | (go_at_call 38; first | ((with_reducible refine (CA0.out _ HRc.out).mono ?_); rintro e w9 ⟨rfl, rfl⟩) | ((with_reducible refine (CA1.out _ HRc.out).mono ?_); rintro e w9 ⟨rfl, rfl⟩) | ((with_reducible refine (CA2.out _ HRc.out).mono ?_); rintro e w9 ⟨rfl, rfl⟩))
          | (go_at_call 53; refine (CW.out w).mono ?_; rintro e w9 ⟨rfl, rfl⟩)
          | (go_at_call 40; refine (swap_r l [(24, a1)] i 2 w3 (HR.out.below HB3.out) HV3.out hc h2 hn (by simp)).mono ?_; rintro e w4 ⟨v, rfl, ho, hb⟩; have HO := Lib.hid (ho.lower HB3.out.size); have HB4 := Lib.hid (HB3.out.trans (hb.mono HB3.out.size)); clear ho hb))
        go_ret2
        rw [HW.out]
        exact Res.yes HO.out HB4.out
      · have HW := Lib.hid (show knownR l i = some (swap l i 2 []) by rw [HW0.out, if_neg hq])
        have tq : (q == 0) = false := by simpa using hq
        clear hq
        go_enter Try.func36, Try.ntmps36
        go_wp2_with (first
          | (go_at_call 38; first | ((with_reducible refine (CA0.out _ HRc.out).mono ?_); rintro e w9 ⟨rfl, rfl⟩) | ((with_reducible refine (CA1.out _ HRc.out).mono ?_); rintro e w9 ⟨rfl, rfl⟩) | ((with_reducible refine (CA2.out _ HRc.out).mono ?_); rintro e w9 ⟨rfl, rfl⟩))
          | (go_at_call 53; refine (CW.out w).mono ?_; rintro e w9 ⟨rfl, rfl⟩)
          | (go_at_call 40; refine (swap_r (B := none) (m := 0) (d := 0) l [] i 2 w HRc.out (Sk.Rd.nil _ none) hc h2 hn (by omega)).mono ?_; rintro e w4 ⟨v, rfl, ho, hb⟩; have HO := Lib.hid (ho.lower HBc.out.size); have HB4 := Lib.hid (HBc.out.trans (hb.mono HBc.out.size)); clear ho hb))
        go_ret2
        rw [HW.out]
        exact Res.yes HO.out HB4.out
    have t1 : (o1 == 25) = false := by simpa using h25
    by_cases h22 : o1 = 2
    · subst h22
      have h2 := H2.out (by decide)
      clear h25
      have HW := Lib.hid (show knownR l i = some (swap l i 2 []) by obtain ⟨q0, q1, q2, q3, q4, q5⟩ := HOP.out; unfold knownR; rw [q0, q1, q2, q3, q4]; simp)
      go_enter Try.func36, Try.ntmps36
      go_wp2_with (first
        | (go_at_call 38; first | ((with_reducible refine (CA0.out _ HRc.out).mono ?_); rintro e w9 ⟨rfl, rfl⟩) | ((with_reducible refine (CA1.out _ HRc.out).mono ?_); rintro e w9 ⟨rfl, rfl⟩) | ((with_reducible refine (CA2.out _ HRc.out).mono ?_); rintro e w9 ⟨rfl, rfl⟩))
        | (go_at_call 40; refine (swap_r (B := none) (m := 0) (d := 0) l [] i 2 w HRc.out (Sk.Rd.nil _ none) hc h2 hn (by omega)).mono ?_; rintro e w4 ⟨v, rfl, ho, hb⟩; have HO := Lib.hid (ho.lower HBc.out.size); have HB4 := Lib.hid (HBc.out.trans (hb.mono HBc.out.size)); clear ho hb))
      go_ret2
      rw [HW.out]
      exact Res.yes HO.out HB4.out
    have t2 : (o1 == 2) = false := by simpa using h22
    have HW := Lib.hid (show knownR l i = none by obtain ⟨q0, q1, q2, q3, q4, q5⟩ := HOP.out; unfold knownR; rw [q0, q1, q2, q3, q4]; simp [h25, h22])
    clear h25 h22
    go_enter Try.func36, Try.ntmps36
    go_wp2_with (go_at_call 38; first | ((with_reducible refine (CA0.out _ HRc.out).mono ?_); rintro e w9 ⟨rfl, rfl⟩) | ((with_reducible refine (CA1.out _ HRc.out).mono ?_); rintro e w9 ⟨rfl, rfl⟩) | ((with_reducible refine (CA2.out _ HRc.out).mono ?_); rintro e w9 ⟨rfl, rfl⟩))
    go_ret2
    rw [HW.out]
    exact Res.no HBc.out
  have s1 : (o0 == 1) = false := by simpa using h1
  have HW := Lib.hid (show knownR l i = none by obtain ⟨q0, q1, q2, q3, q4, q5⟩ := HOP.out; unfold knownR; rw [q0, q1, q2, q3, q4]; simp [h10, h1])
  clear h10 h1
  go_enter Try.func36, Try.ntmps36
  go_wp2_with (go_at_call 38; first | ((with_reducible refine (CA0.out _ HRc.out).mono ?_); rintro e w9 ⟨rfl, rfl⟩) | ((with_reducible refine (CA1.out _ HRc.out).mono ?_); rintro e w9 ⟨rfl, rfl⟩) | ((with_reducible refine (CA2.out _ HRc.out).mono ?_); rintro e w9 ⟨rfl, rfl⟩))
  go_ret2
  rw [HW.out]
  exact Res.no HBc.out
end Go.Proofs.Ytmilnfboglhdgaa.PeepH
