/- attr.place, Prop, Put; clewref21.prop, Prop, Put. Conditions: the tables and the world read; 128 things, 16 props at most, and each thing's props are there. -/
import Derived.Test.YtncdicagadbafaaAttrZ
import Derived.Test.YtncdicagadbafaaTabB
namespace Go.Proofs.Ytncdicagadbafaa.AttrU
open Go Go.RowKit NestP NestW NestX NestY ValP ValW ValX ValR Sq WorldD CopP MoveP LvP MvA AttrP AttrW AttrX AttrY TabD TabW TabX TabB MixP Awk AwkP

/-- The error of a thing, and a prop; where the prop stands. -/
def plE (n np : Nat) (x p : Int) : Int := if isT n x = true then (if p < 0 ∨ (np : Int) ≤ p then 5 else 0) else 11
def plN (n np : Nat) (x p : Int) : Int := if plE n np x p = 0 then x * (np : Int) + p else 0
def propV (g : Wd) (np : Nat) (x p : Int) : Int := if plE g.n np x p = 0 then at' g.pr (x * (np : Int) + p) else 0
def putE (g : Wd) (np : Nat) (x p m : Int) : Int := if plE g.n np x p = 0 then (if isV m = true then 0 else 1) else plE g.n np x p
def putG (g : Wd) (np : Nat) (x p m : Int) : Wd := if plE g.n np x p = 0 then (if isV m = true then setP g (x * (np : Int) + p).toNat m else g) else g
/-- Each thing's props are there. -/
def Pl (g : Wd) (np : Nat) : Prop := g.n ≤ 128 ∧ np ≤ 16 ∧ g.pr.length = g.n * np
theorem pl_ok {n np : Nat} {x p : Int} : plE n np x p = 0 ↔ isT n x = true ∧ 0 ≤ p ∧ p < (np : Int) := by
  unfold plE
  constructor
  · intro h
    split at h
    · rename_i hx
      split at h
      · cases h
      · exact ⟨hx, by omega, by omega⟩
    · cases h
  · rintro ⟨hx, h0, h1⟩
    rw [if_pos hx, if_neg (by omega)]
/-- Where a prop stands. -/
theorem pl_ix {n np : Nat} {x p : Int} (h : plE n np x p = 0) (hn : n ≤ 128) (hp : np ≤ 16) : ∃ k q i0 ix : Nat, x = (k : Int) ∧ p = (q : Int) ∧ 1 ≤ k ∧ k < n ∧ q < np ∧ (k : Int) * (np : Int) = (i0 : Int) ∧ (i0 : Int) + (q : Int) = (ix : Int) ∧ x * (np : Int) + p = (ix : Int) ∧ i0 ≤ 2048 ∧ ix < n * np := by
  obtain ⟨hx, h0, h1⟩ := pl_ok.1 h
  have hx' := isT_iff.1 hx
  obtain ⟨k, rfl⟩ := Int.eq_ofNat_of_zero_le (show 0 ≤ x by omega)
  obtain ⟨q, rfl⟩ := Int.eq_ofNat_of_zero_le h0
  have h2 : k * np ≤ 128 * 16 := Nat.mul_le_mul (by omega) hp
  have h3 : (k + 1) * np ≤ n * np := Nat.mul_le_mul_right _ (by omega)
  rw [Nat.add_mul, Nat.one_mul] at h3
  exact ⟨k, q, k * np, k * np + q, rfl, rfl, by omega, by omega, by omega, by simp, by simp, by simp, h2, by omega⟩
theorem i16_bd (m : Int) : -32768 ≤ IntKind.i16.wrap m ∧ IntKind.i16.wrap m ≤ 32767 := by
  simp [IntKind.wrap, IntKind.bits, IntKind.signed]
  split <;> omega
theorem isV_eq (m : Int) : (m == IntKind.i16.wrap m) = isV m := by
  have hb := i16_bd m
  unfold isV fromB
  by_cases h : -32768 ≤ m ∧ m ≤ 32767
  · rw [decide_eq_true h.1, decide_eq_true h.2, IntWalk.i16_in _ h]
    simp
  · have h2 : m ≠ IntKind.i16.wrap m := fun e => h (by omega)
    rw [beq_eq_false_iff_ne.2 h2]
    symm
    rw [Bool.and_eq_false_iff]
    simp
    omega
theorem is_v (m : Int) (w : World) : Calls Try.prog 107 #[.int .i64 m] w fun e w' => e = .returned (.bool (isV m)) ∧ w = w' := by
  have HV0 := isV_eq m
  obtain ⟨hb0, hb1⟩ := i16_bd m
  obtain ⟨r, hr⟩ : ∃ r, IntKind.i16.wrap m = r := ⟨_, rfl⟩
  rw [hr] at HV0 hb0 hb1
  have HV := Lib.hid HV0
  clear HV0
  go_enter Try.func107, Try.ntmps107
  go_wp2_with fail
  go_ret
  exact ⟨by rw [← HV.out] <;> rfl, rfl⟩

set_option maxRecDepth 100000 in
set_option maxHeartbeats 4000000 in
theorem place_i {A0 A1 A2 A3 A4 A5 A6 : Option Addr} {n0 c0 n c1 n2 c2 n3 c3 n4 c4 n5 c5 n6 c6 : Nat} (t : TbV) (g : Wd) (x p : Int) (w : World) (_ : TbR w t) (hn : n ≤ 128) (hp : t.pr.n ≤ 16) :
    Calls Try.prog 105 #[.agg #[.int .i64 t.ti, .int .i64 t.au, .int .i64 t.rl, .int .i64 t.mx, .slice t.tx.a t.tx.n t.tx.c, .int .i64 t.fl, .slice t.pr.a t.pr.n t.pr.c, .slice t.gl.a t.gl.n t.gl.c, .slice t.th.a t.th.n t.th.c, .slice t.ac.a t.ac.n t.ac.c, .slice t.de.a t.de.n t.de.c, .slice t.fu.a t.fu.n t.fu.c, .slice t.da.a t.da.n t.da.c, .slice t.pm.a t.pm.n t.pm.c, .slice t.lo.a t.lo.n t.lo.c], .agg #[.slice A0 n0 c0, .slice A1 n c1, .slice A2 n2 c2, .slice A3 n3 c3, .slice A4 n4 c4, .slice A5 n5 c5, .slice A6 n6 c6, .int .u64 g.seed, .int .i64 g.sc, .int .i64 g.tu, .int .i64 g.ov, .int .i64 g.it, .int .i64 g.go], .int .i64 x, .int .i64 p] w fun e w' => e = .returned (.tuple #[.int .i64 (plN n t.pr.n x p), .int .i64 (plE n t.pr.n x p)]) ∧ Below w.heap.size w w' := by
  obtain ⟨E, hE2⟩ : ∃ E, plE n t.pr.n x p = E := ⟨_, rfl⟩
  rcases Decidable.em (E = 0) with rfl | hne
  · obtain ⟨k, q, i0, ix, rfl, rfl, h1, h2, h3, h4, h5, h6, h7, h8⟩ := pl_ix hE2 hn hp
    have HE := Lib.hid hE2
    have HN := Lib.hid (show plN n t.pr.n (k : Int) (q : Int) = (ix : Int) by unfold plN; rw [if_pos hE2]; exact h6)
    have HQ := Lib.hid (show isT n (k : Int) = true from (pl_ok.1 hE2).1)
    have hq1 : (q : Int) < (t.pr.n : Int) := by omega
    have hw1 : IntKind.i64.wrap ((k : Int) * (t.pr.n : Int)) = (i0 : Int) := by rw [h4]; exact IntWalk.i64_in _ (by omega)
    have hw2 : IntKind.i64.wrap ((i0 : Int) + (q : Int)) = (ix : Int) := by rw [h5]; exact IntWalk.i64_in _ (by omega)
    clear hE2 h4 h6 h8
    go_enter Try.func105, Try.ntmps105
    obtain ⟨W2, hW2⟩ : ∃ W2, (w.alloc (.cells #[.int .i64 t.ti, .int .i64 t.au, .int .i64 t.rl, .int .i64 t.mx, .slice t.tx.a t.tx.n t.tx.c, .int .i64 t.fl, .slice t.pr.a t.pr.n t.pr.c, .slice t.gl.a t.gl.n t.gl.c, .slice t.th.a t.th.n t.th.c, .slice t.ac.a t.ac.n t.ac.c, .slice t.de.a t.de.n t.de.c, .slice t.fu.a t.fu.n t.fu.c, .slice t.da.a t.da.n t.da.c, .slice t.pm.a t.pm.n t.pm.c, .slice t.lo.a t.lo.n t.lo.c] 28)).alloc (.cells #[.slice A0 n0 c0, .slice A1 n c1, .slice A2 n2 c2, .slice A3 n3 c3, .slice A4 n4 c4, .slice A5 n5 c5, .slice A6 n6 c6, .int .u64 g.seed, .int .i64 g.sc, .int .i64 g.tu, .int .i64 g.ov, .int .i64 g.it, .int .i64 g.go] 31) = W2 := ⟨_, rfl⟩
    have hX : Bx2 w #[.int .i64 t.ti, .int .i64 t.au, .int .i64 t.rl, .int .i64 t.mx, .slice t.tx.a t.tx.n t.tx.c, .int .i64 t.fl, .slice t.pr.a t.pr.n t.pr.c, .slice t.gl.a t.gl.n t.gl.c, .slice t.th.a t.th.n t.th.c, .slice t.ac.a t.ac.n t.ac.c, .slice t.de.a t.de.n t.de.c, .slice t.fu.a t.fu.n t.fu.c, .slice t.da.a t.da.n t.da.c, .slice t.pm.a t.pm.n t.pm.c, .slice t.lo.a t.lo.n t.lo.c] 28 (w.heap.size + 1) #[.slice A0 n0 c0, .slice A1 n c1, .slice A2 n2 c2, .slice A3 n3 c3, .slice A4 n4 c4, .slice A5 n5 c5, .slice A6 n6 c6, .int .u64 g.seed, .int .i64 g.sc, .int .i64 g.tu, .int .i64 g.ov, .int .i64 g.it, .int .i64 g.go] 31 W2 := by
      have h := Bx2.new (Bx.new w #[.int .i64 t.ti, .int .i64 t.au, .int .i64 t.rl, .int .i64 t.mx, .slice t.tx.a t.tx.n t.tx.c, .int .i64 t.fl, .slice t.pr.a t.pr.n t.pr.c, .slice t.gl.a t.gl.n t.gl.c, .slice t.th.a t.th.n t.th.c, .slice t.ac.a t.ac.n t.ac.c, .slice t.de.a t.de.n t.de.c, .slice t.fu.a t.fu.n t.fu.c, .slice t.da.a t.da.n t.da.c, .slice t.pm.a t.pm.n t.pm.c, .slice t.lo.a t.lo.n t.lo.c] 28) #[.slice A0 n0 c0, .slice A1 n c1, .slice A2 n2 c2, .slice A3 n3 c3, .slice A4 n4 c4, .slice A5 n5 c5, .slice A6 n6 c6, .int .u64 g.seed, .int .i64 g.sc, .int .i64 g.tu, .int .i64 g.ov, .int .i64 g.it, .int .i64 g.go] 31
      rw [hW2] at h
      simpa using h
    have HX := Lib.hid hX
    clear hX
    obtain ⟨t0, t1, t2, t3, t4, t5, t6, t7, t8, t9, t10, t11, t12, t13, t14, tf⟩ := cells15 HX.out.b1.box
    obtain ⟨x0, x1, x2, x3, x4, x5, x6, x7, x8, x9, x10, x11, x12, xf⟩ := cells13 HX.out.box2
    go_wp2_with (go_at_call 46; refine (is_n _ _).mono ?_; rintro e w1 ⟨rfl, hb⟩; rw [HQ.out]; have HX2 := Lib.hid (HX.out.on hb); clear HX hb; have HX := HX2; clear HX2; clear t0 t1 t2 t3 t4 t5 t6 t7 t8 t9 t10 t11 t12 t13 t14 tf x0 x1 x2 x3 x4 x5 x6 x7 x8 x9 x10 x11 x12 xf; obtain ⟨t0, t1, t2, t3, t4, t5, t6, t7, t8, t9, t10, t11, t12, t13, t14, tf⟩ := cells15 HX.out.b1.box; obtain ⟨x0, x1, x2, x3, x4, x5, x6, x7, x8, x9, x10, x11, x12, xf⟩ := cells13 HX.out.box2)
    go_ret2
    exact ⟨by rw [HE.out, HN.out] <;> rfl, HX.out.b1.below⟩
  · have HNN := Lib.hid (show plN n t.pr.n x p = 0 by unfold plN; rw [hE2, if_neg hne])
    have HE := Lib.hid hE2
    obtain ⟨q, hq⟩ : ∃ q, isT n x = q := ⟨_, rfl⟩
    obtain ⟨a, ha⟩ : ∃ a, decide (p < 0) = a := ⟨_, rfl⟩
    obtain ⟨b, hb⟩ : ∃ b, decide ((t.pr.n : Int) ≤ p) = b := ⟨_, rfl⟩
    have HV := Lib.hid (show E = if q = true then (if a = true ∨ b = true then 5 else 0) else 11 by rw [← hE2]; unfold plE; rw [hq, ← ha, ← hb]; simp only [decide_eq_true_eq])
    have hno : q = true → a = false → b = false → False := fun hq hA hB => hne (by rw [HV.out, hq, hA, hB]; rfl)
    have HQ := Lib.hid hq
    have bpr : t.pr.n ≤ 9223372036854775807 := by omega
    clear hE2 hne hq
    cases q <;> cases a <;> cases b
    all_goals first
      | exact (hno rfl rfl rfl).elim
      | (clear hno
         go_enter Try.func105, Try.ntmps105
         obtain ⟨W2, hW2⟩ : ∃ W2, (w.alloc (.cells #[.int .i64 t.ti, .int .i64 t.au, .int .i64 t.rl, .int .i64 t.mx, .slice t.tx.a t.tx.n t.tx.c, .int .i64 t.fl, .slice t.pr.a t.pr.n t.pr.c, .slice t.gl.a t.gl.n t.gl.c, .slice t.th.a t.th.n t.th.c, .slice t.ac.a t.ac.n t.ac.c, .slice t.de.a t.de.n t.de.c, .slice t.fu.a t.fu.n t.fu.c, .slice t.da.a t.da.n t.da.c, .slice t.pm.a t.pm.n t.pm.c, .slice t.lo.a t.lo.n t.lo.c] 28)).alloc (.cells #[.slice A0 n0 c0, .slice A1 n c1, .slice A2 n2 c2, .slice A3 n3 c3, .slice A4 n4 c4, .slice A5 n5 c5, .slice A6 n6 c6, .int .u64 g.seed, .int .i64 g.sc, .int .i64 g.tu, .int .i64 g.ov, .int .i64 g.it, .int .i64 g.go] 31) = W2 := ⟨_, rfl⟩
         have hX : Bx2 w #[.int .i64 t.ti, .int .i64 t.au, .int .i64 t.rl, .int .i64 t.mx, .slice t.tx.a t.tx.n t.tx.c, .int .i64 t.fl, .slice t.pr.a t.pr.n t.pr.c, .slice t.gl.a t.gl.n t.gl.c, .slice t.th.a t.th.n t.th.c, .slice t.ac.a t.ac.n t.ac.c, .slice t.de.a t.de.n t.de.c, .slice t.fu.a t.fu.n t.fu.c, .slice t.da.a t.da.n t.da.c, .slice t.pm.a t.pm.n t.pm.c, .slice t.lo.a t.lo.n t.lo.c] 28 (w.heap.size + 1) #[.slice A0 n0 c0, .slice A1 n c1, .slice A2 n2 c2, .slice A3 n3 c3, .slice A4 n4 c4, .slice A5 n5 c5, .slice A6 n6 c6, .int .u64 g.seed, .int .i64 g.sc, .int .i64 g.tu, .int .i64 g.ov, .int .i64 g.it, .int .i64 g.go] 31 W2 := by
           have h := Bx2.new (Bx.new w #[.int .i64 t.ti, .int .i64 t.au, .int .i64 t.rl, .int .i64 t.mx, .slice t.tx.a t.tx.n t.tx.c, .int .i64 t.fl, .slice t.pr.a t.pr.n t.pr.c, .slice t.gl.a t.gl.n t.gl.c, .slice t.th.a t.th.n t.th.c, .slice t.ac.a t.ac.n t.ac.c, .slice t.de.a t.de.n t.de.c, .slice t.fu.a t.fu.n t.fu.c, .slice t.da.a t.da.n t.da.c, .slice t.pm.a t.pm.n t.pm.c, .slice t.lo.a t.lo.n t.lo.c] 28) #[.slice A0 n0 c0, .slice A1 n c1, .slice A2 n2 c2, .slice A3 n3 c3, .slice A4 n4 c4, .slice A5 n5 c5, .slice A6 n6 c6, .int .u64 g.seed, .int .i64 g.sc, .int .i64 g.tu, .int .i64 g.ov, .int .i64 g.it, .int .i64 g.go] 31
           rw [hW2] at h
           simpa using h
         have HX := Lib.hid hX
         clear hX
         obtain ⟨t0, t1, t2, t3, t4, t5, t6, t7, t8, t9, t10, t11, t12, t13, t14, tf⟩ := cells15 HX.out.b1.box
         obtain ⟨x0, x1, x2, x3, x4, x5, x6, x7, x8, x9, x10, x11, x12, xf⟩ := cells13 HX.out.box2
         go_wp2_with (go_at_call 46; refine (is_n _ _).mono ?_; rintro e w1 ⟨rfl, hb⟩; rw [HQ.out]; have HX2 := Lib.hid (HX.out.on hb); clear HX hb; have HX := HX2; clear HX2; clear t0 t1 t2 t3 t4 t5 t6 t7 t8 t9 t10 t11 t12 t13 t14 tf x0 x1 x2 x3 x4 x5 x6 x7 x8 x9 x10 x11 x12 xf; obtain ⟨t0, t1, t2, t3, t4, t5, t6, t7, t8, t9, t10, t11, t12, t13, t14, tf⟩ := cells15 HX.out.b1.box; obtain ⟨x0, x1, x2, x3, x4, x5, x6, x7, x8, x9, x10, x11, x12, xf⟩ := cells13 HX.out.box2)
         go_ret2
         exact ⟨by rw [HE.out, HV.out, HNN.out] <;> rfl, HX.out.b1.below⟩)

set_option maxRecDepth 100000 in
set_option maxHeartbeats 4000000 in
theorem prop_e {A0 A1 A2 A3 A4 A5 A6 : Option Addr} {n0 c0 n c1 n2 c2 n3 c3 n4 c4 n5 c5 n6 c6 : Nat} (t : TbV) (g : Wd) (x p : Int) (w : World) (_ : TbR w t) (hn : n ≤ 128) (hp : t.pr.n ≤ 16) :
    Calls Try.prog 106 #[.agg #[.int .i64 t.ti, .int .i64 t.au, .int .i64 t.rl, .int .i64 t.mx, .slice t.tx.a t.tx.n t.tx.c, .int .i64 t.fl, .slice t.pr.a t.pr.n t.pr.c, .slice t.gl.a t.gl.n t.gl.c, .slice t.th.a t.th.n t.th.c, .slice t.ac.a t.ac.n t.ac.c, .slice t.de.a t.de.n t.de.c, .slice t.fu.a t.fu.n t.fu.c, .slice t.da.a t.da.n t.da.c, .slice t.pm.a t.pm.n t.pm.c, .slice t.lo.a t.lo.n t.lo.c], .agg #[.slice A0 n0 c0, .slice A1 n c1, .slice A2 n2 c2, .slice A3 n3 c3, .slice A4 n4 c4, .slice A5 n5 c5, .slice A6 n6 c6, .int .u64 g.seed, .int .i64 g.sc, .int .i64 g.tu, .int .i64 g.ov, .int .i64 g.it, .int .i64 g.go], .int .i64 x, .int .i64 p] w fun e w' => e = .returned (.int .i64 (plE n t.pr.n x p)) ∧ Below w.heap.size w w' := by
  obtain ⟨E, hE2⟩ : ∃ E, plE n t.pr.n x p = E := ⟨_, rfl⟩
  rcases Decidable.em (E = 0) with rfl | hne
  · obtain ⟨k, q, i0, ix, rfl, rfl, h1, h2, h3, h4, h5, h6, h7, h8⟩ := pl_ix hE2 hn hp
    have HE := Lib.hid hE2
    have HN := Lib.hid (show plN n t.pr.n (k : Int) (q : Int) = (ix : Int) by unfold plN; rw [if_pos hE2]; exact h6)
    have HQ := Lib.hid (show isT n (k : Int) = true from (pl_ok.1 hE2).1)
    have hq1 : (q : Int) < (t.pr.n : Int) := by omega
    have hw1 : IntKind.i64.wrap ((k : Int) * (t.pr.n : Int)) = (i0 : Int) := by rw [h4]; exact IntWalk.i64_in _ (by omega)
    have hw2 : IntKind.i64.wrap ((i0 : Int) + (q : Int)) = (ix : Int) := by rw [h5]; exact IntWalk.i64_in _ (by omega)
    clear hE2 h4 h6 h8
    go_enter Try.func106, Try.ntmps106
    obtain ⟨W2, hW2⟩ : ∃ W2, (w.alloc (.cells #[.int .i64 t.ti, .int .i64 t.au, .int .i64 t.rl, .int .i64 t.mx, .slice t.tx.a t.tx.n t.tx.c, .int .i64 t.fl, .slice t.pr.a t.pr.n t.pr.c, .slice t.gl.a t.gl.n t.gl.c, .slice t.th.a t.th.n t.th.c, .slice t.ac.a t.ac.n t.ac.c, .slice t.de.a t.de.n t.de.c, .slice t.fu.a t.fu.n t.fu.c, .slice t.da.a t.da.n t.da.c, .slice t.pm.a t.pm.n t.pm.c, .slice t.lo.a t.lo.n t.lo.c] 28)).alloc (.cells #[.slice A0 n0 c0, .slice A1 n c1, .slice A2 n2 c2, .slice A3 n3 c3, .slice A4 n4 c4, .slice A5 n5 c5, .slice A6 n6 c6, .int .u64 g.seed, .int .i64 g.sc, .int .i64 g.tu, .int .i64 g.ov, .int .i64 g.it, .int .i64 g.go] 31) = W2 := ⟨_, rfl⟩
    have hX : Bx2 w #[.int .i64 t.ti, .int .i64 t.au, .int .i64 t.rl, .int .i64 t.mx, .slice t.tx.a t.tx.n t.tx.c, .int .i64 t.fl, .slice t.pr.a t.pr.n t.pr.c, .slice t.gl.a t.gl.n t.gl.c, .slice t.th.a t.th.n t.th.c, .slice t.ac.a t.ac.n t.ac.c, .slice t.de.a t.de.n t.de.c, .slice t.fu.a t.fu.n t.fu.c, .slice t.da.a t.da.n t.da.c, .slice t.pm.a t.pm.n t.pm.c, .slice t.lo.a t.lo.n t.lo.c] 28 (w.heap.size + 1) #[.slice A0 n0 c0, .slice A1 n c1, .slice A2 n2 c2, .slice A3 n3 c3, .slice A4 n4 c4, .slice A5 n5 c5, .slice A6 n6 c6, .int .u64 g.seed, .int .i64 g.sc, .int .i64 g.tu, .int .i64 g.ov, .int .i64 g.it, .int .i64 g.go] 31 W2 := by
      have h := Bx2.new (Bx.new w #[.int .i64 t.ti, .int .i64 t.au, .int .i64 t.rl, .int .i64 t.mx, .slice t.tx.a t.tx.n t.tx.c, .int .i64 t.fl, .slice t.pr.a t.pr.n t.pr.c, .slice t.gl.a t.gl.n t.gl.c, .slice t.th.a t.th.n t.th.c, .slice t.ac.a t.ac.n t.ac.c, .slice t.de.a t.de.n t.de.c, .slice t.fu.a t.fu.n t.fu.c, .slice t.da.a t.da.n t.da.c, .slice t.pm.a t.pm.n t.pm.c, .slice t.lo.a t.lo.n t.lo.c] 28) #[.slice A0 n0 c0, .slice A1 n c1, .slice A2 n2 c2, .slice A3 n3 c3, .slice A4 n4 c4, .slice A5 n5 c5, .slice A6 n6 c6, .int .u64 g.seed, .int .i64 g.sc, .int .i64 g.tu, .int .i64 g.ov, .int .i64 g.it, .int .i64 g.go] 31
      rw [hW2] at h
      simpa using h
    have HX := Lib.hid hX
    clear hX
    obtain ⟨t0, t1, t2, t3, t4, t5, t6, t7, t8, t9, t10, t11, t12, t13, t14, tf⟩ := cells15 HX.out.b1.box
    obtain ⟨x0, x1, x2, x3, x4, x5, x6, x7, x8, x9, x10, x11, x12, xf⟩ := cells13 HX.out.box2
    go_wp2_with (go_at_call 45; refine (is_o _ _).mono ?_; rintro e w1 ⟨rfl, hb⟩; rw [HQ.out]; have HX2 := Lib.hid (HX.out.on hb); clear HX hb; have HX := HX2; clear HX2; clear t0 t1 t2 t3 t4 t5 t6 t7 t8 t9 t10 t11 t12 t13 t14 tf x0 x1 x2 x3 x4 x5 x6 x7 x8 x9 x10 x11 x12 xf; obtain ⟨t0, t1, t2, t3, t4, t5, t6, t7, t8, t9, t10, t11, t12, t13, t14, tf⟩ := cells15 HX.out.b1.box; obtain ⟨x0, x1, x2, x3, x4, x5, x6, x7, x8, x9, x10, x11, x12, xf⟩ := cells13 HX.out.box2)
    go_ret
    exact ⟨by rw [HE.out] <;> rfl, HX.out.b1.below⟩
  · have HNN := Lib.hid (show plN n t.pr.n x p = 0 by unfold plN; rw [hE2, if_neg hne])
    have HE := Lib.hid hE2
    obtain ⟨q, hq⟩ : ∃ q, isT n x = q := ⟨_, rfl⟩
    obtain ⟨a, ha⟩ : ∃ a, decide (p < 0) = a := ⟨_, rfl⟩
    obtain ⟨b, hb⟩ : ∃ b, decide ((t.pr.n : Int) ≤ p) = b := ⟨_, rfl⟩
    have HV := Lib.hid (show E = if q = true then (if a = true ∨ b = true then 5 else 0) else 11 by rw [← hE2]; unfold plE; rw [hq, ← ha, ← hb]; simp only [decide_eq_true_eq])
    have hno : q = true → a = false → b = false → False := fun hq hA hB => hne (by rw [HV.out, hq, hA, hB]; rfl)
    have HQ := Lib.hid hq
    have bpr : t.pr.n ≤ 9223372036854775807 := by omega
    clear hE2 hne hq
    cases q <;> cases a <;> cases b
    all_goals first
      | exact (hno rfl rfl rfl).elim
      | (clear hno
         go_enter Try.func106, Try.ntmps106
         obtain ⟨W2, hW2⟩ : ∃ W2, (w.alloc (.cells #[.int .i64 t.ti, .int .i64 t.au, .int .i64 t.rl, .int .i64 t.mx, .slice t.tx.a t.tx.n t.tx.c, .int .i64 t.fl, .slice t.pr.a t.pr.n t.pr.c, .slice t.gl.a t.gl.n t.gl.c, .slice t.th.a t.th.n t.th.c, .slice t.ac.a t.ac.n t.ac.c, .slice t.de.a t.de.n t.de.c, .slice t.fu.a t.fu.n t.fu.c, .slice t.da.a t.da.n t.da.c, .slice t.pm.a t.pm.n t.pm.c, .slice t.lo.a t.lo.n t.lo.c] 28)).alloc (.cells #[.slice A0 n0 c0, .slice A1 n c1, .slice A2 n2 c2, .slice A3 n3 c3, .slice A4 n4 c4, .slice A5 n5 c5, .slice A6 n6 c6, .int .u64 g.seed, .int .i64 g.sc, .int .i64 g.tu, .int .i64 g.ov, .int .i64 g.it, .int .i64 g.go] 31) = W2 := ⟨_, rfl⟩
         have hX : Bx2 w #[.int .i64 t.ti, .int .i64 t.au, .int .i64 t.rl, .int .i64 t.mx, .slice t.tx.a t.tx.n t.tx.c, .int .i64 t.fl, .slice t.pr.a t.pr.n t.pr.c, .slice t.gl.a t.gl.n t.gl.c, .slice t.th.a t.th.n t.th.c, .slice t.ac.a t.ac.n t.ac.c, .slice t.de.a t.de.n t.de.c, .slice t.fu.a t.fu.n t.fu.c, .slice t.da.a t.da.n t.da.c, .slice t.pm.a t.pm.n t.pm.c, .slice t.lo.a t.lo.n t.lo.c] 28 (w.heap.size + 1) #[.slice A0 n0 c0, .slice A1 n c1, .slice A2 n2 c2, .slice A3 n3 c3, .slice A4 n4 c4, .slice A5 n5 c5, .slice A6 n6 c6, .int .u64 g.seed, .int .i64 g.sc, .int .i64 g.tu, .int .i64 g.ov, .int .i64 g.it, .int .i64 g.go] 31 W2 := by
           have h := Bx2.new (Bx.new w #[.int .i64 t.ti, .int .i64 t.au, .int .i64 t.rl, .int .i64 t.mx, .slice t.tx.a t.tx.n t.tx.c, .int .i64 t.fl, .slice t.pr.a t.pr.n t.pr.c, .slice t.gl.a t.gl.n t.gl.c, .slice t.th.a t.th.n t.th.c, .slice t.ac.a t.ac.n t.ac.c, .slice t.de.a t.de.n t.de.c, .slice t.fu.a t.fu.n t.fu.c, .slice t.da.a t.da.n t.da.c, .slice t.pm.a t.pm.n t.pm.c, .slice t.lo.a t.lo.n t.lo.c] 28) #[.slice A0 n0 c0, .slice A1 n c1, .slice A2 n2 c2, .slice A3 n3 c3, .slice A4 n4 c4, .slice A5 n5 c5, .slice A6 n6 c6, .int .u64 g.seed, .int .i64 g.sc, .int .i64 g.tu, .int .i64 g.ov, .int .i64 g.it, .int .i64 g.go] 31
           rw [hW2] at h
           simpa using h
         have HX := Lib.hid hX
         clear hX
         obtain ⟨t0, t1, t2, t3, t4, t5, t6, t7, t8, t9, t10, t11, t12, t13, t14, tf⟩ := cells15 HX.out.b1.box
         obtain ⟨x0, x1, x2, x3, x4, x5, x6, x7, x8, x9, x10, x11, x12, xf⟩ := cells13 HX.out.box2
         go_wp2_with (go_at_call 45; refine (is_o _ _).mono ?_; rintro e w1 ⟨rfl, hb⟩; rw [HQ.out]; have HX2 := Lib.hid (HX.out.on hb); clear HX hb; have HX := HX2; clear HX2; clear t0 t1 t2 t3 t4 t5 t6 t7 t8 t9 t10 t11 t12 t13 t14 tf x0 x1 x2 x3 x4 x5 x6 x7 x8 x9 x10 x11 x12 xf; obtain ⟨t0, t1, t2, t3, t4, t5, t6, t7, t8, t9, t10, t11, t12, t13, t14, tf⟩ := cells15 HX.out.b1.box; obtain ⟨x0, x1, x2, x3, x4, x5, x6, x7, x8, x9, x10, x11, x12, xf⟩ := cells13 HX.out.box2)
         go_ret
         exact ⟨by rw [HE.out, HV.out] <;> rfl, HX.out.b1.below⟩)

set_option maxRecDepth 100000 in
set_option maxHeartbeats 4000000 in
theorem prop_i {v : Value} (t : TbV) (g : Wd) (x p : Int) (w : World) (hr : TbR w t) (ho : Wo w v g) (hP : Pl g t.pr.n) :
    Calls Try.prog 32 #[.agg #[.int .i64 t.ti, .int .i64 t.au, .int .i64 t.rl, .int .i64 t.mx, .slice t.tx.a t.tx.n t.tx.c, .int .i64 t.fl, .slice t.pr.a t.pr.n t.pr.c, .slice t.gl.a t.gl.n t.gl.c, .slice t.th.a t.th.n t.th.c, .slice t.ac.a t.ac.n t.ac.c, .slice t.de.a t.de.n t.de.c, .slice t.fu.a t.fu.n t.fu.c, .slice t.da.a t.da.n t.da.c, .slice t.pm.a t.pm.n t.pm.c, .slice t.lo.a t.lo.n t.lo.c], v, .int .i64 x, .int .i64 p] w fun e w' => e = .returned (.tuple #[.int .i64 (propV g t.pr.n x p), .int .i64 (plE g.n t.pr.n x p)]) ∧ Below w.heap.size w w' := by
  obtain ⟨A0, A1, A2, A3, A4, A5, A6, n0, c0, n, c1, n2, c2, n3, c3, n4, c4, n5, c5, n6, c6, rfl, ⟨r0, r1, r2, r3, r4, r5, r6⟩, hu, hw, hb⟩ := ho
  have hg : g.n = n := r1.len.symm
  obtain ⟨hn128, hp16, hlen⟩ := hP
  rw [hg] at hn128 hlen ⊢
  have hl5 : n5 = n * t.pr.n := r5.len.trans hlen
  have R5 := Lib.hid r5
  have HTB := Lib.hid hr
  have HPV := Lib.hid (show propV g t.pr.n x p = if plE n t.pr.n x p = 0 then at' g.pr (x * (t.pr.n : Int) + p) else 0 by unfold propV; rw [hg])
  rw [HPV.out]
  clear r0 r1 r2 r3 r4 r5 r6 hu hw hb hr hg
  obtain ⟨E, hE2⟩ : ∃ E, plE n t.pr.n x p = E := ⟨_, rfl⟩
  rcases Decidable.em (E = 0) with rfl | hne
  · obtain ⟨k, q, i0, ix, rfl, rfl, h1, h2, h3, h4, h5, h6, h7, h8⟩ := pl_ix hE2 hn128 hp16
    rw [if_pos hE2, h6, hE2]
    have HE := Lib.hid hE2
    have HN := Lib.hid (show plN n t.pr.n (k : Int) (q : Int) = (ix : Int) by unfold plN; rw [if_pos hE2]; exact h6)
    have hw1 : IntKind.i64.wrap ((k : Int) * (t.pr.n : Int)) = (i0 : Int) := by rw [h4]; exact IntWalk.i64_in _ (by omega)
    have hw2 : IntKind.i64.wrap ((i0 : Int) + (q : Int)) = (ix : Int) := by rw [h5]; exact IntWalk.i64_in _ (by omega)
    rw [← hl5] at h8
    obtain ⟨b, o, rfl, hbb, hl, hcell⟩ := R5.out.at_ h8
    have e0 : at' g.pr (ix : Int) = g.pr[ix] := by unfold at'; rw [if_pos (by omega), List.getD_eq_getElem?_getD, Int.toNat_natCast, List.getElem?_eq_getElem hl]; rfl
    rw [e0]
    obtain ⟨m, hm⟩ : ∃ m, g.pr[ix] = m := ⟨_, rfl⟩
    rw [hm] at hcell ⊢
    unfold I at hcell
    have HC := Lib.hid hcell
    have x0' : (0 : Int) ≤ (ix : Int) := by omega
    have x1' : (ix : Int) < (n5 : Int) := by omega
    clear hE2 h4 h6 hl5 hlen hcell hm e0 hl HPV
    go_enter Try.func32, Try.ntmps32
    obtain ⟨W2, hW2⟩ : ∃ W2, (w.alloc (.cells #[.int .i64 t.ti, .int .i64 t.au, .int .i64 t.rl, .int .i64 t.mx, .slice t.tx.a t.tx.n t.tx.c, .int .i64 t.fl, .slice t.pr.a t.pr.n t.pr.c, .slice t.gl.a t.gl.n t.gl.c, .slice t.th.a t.th.n t.th.c, .slice t.ac.a t.ac.n t.ac.c, .slice t.de.a t.de.n t.de.c, .slice t.fu.a t.fu.n t.fu.c, .slice t.da.a t.da.n t.da.c, .slice t.pm.a t.pm.n t.pm.c, .slice t.lo.a t.lo.n t.lo.c] 28)).alloc (.cells #[.slice A0 n0 c0, .slice A1 n c1, .slice A2 n2 c2, .slice A3 n3 c3, .slice A4 n4 c4, .slice (some ⟨b, o, none⟩) n5 c5, .slice A6 n6 c6, .int .u64 g.seed, .int .i64 g.sc, .int .i64 g.tu, .int .i64 g.ov, .int .i64 g.it, .int .i64 g.go] 31) = W2 := ⟨_, rfl⟩
    have hX : Bx2 w #[.int .i64 t.ti, .int .i64 t.au, .int .i64 t.rl, .int .i64 t.mx, .slice t.tx.a t.tx.n t.tx.c, .int .i64 t.fl, .slice t.pr.a t.pr.n t.pr.c, .slice t.gl.a t.gl.n t.gl.c, .slice t.th.a t.th.n t.th.c, .slice t.ac.a t.ac.n t.ac.c, .slice t.de.a t.de.n t.de.c, .slice t.fu.a t.fu.n t.fu.c, .slice t.da.a t.da.n t.da.c, .slice t.pm.a t.pm.n t.pm.c, .slice t.lo.a t.lo.n t.lo.c] 28 (w.heap.size + 1) #[.slice A0 n0 c0, .slice A1 n c1, .slice A2 n2 c2, .slice A3 n3 c3, .slice A4 n4 c4, .slice (some ⟨b, o, none⟩) n5 c5, .slice A6 n6 c6, .int .u64 g.seed, .int .i64 g.sc, .int .i64 g.tu, .int .i64 g.ov, .int .i64 g.it, .int .i64 g.go] 31 W2 := by
      have h := Bx2.new (Bx.new w #[.int .i64 t.ti, .int .i64 t.au, .int .i64 t.rl, .int .i64 t.mx, .slice t.tx.a t.tx.n t.tx.c, .int .i64 t.fl, .slice t.pr.a t.pr.n t.pr.c, .slice t.gl.a t.gl.n t.gl.c, .slice t.th.a t.th.n t.th.c, .slice t.ac.a t.ac.n t.ac.c, .slice t.de.a t.de.n t.de.c, .slice t.fu.a t.fu.n t.fu.c, .slice t.da.a t.da.n t.da.c, .slice t.pm.a t.pm.n t.pm.c, .slice t.lo.a t.lo.n t.lo.c] 28) #[.slice A0 n0 c0, .slice A1 n c1, .slice A2 n2 c2, .slice A3 n3 c3, .slice A4 n4 c4, .slice (some ⟨b, o, none⟩) n5 c5, .slice A6 n6 c6, .int .u64 g.seed, .int .i64 g.sc, .int .i64 g.tu, .int .i64 g.ov, .int .i64 g.it, .int .i64 g.go] 31
      rw [hW2] at h
      simpa using h
    have HX := Lib.hid hX
    clear hX
    obtain ⟨t0, t1, t2, t3, t4, t5, t6, t7, t8, t9, t10, t11, t12, t13, t14, tf⟩ := cells15 HX.out.b1.box
    obtain ⟨x0, x1, x2, x3, x4, x5, x6, x7, x8, x9, x10, x11, x12, xf⟩ := cells13 HX.out.box2
    go_wp2_with (go_at_call 105; refine (place_i t g _ _ _ (TbR.below HTB.out HX.out.b1.below) hn128 hp16).mono ?_; rintro e w1 ⟨rfl, hb⟩; rw [HN.out, HE.out]; have HX2 := Lib.hid (HX.out.on hb); clear HX hb; have HX := HX2; clear HX2; clear t0 t1 t2 t3 t4 t5 t6 t7 t8 t9 t10 t11 t12 t13 t14 tf x0 x1 x2 x3 x4 x5 x6 x7 x8 x9 x10 x11 x12 xf; obtain ⟨t0, t1, t2, t3, t4, t5, t6, t7, t8, t9, t10, t11, t12, t13, t14, tf⟩ := cells15 HX.out.b1.box; obtain ⟨x0, x1, x2, x3, x4, x5, x6, x7, x8, x9, x10, x11, x12, xf⟩ := cells13 HX.out.box2; have hc := (HX.out.b1.below.cell (p := ⟨b, o + ix, none⟩) hbb).trans HC.out)
    go_ret2
    exact ⟨rfl, HX.out.b1.below⟩
  · rw [if_neg (by rw [hE2]; exact hne), hE2]
    have HE := Lib.hid hE2
    have HN := Lib.hid (show plN n t.pr.n x p = 0 by unfold plN; rw [hE2, if_neg hne])
    have t0' : (E != (0 : Int)) = true := by simpa using hne
    clear hE2 hne HPV hl5 hlen
    go_enter Try.func32, Try.ntmps32
    obtain ⟨W2, hW2⟩ : ∃ W2, (w.alloc (.cells #[.int .i64 t.ti, .int .i64 t.au, .int .i64 t.rl, .int .i64 t.mx, .slice t.tx.a t.tx.n t.tx.c, .int .i64 t.fl, .slice t.pr.a t.pr.n t.pr.c, .slice t.gl.a t.gl.n t.gl.c, .slice t.th.a t.th.n t.th.c, .slice t.ac.a t.ac.n t.ac.c, .slice t.de.a t.de.n t.de.c, .slice t.fu.a t.fu.n t.fu.c, .slice t.da.a t.da.n t.da.c, .slice t.pm.a t.pm.n t.pm.c, .slice t.lo.a t.lo.n t.lo.c] 28)).alloc (.cells #[.slice A0 n0 c0, .slice A1 n c1, .slice A2 n2 c2, .slice A3 n3 c3, .slice A4 n4 c4, .slice A5 n5 c5, .slice A6 n6 c6, .int .u64 g.seed, .int .i64 g.sc, .int .i64 g.tu, .int .i64 g.ov, .int .i64 g.it, .int .i64 g.go] 31) = W2 := ⟨_, rfl⟩
    have hX : Bx2 w #[.int .i64 t.ti, .int .i64 t.au, .int .i64 t.rl, .int .i64 t.mx, .slice t.tx.a t.tx.n t.tx.c, .int .i64 t.fl, .slice t.pr.a t.pr.n t.pr.c, .slice t.gl.a t.gl.n t.gl.c, .slice t.th.a t.th.n t.th.c, .slice t.ac.a t.ac.n t.ac.c, .slice t.de.a t.de.n t.de.c, .slice t.fu.a t.fu.n t.fu.c, .slice t.da.a t.da.n t.da.c, .slice t.pm.a t.pm.n t.pm.c, .slice t.lo.a t.lo.n t.lo.c] 28 (w.heap.size + 1) #[.slice A0 n0 c0, .slice A1 n c1, .slice A2 n2 c2, .slice A3 n3 c3, .slice A4 n4 c4, .slice A5 n5 c5, .slice A6 n6 c6, .int .u64 g.seed, .int .i64 g.sc, .int .i64 g.tu, .int .i64 g.ov, .int .i64 g.it, .int .i64 g.go] 31 W2 := by
      have h := Bx2.new (Bx.new w #[.int .i64 t.ti, .int .i64 t.au, .int .i64 t.rl, .int .i64 t.mx, .slice t.tx.a t.tx.n t.tx.c, .int .i64 t.fl, .slice t.pr.a t.pr.n t.pr.c, .slice t.gl.a t.gl.n t.gl.c, .slice t.th.a t.th.n t.th.c, .slice t.ac.a t.ac.n t.ac.c, .slice t.de.a t.de.n t.de.c, .slice t.fu.a t.fu.n t.fu.c, .slice t.da.a t.da.n t.da.c, .slice t.pm.a t.pm.n t.pm.c, .slice t.lo.a t.lo.n t.lo.c] 28) #[.slice A0 n0 c0, .slice A1 n c1, .slice A2 n2 c2, .slice A3 n3 c3, .slice A4 n4 c4, .slice A5 n5 c5, .slice A6 n6 c6, .int .u64 g.seed, .int .i64 g.sc, .int .i64 g.tu, .int .i64 g.ov, .int .i64 g.it, .int .i64 g.go] 31
      rw [hW2] at h
      simpa using h
    have HX := Lib.hid hX
    clear hX
    obtain ⟨t0, t1, t2, t3, t4, t5, t6, t7, t8, t9, t10, t11, t12, t13, t14, tf⟩ := cells15 HX.out.b1.box
    obtain ⟨x0, x1, x2, x3, x4, x5, x6, x7, x8, x9, x10, x11, x12, xf⟩ := cells13 HX.out.box2
    go_wp2_with (go_at_call 105; refine (place_i t g _ _ _ (TbR.below HTB.out HX.out.b1.below) hn128 hp16).mono ?_; rintro e w1 ⟨rfl, hb⟩; rw [HN.out, HE.out]; have HX2 := Lib.hid (HX.out.on hb); clear HX hb; have HX := HX2; clear HX2; clear t0 t1 t2 t3 t4 t5 t6 t7 t8 t9 t10 t11 t12 t13 t14 tf x0 x1 x2 x3 x4 x5 x6 x7 x8 x9 x10 x11 x12 xf; obtain ⟨t0, t1, t2, t3, t4, t5, t6, t7, t8, t9, t10, t11, t12, t13, t14, tf⟩ := cells15 HX.out.b1.box; obtain ⟨x0, x1, x2, x3, x4, x5, x6, x7, x8, x9, x10, x11, x12, xf⟩ := cells13 HX.out.box2)
    go_ret2
    exact ⟨rfl, HX.out.b1.below⟩

set_option maxRecDepth 100000 in
set_option maxHeartbeats 4000000 in
theorem prop_r {v : Value} (t : TbV) (g : Wd) (x p : Int) (w : World) (hr : TbR w t) (ho : Wo w v g) (hP : Pl g t.pr.n) :
    Calls Try.prog 33 #[.agg #[.int .i64 t.ti, .int .i64 t.au, .int .i64 t.rl, .int .i64 t.mx, .slice t.tx.a t.tx.n t.tx.c, .int .i64 t.fl, .slice t.pr.a t.pr.n t.pr.c, .slice t.gl.a t.gl.n t.gl.c, .slice t.th.a t.th.n t.th.c, .slice t.ac.a t.ac.n t.ac.c, .slice t.de.a t.de.n t.de.c, .slice t.fu.a t.fu.n t.fu.c, .slice t.da.a t.da.n t.da.c, .slice t.pm.a t.pm.n t.pm.c, .slice t.lo.a t.lo.n t.lo.c], v, .int .i64 x, .int .i64 p] w fun e w' => e = .returned (.tuple #[.int .i64 (propV g t.pr.n x p), .int .i64 (plE g.n t.pr.n x p)]) ∧ Below w.heap.size w w' := by
  obtain ⟨A0, A1, A2, A3, A4, A5, A6, n0, c0, n, c1, n2, c2, n3, c3, n4, c4, n5, c5, n6, c6, rfl, ⟨r0, r1, r2, r3, r4, r5, r6⟩, hu, hw, hb⟩ := ho
  have hg : g.n = n := r1.len.symm
  obtain ⟨hn128, hp16, hlen⟩ := hP
  rw [hg] at hn128 hlen ⊢
  have hl5 : n5 = n * t.pr.n := r5.len.trans hlen
  have R5 := Lib.hid r5
  have HTB := Lib.hid hr
  have HPV := Lib.hid (show propV g t.pr.n x p = if plE n t.pr.n x p = 0 then at' g.pr (x * (t.pr.n : Int) + p) else 0 by unfold propV; rw [hg])
  rw [HPV.out]
  clear r0 r1 r2 r3 r4 r5 r6 hu hw hb hr hg
  obtain ⟨E, hE2⟩ : ∃ E, plE n t.pr.n x p = E := ⟨_, rfl⟩
  rcases Decidable.em (E = 0) with rfl | hne
  · obtain ⟨k, q, i0, ix, rfl, rfl, h1, h2, h3, h4, h5, h6, h7, h8⟩ := pl_ix hE2 hn128 hp16
    rw [if_pos hE2, h6, hE2]
    have HE := Lib.hid hE2
    have HN := Lib.hid (show plN n t.pr.n (k : Int) (q : Int) = (ix : Int) by unfold plN; rw [if_pos hE2]; exact h6)
    have hw1 : IntKind.i64.wrap ((k : Int) * (t.pr.n : Int)) = (i0 : Int) := by rw [h4]; exact IntWalk.i64_in _ (by omega)
    have hw2 : IntKind.i64.wrap ((i0 : Int) + (q : Int)) = (ix : Int) := by rw [h5]; exact IntWalk.i64_in _ (by omega)
    rw [← hl5] at h8
    obtain ⟨b, o, rfl, hbb, hl, hcell⟩ := R5.out.at_ h8
    have e0 : at' g.pr (ix : Int) = g.pr[ix] := by unfold at'; rw [if_pos (by omega), List.getD_eq_getElem?_getD, Int.toNat_natCast, List.getElem?_eq_getElem hl]; rfl
    rw [e0]
    obtain ⟨m, hm⟩ : ∃ m, g.pr[ix] = m := ⟨_, rfl⟩
    rw [hm] at hcell ⊢
    unfold I at hcell
    have HC := Lib.hid hcell
    have x0' : (0 : Int) ≤ (ix : Int) := by omega
    have x1' : (ix : Int) < (n5 : Int) := by omega
    clear hE2 h4 h6 hl5 hlen hcell hm e0 hl HPV
    go_enter Try.func33, Try.ntmps33
    obtain ⟨W2, hW2⟩ : ∃ W2, (w.alloc (.cells #[.int .i64 t.ti, .int .i64 t.au, .int .i64 t.rl, .int .i64 t.mx, .slice t.tx.a t.tx.n t.tx.c, .int .i64 t.fl, .slice t.pr.a t.pr.n t.pr.c, .slice t.gl.a t.gl.n t.gl.c, .slice t.th.a t.th.n t.th.c, .slice t.ac.a t.ac.n t.ac.c, .slice t.de.a t.de.n t.de.c, .slice t.fu.a t.fu.n t.fu.c, .slice t.da.a t.da.n t.da.c, .slice t.pm.a t.pm.n t.pm.c, .slice t.lo.a t.lo.n t.lo.c] 28)).alloc (.cells #[.slice A0 n0 c0, .slice A1 n c1, .slice A2 n2 c2, .slice A3 n3 c3, .slice A4 n4 c4, .slice (some ⟨b, o, none⟩) n5 c5, .slice A6 n6 c6, .int .u64 g.seed, .int .i64 g.sc, .int .i64 g.tu, .int .i64 g.ov, .int .i64 g.it, .int .i64 g.go] 31) = W2 := ⟨_, rfl⟩
    have hX : Bx2 w #[.int .i64 t.ti, .int .i64 t.au, .int .i64 t.rl, .int .i64 t.mx, .slice t.tx.a t.tx.n t.tx.c, .int .i64 t.fl, .slice t.pr.a t.pr.n t.pr.c, .slice t.gl.a t.gl.n t.gl.c, .slice t.th.a t.th.n t.th.c, .slice t.ac.a t.ac.n t.ac.c, .slice t.de.a t.de.n t.de.c, .slice t.fu.a t.fu.n t.fu.c, .slice t.da.a t.da.n t.da.c, .slice t.pm.a t.pm.n t.pm.c, .slice t.lo.a t.lo.n t.lo.c] 28 (w.heap.size + 1) #[.slice A0 n0 c0, .slice A1 n c1, .slice A2 n2 c2, .slice A3 n3 c3, .slice A4 n4 c4, .slice (some ⟨b, o, none⟩) n5 c5, .slice A6 n6 c6, .int .u64 g.seed, .int .i64 g.sc, .int .i64 g.tu, .int .i64 g.ov, .int .i64 g.it, .int .i64 g.go] 31 W2 := by
      have h := Bx2.new (Bx.new w #[.int .i64 t.ti, .int .i64 t.au, .int .i64 t.rl, .int .i64 t.mx, .slice t.tx.a t.tx.n t.tx.c, .int .i64 t.fl, .slice t.pr.a t.pr.n t.pr.c, .slice t.gl.a t.gl.n t.gl.c, .slice t.th.a t.th.n t.th.c, .slice t.ac.a t.ac.n t.ac.c, .slice t.de.a t.de.n t.de.c, .slice t.fu.a t.fu.n t.fu.c, .slice t.da.a t.da.n t.da.c, .slice t.pm.a t.pm.n t.pm.c, .slice t.lo.a t.lo.n t.lo.c] 28) #[.slice A0 n0 c0, .slice A1 n c1, .slice A2 n2 c2, .slice A3 n3 c3, .slice A4 n4 c4, .slice (some ⟨b, o, none⟩) n5 c5, .slice A6 n6 c6, .int .u64 g.seed, .int .i64 g.sc, .int .i64 g.tu, .int .i64 g.ov, .int .i64 g.it, .int .i64 g.go] 31
      rw [hW2] at h
      simpa using h
    have HX := Lib.hid hX
    clear hX
    obtain ⟨t0, t1, t2, t3, t4, t5, t6, t7, t8, t9, t10, t11, t12, t13, t14, tf⟩ := cells15 HX.out.b1.box
    obtain ⟨x0, x1, x2, x3, x4, x5, x6, x7, x8, x9, x10, x11, x12, xf⟩ := cells13 HX.out.box2
    go_wp2_with (go_at_call 106; refine (prop_e t g _ _ _ (TbR.below HTB.out HX.out.b1.below) hn128 hp16).mono ?_; rintro e w1 ⟨rfl, hb⟩; rw [HE.out]; have HX2 := Lib.hid (HX.out.on hb); clear HX hb; have HX := HX2; clear HX2; clear t0 t1 t2 t3 t4 t5 t6 t7 t8 t9 t10 t11 t12 t13 t14 tf x0 x1 x2 x3 x4 x5 x6 x7 x8 x9 x10 x11 x12 xf; obtain ⟨t0, t1, t2, t3, t4, t5, t6, t7, t8, t9, t10, t11, t12, t13, t14, tf⟩ := cells15 HX.out.b1.box; obtain ⟨x0, x1, x2, x3, x4, x5, x6, x7, x8, x9, x10, x11, x12, xf⟩ := cells13 HX.out.box2; have hc := (HX.out.b1.below.cell (p := ⟨b, o + ix, none⟩) hbb).trans HC.out)
    go_ret2
    exact ⟨rfl, HX.out.b1.below⟩
  · rw [if_neg (by rw [hE2]; exact hne), hE2]
    have HE := Lib.hid hE2
    have HN := Lib.hid (show plN n t.pr.n x p = 0 by unfold plN; rw [hE2, if_neg hne])
    have t0' : (E != (0 : Int)) = true := by simpa using hne
    clear hE2 hne HPV hl5 hlen
    go_enter Try.func33, Try.ntmps33
    obtain ⟨W2, hW2⟩ : ∃ W2, (w.alloc (.cells #[.int .i64 t.ti, .int .i64 t.au, .int .i64 t.rl, .int .i64 t.mx, .slice t.tx.a t.tx.n t.tx.c, .int .i64 t.fl, .slice t.pr.a t.pr.n t.pr.c, .slice t.gl.a t.gl.n t.gl.c, .slice t.th.a t.th.n t.th.c, .slice t.ac.a t.ac.n t.ac.c, .slice t.de.a t.de.n t.de.c, .slice t.fu.a t.fu.n t.fu.c, .slice t.da.a t.da.n t.da.c, .slice t.pm.a t.pm.n t.pm.c, .slice t.lo.a t.lo.n t.lo.c] 28)).alloc (.cells #[.slice A0 n0 c0, .slice A1 n c1, .slice A2 n2 c2, .slice A3 n3 c3, .slice A4 n4 c4, .slice A5 n5 c5, .slice A6 n6 c6, .int .u64 g.seed, .int .i64 g.sc, .int .i64 g.tu, .int .i64 g.ov, .int .i64 g.it, .int .i64 g.go] 31) = W2 := ⟨_, rfl⟩
    have hX : Bx2 w #[.int .i64 t.ti, .int .i64 t.au, .int .i64 t.rl, .int .i64 t.mx, .slice t.tx.a t.tx.n t.tx.c, .int .i64 t.fl, .slice t.pr.a t.pr.n t.pr.c, .slice t.gl.a t.gl.n t.gl.c, .slice t.th.a t.th.n t.th.c, .slice t.ac.a t.ac.n t.ac.c, .slice t.de.a t.de.n t.de.c, .slice t.fu.a t.fu.n t.fu.c, .slice t.da.a t.da.n t.da.c, .slice t.pm.a t.pm.n t.pm.c, .slice t.lo.a t.lo.n t.lo.c] 28 (w.heap.size + 1) #[.slice A0 n0 c0, .slice A1 n c1, .slice A2 n2 c2, .slice A3 n3 c3, .slice A4 n4 c4, .slice A5 n5 c5, .slice A6 n6 c6, .int .u64 g.seed, .int .i64 g.sc, .int .i64 g.tu, .int .i64 g.ov, .int .i64 g.it, .int .i64 g.go] 31 W2 := by
      have h := Bx2.new (Bx.new w #[.int .i64 t.ti, .int .i64 t.au, .int .i64 t.rl, .int .i64 t.mx, .slice t.tx.a t.tx.n t.tx.c, .int .i64 t.fl, .slice t.pr.a t.pr.n t.pr.c, .slice t.gl.a t.gl.n t.gl.c, .slice t.th.a t.th.n t.th.c, .slice t.ac.a t.ac.n t.ac.c, .slice t.de.a t.de.n t.de.c, .slice t.fu.a t.fu.n t.fu.c, .slice t.da.a t.da.n t.da.c, .slice t.pm.a t.pm.n t.pm.c, .slice t.lo.a t.lo.n t.lo.c] 28) #[.slice A0 n0 c0, .slice A1 n c1, .slice A2 n2 c2, .slice A3 n3 c3, .slice A4 n4 c4, .slice A5 n5 c5, .slice A6 n6 c6, .int .u64 g.seed, .int .i64 g.sc, .int .i64 g.tu, .int .i64 g.ov, .int .i64 g.it, .int .i64 g.go] 31
      rw [hW2] at h
      simpa using h
    have HX := Lib.hid hX
    clear hX
    obtain ⟨t0, t1, t2, t3, t4, t5, t6, t7, t8, t9, t10, t11, t12, t13, t14, tf⟩ := cells15 HX.out.b1.box
    obtain ⟨x0, x1, x2, x3, x4, x5, x6, x7, x8, x9, x10, x11, x12, xf⟩ := cells13 HX.out.box2
    go_wp2_with (go_at_call 106; refine (prop_e t g _ _ _ (TbR.below HTB.out HX.out.b1.below) hn128 hp16).mono ?_; rintro e w1 ⟨rfl, hb⟩; rw [HE.out]; have HX2 := Lib.hid (HX.out.on hb); clear HX hb; have HX := HX2; clear HX2; clear t0 t1 t2 t3 t4 t5 t6 t7 t8 t9 t10 t11 t12 t13 t14 tf x0 x1 x2 x3 x4 x5 x6 x7 x8 x9 x10 x11 x12 xf; obtain ⟨t0, t1, t2, t3, t4, t5, t6, t7, t8, t9, t10, t11, t12, t13, t14, tf⟩ := cells15 HX.out.b1.box; obtain ⟨x0, x1, x2, x3, x4, x5, x6, x7, x8, x9, x10, x11, x12, xf⟩ := cells13 HX.out.box2)
    go_ret2
    exact ⟨rfl, HX.out.b1.below⟩

end Go.Proofs.Ytncdicagadbafaa.AttrU
