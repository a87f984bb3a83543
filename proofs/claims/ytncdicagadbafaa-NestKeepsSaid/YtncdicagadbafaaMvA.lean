/- nest.Move and nest.Remove of a world that reads, things being within things as they must be; the tree stays so. -/
import Derived.Test.YtncdicagadbafaaMvX
namespace Go.Proofs.Ytncdicagadbafaa.MvA
open Go Go.RowKit NestP NestW NestX NestY ValP ValW ValX ValR Sq Rng RngU RngT RngC RngD RgIn WorldD CopP CopW MoveP LvP LvA MvW MvX MixP

/-- The fields beside the slices, and the slices' lengths. -/
def Fit (g : Wd) : Prop := U g.seed ∧ ((Lit.int .i64 g.sc).wf = true ∧ (Lit.int .i64 g.tu).wf = true ∧ (Lit.int .i64 g.ov).wf = true ∧ (Lit.int .i64 g.it).wf = true ∧ (Lit.int .i64 g.go).wf = true) ∧
  (g.gl.length ≤ 17592186043904 ∧ g.pa.length ≤ 17592186043904 ∧ g.ch.length ≤ 17592186043904 ∧ g.ne.length ≤ 17592186043904 ∧ g.fl.length ≤ 17592186043904 ∧ g.pr.length ≤ 17592186043904 ∧ g.ti.length ≤ 17592186043904)
theorem fit_of {w : World} {v : Value} {g : Wd} (h : Wo w v g) : Fit g := by
  obtain ⟨A0, A1, A2, A3, A4, A5, A6, n0, c0, n, c1, n2, c2, n3, c3, n4, c4, n5, c5, n6, c6, rfl, ⟨r0, r1, r2, r3, r4, r5, r6⟩, hu, hw, ⟨b0, b1, b2, b3, b4, b5, b6⟩⟩ := h
  exact ⟨hu, hw, by rw [← r0.len]; exact b0, by rw [← r1.len]; exact b1, by rw [← r2.len]; exact b2, by rw [← r3.len]; exact b3, by rw [← r4.len]; exact b4, by rw [← r5.len]; exact b5, by rw [← r6.len]; exact b6⟩
theorem wo_of {w : World} {B : Nat} {v : Value} {g : Wd} (h : Ow w B v g) (hf : Fit g) : Wo w v g := by
  obtain ⟨A0, A1, A2, A3, A4, A5, A6, n0, c0, n, c1, n2, c2, n3, c3, n4, c4, n5, c5, n6, c6, rfl, ⟨o0, o1, o2, o3, o4, o5, o6⟩, _⟩ := h
  obtain ⟨hu, hw, b0, b1, b2, b3, b4, b5, b6⟩ := hf
  exact ⟨A0, A1, A2, A3, A4, A5, A6, n0, c0, n, c1, n2, c2, n3, c3, n4, c4, n5, c5, n6, c6, rfl, ⟨o0.rd, o1.rd, o2.rd, o3.rd, o4.rd, o5.rd, o6.rd⟩, hu, hw, by rw [o0.rd.len]; exact b0, by rw [o1.rd.len]; exact b1, by rw [o2.rd.len]; exact b2, by rw [o3.rd.len]; exact b3, by rw [o4.rd.len]; exact b4, by rw [o5.rd.len]; exact b5, by rw [o6.rd.len]; exact b6⟩
theorem fit_leave {g : Wd} (h : Fit g) (x : Int) : Fit (MoveP.leave g x) := by
  obtain ⟨hu, hw, b0, b1, b2, b3, b4, b5, b6⟩ := h
  exact ⟨hu, hw, b0, by show (setI g.pa x 0).length ≤ _; rw [set_len]; exact b1, by show (lvCh g x).length ≤ _; rw [lvCh_len]; exact b2, by show (setI (lvNe g x) x 0).length ≤ _; rw [set_len, lvNe_len]; exact b3, b4, b5, b6⟩
theorem fit_moved {g : Wd} (h : Fit g) (x y : Int) : Fit (moved g x y) := by
  obtain ⟨hu, hw, b0, b1, b2, b3, b4, b5, b6⟩ := fit_leave h x
  exact ⟨hu, hw, b0, by show (setI _ x y).length ≤ _; rw [set_len]; exact b1, by show (setI _ y x).length ≤ _; rw [set_len]; exact b2, by show (setI _ x _).length ≤ _; rw [set_len]; exact b3, b4, b5, b6⟩

def mvE (g : Wd) (x y : Int) : Int := if isT g.n x = true ∧ isT g.n y = true then (if within g y x = true then 18 else 0) else 11
def mvG (g : Wd) (x y : Int) : Wd := if isT g.n x = true ∧ isT g.n y = true then (if within g y x = true then g else moved g x y) else g
def rmE (g : Wd) (x : Int) : Int := if isT g.n x = true then 0 else 11
def rmG (g : Wd) (x : Int) : Wd := if isT g.n x = true then MoveP.leave g x else g
theorem not_up {g : Wd} {x y : Int} (h : within g y x = false) : x ∉ ups g y := by
  unfold within at h
  simpa using h
theorem mvG_good {g : Wd} (h : NestP.Good g) (x y : Int) : NestP.Good (mvG g x y) := by
  unfold mvG
  split
  · rename_i hT
    split
    · exact h
    · rename_i hw
      exact moved_good h hT.1 hT.2 (not_up (by simpa using hw))
  · exact h
theorem rmG_good {g : Wd} (h : NestP.Good g) (x : Int) : NestP.Good (rmG g x) := by
  unfold rmG
  split
  · rename_i hT
    exact (leave_good h hT).1
  · exact h
theorem mvG_n (g : Wd) (x y : Int) : (mvG g x y).n = g.n := by
  unfold mvG
  split
  · split
    · rfl
    · exact moved_n g x y
  · rfl
theorem rmG_n (g : Wd) (x : Int) : (rmG g x).n = g.n := by
  unfold rmG
  split
  · exact leave_n g x
  · rfl

theorem wo_be {w w' : World} {v : Value} {g : Wd} (h : Wo w v g) (hb : Below w.heap.size w w') : Wo w' v g := by
  obtain ⟨A0, A1, A2, A3, A4, A5, A6, n0, c0, n, c1, n2, c2, n3, c3, n4, c4, n5, c5, n6, c6, rfl, ⟨r0, r1, r2, r3, r4, r5, r6⟩, hr⟩ := h
  exact ⟨A0, A1, A2, A3, A4, A5, A6, n0, c0, n, c1, n2, c2, n3, c3, n4, c4, n5, c5, n6, c6, rfl, ⟨r0.below hb, r1.below hb, r2.below hb, r3.below hb, r4.below hb, r5.below hb, r6.below hb⟩, hr⟩

theorem move_i {v : Value} (g : Wd) (hG : NestP.Good g) (x y : Int) (w : World) (ho : Wo w v g) :
    Calls Try.prog 39 #[v, .int .i64 x, .int .i64 y] w fun e w' => ∃ v', e = .returned (.tuple #[v', .int .i64 (mvE g x y)]) ∧ Wo w' v' (mvG g x y) ∧ Below w.heap.size w w' := by
  have hf := fit_of ho
  have ho' := ho
  obtain ⟨A0, A1, A2, A3, A4, A5, A6, n0, c0, n, c1, n2, c2, n3, c3, n4, c4, n5, c5, n6, c6, rfl, ⟨r0, r1, r2, r3, r4, r5, r6⟩, hu, hw, hb⟩ := ho
  have hg : g.n = n := r1.len.symm
  obtain rfl : n2 = n := r2.len.trans (hG.chl.trans hg)
  obtain rfl : n3 = n2 := r3.len.trans (hG.nel.trans hg)
  unfold mvE mvG
  by_cases hT : isT g.n x = true ∧ isT g.n y = true
  · rw [if_pos hT, if_pos hT]
    rw [hg] at hT
    by_cases hin : within g y x = true
    · rw [if_pos hin, if_pos hin]
      refine (move_in g x y hT.1 hT.2 hin w r1 hb.2.1).mono ?_
      rintro e w' ⟨rfl, hb'⟩
      exact ⟨_, rfl, wo_be ho' hb', hb'⟩
    · rw [if_neg hin, if_neg hin]
      refine (move_ok g hG hg x y hT.1 hT.2 (by simpa using hin) w r0 r1 r2 r3 r4 r5 r6 hb).mono ?_
      rintro e w' ⟨v', rfl, hO, hb'⟩
      exact ⟨_, rfl, wo_of hO (fit_moved hf x y), hb'⟩
  · rw [if_neg hT, if_neg hT]
    rw [hg] at hT
    refine (move_no g x y (by cases h1 : isT n3 x <;> cases h2 : isT n3 y <;> simp_all) w).mono ?_
    rintro e w' ⟨rfl, hb'⟩
    exact ⟨_, rfl, wo_be ho' hb', hb'⟩
theorem remove_i {v : Value} (g : Wd) (hG : NestP.Good g) (x : Int) (w : World) (ho : Wo w v g) :
    Calls Try.prog 41 #[v, .int .i64 x] w fun e w' => ∃ v', e = .returned (.tuple #[v', .int .i64 (rmE g x)]) ∧ Wo w' v' (rmG g x) ∧ Below w.heap.size w w' := by
  have hf := fit_of ho
  have ho' := ho
  obtain ⟨A0, A1, A2, A3, A4, A5, A6, n0, c0, n, c1, n2, c2, n3, c3, n4, c4, n5, c5, n6, c6, rfl, ⟨r0, r1, r2, r3, r4, r5, r6⟩, hu, hw, hb⟩ := ho
  have hg : g.n = n := r1.len.symm
  obtain rfl : n2 = n := r2.len.trans (hG.chl.trans hg)
  obtain rfl : n3 = n2 := r3.len.trans (hG.nel.trans hg)
  unfold rmE rmG
  by_cases hT : isT g.n x = true
  · rw [if_pos hT, if_pos hT]
    rw [hg] at hT
    refine (remove_ok g hG hg x hT w r0 r1 r2 r3 r4 r5 r6 hb).mono ?_
    rintro e w' ⟨v', rfl, hO, hb'⟩
    exact ⟨_, rfl, wo_of hO (fit_leave hf x), hb'⟩
  · rw [if_neg hT, if_neg hT]
    rw [hg] at hT
    refine (remove_no g x (by simpa using hT) w).mono ?_
    rintro e w' ⟨rfl, hb'⟩
    exact ⟨_, rfl, wo_be ho' hb', hb'⟩
end Go.Proofs.Ytncdicagadbafaa.MvA
