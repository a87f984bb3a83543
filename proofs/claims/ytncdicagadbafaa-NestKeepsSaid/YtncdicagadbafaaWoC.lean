/- The functions of chapter 20, of a value that reads as a world in which things are within things as they must be. -/
import Derived.Test.YtncdicagadbafaaAwkP
import Derived.Test.YtncdicagadbafaaValL
namespace Go.Proofs.Ytncdicagadbafaa.WoC
open Go Go.RowKit NestP NestW NestX NestY ValP ValW ValX ValR Sq Rng RngU RngT RngC RngD RngB RgIn WorldD CopP CopW MoveP LvP LvA MvW MvX MvA MixP Awk AwkP

variable {v : Value} {w : World}
theorem children_w (g : Wd) (hG : NestP.Good g) (x : Int) (ho : Wo w v g) :
    Calls Try.prog 48 #[v, .int .i64 x] w fun e w' => ∃ A c, e = .returned (.slice A (kids g x).length c) ∧ Rd I w' A (kids g x).length (kids g x) ∧ Below w.heap.size w w' := by
  obtain ⟨A0, A1, A2, A3, A4, A5, A6, n0, c0, n, c1, n2, c2, n3, c3, n4, c4, n5, c5, n6, c6, rfl, ⟨r0, r1, r2, r3, r4, r5, r6⟩, hu, hw, hb⟩ := ho
  have hg : g.n = n := r1.len.symm
  obtain rfl : n2 = n := r2.len.trans (hG.chl.trans hg)
  obtain rfl : n3 = n2 := r3.len.trans (hG.nel.trans hg)
  refine (childrenN_i g x w hg r2 r3 hb.2.1).mono ?_
  rintro e w' ⟨u, rfl, ho, _, hb'⟩
  obtain ⟨A, c, rfl, _, _⟩ := ho.shape
  exact ⟨A, c, rfl, ho.rd, hb'⟩
theorem below_w (g : Wd) (hG : NestP.Good g) (hn : g.n ≤ 1024) (x : Int) (ho : Wo w v g) :
    Calls Try.prog 50 #[v, .int .i64 x] w fun e w' => ∃ A c, e = .returned (.slice A (below g g.n x).length c) ∧ Rd I w' A (below g g.n x).length (below g g.n x) ∧ Below w.heap.size w w' := by
  obtain ⟨A0, A1, A2, A3, A4, A5, A6, n0, c0, n, c1, n2, c2, n3, c3, n4, c4, n5, c5, n6, c6, rfl, ⟨r0, r1, r2, r3, r4, r5, r6⟩, hu, hw, hb⟩ := ho
  have hg : g.n = n := r1.len.symm
  obtain rfl : n2 = n := r2.len.trans (hG.chl.trans hg)
  obtain rfl : n3 = n2 := r3.len.trans (hG.nel.trans hg)
  refine (below_i g hG hg (by omega) g.n x w (by omega) r2 r3).mono ?_
  rintro e w' ⟨u, rfl, ho, hb'⟩
  obtain ⟨A, c, rfl, _, _⟩ := ho.shape
  exact ⟨A, c, rfl, ho.rd, hb'⟩
theorem top_w (g : Wd) (x : Int) (ho : Wo w v g) :
    Calls Try.prog 54 #[v, .int .i64 x] w fun e w' => e = .returned (.int .i64 (top g x)) ∧ Below w.heap.size w w' := by
  obtain ⟨A0, A1, A2, A3, A4, A5, A6, n0, c0, n, c1, n2, c2, n3, c3, n4, c4, n5, c5, n6, c6, rfl, ⟨r0, r1, r2, r3, r4, r5, r6⟩, hu, hw, hb⟩ := ho
  exact top_i g x w r1 hb.2.1
theorem within_w (g : Wd) (x y : Int) (ho : Wo w v g) :
    Calls Try.prog 52 #[v, .int .i64 x, .int .i64 y] w fun e w' => e = .returned (.bool (within g x y)) ∧ Below w.heap.size w w' := by
  obtain ⟨A0, A1, A2, A3, A4, A5, A6, n0, c0, n, c1, n2, c2, n3, c3, n4, c4, n5, c5, n6, c6, rfl, ⟨r0, r1, r2, r3, r4, r5, r6⟩, hu, hw, hb⟩ := ho
  exact within_i g x y w r1 hb.2.1
theorem is_w (g : Wd) (x : Int) (ho : Wo w v g) :
    Calls Try.prog 46 #[v, .int .i64 x] w fun e w' => e = .returned (.bool (isT g.n x)) ∧ Below w.heap.size w w' := by
  obtain ⟨A0, A1, A2, A3, A4, A5, A6, n0, c0, n, c1, n2, c2, n3, c3, n4, c4, n5, c5, n6, c6, rfl, ⟨r0, r1, r2, r3, r4, r5, r6⟩, hu, hw, hb⟩ := ho
  rw [show g.n = n from r1.len.symm]
  exact is_n x w
theorem iso_w (g : Wd) (x : Int) (ho : Wo w v g) :
    Calls Try.prog 45 #[v, .int .i64 x] w fun e w' => e = .returned (.bool (isT g.n x)) ∧ Below w.heap.size w w' := by
  obtain ⟨A0, A1, A2, A3, A4, A5, A6, n0, c0, n, c1, n2, c2, n3, c3, n4, c4, n5, c5, n6, c6, rfl, ⟨r0, r1, r2, r3, r4, r5, r6⟩, hu, hw, hb⟩ := ho
  rw [show g.n = n from r1.len.symm]
  exact is_o x w
theorem right_w (g : Wd) (ho : Wo w v g) :
    Calls Try.prog 37 #[v] w fun e w' => e = .returned (.bool (nested g)) ∧ Below w.heap.size w w' := by
  obtain ⟨A0, A1, A2, A3, A4, A5, A6, n0, c0, n, c1, n2, c2, n3, c3, n4, c4, n5, c5, n6, c6, rfl, ⟨r0, r1, r2, r3, r4, r5, r6⟩, hu, hw, hb⟩ := ho
  exact ValV.right_r g w r1 r2 r3 hb.2.1 hb.2.2.1 hb.2.2.2.1
theorem childreno_w (g : Wd) (x : Int) (ho : Wo w v g) :
    Calls Try.prog 49 #[v, .int .i64 x] w fun e w' => ∃ A c, e = .returned (.slice A (kids g x).length c) ∧ Rd I w' A (kids g x).length (kids g x) ∧ Below w.heap.size w w' := by
  obtain ⟨A0, A1, A2, A3, A4, A5, A6, n0, c0, n, c1, n2, c2, n3, c3, n4, c4, n5, c5, n6, c6, rfl, ⟨r0, r1, r2, r3, r4, r5, r6⟩, hu, hw, hb⟩ := ho
  exact ValL.children_o g x w r1 r2 r3 hb.2.1
end Go.Proofs.Ytncdicagadbafaa.WoC
