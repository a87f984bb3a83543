/- nest.leave, all cases; nest.Remove. Conditions: the world reads, and things are within things as they must be. -/
import Derived.Test.YtncdicagadbafaaLvW
import Derived.Test.YtncdicagadbafaaLvF
import Derived.Test.YtncdicagadbafaaLvE
namespace Go.Proofs.Ytncdicagadbafaa.LvA
open Go Go.RowKit NestP NestW NestX NestY ValP ValW ValX ValR Sq Rng RngU RngT RngC RngD RgIn WorldD CopP CopW MoveP LvP

theorem leave_i {A0 A1 A2 A3 A4 A5 A6 : Option Addr} {n0 c0 n c1 c2 c3 n4 c4 n5 c5 n6 c6 : Nat} (g : Wd) (hG : NestP.Good g) (hg : g.n = n) (x : Int) (hx : isT n x = true) (w : World) (r0 : Rd I w A0 n0 g.gl) (r1 : Rd I w A1 n g.pa) (r2 : Rd I w A2 n g.ch) (r3 : Rd I w A3 n g.ne) (r4 : Rd I w A4 n4 g.fl) (r5 : Rd I w A5 n5 g.pr) (r6 : Rd I w A6 n6 g.ti)
    (hb : n0 ≤ 17592186043904 ∧ n ≤ 17592186043904 ∧ n ≤ 17592186043904 ∧ n ≤ 17592186043904 ∧ n4 ≤ 17592186043904 ∧ n5 ≤ 17592186043904 ∧ n6 ≤ 17592186043904) :
    Calls Try.prog 109 #[.agg #[.slice A0 n0 c0, .slice A1 n c1, .slice A2 n c2, .slice A3 n c3, .slice A4 n4 c4, .slice A5 n5 c5, .slice A6 n6 c6, .int .u64 g.seed, .int .i64 g.sc, .int .i64 g.tu, .int .i64 g.ov, .int .i64 g.it, .int .i64 g.go], .int .i64 x] w fun e w' => ∃ v, e = .returned v ∧ Ow w' w.heap.size v (MoveP.leave g x) ∧ Below w.heap.size w w' := by
  have hx' := isT_iff.1 hx
  obtain ⟨i, rfl, hi1, hi2⟩ : ∃ i : Nat, x = (i : Int) ∧ 1 ≤ i ∧ i < n := ⟨x.toNat, by omega, by omega, by omega⟩
  by_cases hup : at' g.pa (i : Int) = 0
  · exact LvW.leave_top g hG hg i hi1 hi2 hup w r0 r1 r2 r3 r4 r5 r6 hb
  · have hT := isT_iff.1 (hG.isT_par (isT_iff.2 ⟨hx'.1, by rw [hg]; exact hx'.2⟩) hup)
    rw [hg] at hT
    obtain ⟨j, hj, hj1, hj2⟩ : ∃ j : Nat, at' g.pa (i : Int) = (j : Int) ∧ 1 ≤ j ∧ j < n := ⟨(at' g.pa (i : Int)).toNat, by omega, by omega, by omega⟩
    by_cases hf : at' g.ch (j : Int) = (i : Int)
    · exact LvF.leave_first g hG hg i hi1 hi2 j hj1 hj2 hj hf w r0 r1 r2 r3 r4 r5 r6 hb
    · exact LvE.leave_else g hG hg i hi1 hi2 j hj1 hj2 hj hf w r0 r1 r2 r3 r4 r5 r6 hb
end Go.Proofs.Ytncdicagadbafaa.LvA
