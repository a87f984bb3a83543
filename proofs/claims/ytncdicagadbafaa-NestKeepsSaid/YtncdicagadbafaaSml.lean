/- clewlaw20.small; clewref20.Within, Top. Conditions: the world reads. -/
import Derived.Test.YtncdicagadbafaaAwkA
namespace Go.Proofs.Ytncdicagadbafaa.Sml
open Go Go.RowKit NestP NestW NestX NestY ValP ValW ValX ValR Sq WorldD MixP

def sml (g : Wd) : Bool := decide (g.pa.length ≤ 60) && decide (g.ch.length ≤ 60) && decide (g.ne.length ≤ 60)
set_option maxRecDepth 100000 in
set_option maxHeartbeats 2000000 in
theorem small_w {v : Value} {w : World} (g : Wd) (ho : Wo w v g) :
    Calls Try.prog 36 #[v] w fun e w' => e = .returned (.bool (sml g)) ∧ Below w.heap.size w w' := by
  obtain ⟨A0, A1, A2, A3, A4, A5, A6, n0, c0, n, c1, n2, c2, n3, c3, n4, c4, n5, c5, n6, c6, rfl, ⟨r0, r1, r2, r3, r4, r5, r6⟩, hu, hw, hb⟩ := ho
  have e1 : g.pa.length = n := r1.len.symm
  have e2 : g.ch.length = n2 := r2.len.symm
  have e3 : g.ne.length = n3 := r3.len.symm
  unfold sml
  rw [e1, e2, e3]
  clear r0 r1 r2 r3 r4 r5 r6 hu hw hb e1 e2 e3
  by_cases h1 : n ≤ 60
  · by_cases h2 : n2 ≤ 60
    · by_cases h3 : n3 ≤ 60
      · have E : (decide (n ≤ 60) && decide (n2 ≤ 60) && decide (n3 ≤ 60)) = true := by simp; omega
        rw [E]
        have k1 : decide ((n : Int) ≤ 60) = true := decide_eq_true (by omega)
        have k2 : decide ((n2 : Int) ≤ 60) = true := decide_eq_true (by omega)
        have k3 : decide ((n3 : Int) ≤ 60) = true := decide_eq_true (by omega)
        go_enter Try.func36, Try.ntmps36
        go_wp2_with fail
        go_ret
        exact ⟨rfl, by go_grown⟩
      · have E : (decide (n ≤ 60) && decide (n2 ≤ 60) && decide (n3 ≤ 60)) = false := by simp; omega
        rw [E]
        have k1 : decide ((n : Int) ≤ 60) = true := decide_eq_true (by omega)
        have k2 : decide ((n2 : Int) ≤ 60) = true := decide_eq_true (by omega)
        have k3 : decide ((n3 : Int) ≤ 60) = false := decide_eq_false (by omega)
        go_enter Try.func36, Try.ntmps36
        go_wp2_with fail
        go_ret
        exact ⟨rfl, by go_grown⟩
    · have E : (decide (n ≤ 60) && decide (n2 ≤ 60) && decide (n3 ≤ 60)) = false := by simp; omega
      rw [E]
      have k1 : decide ((n : Int) ≤ 60) = true := decide_eq_true (by omega)
      have k2 : decide ((n2 : Int) ≤ 60) = false := decide_eq_false (by omega)
      go_enter Try.func36, Try.ntmps36
      go_wp2_with fail
      go_ret
      exact ⟨rfl, by go_grown⟩
  · have E : (decide (n ≤ 60) && decide (n2 ≤ 60) && decide (n3 ≤ 60)) = false := by simp; omega
    rw [E]
    have k1 : decide ((n : Int) ≤ 60) = false := decide_eq_false (by omega)
    go_enter Try.func36, Try.ntmps36
    go_wp2_with fail
    go_ret
    exact ⟨rfl, by go_grown⟩
end Go.Proofs.Ytncdicagadbafaa.Sml
