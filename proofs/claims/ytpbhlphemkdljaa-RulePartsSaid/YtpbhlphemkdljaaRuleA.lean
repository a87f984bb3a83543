/- The chapter's examples hold: the laws' own check returns true. Conditions: none. -/
import Derived.Test.YtpbhlphemkdljaaRuleS
namespace Go.Proofs.Ytpbhlphemkdljaa.RuleA
open Go Go.RowKit RuleP RuleW Ints RuleX RuleO RuleR RuleS

def e0 : Deed := ⟨1, 2, -1, -1, 0, 0⟩
def e1 : Deed := ⟨1, 2, 3, -1, 0, 0⟩
def c3 : Cmd := ⟨1, 3, 0, 0, 0⟩
def c4 : Cmd := ⟨1, 4, 0, 0, 0⟩
theorem o3 : ns (upper [e0, e1] 2 c3 4) = [1, 0] := by decide
theorem o4 : ns (upper [e0, e1] 2 c4 4) = [0] := by decide
theorem fe : fits e1 2 c4 = false := by decide
theorem re : rank e1 = 2 := by decide

theorem deeds_of {w : World} {b : Nat} (hb : b < w.heap.size) (h0 : w.cell? ⟨b, 0, none⟩ = some (.int .i64 (1)) ∧ w.cell? ⟨b, 1, none⟩ = some (.int .i64 (2)) ∧ w.cell? ⟨b, 2, none⟩ = some (.int .i64 (-1)) ∧ w.cell? ⟨b, 3, none⟩ = some (.int .i64 (-1)) ∧ w.cell? ⟨b, 4, none⟩ = some (.int .i64 (0)) ∧ w.cell? ⟨b, 5, none⟩ = some (.int .i64 (0))) (h1 : w.cell? ⟨b, 6, none⟩ = some (.int .i64 (1)) ∧ w.cell? ⟨b, 7, none⟩ = some (.int .i64 (2)) ∧ w.cell? ⟨b, 8, none⟩ = some (.int .i64 (3)) ∧ w.cell? ⟨b, 9, none⟩ = some (.int .i64 (-1)) ∧ w.cell? ⟨b, 10, none⟩ = some (.int .i64 (0)) ∧ w.cell? ⟨b, 11, none⟩ = some (.int .i64 (0))) : Deeds w (.slice (some ⟨b, 0, none⟩) 2 2) [e0, e1] := by
  refine ⟨_, 2, rfl, .inr ⟨b, 0, rfl, hb, fun i d hi => ?_⟩⟩
  match i with
  | 0 => simp at hi; subst hi; exact h0
  | 1 => simp at hi; subst hi; exact h1
  | i + 2 => simp at hi

set_option maxRecDepth 100000 in
set_option maxHeartbeats 1000000 in
theorem awake (w : World) : Calls Try.prog 11 #[] w fun e w' => e = .returned (.bool true) ∧ Below w.heap.size w w' := by
  go_enter Try.func11, Try.ntmps11
  go_wp2_with fail

  refine (order_any _ _ _ _ _ _ _ _ _ _ _ _ _ _ _ [e0, e1] 2 c3 _ (by decide) (deeds_of ?_ ?_ ?_)).mono ?_
  · go_size
  · exact ⟨by go_cell, by go_cell, by go_cell, by go_cell, by go_cell, by go_cell⟩
  · exact ⟨by go_cell, by go_cell, by go_cell, by go_cell, by go_cell, by go_cell⟩
  rintro r w1 ⟨v1, rfl, hown1, hb1⟩
  have HD1 := Lib.hid (Deeds.below (deeds_of (b := w.heap.size) (by go_size) ⟨by go_cell, by go_cell, by go_cell, by go_cell, by go_cell, by go_cell⟩ ⟨by go_cell, by go_cell, by go_cell, by go_cell, by go_cell, by go_cell⟩) hb1)
  rw [o3] at hown1
  have HO1 := Lib.hid hown1
  clear hown1
  have hs1 := hb1.size
  try simp only [World.size_alloc] at hs1
  have hk1 := fun b o (h : b < w.heap.size + 2) => bcell hb1 b o (by (try simp only [World.size_alloc]); omega)
  have hq1 : ¬ w.heap.size = w1.heap.size := by omega
  have hr1 : ¬ w.heap.size + 1 = w1.heap.size := by omega
  have ha1 : w.heap.size < w1.heap.size := by omega
  have hd1 : w.heap.size + 1 < w1.heap.size := by omega
  go_wp2_with fail
  refine (same_r _ _ [1, 0] [1, 0] _ ?_ ?_).mono ?_
  · exact (HO1.out.alloc _).reads
  · exact .inr ⟨_, 0, _, rfl, by decide, by unfold maxLen; omega, by go_size, fun i hi => match i, hi with | 0, _ => by go_cell | 1, _ => by go_cell⟩
  rintro r w2 ⟨rfl, hb2⟩
  have hs2 := hb2.size
  try simp only [World.size_alloc] at hs2
  have hk2 := fun b o (h : b < w.heap.size + 2) => bcell hb2 b o (by (try simp only [World.size_alloc]); omega)
  have hq2 : ¬ w.heap.size = w2.heap.size := by omega
  have hr2 : ¬ w.heap.size + 1 = w2.heap.size := by omega
  have ha2 : w.heap.size < w2.heap.size := by omega
  have hd2 : w.heap.size + 1 < w2.heap.size := by omega
  have hbs2 : Below w1.heap.size w1 w2 := joinB (Nat.le_refl _) (by go_grown) hb2
  have HD2 := Lib.hid (HD1.out.below hbs2)
  clear hbs2
  go_wp2_with fail
  refine (order_any _ _ _ _ _ _ _ _ _ _ _ _ _ _ _ [e0, e1] 2 c4 _ (by decide) HD2.out).mono ?_
  rintro r w3 ⟨v3, rfl, hown3, hb3⟩
  rw [o4] at hown3
  have HO3 := Lib.hid hown3
  clear hown3
  have hs3 := hb3.size
  try simp only [World.size_alloc] at hs3
  have hk3 := fun b o (h : b < w.heap.size + 2) => bcell hb3 b o (by (try simp only [World.size_alloc]); omega)
  have hq3 : ¬ w.heap.size = w3.heap.size := by omega
  have hr3 : ¬ w.heap.size + 1 = w3.heap.size := by omega
  have ha3 : w.heap.size < w3.heap.size := by omega
  have hd3 : w.heap.size + 1 < w3.heap.size := by omega
  go_wp2_with fail
  refine (same_r _ _ [0] [0] _ ?_ ?_).mono ?_
  · exact (HO3.out.alloc _).reads
  · exact .inr ⟨_, 0, _, rfl, by decide, by unfold maxLen; omega, by go_size, fun i hi => match i, hi with | 0, _ => by go_cell⟩
  rintro r w4 ⟨rfl, hb4⟩
  have hs4 := hb4.size
  try simp only [World.size_alloc] at hs4
  have hk4 := fun b o (h : b < w.heap.size + 2) => bcell hb4 b o (by (try simp only [World.size_alloc]); omega)
  have hq4 : ¬ w.heap.size = w4.heap.size := by omega
  have hr4 : ¬ w.heap.size + 1 = w4.heap.size := by omega
  have ha4 : w.heap.size < w4.heap.size := by omega
  have hd4 : w.heap.size + 1 < w4.heap.size := by omega
  go_wp2_with fail
  refine (rank_i e1 _).mono ?_
  rintro r w5 ⟨rfl, hb5⟩
  have hs5 := hb5.size
  try simp only [World.size_alloc] at hs5
  have hk5 := fun b o (h : b < w.heap.size + 2) => bcell hb5 b o (by (try simp only [World.size_alloc]); omega)
  have hq5 : ¬ w.heap.size = w5.heap.size := by omega
  have hr5 : ¬ w.heap.size + 1 = w5.heap.size := by omega
  have ha5 : w.heap.size < w5.heap.size := by omega
  have hd5 : w.heap.size + 1 < w5.heap.size := by omega
  rw [re]
  go_wp2_with fail
  refine (fits_i e1 2 c4 _).mono ?_
  rintro r w6 ⟨rfl, hb6⟩
  rw [fe]
  go_wp2_with fail
  go_ret
  refine ⟨rfl, ?_⟩
  have g1 : Below w.heap.size w w1 := joinB (Nat.le_refl _) (by go_grown) hb1
  have g2 : Below w.heap.size w w2 := joinB (Nat.le_refl _) (g1.alloc (by omega) _) hb2
  have g3 : Below w.heap.size w w3 := joinB (Nat.le_refl _) g2 hb3
  have g4 : Below w.heap.size w w4 := joinB (Nat.le_refl _) (g3.alloc (by omega) _) hb4
  exact joinB (Nat.le_refl _) (joinB (Nat.le_refl _) g4 hb5) hb6
end Go.Proofs.Ytpbhlphemkdljaa.RuleA
