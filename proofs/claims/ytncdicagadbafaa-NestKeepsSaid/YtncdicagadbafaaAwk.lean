/- clewlaw20.empty: a world of so many things, each in none. -/
import Derived.Test.YtncdicagadbafaaMvA
namespace Go.Proofs.Ytncdicagadbafaa.Awk
open Go Go.RowKit NestP NestW NestX NestY ValP ValW ValX ValR Sq Rng RngU RngT RngC RngD RgIn WorldD CopP CopW MoveP LvP LvA MvW MvX MvA MixP

theorem make_i (n : Nat) (hn : n ≤ 60) (w : World) : (Instr.makeSlice 23 (.int .i64 (n : Int)) (.int .i64 (n : Int))).run Try.prog w = .ok (.slice (some ⟨w.heap.size, 0, none⟩) n n) (w.alloc (.cells (madeCells #[.int .i64 0] (n * 1)) 3)) := by
  obtain ⟨i, hi, hz, hs, hby⟩ := elI.parts
  have h := run_makeSlice (P := Try.prog) (w := w) 23 3 i (I 0) Try.underlying23 hi hz .i64 .i64 (n : Int) (n : Int) (by omega) (by omega) (by rw [hs, Int.toNat_natCast]; omega) (by rw [hby]; omega) (by omega)
  rw [hs, Int.toNat_natCast] at h
  exact h

def zeroW (n : Nat) : Wd := ⟨[], List.replicate n 0, List.replicate n 0, List.replicate n 0, [], [], [], 0, 0, 0, 0, 0, 0⟩
theorem alloc4d {w W : World} {o1 o2 o3 o4 : Obj} (h : ((((w.alloc o1).alloc o2).alloc o3).alloc o4).drew = W) :
    W.heap.size = w.heap.size + 4 ∧ W.heap[w.heap.size]? = some o1 ∧ W.heap[w.heap.size + 1]? = some o2 ∧ W.heap[w.heap.size + 1 + 1]? = some o3 ∧ W.heap[w.heap.size + 1 + 1 + 1]? = some o4 ∧ Below w.heap.size w W := by
  obtain ⟨h1, h2, h3, h4, h5, h6⟩ := alloc4 (w := w) (o1 := o1) (o2 := o2) (o3 := o3) (o4 := o4) rfl
  subst h
  exact ⟨h1, h2, h3, h4, h5, Below.drew h6⟩
theorem name_end {P : Program} {fn : Func} {Q : Ending → World → Prop} {e : Exit} {a : Act} {w : World} (h : ∀ W, w = W → bodyPost P fn Q e a W) : bodyPost P fn Q e a w := h w rfl
theorem rd_zero {W : World} {k n : Nat} (h : W.heap[k]? = some (.cells (madeCells #[.int .i64 0] n) 3 (0, 0))) : Rd I W (some ⟨k, 0, none⟩) n (List.replicate n 0) := by
  refine ⟨by simp, fun hn => ⟨k, 0, rfl, (Array.getElem?_eq_some_iff.1 h).1, fun i x hx => ?_⟩⟩
  have e := congrArg (fun l => l[i]?) (toList_madeCells_one (.int .i64 0) n)
  simp only [List.getElem?_replicate] at e hx
  unfold World.cell?
  simp only [h, Nat.zero_add]
  split at hx
  · rename_i hi
    rw [if_pos hi] at e
    injection hx with hx
    subst hx
    simpa using e
  · cases hx

set_option maxRecDepth 100000 in
set_option maxHeartbeats 4000000 in
theorem empty_i (n : Nat) (hn : n ≤ 60) (w : World) :
    Calls Try.prog 44 #[.int .i64 (n : Int)] w fun e w' => ∃ v, e = .returned v ∧ Wo w' v (zeroW n) ∧ Below w.heap.size w w' := by
  have hn0 : (0 : Int) ≤ (n : Int) := by omega
  have hn1 : (n : Int) ≤ 60 := by omega
  go_enter Try.func44, Try.ntmps44
  have HM : ∀ w : World, (Instr.makeSlice 23 (.int .i64 (n : Int)) (.int .i64 (n : Int))).run Try.prog w = .ok (.slice (some ⟨w.heap.size, 0, none⟩) n n) (w.alloc (.cells (madeCells #[.int .i64 0] (n * 1)) 3)) := make_i n hn
  go_wp2_with fail
  go_region
  all_goals go_wp2_with fail
  all_goals
    refine name_end fun W hW => ?_
    obtain ⟨s4, f0, f1, f2, f3, hB⟩ := alloc4d hW
    have r1 := rd_zero f1
    have r2 := rd_zero f2
    have r3 := rd_zero f3
    refine ret_c f0 rfl rfl Try.underlying31 rfl rfl ?_
    exact ⟨_, rfl, ⟨none, _, _, _, none, none, none, 0, 0, n, n, n, n, n, n, 0, 0, 0, 0, 0, 0, rfl, ⟨Rd.nil _ _, by assumption, by assumption, by assumption, Rd.nil _ _, Rd.nil _ _, Rd.nil _ _⟩, by show U 0; unfold U; omega, ⟨rfl, rfl, rfl, rfl, rfl⟩, by omega, by omega, by omega, by omega, by omega, by omega, by omega⟩, hB⟩
end Go.Proofs.Ytncdicagadbafaa.Awk
