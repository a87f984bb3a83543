/- A struct loaded that lies within a row of cells. No walk here. -/
import Derived.Test.YtncdicagadbafaaRows
import Derived.Laws.Rows
import Derived.WalkKit
namespace Go.Proofs.Ytncdicagadbafaa.ViewV
open Go Go.RowKit
section
variable {P : Program}
theorem run_loadVar_sub (w : World) (g o : Nat) (ty : TypeId) (cs : Array Value) (d : TypeDesc) (hc : ∀ j v, cs[j]? = some v → w.cell? ⟨g, o + j, none⟩ = some v)
    (hu : P.underlying ty = some d) (hd : (match d with | .struct _ | .array _ _ => true | _ => false) = true) (hi : (P.info? ty).map (·.size) = some cs.size) :
    (loadVar ty ⟨g, o, none⟩).run P w = .ok (.agg cs) w := by
  have hl : (loadCells ⟨g, o, none⟩ cs.toList.length).run P w = .ok cs.toList.toArray w :=
    run_loadCells_list (P := P) w ⟨g, o, none⟩ cs.toList (fun j v hv => by
      have hadd : (⟨g, o, none⟩ : Addr).add j = ⟨g, o + j, none⟩ := by unfold Addr.add; split <;> simp_all
      rw [hadd]
      exact hc j v (by simpa using hv))
  cases hq : P.info? ty with
  | none => simp [hq] at hi
  | some i =>
    have hs : i.size = cs.size := by simpa [hq] using hi
    have hagg : (isAgg ty).run P w = .ok true w := by
      unfold isAgg
      rw [Sem.run_bind, run_underlying hu w]
      cases d <;> simp_all
    simp only [Array.length_toList, Array.toArray_toList] at hl
    simp [loadVar, Sem.run_bind, hagg, sizeOf, typeInfo, hq, hs, hl]
/-- Part of a row loaded, guarded or not. -/
theorem load_sub {ops : Array Oper} {rest : List Oper} {o : Oper} {a : Act} {w : World} {Q : Exit → Act → World → Prop} (hw : Region.wanted o (yielded ops a.tmps) = true) (ty : TypeId) (x : Operand) (ho : o.op = .load ty x)
    (g k : Nat) (hx : a.eval x = .pointer (some ⟨g, k, none⟩)) (cs : Array Value) (d : TypeDesc) (hc : ∀ j v, cs[j]? = some v → w.cell? ⟨g, k + j, none⟩ = some v)
    (hu : P.underlying ty = some d) (hd : (match d with | .struct _ | .array _ _ => true | _ => false) = true) (hi : (P.info? ty).map (·.size) = some cs.size)
    (h : wpList P ops Q rest (a.put o.dst (.agg cs)) w) : wpList P ops Q (o :: rest) a w := by
  unfold wpList
  rw [if_pos hw]
  refine .inl ?_
  unfold Oper.wp execOp
  simp only [ho, hx, Instr.loadAt, Instr.sureAddr, Sem.run_bind, Sem.run_pure, Result.andThen_ok, run_loadVar_sub w g k ty cs d hc hu hd hi]
  exact h
theorem part_l {w : World} {g : Nat} {t : TypeId} {fr : Nat × Nat} {L M : List Value} (h : w.heap[g]? = some (.cells (L ++ M).toArray t fr)) : ∀ j v, L.toArray[j]? = some v → w.cell? ⟨g, 0 + j, none⟩ = some v := fun j v hj => by
  have h2 : L[j]? = some v := by simpa using hj
  have h3 : (L ++ M)[0 + j]? = some v := by rw [Nat.zero_add, List.getElem?_append_left (List.getElem?_eq_some_iff.1 h2).1]; exact h2
  simp only [World.cell?, h]
  simpa using h3
theorem part_r {w : World} {g k : Nat} {t : TypeId} {fr : Nat × Nat} {L M : List Value} (h : w.heap[g]? = some (.cells (L ++ M).toArray t fr)) (hk : L.length = k) : ∀ j v, M.toArray[j]? = some v → w.cell? ⟨g, k + j, none⟩ = some v := fun j v hj => by
  have h2 : M[j]? = some v := by simpa using hj
  have h3 : (L ++ M)[k + j]? = some v := by rw [List.getElem?_append_right (by omega), show k + j - L.length = j by omega]; exact h2
  simp only [World.cell?, h]
  simpa using h3
end
end Go.Proofs.Ytncdicagadbafaa.ViewV
