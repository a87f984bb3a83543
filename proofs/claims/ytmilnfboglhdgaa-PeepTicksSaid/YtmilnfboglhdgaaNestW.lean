/- The walks of the reference through things within things. Conditions: the lists of a world can be read. -/
import Derived.Test.YtmilnfboglhdgaaSeq
import Derived.Test.YtmilnfboglhdgaaNestP
import Derived.Outline
import Derived.Deep.DeepCutAuto
import Derived.Deep.RegionHeld3
import Derived.Deep.QuietTactic
import Derived.BigQuiet
namespace Go.Proofs.Ytmilnfboglhdgaa.NestW
open Go Go.RowKit NestP Sq

abbrev I : Int → Value := Value.int .i64
theorem elI : El Try.prog 50 3 I 0 8 := ⟨Try.underlying50, by kernel_rfl, fun _ => rfl, fun _ => rfl⟩

theorem at_lt {l : List Int} {k : Nat} (h : k < l.length) : at' l (k : Int) = l[k] := by
  unfold at'
  rw [if_pos (by omega), Int.toNat_natCast, List.getD_eq_getElem?_getD, List.getElem?_eq_getElem h]; rfl
theorem at_ge {l : List Int} {i : Int} (h : (l.length : Int) ≤ i) : at' l i = 0 := by
  unfold at'
  rw [if_pos (by omega), List.getD_eq_getElem?_getD, List.getElem?_eq_none (by omega)]; rfl
theorem at_neg {l : List Int} {i : Int} (h : i < 0) : at' l i = 0 := if_neg (by omega)

/-- What a box of the call's own holds stays behind a call. -/
theorem kept {w w1 : World} {o : Obj} (hb : Below (w.alloc o).heap.size (w.alloc o) w1) : ∀ b x, b < w.heap.size + 1 → w1.cell? ⟨b, x, none⟩ = (w.alloc o).cell? ⟨b, x, none⟩ :=
  fun b x h => bcell hb b x (by rw [World.size_alloc]; exact h)

end Go.Proofs.Ytmilnfboglhdgaa.NestW
