/- A call's two boxes; what things of clewref19 say yes of; the bounds of bits. Conditions: none. -/
import Derived.Test.YtncdicagadbafaaTabX
namespace Go.Proofs.Ytncdicagadbafaa.TabB
open Go Go.RowKit NestP NestW NestX NestY ValR Sq WorldD TabD TabW TabS TabX MvR

/-- A call's two boxes. -/
structure Bx2 (w : World) (cs : Array Value) (T : TypeId) (g : Nat) (cs2 : Array Value) (T2 : TypeId) (wr : World) : Prop where
  b1 : Bx w cs T wr
  box2 : wr.heap[g]? = some (.cells cs2 T2 (0, 0))
  lt2 : g < wr.heap.size
theorem Bx2.new {w : World} {cs : Array Value} {T : TypeId} {wr : World} (h : Bx w cs T wr) (cs2 : Array Value) (T2 : TypeId) : Bx2 w cs T wr.heap.size cs2 T2 (wr.alloc (.cells cs2 T2)) :=
  ⟨h.on ((Below.refl _ _).alloc (Nat.le_refl _) _), World.alloc_heap_new wr _, by simp⟩
theorem Bx2.on {w : World} {cs : Array Value} {T : TypeId} {g : Nat} {cs2 : Array Value} {T2 : TypeId} {wr w' : World} (h : Bx2 w cs T g cs2 T2 wr) (hb : Below wr.heap.size wr w') : Bx2 w cs T g cs2 T2 w' :=
  ⟨h.b1.on hb, (hb.block _ h.lt2).trans h.box2, Nat.lt_of_lt_of_le h.lt2 hb.size⟩
theorem Bx2.drew {w : World} {cs : Array Value} {T : TypeId} {g : Nat} {cs2 : Array Value} {T2 : TypeId} {wr : World} (h : Bx2 w cs T g cs2 T2 wr) : Bx2 w cs T g cs2 T2 wr.drew := h.on (Below.drew (Below.refl _ _))

/-- What things say yes of. -/
def ThP (t : TbV) : Prop := 3 ≤ t.th.n ∧ t.th.n ≤ 128 ∧ (∀ x, t.th.l[0]? = some x → x.room = false) ∧ (∀ x, t.th.l[1]? = some x → x.room = false)
/-- The parents of the things below k. -/
def Pars (t : TbV) (k : Nat) : Prop := ∀ j (hj : j < t.th.l.length), j < k → 0 ≤ (t.th.l[j]).pa ∧ (t.th.l[j]).pa < (t.th.n : Int)
theorem bits_bd (n : Int) : 1 ≤ bitsF n ∧ bitsF n ≤ 65536 := by
  unfold bitsF
  have h : min n.toNat 16 ≤ 16 := by omega
  generalize min n.toNat 16 = k at h ⊢
  have h' : k = 0 ∨ k = 1 ∨ k = 2 ∨ k = 3 ∨ k = 4 ∨ k = 5 ∨ k = 6 ∨ k = 7 ∨ k = 8 ∨ k = 9 ∨ k = 10 ∨ k = 11 ∨ k = 12 ∨ k = 13 ∨ k = 14 ∨ k = 15 ∨ k = 16 := by omega
  rcases h' with rfl | rfl | rfl | rfl | rfl | rfl | rfl | rfl | rfl | rfl | rfl | rfl | rfl | rfl | rfl | rfl | rfl <;> decide

end Go.Proofs.Ytncdicagadbafaa.TabB
