/- Slices of bytes of a call's own, and conversions between bytes and strings, as run equations. No walk here. -/
import Derived.Test.YteibcfpepdbflaaRows
import Derived.WalkKit
import Derived.ProofKit
import Derived.OpenShut
import Derived.Handy
import Derived.Lib.Hide
import Derived.Deep.Draws
import Derived.Laws.IdiomStrings
namespace Go.Proofs.Yteibcfpepdbflaa.Byt
open Go Go.RowKit

theorem join {w w1 w2 : World} (h : Below w.heap.size w w1) (k : Below w1.heap.size w1 w2) : Below w.heap.size w w2 :=
  h.trans (k.mono h.size)
theorem joinB {B : Nat} {w w1 w2 : World} (hB : B ≤ w.heap.size) (h : Below B w w1) (k : Below w1.heap.size w1 w2) : Below B w w2 :=
  h.trans (k.mono (Nat.le_trans hB h.size))
theorem bcell {B : Nat} {w w1 : World} (hb : Below B w w1) : (∀ b o, b < B → w1.cell? ⟨b, o, none⟩ = w.cell? ⟨b, o, none⟩) :=
  fun b o h => hb.cell (p := ⟨b, o, none⟩) h
theorem belowN {B : Nat} {a w : World} (h : Below B a w) (n : Nat) : Below B a (w.drewN n) := ⟨h.os, h.tape, h.output, h.size, h.block⟩
theorem retb {a b : Bool} (h : a = b) : Ending.returned (.bool a) = .returned (.bool b) := by rw [h]
theorem rets {a b : ByteArray} (h : a = b) : Ending.returned (.string a) = .returned (.string b) := by rw [h]
/-- The string of a list of bytes. -/
def str (l : List UInt8) : ByteArray := ⟨l.toArray⟩
theorem str_data (s : ByteArray) : str s.data.toList = s := by cases s; rfl
theorem str_size (l : List UInt8) : (str l).size = l.length := by simp [str, ByteArray.size]
theorem str_inj {a b : List UInt8} (h : str a = str b) : a = b := by
  have := congrArg (fun s => s.data.toList) h
  simpa [str] using this

/-- A row of bytes of the call's own, from block B on. -/
def Buf (w : World) (B g n cap : Nat) (l : List UInt8) : Prop :=
  n = l.length ∧ n ≤ cap ∧ B ≤ g ∧ g < w.heap.size ∧ (∀ i (h : i < l.length), w.cell? ⟨g, i, none⟩ = some (.int .u8 (l[i].toNat : Int))) ∧ ∀ i, i < l.length → w.frozen? ⟨g, i, none⟩ = false

theorem Buf.below {w w' : World} {B g n cap : Nat} {l : List UInt8} (h : Buf w B g n cap l) (hb : Below w.heap.size w w') : Buf w' B g n cap l := by
  obtain ⟨h1, h2, h3, h4, h5, h6⟩ := h
  exact ⟨h1, h2, h3, Nat.lt_of_lt_of_le h4 hb.size, fun i hi => by rw [bcell hb _ _ h4]; exact h5 i hi, fun i hi => by rw [hb.frozen (p := ⟨g, i, none⟩) h4]; exact h6 i hi⟩

theorem Buf.store {w : World} {B g n cap : Nat} {l : List UInt8} (h : Buf w B g n cap l) (i : Nat) (hi : i < l.length) (x : UInt8) :
    Buf (w.setCell ⟨g, i, none⟩ (.int .u8 (x.toNat : Int))) B g n cap (l.set i x) := by
  obtain ⟨h1, h2, h3, h4, h5, h6⟩ := h
  refine ⟨by simpa using h1, h2, h3, by rw [World.size_setCell]; exact h4, fun j hj => ?_, fun j hj => ?_⟩
  · rw [List.length_set] at hj
    by_cases hij : i = j
    · subst hij
      rw [List.getElem_set_self]
      exact World.cell?_setCell_same _ _ _ (h5 i hi)
    · rw [List.getElem_set_ne hij]
      rw [World.cell?_setCell_other]
      · exact h5 j hj
      · intro e; injection e with _ e; exact hij e
  · rw [List.length_set] at hj
    rw [World.frozen?_setCell]
    exact h6 j hj

end Go.Proofs.Yteibcfpepdbflaa.Byt
