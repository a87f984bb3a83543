/- Slices of bytes of a call's own, and conversions between bytes and strings, as run equations. No walk here. -/
import Derived.Test.YthnkfaddjenbhaaRows
import Derived.WalkKit
import Derived.ProofKit
import Derived.OpenShut
import Derived.Handy
import Derived.Lib.Hide
import Derived.Deep.Draws
import Derived.Laws.IdiomStrings
namespace Go.Proofs.Ythnkfaddjenbhaa.Byt
open Go Go.RowKit

theorem join {w w1 w2 : World} (h : Below w.heap.size w w1) (k : Below w1.heap.size w1 w2) : Below w.heap.size w w2 :=
  h.trans (k.mono h.size)
theorem joinB {B : Nat} {w w1 w2 : World} (hB : B ≤ w.heap.size) (h : Below B w w1) (k : Below w1.heap.size w1 w2) : Below B w w2 :=
  h.trans (k.mono (Nat.le_trans hB h.size))
theorem bcell {B : Nat} {w w1 : World} (hb : Below B w w1) : (∀ b o, b < B → w1.cell? ⟨b, o, none⟩ = w.cell? ⟨b, o, none⟩) :=
  fun b o h => hb.cell (p := ⟨b, o, none⟩) h
theorem belowN {B : Nat} {a w : World} (h : Below B a w) (n : Nat) : Below B a (w.drewN n) := ⟨h.os, h.tape, h.output, h.size, h.block⟩
theorem retb {a b : Bool} (h : a = b) : Ending.returned (.bool a) = .returned (.bool b) := by rw [h]
theorem rets {a b : ByteArray} (h : a = b) : Ending.returned (.string a) = .returned (.string b) := by rw [h]
/-- The string of a list of bytes. -/
def str (l : List UInt8) : ByteArray := ⟨l.toArray⟩
theorem str_data (s : ByteArray) : str s.data.toList = s := by cases s; rfl
theorem str_size (l : List UInt8) : (str l).size = l.length := by simp [str, ByteArray.size]
theorem str_inj {a b : List UInt8} (h : str a = str b) : a = b := by
  have := congrArg (fun s => s.data.toList) h
  simpa [str] using this

/-- A row of bytes of the call's own, from block B on. -/
def Buf (w : World) (B g n cap : Nat) (l : List UInt8) : Prop :=
  n = l.length ∧ n ≤ cap ∧ B ≤ g ∧ g < w.heap.size ∧ (∀ i (h : i < l.length), w.cell? ⟨g, i, none⟩ = some (.int .u8 (l[i].toNat : Int))) ∧ ∀ i, i < l.length → w.frozen? ⟨g, i, none⟩ = false

theorem Buf.below {w w' : World} {B g n cap : Nat} {l : List UInt8} (h : Buf w B g n cap l) (hb : Below w.heap.size w w') : Buf w' B g n cap l := by
  obtain ⟨h1, h2, h3, h4, h5, h6⟩ := h
  exact ⟨h1, h2, h3, Nat.lt_of_lt_of_le h4 hb.size, fun i hi => by rw [bcell hb _ _ h4]; exact h5 i hi, fun i hi => by rw [hb.frozen (p := ⟨g, i, none⟩) h4]; exact h6 i hi⟩

theorem Buf.store {w : World} {B g n cap : Nat} {l : List UInt8} (h : Buf w B g n cap l) (i : Nat) (hi : i < l.length) (x : UInt8) :
    Buf (w.setCell ⟨g, i, none⟩ (.int .u8 (x.toNat : Int))) B g n cap (l.set i x) := by
  obtain ⟨h1, h2, h3, h4, h5, h6⟩ := h
  refine ⟨by simpa using h1, h2, h3, by rw [World.size_setCell]; exact h4, fun j hj => ?_, fun j hj => ?_⟩
  · rw [List.length_set] at hj
    by_cases hij : i = j
    · subst hij
      rw [List.getElem_set_self]
      exact World.cell?_setCell_same _ _ _ (h5 i hi)
    · rw [List.getElem_set_ne hij]
      rw [World.cell?_setCell_other]
      · exact h5 j hj
      · intro e; injection e with _ e; exact hij e
  · rw [List.length_set] at hj
    rw [World.frozen?_setCell]
    exact h6 j hj

/-- '[]byte(s)'. -/
theorem bytes_of (s : ByteArray) (w : World) : ∃ g cap w1, (convert 9 34 (.string s)).run Try.prog w = .ok (.slice (some ⟨g, 0, none⟩) s.size cap) w1 ∧ Buf w1 w.heap.size g s.size cap s.data.toList ∧ Below w.heap.size w w1 := by
  have hrun := run_bytes_of_string (P := Try.prog) w 9 34 5 s Try.underlying9 Try.underlying34 Try.underlying5
  have hge : s.size ≤ grownCap w s.size 0 5 := grownCap_ge w s.size 0 5
  generalize grownCap w s.size 0 5 = cap at hrun hge
  refine ⟨w.heap.size, cap, _, hrun, ?_, (Below.refl _ _).drew.alloc (Nat.le_refl _) _⟩
  have hh : ∀ o, (w.drew.alloc o).heap[w.heap.size]? = some o := fun o => (MapKept.heap_alloc w.drew o).1
  have hsz : (bytesRow s cap).size = cap := by
    have : s.data.size = s.size := rfl
    simp [bytesRow, this]; omega
  refine ⟨rfl, hge, Nat.le_refl _, by simp, fun i hi => ?_, fun i hi => ?_⟩
  · unfold World.cell?
    simp only [hh]
    have hi' : i < s.data.size := by simpa using hi
    unfold bytesRow
    rw [Array.getElem?_append_left (by simpa using hi')]
    rw [Array.getElem?_map, Array.getElem?_eq_getElem hi']
    rfl
  · unfold World.frozen?
    simp only [hh, hsz]
    have hi' : i < s.size := by
      have : s.data.size = s.size := rfl
      have : i < s.data.size := by simpa using hi
      omega
    simp; omega

/-- 'string(b)'. -/
theorem string_of {w : World} {B g n cap : Nat} {l : List UInt8} (h : Buf w B g n cap l) : (convert 34 9 (.slice (some ⟨g, 0, none⟩) n cap)).run Try.prog w = .ok (.string (str l)) w := by
  obtain ⟨rfl, _, _, _, h5, _⟩ := h
  refine run_convert_bytes_back w 34 9 5 ⟨g, 0, none⟩ cap l Try.underlying34 Try.underlying5 Try.underlying9 fun j hj => ?_
  have : (⟨g, 0, none⟩ : Addr).add j = ⟨g, j, none⟩ := by
    unfold Addr.add
    split
    · rename_i h; rw [h]
    · simp
  rw [this]
  exact h5 j hj
end Go.Proofs.Ythnkfaddjenbhaa.Byt
