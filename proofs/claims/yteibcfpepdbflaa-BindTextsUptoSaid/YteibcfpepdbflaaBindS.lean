/- The binder's state: its box, its row of locals; what a piece of binding keeps. No walk here. -/
import Derived.Test.YteibcfpepdbflaaBindB
namespace Go.Proofs.Yteibcfpepdbflaa.BindS
open Go Go.RowKit BindP BindD BindO BindW BindN BindG BindX BindB
open Byt (str)

theorem elS : Sq.El Try.prog 22 9 sv [] 16 where
  und := Try.underlying22
  info := by kernel_rfl
  cells := fun _ => rfl
  one := fun _ => rfl
theorem elT : Sk.El Try.prog 37 46 stE (.agg #[.int .i64 0, .int .i64 0, .string ⟨#[]⟩, .slice none 0 0, .slice none 0 0, .slice none 0 0]) 6 104 where
  und := Try.underlying37
  info := by kernel_rfl
  len := stE_len
  one := fun x u hu => by cases x; simp [stE, sv] at hu; rcases hu with rfl | rfl | rfl | rfl | rfl | rfl <;> rfl
  zs := rfl
  pos := by omega
/-- A piece of binding turns the binder's box, the row of its locals, and new blocks. -/
structure Stp (Bb : Nat) (lv : Value) (w : World) (lv' : Value) (w' : World) : Prop where
  os : w'.os = w.os
  tape : w'.tape = w.tape
  output : w'.output = w.output
  size : w.heap.size ≤ w'.heap.size
  block : ∀ b, b < w.heap.size → b ≠ Bb → lv.ownBlock ≠ some b → w'.heap[b]? = w.heap[b]?
  own : ∀ b, lv'.ownBlock = some b → lv.ownBlock = some b ∨ w.heap.size ≤ b
theorem Stp.refl (Bb : Nat) (lv : Value) (w : World) : Stp Bb lv w lv w := ⟨rfl, rfl, rfl, Nat.le_refl _, fun _ _ _ _ => rfl, fun _ h => .inl h⟩
theorem Stp.trans {Bb : Nat} {lv lv1 lv2 : Value} {w w1 w2 : World} (h : Stp Bb lv w lv1 w1) (k : Stp Bb lv1 w1 lv2 w2) : Stp Bb lv w lv2 w2 :=
  ⟨k.os.trans h.os, k.tape.trans h.tape, k.output.trans h.output, Nat.le_trans h.size k.size, fun b hb h1 h2 => (k.block b (Nat.lt_of_lt_of_le hb h.size) h1 (fun c => by
    rcases h.own b c with e | e
    · exact h2 e
    · omega)).trans (h.block b hb h1 h2), fun b hb => by
    rcases k.own b hb with e | e
    · exact h.own b e
    · exact .inr (Nat.le_trans h.size e)⟩
theorem Stp.below {Bb : Nat} {lv : Value} {w w' : World} (h : Below w.heap.size w w') : Stp Bb lv w lv w' := ⟨h.os, h.tape, h.output, h.size, fun b hb _ _ => h.block b hb, fun _ h => .inl h⟩
/-- What lies below the binder's own lies as it lay. -/
theorem Stp.low {Bb W : Nat} {lv lv' : Value} {w w' : World} (h : Stp Bb lv w lv' w') (hB : W ≤ Bb) (hl : ∀ b, lv.ownBlock = some b → W ≤ b) (hw : W ≤ w.heap.size) : Below W w w' :=
  ⟨h.os, h.tape, h.output, h.size, fun b hb => h.block b (by omega) (by omega) (fun c => by have := hl b c; omega)⟩
/-- The binder: its box, and its locals. -/
structure Bn (Bb W : Nat) (tv xv : Value) (w : World) (lv : Value) (lo : List S) : Prop where
  box : w.heap[Bb]? = some (.cells #[tv, xv, lv] 101 (0, 0))
  own : Sq.Own sv 9 w W lv lo
  ne : lv.ownBlock ≠ some Bb
  le : W ≤ Bb
  lt : Bb < w.heap.size
theorem own_keep {w w' : World} {W : Nat} {lv : Value} {lo : List S} (h : Sq.Own sv 9 w W lv lo) (hk : ∀ g, lv.ownBlock = some g → w'.heap[g]? = w.heap[g]?) : Sq.Own sv 9 w' W lv lo := by
  obtain ⟨h1, h2⟩ := h
  refine ⟨h1, h2.imp id ?_⟩
  rintro ⟨g, cap, cur, rfl, hB, hh, hr⟩
  exact ⟨g, cap, cur, rfl, hB, (hk g rfl).trans hh, hr⟩
theorem Bn.below {Bb W : Nat} {tv xv : Value} {w w' : World} {lv : Value} {lo : List S} (h : Bn Bb W tv xv w lv lo) (hb : Below w.heap.size w w') : Bn Bb W tv xv w' lv lo :=
  ⟨(hb.block _ h.lt).trans h.box, h.own.below hb, h.ne, h.le, Nat.lt_of_lt_of_le h.lt hb.size⟩
theorem Bn.set {Bb W : Nat} {tv xv : Value} {w : World} {lv : Value} {lo : List S} (h : Bn Bb W tv xv w lv lo) {g o : Nat} (hg : g ≠ Bb) (hl : lv.ownBlock ≠ some g) (v : Value) : Bn Bb W tv xv (w.setCell ⟨g, o, none⟩ v) lv lo := by
  have hb : ∀ b, b ≠ g → (w.setCell ⟨g, o, none⟩ v).heap[b]? = w.heap[b]? := fun b hb => by simp [World.setCell, Array.getElem?_modify, Ne.symm hb]
  exact ⟨(hb _ (Ne.symm hg)).trans h.box, own_keep h.own (fun b e => hb b (fun c => hl (c ▸ e))), h.ne, h.le, by have := h.lt; simp [World.setCell]; exact this⟩
theorem Bn.lvlt {Bb W : Nat} {tv xv : Value} {w : World} {lv : Value} {lo : List S} (h : Bn Bb W tv xv w lv lo) {g : Nat} (hg : lv.ownBlock = some g) : W ≤ g ∧ g < w.heap.size := World.ownsRow.lt h.own g hg
/-- Locals appended. -/
theorem Bn.app {Bb W : Nat} {tv xv : Value} {w w7 : World} {lv lv7 : Value} {lo l2 : List S} (h : Bn Bb W tv xv w lv lo) (ho : Sq.Own sv 9 w7 W lv7 l2) (hg : w.grownBy w7 lv.ownBlock) (hv : lv7.ownBlock = lv.ownBlock ∨ lv7.ownBlock = some w.heap.size) :
    Bn Bb W tv xv (w7.setCell ⟨Bb, 2, none⟩ lv7) lv7 l2 ∧ Stp Bb lv w lv7 (w7.setCell ⟨Bb, 2, none⟩ lv7) := by
  have hs := hg.size
  have h1 := h.lt
  have hb7 : w7.heap[Bb]? = some (.cells #[tv, xv, lv] 101 (0, 0)) := (hg.block _ h.lt (Ne.symm h.ne)).trans h.box
  have hne : lv7.ownBlock ≠ some Bb := by
    rcases hv with e | e
    · rw [e]; exact h.ne
    · rw [e]; intro c; injection c with c; omega
  refine ⟨⟨?_, own_keep ho (fun g e => ?_), hne, h.le, by simp [World.setCell]; omega⟩, ⟨hg.os, hg.tape, hg.output, by simp [World.setCell]; exact hs, fun b hb h1 h2 => ?_, fun b hb => ?_⟩⟩
  · simp [World.setCell, Array.getElem?_modify, hb7]
  · simp only [World.setCell, Array.getElem?_modify]
    rw [if_neg (fun c : Bb = g => hne (c ▸ e))]
  · simp only [World.setCell, Array.getElem?_modify]
    rw [if_neg (fun c : Bb = b => h1 c.symm)]
    exact hg.block b hb (Ne.symm h2)
  · rcases hv with e | e
    · rw [e] at hb; exact .inl hb
    · rw [e] at hb; injection hb with hb; exact .inr (by omega)
/-- A local blanked. -/
theorem Bn.blank {Bb W : Nat} {tv xv : Value} {w : World} {g n c : Nat} {lo : List S} (h : Bn Bb W tv xv w (.slice (some ⟨g, 0, none⟩) n c) lo) (i : Nat) (x : S) :
    Bn Bb W tv xv (w.setCell ⟨g, i, none⟩ (sv x)) (.slice (some ⟨g, 0, none⟩) n c) (lo.set i x) ∧ Stp Bb (.slice (some ⟨g, 0, none⟩) n c) w (.slice (some ⟨g, 0, none⟩) n c) (w.setCell ⟨g, i, none⟩ (sv x)) := by
  have hne : g ≠ Bb := fun e => h.ne (by rw [e]; rfl)
  refine ⟨⟨?_, h.own.store i x, h.ne, h.le, by have := h.lt; simp [World.setCell]; exact this⟩, ⟨rfl, rfl, rfl, by simp [World.setCell], fun b _ _ h2 => ?_, fun b hb => .inl hb⟩⟩
  · simp only [World.setCell, Array.getElem?_modify]
    rw [if_neg (fun e : g = Bb => hne e)]
    exact h.box
  · simp only [World.setCell, Array.getElem?_modify]
    rw [if_neg (fun e : g = b => h2 (by rw [e]; rfl))]
/-- The binder as names, texts and locals. -/
theorem Bn.env {Bb W : Nat} {A1 A2 A3 : Option Addr} {n1 c1 n2 c2 n3 c3 : Nat} {t : List Nm} {tx lo : List S} {w0 w : World} (ht : Sk.Rd nmE w0 A1 n1 t) (hx : Sq.Rd sv w0 A2 n2 tx) (h1 : n1 ≤ 17592186043904) (h2 : n2 ≤ 17592186043904) (hW : W = w0.heap.size)
    (hb : Below W w0 w) (h : Bn Bb W (.slice A1 n1 c1) (.slice A2 n2 c2) w (.slice A3 n3 c3) lo) (hl : lo.length ≤ 17592186043904) : Env w A1 n1 t A2 n2 tx A3 n3 lo := by
  subst hW
  refine ⟨ht.below hb, hx.below hb, h.own.rd, h1, h2, ?_⟩
  have := h.own.rd.len
  omega
end Go.Proofs.Yteibcfpepdbflaa.BindS
