/- Slices of bytes of a call's own, and conversions between bytes and strings, as run equations. No walk here. -/
import Derived.Test.YteibcfpepdbflaaSeqK
import Derived.Test.YteibcfpepdbflaaRows
import Derived.WalkKit
import Derived.ProofKit
import Derived.OpenShut
import Derived.Handy
import Derived.Lib.Hide
import Derived.Deep.Draws
import Derived.Laws.IdiomStrings
namespace Go.Proofs.Yteibcfpepdbflaa.Sk
open Go Go.RowKit

structure El {α : Type} (P : Program) (T E : TypeId) (enc : α → List Value) (zv : Value) (k by' : Nat) : Prop where
  und : P.underlying T = some (.slice E)
  info : (P.info? E).map (fun i => (i.zero, i.size, i.bytes)) = some (some zv, k, by')
  len : ∀ x, (enc x).length = k
  one : ∀ x, ∀ u ∈ enc x, u.oneCell' = true
  zs : zv.cells.size = k
  pos : 0 < k

section
variable {α : Type} {enc : α → List Value} {k : Nat} {E : TypeId}
def Own (enc : α → List Value) (k : Nat) (E : TypeId) (w : World) (B : Nat) (v : Value) (l : List α) : Prop := w.ownsRow B E k v l.length (l.flatMap enc)

theorem own_nil (w : World) (B : Nat) : Own enc k E w B (.slice none 0 0) [] := World.ownsRow_nil w B _ _
theorem Own.drewN {w : World} {B : Nat} {v : Value} {l : List α} (h : Own enc k E w B v l) (n : Nat) : Own enc k E (w.drewN n) B v l := h
theorem Own.drew {w : World} {B : Nat} {v : Value} {l : List α} (h : Own enc k E w B v l) : Own enc k E w.drew B v l := h
theorem Own.alloc {w : World} {B : Nat} {v : Value} {l : List α} (h : Own enc k E w B v l) (o : Obj) : Own enc k E (w.alloc o) B v l := World.ownsRow.alloc h o
theorem Own.lower {w : World} {B C : Nat} {v : Value} {l : List α} (h : Own enc k E w B v l) (hc : C ≤ B) : Own enc k E w C v l := by
  obtain ⟨hl, h⟩ := h
  refine ⟨hl, ?_⟩
  rcases h with h | ⟨g, cap, cur, hv, hB, h⟩
  · exact .inl h
  · exact .inr ⟨g, cap, cur, hv, Nat.le_trans hc hB, h⟩
theorem Own.below {w w' : World} {B : Nat} {v : Value} {l : List α} (h : Own enc k E w B v l) (hb : Below w.heap.size w w') : Own enc k E w' B v l := by
  obtain ⟨hl, h⟩ := h
  refine ⟨hl, ?_⟩
  rcases h with h | ⟨g, cap, cur, hv, hB, hh, hc, hm, hs, ht⟩
  · exact .inl h
  · have hg : g < w.heap.size := by
      rcases Nat.lt_or_ge g w.heap.size with h | h
      · exact h
      · simp [Array.getElem?_eq_none h] at hh
    exact .inr ⟨g, cap, cur, hv, hB, by rw [hb.block g hg]; exact hh, hc, hm, hs, ht⟩
theorem Own.kept {w w' : World} {B : Nat} {v : Value} {l : List α} {row : Option Nat} (h : Own enc k E w B v l) (hg : w.grownBy w' row) (hne : v.ownBlock = none ∨ v.ownBlock ≠ row) : Own enc k E w' B v l := World.ownsRow.kept h hg hne
theorem Own.shape {w : World} {B : Nat} {v : Value} {l : List α} (h : Own enc k E w B v l) : ∃ A c, v = .slice A l.length c ∧ l.length ≤ c ∧ c ≤ maxLen := by
  obtain ⟨hl, h⟩ := h
  rcases h with ⟨hv, hn⟩ | ⟨g, cap, cur, hv, hB, hh, hc, hm, hs, ht⟩
  · exact ⟨none, 0, by rw [hv, hn], by omega, by unfold maxLen; omega⟩
  · exact ⟨_, cap, hv, hc, hm⟩
theorem Own.form {w : World} {B n cap : Nat} {A : Option Addr} {l : List α} (h : Own enc k E w B (.slice A n cap) l) (hne : 0 < n) : ∃ g, A = some ⟨g, 0, none⟩ ∧ B ≤ g ∧ g < w.heap.size := by
  obtain ⟨hl, h'⟩ := h
  rcases h' with ⟨hv, hn⟩ | ⟨g', cap', cur, hv, hB, hh, _⟩
  · injection hv with _ e _; omega
  · injection hv with ha hlen hcap
    refine ⟨g', ha, hB, ?_⟩
    rcases Nat.lt_or_ge g' w.heap.size with h | h
    · exact h
    · simp [Array.getElem?_eq_none h] at hh
theorem Own.rd {w : World} {B n cap : Nat} {A : Option Addr} {l : List α} (h : Own enc k E w B (.slice A n cap) l) : Rd enc w A n l := by
  obtain ⟨A', c', hv, _, _⟩ := h.shape
  have hn : n = l.length := by injection hv
  refine ⟨hn, fun h0 => ?_⟩
  obtain ⟨g, rfl, _, hlt⟩ := h.form h0
  refine ⟨g, 0, rfl, hlt, fun j u hu => ?_⟩
  have hc := World.ownsRow.cells (show w.ownsRow B E k (.slice (some ⟨g, 0, none⟩) n cap) l.length (l.flatMap enc) from h) rfl j u hu
  have e : (⟨g, 0, none⟩ : Addr).add j = ⟨g, 0 + j, none⟩ := by
    unfold Addr.add
    split
    · rename_i h0; rw [h0]
    · rfl
  rw [e] at hc
  exact hc
theorem Own.rv {w : World} {B : Nat} {v : Value} {l : List α} (h : Own enc k E w B v l) : Rv enc w v l := by
  obtain ⟨A, c, rfl, h1, h2⟩ := h.shape
  exact ⟨A, _, c, rfl, h1, h2, h.rd⟩
theorem rd_lit (w : World) (t : TypeId) (l : List α) (cs : Array Value) (hcs : cs.toList = l.flatMap enc) (n : Nat) (hn : n = l.length) : Rd enc (w.alloc (.cells cs t)) (some ⟨w.heap.size, 0, none⟩) n l := by
  subst hn
  refine ⟨rfl, fun _ => ⟨w.heap.size, 0, rfl, by simp, fun i x hx => ?_⟩⟩
  have e : (w.alloc (.cells cs t)).heap[w.heap.size]? = some (.cells cs t) := (MapKept.heap_alloc w _).1
  unfold World.cell?
  simp only [e, Nat.zero_add]
  rw [← hcs] at hx
  simpa using hx
theorem own_lit (w : World) (l : List α) (cs : Array Value) (hk : ∀ x, (enc x).length = k) (hcs : cs.toList = l.flatMap enc) (hm : l.length ≤ maxLen) {B : Nat} (hB : B ≤ w.heap.size) (n : Nat) (hn : n = l.length) :
    Own enc k E (w.alloc (.cells cs E)) B (.slice (some ⟨w.heap.size, 0, none⟩) n n) l := by
  subst hn
  refine ⟨flat_len hk l, .inr ⟨w.heap.size, l.length, cs, rfl, hB, (MapKept.heap_alloc w _).1, Nat.le_refl _, hm, ?_, ?_⟩⟩
  · have := congrArg List.length hcs
    rw [flat_len hk] at this
    simpa using this
  · rw [hcs, List.take_of_length_le (by rw [flat_len hk]; exact Nat.le_refl _)]
end

section
variable {α : Type} {enc : α → List Value} {P : Program} {T E : TypeId} {zv : Value} {k by' : Nat} (el : El P T E enc zv k by')
include el
theorem El.parts : ∃ i, P.info? E = some i ∧ i.zero = some zv ∧ i.size = k ∧ i.bytes = by' := by
  have := el.info
  cases h : P.info? E with
  | none => rw [h] at this; cases this
  | some i =>
    rw [h] at this
    simp only [Option.map_some, Option.some.injEq, Prod.mk.injEq] at this
    exact ⟨i, rfl, this.1, this.2.1, this.2.2⟩

theorem run_append (ty : TypeId) {w : World} {B : Nat} {v : Value} {l : List α} (hown : Own enc k E w B v l) (A : Option Addr) (m c : Nat) (l2 : List α) (hr : Rd enc w A m l2)
    (h63 : l.length + m ≤ maxLen) (hb : (l.length + m) * by' ≤ 140737488355328) (hB : B ≤ w.heap.size) :
    ∃ v' w', (Builtin.append_ #[T, T] ty #[v, .slice A m c]).run P w = .ok v' w' ∧ Own enc k E w' B v' (l ++ l2) ∧ Below B w w' ∧ w.grownBy w' v.ownBlock ∧ (v' = .slice none 0 0 ↔ v = .slice none 0 0 ∧ m = 0) ∧ (v'.ownBlock = v.ownBlock ∨ v'.ownBlock = some w.heap.size) := by
  obtain ⟨i, hi, hz, hs, hby⟩ := el.parts
  have hbelow : ∀ w', w.grownBy w' v.ownBlock → Below B w w' := fun w' hg => (Below.refl B w).grown hg hB fun k hk => (World.ownsRow.lt hown k hk).1
  have fin : ∀ v' w', w'.ownsRow B E k v' (l.length + m) (l.flatMap enc ++ l2.flatMap enc) → Own enc k E w' B v' (l ++ l2) := fun v' w' h => by
    show w'.ownsRow _ _ _ _ _ _
    rw [List.length_append, List.flatMap_append, ← hr.1]; exact h
  rcases A with _ | ad
  · have hm0 : m = 0 := by
      rcases Nat.eq_zero_or_pos m with h0 | h0
      · exact h0
      · obtain ⟨b, o, e, _⟩ := hr.2 h0; cases e
    subst hm0
    have hl2 : l2 = [] := List.length_eq_zero_iff.1 hr.1.symm
    subst hl2
    refine ⟨v, w, ?_, by rw [List.append_nil]; exact hown, Below.refl _ _, World.grownBy.refl w _, by simp, .inl rfl⟩
    rcases hown.2 with ⟨rfl, h0⟩ | ⟨g, cap, cur, rfl, _, _, hnc, _⟩
    · simp [Builtin.append_, run_underlying el.und, sizeOf, typeInfo, hi, Builtin.lenOf, Builtin.firstCells]
    · simp [Builtin.append_, run_underlying el.und, sizeOf, typeInfo, hi, Builtin.lenOf, Builtin.firstCells, hnc, storeCells]
  · obtain ⟨v', w', h1, h2, h3, h4, h5⟩ := run_append_own_at (P := P) w B T ty E i zv k by' el.und hi hz hs hby el.zs el.pos v l.length (l.flatMap enc) hown ad m c (l2.flatMap enc) (by rw [flat_len el.len, ← hr.1])
      (fun j u hj => by
        have hjl := (List.getElem?_eq_some_iff.1 hj).1
        rw [flat_len el.len] at hjl
        obtain ⟨b, o, e, hlt, hc⟩ := hr.2 (by rw [hr.1]; exact Nat.pos_of_ne_zero fun h0 => by rw [h0] at hjl; omega)
        injection e with e
        subst e
        have e : (⟨b, o, none⟩ : Addr).add j = ⟨b, o + j, none⟩ := by
          unfold Addr.add
          split
          · rename_i h0; rw [h0]; rfl
          · rfl
        rw [e]; exact hc j u hj)
      (fun u hu => by
        obtain ⟨x, _, hx⟩ := List.mem_flatMap.1 hu
        exact el.one x u hx) h63 hb hB
    exact ⟨v', w', h1, fin _ _ h2, hbelow _ h3, h3, h4, h5⟩

theorem wp_append {o : Oper} {a : Act} {K : Act → World → Prop} {Q : Exit → Act → World → Prop} {w : World} (s x : Operand)
    (ho : o.op = .call { callee := .builtin .append, args := #[s, x], argTypes := #[T, T] }) {B : Nat} {v : Value} {l : List α} (hs : a.eval s = v) (hown : Own enc k E w B v l)
    (A : Option Addr) (m c : Nat) (l2 : List α) (hx : a.eval x = .slice A m c) (hr : Rd enc w A m l2)
    (h63 : l.length + m ≤ maxLen) (hb : (l.length + m) * by' ≤ 140737488355328) (hB : B ≤ w.heap.size)
    (h : ∀ v' w', Own enc k E w' B v' (l ++ l2) → Below B w w' → w.grownBy w' v.ownBlock → (v' = .slice none 0 0 ↔ v = .slice none 0 0 ∧ m = 0) → (v'.ownBlock = v.ownBlock ∨ v'.ownBlock = some w.heap.size) → K (a.put o.dst v') w') : o.wp P a w K Q := by
  obtain ⟨v', w', hrun, h2, h3, h4, h5, h6⟩ := run_append el o.type hown A m c l2 hr h63 hb hB
  unfold Oper.wp execOp
  simp only [ho, resolve, invoke, builtin, Sem.run_bind, Sem.run_pure, Result.andThen_ok, List.map_toArray, List.map_cons, List.map_nil, hs, hx, hrun]
  exact h v' w' h2 h3 h4 h5 h6

theorem wpList_append {ops : Array Oper} {rest : List Oper} {o : Oper} {a : Act} {Q : Exit → Act → World → Prop} {w : World} (hgd : o.guard = none) (s x : Operand)
    (ho : o.op = .call { callee := .builtin .append, args := #[s, x], argTypes := #[T, T] }) {B : Nat} {v : Value} {l : List α} (hs : a.eval s = v) (hown : Own enc k E w B v l)
    (A : Option Addr) (m c : Nat) (l2 : List α) (hx : a.eval x = .slice A m c) (hr : Rd enc w A m l2)
    (h63 : l.length + m ≤ maxLen) (hb : (l.length + m) * by' ≤ 140737488355328) (hB : B ≤ w.heap.size)
    (h : ∀ v' w', Own enc k E w' B v' (l ++ l2) → Below B w w' → w.grownBy w' v.ownBlock → (v' = .slice none 0 0 ↔ v = .slice none 0 0 ∧ m = 0) → (v'.ownBlock = v.ownBlock ∨ v'.ownBlock = some w.heap.size) → wpList P ops Q rest (a.put o.dst v') w') : wpList P ops Q (o :: rest) a w :=
  wpList_plain hgd fun _ hK => wp_append el s x ho hs hown A m c l2 hx hr h63 hb hB fun v' w' h2 h3 h4 h5 h6 => hK _ _ (h v' w' h2 h3 h4 h5 h6)

theorem step_append {ops : Array Oper} {o : Oper} {a : Act} {K : Act → World → Prop} {Q : Exit → Act → World → Prop} {F : Prop} {w : World} (hgd : o.guard = none) (s x : Operand)
    (ho : o.op = .call { callee := .builtin .append, args := #[s, x], argTypes := #[T, T] }) {B : Nat} {v : Value} {l : List α} (hs : a.eval s = v) (hown : Own enc k E w B v l)
    (A : Option Addr) (m c : Nat) (l2 : List α) (hx : a.eval x = .slice A m c) (hr : Rd enc w A m l2)
    (h63 : l.length + m ≤ maxLen) (hb : (l.length + m) * by' ≤ 140737488355328) (hB : B ≤ w.heap.size)
    (h : ∀ v' w', Own enc k E w' B v' (l ++ l2) → Below B w w' → w.grownBy w' v.ownBlock → (v' = .slice none 0 0 ↔ v = .slice none 0 0 ∧ m = 0) → (v'.ownBlock = v.ownBlock ∨ v'.ownBlock = some w.heap.size) → K (a.put o.dst v') w') :
    if Region.wanted o (yielded ops a.tmps) = true then Oper.wp P o a w K Q else F := by
  have hw : Region.wanted o (yielded ops a.tmps) = true := by simp [Region.wanted, hgd]
  rw [if_pos hw]
  exact wp_append el s x ho hs hown A m c l2 hx hr h63 hb hB h
end
end Go.Proofs.Yteibcfpepdbflaa.Sk
namespace Go.Proofs.Yteibcfpepdbflaa.Byt
open Go Go.RowKit

theorem join {w w1 w2 : World} (h : Below w.heap.size w w1) (k : Below w1.heap.size w1 w2) : Below w.heap.size w w2 :=
  h.trans (k.mono h.size)
theorem joinB {B : Nat} {w w1 w2 : World} (hB : B ≤ w.heap.size) (h : Below B w w1) (k : Below w1.heap.size w1 w2) : Below B w w2 :=
  h.trans (k.mono (Nat.le_trans hB h.size))
theorem bcell {B : Nat} {w w1 : World} (hb : Below B w w1) : (∀ b o, b < B → w1.cell? ⟨b, o, none⟩ = w.cell? ⟨b, o, none⟩) :=
  fun b o h => hb.cell (p := ⟨b, o, none⟩) h
theorem belowN {B : Nat} {a w : World} (h : Below B a w) (n : Nat) : Below B a (w.drewN n) := ⟨h.os, h.tape, h.output, h.size, h.block⟩
theorem retb {a b : Bool} (h : a = b) : Ending.returned (.bool a) = .returned (.bool b) := by rw [h]
theorem rets {a b : ByteArray} (h : a = b) : Ending.returned (.string a) = .returned (.string b) := by rw [h]
def str (l : List UInt8) : ByteArray := ⟨l.toArray⟩
theorem str_data (s : ByteArray) : str s.data.toList = s := by cases s; rfl
theorem str_size (l : List UInt8) : (str l).size = l.length := by simp [str, ByteArray.size]
theorem str_inj {a b : List UInt8} (h : str a = str b) : a = b := by
  have := congrArg (fun s => s.data.toList) h
  simpa [str] using this

def Buf (w : World) (B g n cap : Nat) (l : List UInt8) : Prop :=
  n = l.length ∧ n ≤ cap ∧ B ≤ g ∧ g < w.heap.size ∧ (∀ i (h : i < l.length), w.cell? ⟨g, i, none⟩ = some (.int .u8 (l[i].toNat : Int))) ∧ ∀ i, i < l.length → w.frozen? ⟨g, i, none⟩ = false

theorem Buf.below {w w' : World} {B g n cap : Nat} {l : List UInt8} (h : Buf w B g n cap l) (hb : Below w.heap.size w w') : Buf w' B g n cap l := by
  obtain ⟨h1, h2, h3, h4, h5, h6⟩ := h
  exact ⟨h1, h2, h3, Nat.lt_of_lt_of_le h4 hb.size, fun i hi => by rw [bcell hb _ _ h4]; exact h5 i hi, fun i hi => by rw [hb.frozen (p := ⟨g, i, none⟩) h4]; exact h6 i hi⟩

theorem Buf.store {w : World} {B g n cap : Nat} {l : List UInt8} (h : Buf w B g n cap l) (i : Nat) (hi : i < l.length) (x : UInt8) :
    Buf (w.setCell ⟨g, i, none⟩ (.int .u8 (x.toNat : Int))) B g n cap (l.set i x) := by
  obtain ⟨h1, h2, h3, h4, h5, h6⟩ := h
  refine ⟨by simpa using h1, h2, h3, by rw [World.size_setCell]; exact h4, fun j hj => ?_, fun j hj => ?_⟩
  · rw [List.length_set] at hj
    by_cases hij : i = j
    · subst hij
      rw [List.getElem_set_self]
      exact World.cell?_setCell_same _ _ _ (h5 i hi)
    · rw [List.getElem_set_ne hij]
      rw [World.cell?_setCell_other]
      · exact h5 j hj
      · intro e; injection e with _ e; exact hij e
  · rw [List.length_set] at hj
    rw [World.frozen?_setCell]
    exact h6 j hj

end Go.Proofs.Yteibcfpepdbflaa.Byt
