/- Slices of strings as lists: one that can be read, and one that a call owns. No walk here. -/
import Derived.Test.YthnkfaddjenbhaaBytesP
import Derived.WalkKit
import Derived.ProofKit
import Derived.OpenShut
import Derived.Handy
import Derived.Lib.Hide
import Derived.Deep.Draws
namespace Go.Proofs.Ythnkfaddjenbhaa.Strs
open Go Go.RowKit
open Byt (str join joinB bcell belowN)

/-- The value of a string. -/
def sv (l : List UInt8) : Value := .string (str l)

/-- The slice value v reads as the list l. -/
def Reads (w : World) (v : Value) (l : List (List UInt8)) : Prop :=
  (v = .slice none 0 0 ∧ l = []) ∨
  ∃ b off cap, v = .slice (some ⟨b, off, none⟩) l.length cap ∧ l.length ≤ cap ∧ cap ≤ maxLen ∧ b < w.heap.size ∧
    ∀ i, i < l.length → w.cell? ⟨b, off + i, none⟩ = some (sv (l.getD i []))

/-- The call owns the row that v stands for, from block B on; it holds l. -/
def Own (w : World) (B : Nat) (v : Value) (l : List (List UInt8)) : Prop :=
  w.ownsRow B 9 1 v l.length (l.map sv)

theorem Reads.below {w w' : World} {v : Value} {l : List (List UInt8)} (h : Reads w v l) (hb : Below w.heap.size w w') : Reads w' v l := by
  rcases h with h | ⟨b, off, cap, hv, h1, h2, h3, h4⟩
  · exact .inl h
  · exact .inr ⟨b, off, cap, hv, h1, h2, Nat.lt_of_lt_of_le h3 hb.size, fun i hi => by rw [bcell hb b _ h3]; exact h4 i hi⟩

theorem Own.drewN {w : World} {B : Nat} {v : Value} {l : List (List UInt8)} (h : Own w B v l) (n : Nat) : Own (w.drewN n) B v l := h
theorem Own.drew {w : World} {B : Nat} {v : Value} {l : List (List UInt8)} (h : Own w B v l) : Own w.drew B v l := h
theorem own_nil (w : World) (B : Nat) : Own w B (.slice none 0 0) [] := World.ownsRow_nil w B _ _

theorem Own.reads {w : World} {B : Nat} {v : Value} {l : List (List UInt8)} (h : Own w B v l) : Reads w v l := by
  obtain ⟨hl, h⟩ := h
  rcases h with ⟨hv, hn⟩ | ⟨g, cap, cur, hv, hB, hh, hc, hm, hs, ht⟩
  · exact .inl ⟨hv, List.length_eq_zero_iff.1 hn⟩
  · refine .inr ⟨g, 0, cap, hv, hc, hm, ?_, fun i hi => ?_⟩
    · rcases Nat.lt_or_ge g w.heap.size with h | h
      · exact h
      · simp [Array.getElem?_eq_none h] at hh
    · have hi' : i < (l.map sv).length := by simpa using hi
      have e : (l.map sv)[i]? = some (sv (l.getD i [])) := by
        rw [List.getElem?_map, List.getElem?_eq_getElem hi]; simp [List.getD, hi]
      rw [← ht, List.getElem?_take] at e
      simp only [Nat.mul_one] at e
      rw [if_pos hi] at e
      simp only [World.cell?, hh, Nat.zero_add]
      simpa using e

theorem Own.alloc {w : World} {B : Nat} {v : Value} {l : List (List UInt8)} (h : Own w B v l) (o : Obj) : Own (w.alloc o) B v l := World.ownsRow.alloc h o

/-- What a call owns stays as it is while another call makes memory of its own. -/
theorem Own.below {w w' : World} {B : Nat} {v : Value} {l : List (List UInt8)} (h : Own w B v l) (hb : Below w.heap.size w w') : Own w' B v l := by
  obtain ⟨hl, h⟩ := h
  refine ⟨hl, ?_⟩
  rcases h with h | ⟨g, cap, cur, hv, hB, hh, hc, hm, hs, ht⟩
  · exact .inl h
  · have hg : g < w.heap.size := by
      rcases Nat.lt_or_ge g w.heap.size with h | h
      · exact h
      · simp [Array.getElem?_eq_none h] at hh
    exact .inr ⟨g, cap, cur, hv, hB, by rw [hb.block g hg]; exact hh, hc, hm, hs, ht⟩

/-- A store into the row that a call owns. -/
theorem Own.store {w : World} {B g cap n : Nat} {l : List (List UInt8)} (h : Own w B (.slice (some ⟨g, 0, none⟩) n cap) l) (i : Nat) (x : List UInt8) :
    Own (w.setCell ⟨g, i, none⟩ (sv x)) B (.slice (some ⟨g, 0, none⟩) n cap) (l.set i x) := by
  obtain ⟨hl, h⟩ := h
  rcases h with ⟨hv, hn⟩ | ⟨g', cap', cur, hv, hB, hh, hc, hm, hs, ht⟩
  · cases hv
  · injection hv with ha hlen hcap
    injection ha with ha
    injection ha with ha
    subst ha
    refine ⟨by simp, .inr ⟨g, cap', cur.setIfInBounds i (sv x), by rw [hlen, hcap]; simp, hB, ?_, by simpa using hc, hm, by simpa using hs, ?_⟩⟩
    · simp [World.setCell, Array.getElem?_modify, hh]
    · rw [Array.toList_setIfInBounds, List.take_set, List.length_set, ht, List.map_set]

theorem Try.infoStr : (Try.prog.info? 9).map (fun i => (i.zero, i.size, i.bytes)) = some (some (.string ⟨#[]⟩), 1, 16) := by kernel_rfl

theorem Own.pointed {w : World} {B : Nat} {v : Value} {l : List (List UInt8)} (h : Own w B v l) (hne : l ≠ []) : ∃ g cap, v = .slice (some ⟨g, 0, none⟩) l.length cap ∧ B ≤ g ∧ g < w.heap.size ∧ l.length ≤ cap ∧ cap ≤ maxLen := by
  obtain ⟨hl, h⟩ := h
  rcases h with ⟨hv, hn⟩ | ⟨g, cap, cur, hv, hB, hh, hc, hm, hs, ht⟩
  · exact absurd (List.length_eq_zero_iff.1 hn) hne
  · refine ⟨g, cap, hv, hB, ?_, hc, hm⟩
    rcases Nat.lt_or_ge g w.heap.size with h | h
    · exact h
    · simp [Array.getElem?_eq_none h] at hh

theorem Own.at {w : World} {B g n cap : Nat} {l : List (List UInt8)} (h : Own w B (.slice (some ⟨g, 0, none⟩) n cap) l) :
    n = l.length ∧ l.length ≤ cap ∧ cap ≤ maxLen ∧ B ≤ g ∧ g < w.heap.size ∧ (∀ i, i < l.length → w.cell? ⟨g, i, none⟩ = some (sv (l.getD i []))) ∧ ∀ i, w.frozen? ⟨g, i, none⟩ = false := by
  obtain ⟨hl, h'⟩ := h
  rcases h' with ⟨hv, hn⟩ | ⟨g', cap', cur, hv, hB, hh, hc, hm, hs, ht⟩
  · cases hv
  · injection hv with ha hlen hcap
    injection ha with ha
    injection ha with ha
    subst ha hlen hcap
    have hg : g < w.heap.size := by
      rcases Nat.lt_or_ge g w.heap.size with h | h
      · exact h
      · simp [Array.getElem?_eq_none h] at hh
    refine ⟨rfl, hc, hm, hB, hg, fun i hi => ?_, fun i => by simp [World.frozen?, hh]⟩
    have e : (l.map sv)[i]? = some (sv (l.getD i [])) := by
      rw [List.getElem?_map, List.getElem?_eq_getElem hi]; simp [List.getD, hi]
    rw [← ht, List.getElem?_take] at e
    simp only [Nat.mul_one] at e
    rw [if_pos hi] at e
    simp only [World.cell?, hh]
    simpa using e

/-- 'l = append(l, y)' on a list of the call's own. -/
theorem wpList_append_one {ops : Array Oper} {rest : List Oper} {o : Oper} {a : Act} {Q : Exit → Act → World → Prop} {w : World} {B : Nat} (hgd : o.guard = none) (s x : Operand)
    (ho : o.op = .call { callee := .builtin .append, args := #[s, x], argTypes := #[25, 25] }) (v : Value) (l : List (List UInt8)) (y : List UInt8)
    (hs : a.eval s = v) (hx : a.eval x = .slice (some ⟨w.heap.size, 0, none⟩) 1 1) (hown : Own w B v l) (hB : B ≤ w.heap.size) (hlen : l.length ≤ 1099511627776)
    (h : ∀ v' w', Own w' B v' (l ++ [y]) → Below B w w' → (∃ n g cap, v' = .slice (some ⟨g, 0, none⟩) n cap ∧ Hid (n = l.length + 1) ∧ 1 ≤ n ∧ n ≤ 1099511627777 ∧ B ≤ g ∧ g < w'.heap.size ∧ n ≤ cap ∧ cap ≤ maxLen) → wpList Try.prog ops Q rest (a.put o.dst v') w') :
    wpList Try.prog ops Q (o :: rest) a (w.alloc (.cells #[sv y] 9)) := by
  obtain ⟨i0, hi, hz0, hz1, hz2⟩ := info_parts Try.infoStr
  refine wpList_append_own _ hgd s x 25 ho B 9 i0 (.string ⟨#[]⟩) 1 16 Try.underlying25 hi hz0 hz1 hz2 rfl (by decide) v _ _ hs (hown.alloc _) ⟨w.heap.size, 0, none⟩ 1 1 [sv y] hx rfl ?_ ?_ ?_ ?_ ?_ ?_
  · intro j u hj
    cases j with
    | zero =>
      simp only [List.getElem?_cons_zero, Option.some.injEq] at hj
      subst hj
      have e : (w.alloc (.cells #[sv y] 9)).heap[w.heap.size]? = some (.cells #[sv y] 9) := (MapKept.heap_alloc w _).1
      show (w.alloc (.cells #[sv y] 9)).cell? ⟨w.heap.size, 0, none⟩ = _
      unfold World.cell?
      rw [e]
      rfl
    | succ j => simp at hj
  · simp [Value.oneCell', sv]
  · unfold maxLen; omega
  · omega
  · simp; omega
  · intro v' w' hown' hg hn
    have ho' : Own w' B v' (l ++ [y]) := by
      show w'.ownsRow _ _ _ _ _ _
      simpa using hown'
    refine h v' w' ho' ?_ ?_
    · exact (((Below.refl B w).alloc hB _)).grown hg (by simp; omega) (fun k hk => (hown.lt k hk).1)
    · obtain ⟨g, cap, h1, h2, h3, h4, h5⟩ := ho'.pointed (by simp)
      simp only [List.length_append, List.length_cons, List.length_nil] at h1 h4
      exact ⟨_, g, cap, h1, rfl, by omega, by omega, h2, h3, h4, h5⟩


/-- A piece of a string. -/
theorem slice_str (s : ByteArray) (i j : Nat) (J : Int) (hJ : J = (j : Int)) (h : i ≤ j) (hj : j ≤ s.size) (w : World) :
    (Instr.slice 9 (.string s) (some (.int .i64 (i : Int))) (some (.int .i64 J)) none).run Try.prog w = .ok (.string (s.extract i j)) w := by
  subst hJ
  have h1 : (0 : Int) ≤ (j : Int) ∧ (j : Int) ≤ (s.size : Int) := by omega
  have h2 : (0 : Int) ≤ (i : Int) ∧ (i : Int) ≤ (j : Int) := by omega
  simp [Instr.slice, Instr.sliceBounds, Instr.sliceBound, asIntOf, run_underlying Try.underlying9]
  rw [if_pos hj]
  simp only [Result.andThen]
  rw [if_pos h]
end Go.Proofs.Ythnkfaddjenbhaa.Strs
