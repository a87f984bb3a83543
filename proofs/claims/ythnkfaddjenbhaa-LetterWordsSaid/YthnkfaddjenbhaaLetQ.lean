/- The plain mathematics of a line's words: cut byte by byte; runs of bytes that stand in words; words joined by blanks are the same words. No program in sight. -/
import Derived.Test.YthnkfaddjenbhaaLetZ
namespace Go.Proofs.Ythnkfaddjenbhaa.LetQ
open Go LetP LetY LetX Byt

def rowB (b : UInt8) : Bool := row (code b)
def sep (b : UInt8) : List (List UInt8) := if code b = 46 ∨ code b = 44 then [[b]] else []
def flush (cur : List UInt8) : List (List UInt8) := if cur = [] then [] else [lower cur]
def scan : List UInt8 → List UInt8 → List (List UInt8)
  | [], cur => flush cur
  | b :: t, cur => if rowB b then scan t (cur ++ [b]) else flush cur ++ (sep b ++ scan t [])
def words (l : List UInt8) : List (List UInt8) := scan l []

theorem scan_run : ∀ (x rest cur : List UInt8), (∀ b ∈ x, rowB b = true) → scan (x ++ rest) cur = scan rest (cur ++ x)
  | [], rest, cur, _ => by simp
  | b :: x, rest, cur, h => by
    show (if rowB b then scan (x ++ rest) (cur ++ [b]) else _) = _
    rw [if_pos (h b List.mem_cons_self), scan_run x rest (cur ++ [b]) (fun c hc => h c (List.mem_cons_of_mem _ hc))]
    simp
theorem scan_word (x rest : List UInt8) (hx : x ≠ []) (h : ∀ b ∈ x, rowB b = true) (hr : ∀ b t, rest = b :: t → rowB b = false) : scan (x ++ rest) [] = lower x :: scan rest [] := by
  rw [scan_run x rest [] h, List.nil_append]
  cases rest with
  | nil => simp [scan, flush, hx]
  | cons b t =>
    have hb := hr b t rfl
    simp [scan, flush, hx, hb]
theorem scan_sep (b : UInt8) (t : List UInt8) (h : rowB b = false) : scan (b :: t) [] = sep b ++ scan t [] := by
  simp [scan, flush, h]

def run (l : List UInt8) (i : Nat) : Nat := ((l.drop i).takeWhile rowB).length
theorem run_le (l : List UInt8) (i : Nat) (h : i ≤ l.length) : i + run l i ≤ l.length := by
  have := (List.takeWhile_sublist (l := l.drop i) rowB).length_le
  rw [List.length_drop] at this
  unfold run; omega
theorem run_split (l : List UInt8) (i : Nat) : l.drop i = (l.drop i).takeWhile rowB ++ l.drop (i + run l i) := by
  have h := List.takeWhile_append_dropWhile (p := rowB) (l := l.drop i)
  have h2 : (l.drop i).drop (run l i) = (l.drop i).dropWhile rowB := by
    conv => lhs; rw [← h]
    unfold run
    rw [List.drop_left]
  rw [List.drop_drop] at h2
  rw [h2]
  exact h.symm
theorem run_take (l : List UInt8) (i : Nat) : (l.drop i).takeWhile rowB = (l.drop i).take (run l i) := by
  have h := run_split l i
  conv => rhs; rw [h]
  unfold run
  rw [List.take_left]
theorem run_lt {l : List UInt8} {i k : Nat} (h : k < run l i) : ∃ hk : i + k < l.length, rowB l[i + k] = true := by
  have hk : k < ((l.drop i).takeWhile rowB).length := h
  have hd : k < (l.drop i).length := Nat.lt_of_lt_of_le hk (List.takeWhile_sublist rowB).length_le
  have hkl : i + k < l.length := by rw [List.length_drop] at hd; omega
  refine ⟨hkl, ?_⟩
  have hm := List.getElem_mem hk
  have hr : rowB ((l.drop i).takeWhile rowB)[k] = true := (List.all_eq_true.1 (List.all_takeWhile (p := rowB) (l := l.drop i))) _ hm
  have e : ((l.drop i).takeWhile rowB)[k]? = some l[i + k] := by
    rw [run_take, List.getElem?_take, if_pos h, List.getElem?_drop, List.getElem?_eq_getElem hkl]
  rw [List.getElem?_eq_getElem hk] at e
  injection e with e
  rw [← e]; exact hr
theorem run_stop {l : List UInt8} {i : Nat} (h : i + run l i < l.length) : rowB l[i + run l i] = false := by
  have h2 : (l.drop i).dropWhile rowB = l.drop (i + run l i) := by
    have h1 := run_split l i
    exact List.append_cancel_left ((List.takeWhile_append_dropWhile (p := rowB) (l := l.drop i)).trans h1)
  have hd : l.drop (i + run l i) = l[i + run l i] :: l.drop (i + run l i + 1) := List.drop_eq_getElem_cons h
  have := List.head?_dropWhile_not rowB (l.drop i)
  rw [h2, hd] at this
  simp only [List.head?_cons] at this
  exact this
theorem words_word {l : List UInt8} {i : Nat} (h : 0 < run l i) : scan (l.drop i) [] = lower ((l.drop i).take (run l i)) :: scan (l.drop (i + run l i)) [] := by
  have h1 := run_split l i
  rw [run_take] at h1
  conv => lhs; rw [h1]
  refine scan_word _ _ ?_ ?_ ?_
  · intro he
    have := congrArg List.length he
    rw [← run_take] at this
    unfold run at h
    simp only [List.length_nil] at this
    omega
  · intro b hb
    rw [← run_take] at hb
    exact (List.all_eq_true.1 (List.all_takeWhile (p := rowB) (l := l.drop i))) _ hb
  · intro b t hbt
    have hlt : i + run l i < l.length := by
      rcases Nat.lt_or_ge (i + run l i) l.length with h' | h'
      · exact h'
      · rw [List.drop_eq_nil_of_le h'] at hbt; cases hbt
    rw [List.drop_eq_getElem_cons hlt] at hbt
    injection hbt with e _
    rw [← e]; exact run_stop hlt
theorem words_sep {l : List UInt8} {i : Nat} (h : run l i = 0) (hi : i < l.length) : scan (l.drop i) [] = sep l[i] ++ scan (l.drop (i + 1)) [] := by
  have hs := run_stop (l := l) (i := i) (by omega)
  simp only [h, Nat.add_zero] at hs
  rw [List.drop_eq_getElem_cons hi]
  exact scan_sep _ _ hs
end Go.Proofs.Ythnkfaddjenbhaa.LetQ
