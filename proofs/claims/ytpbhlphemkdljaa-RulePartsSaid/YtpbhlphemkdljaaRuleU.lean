/- The plain law of two parts: the rules of the whole list are those of its two parts, put together. No program in sight. -/
import Derived.Test.YtpbhlphemkdljaaRuleT
namespace Go.Proofs.Ytpbhlphemkdljaa.RuleU
open Go RuleP RuleQ RuleT

theorem grp_split (ds : List Deed) (phase : Int) (c : Cmd) (n : Int) (k : Nat) : ∀ m, grp ds phase c n (k + m) = grp ds phase c n k ++ (grp (ds.drop k) phase c n m).map (· + k)
  | 0 => by simp [grp]
  | m + 1 => by
    have ih := grp_split ds phase c n k m
    show (if ((ds[k + m]?).map fun d => decide (rank d = n) && fits d phase c) = some true then grp ds phase c n (k + m) ++ [k + m] else grp ds phase c n (k + m)) = _
    have e : (ds.drop k)[m]? = ds[k + m]? := by rw [List.getElem?_drop]
    by_cases h : ((ds[k + m]?).map fun d => decide (rank d = n) && fits d phase c) = some true
    · have h2 : grp (ds.drop k) phase c n (m + 1) = grp (ds.drop k) phase c n m ++ [m] := by
        show (if _ then _ else _) = _
        rw [if_pos (by rw [e]; exact h)]
      rw [if_pos h, ih, h2]
      simp [Nat.add_comm]
    · have h2 : grp (ds.drop k) phase c n (m + 1) = grp (ds.drop k) phase c n m := by
        show (if _ then _ else _) = _
        rw [if_neg (by rw [e]; exact h)]
      rw [if_neg h, ih, h2]

theorem grp_take (ds : List Deed) (phase : Int) (c : Cmd) (n : Int) (k : Nat) : ∀ j, j ≤ k → grp (ds.take k) phase c n j = grp ds phase c n j
  | 0, _ => rfl
  | j + 1, h => by
    have ih := grp_take ds phase c n k j (by omega)
    have e : (ds.take k)[j]? = ds[j]? := by rw [List.getElem?_take, if_pos (by omega)]
    unfold grp
    rw [e, ih]

def lo (k : Nat) (l : List Nat) : List Nat := l.filter fun y => decide (y < k)
def hi (k : Nat) (l : List Nat) : List Nat := l.filter fun y => decide (k ≤ y)
theorem lo_append (k : Nat) (a b : List Nat) : lo k (a ++ b) = lo k a ++ lo k b := by simp [lo]
theorem hi_append (k : Nat) (a b : List Nat) : hi k (a ++ b) = hi k a ++ hi k b := by simp [hi]

theorem lo_grp (ds : List Deed) (phase : Int) (c : Cmd) (n : Int) (k m : Nat) : lo k (grp ds phase c n (k + m)) = grp (ds.take k) phase c n k := by
  rw [grp_split, lo_append, grp_take _ _ _ _ _ _ (Nat.le_refl _)]
  have h1 : lo k (grp ds phase c n k) = grp ds phase c n k := List.filter_eq_self.2 fun y hy => decide_eq_true (grp_lt hy)
  have h2 : lo k ((grp (ds.drop k) phase c n m).map (· + k)) = [] := List.filter_eq_nil_iff.2 fun y hy => by
    obtain ⟨z, _, rfl⟩ := List.mem_map.1 hy
    simp
  rw [h1, h2, List.append_nil]
theorem hi_grp (ds : List Deed) (phase : Int) (c : Cmd) (n : Int) (k m : Nat) : hi k (grp ds phase c n (k + m)) = (grp (ds.drop k) phase c n m).map (· + k) := by
  rw [grp_split, hi_append]
  have h1 : hi k (grp ds phase c n k) = [] := List.filter_eq_nil_iff.2 fun y hy => by have := grp_lt hy; simp; omega
  have h2 : hi k ((grp (ds.drop k) phase c n m).map (· + k)) = (grp (ds.drop k) phase c n m).map (· + k) := List.filter_eq_self.2 fun y hy => by
    obtain ⟨z, _, rfl⟩ := List.mem_map.1 hy
    simp
  rw [h1, h2, List.nil_append]

theorem lo_upper (ds : List Deed) (phase : Int) (c : Cmd) (k : Nat) (h : k ≤ ds.length) : lo k (upper ds phase c 4) = upper (ds.take k) phase c 4 := by
  obtain ⟨m, hm⟩ : ∃ m, ds.length = k + m := ⟨ds.length - k, by omega⟩
  rw [upper_four, upper_four]
  unfold four
  rw [List.length_take, Nat.min_eq_left h, hm]
  simp only [lo_append, lo_grp]
theorem hi_upper (ds : List Deed) (phase : Int) (c : Cmd) (k : Nat) (h : k ≤ ds.length) : hi k (upper ds phase c 4) = (upper (ds.drop k) phase c 4).map (· + k) := by
  obtain ⟨m, hm⟩ : ∃ m, ds.length = k + m := ⟨ds.length - k, by omega⟩
  rw [upper_four, upper_four]
  unfold four
  rw [List.length_drop, hm, show k + m - k = m by omega]
  simp only [hi_append, hi_grp, List.map_append]

theorem lo_hi_length (k : Nat) : ∀ l : List Nat, (lo k l).length + (hi k l).length = l.length
  | [] => rfl
  | x :: l => by
    have ih := lo_hi_length k l
    unfold lo hi at *
    by_cases h : x < k
    · have h' : ¬ k ≤ x := by omega
      simp [h, h']; omega
    · have h' : k ≤ x := by omega
      simp [h, h']; omega
theorem lo_drop_low {k : Nat} {l : List Nat} {i : Nat} (h : i < l.length) (hx : l.getD i 0 < k) : lo k (l.drop i) = l.getD i 0 :: lo k (l.drop (i + 1)) ∧ hi k (l.drop i) = hi k (l.drop (i + 1)) := by
  have e : l.drop i = l.getD i 0 :: l.drop (i + 1) := by
    rw [List.drop_eq_getElem_cons h]; simp [List.getD_eq_getElem?_getD, h]
  rw [e]
  generalize l.getD i 0 = x at *
  have h' : ¬ k ≤ x := by omega
  simp [lo, hi, hx, h']
theorem lo_drop_high {k : Nat} {l : List Nat} {i : Nat} (h : i < l.length) (hx : k ≤ l.getD i 0) : hi k (l.drop i) = l.getD i 0 :: hi k (l.drop (i + 1)) ∧ lo k (l.drop i) = lo k (l.drop (i + 1)) := by
  have e : l.drop i = l.getD i 0 :: l.drop (i + 1) := by
    rw [List.drop_eq_getElem_cons h]; simp [List.getD_eq_getElem?_getD, h]
  rw [e]
  generalize l.getD i 0 = x at *
  have h' : ¬ x < k := by omega
  simp [lo, hi, hx, h']
theorem lo_mem {k y : Nat} {l : List Nat} (h : y ∈ lo k l) : y < k := by simpa using (List.mem_filter.1 h).2
end Go.Proofs.Ytpbhlphemkdljaa.RuleU
