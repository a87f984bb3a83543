/- The plain law of the rules' order: the program's way of gathering gives the reference's list. No program in sight. -/
import Derived.Test.YtpbhlphemkdljaaRuleP
namespace Go.Proofs.Ytpbhlphemkdljaa.RuleQ
open Go RuleP

theorem place_split (f : Nat → Nat → Bool) (x : Nat) (A B : List Nat) (hA : ∀ y ∈ A, f x y = false) (hB : ∀ y ∈ B, f x y = true) :
    ∀ j, j ≤ B.length → place f x (A ++ B) (A.length + j) = A.length
  | 0, _ => by
    cases hl : A.length with
    | zero => rfl
    | succ m =>
      show (if f x ((A ++ B).getD m 0) then _ else _) = _
      have hm : m < A.length := by omega
      rw [if_neg]
      rw [List.getD_eq_getElem?_getD, List.getElem?_append_left hm, List.getElem?_eq_getElem hm, Option.getD_some, hA _ (List.getElem_mem hm)]
      decide
  | j + 1, hj => by
    have ih := place_split f x A B hA hB j (by omega)
    show (if f x ((A ++ B).getD (A.length + j) 0) then _ else _) = _
    have hm : j < B.length := by omega
    refine Eq.trans (if_pos ?_) ih
    rw [List.getD_eq_getElem?_getD, List.getElem?_append_right (by omega), show A.length + j - A.length = j by omega, List.getElem?_eq_getElem hm, Option.getD_some]
    exact hB _ (List.getElem_mem hm)

theorem put_split (f : Nat → Nat → Bool) (x : Nat) (A B : List Nat) (hA : ∀ y ∈ A, f x y = false) (hB : ∀ y ∈ B, f x y = true) : put f (A ++ B) x = A ++ x :: B := by
  unfold put
  rw [List.length_append, place_split f x A B hA hB B.length (Nat.le_refl _)]
  unfold putAt
  rw [List.take_left, List.drop_left]

theorem grp_lt {ds : List Deed} {phase : Int} {c : Cmd} {n : Int} : ∀ {k y : Nat}, y ∈ grp ds phase c n k → y < k
  | 0, y, h => by simp [grp] at h
  | k + 1, y, h => by
    unfold grp at h
    split at h
    · rcases List.mem_append.1 h with h | h
      · have := grp_lt h; omega
      · simp at h; omega
    · have := grp_lt h; omega

theorem grp_mem {ds : List Deed} {phase : Int} {c : Cmd} {n : Int} : ∀ {k y : Nat}, y ∈ grp ds phase c n k ↔ y < k ∧ ∃ d, ds[y]? = some d ∧ rank d = n ∧ fits d phase c = true
  | 0, y => by simp [grp]
  | k + 1, y => by
    unfold grp
    have ih := @grp_mem ds phase c n k y
    split
    · rename_i h
      rw [List.mem_append, ih, List.mem_singleton]
      cases hd : ds[k]? with
      | none => rw [hd] at h; cases h
      | some d =>
        rw [hd] at h
        simp only [Option.map_some, Option.some.injEq, Bool.and_eq_true, decide_eq_true_eq] at h
        constructor
        · rintro (⟨h1, h2⟩ | rfl)
          · exact ⟨by omega, h2⟩
          · exact ⟨by omega, d, hd, h⟩
        · rintro ⟨h1, h2⟩
          rcases Nat.lt_or_eq_of_le (Nat.le_of_lt_succ h1) with h3 | h3
          · exact .inl ⟨h3, h2⟩
          · exact .inr h3
    · rename_i h
      rw [ih]
      constructor
      · rintro ⟨h1, h2⟩; exact ⟨by omega, h2⟩
      · rintro ⟨h1, d, h2, h3, h4⟩
        rcases Nat.lt_or_eq_of_le (Nat.le_of_lt_succ h1) with h5 | rfl
        · exact ⟨h5, d, h2, h3, h4⟩
        · exact absurd (by rw [h2]; simp [h3, h4]) h

theorem grp_rk {ds : List Deed} {phase : Int} {c : Cmd} {n : Int} {k y : Nat} (h : y ∈ grp ds phase c n k) : rk ds y = n := by
  obtain ⟨_, d, h2, h3, _⟩ := grp_mem.1 h
  simp [rk, List.getD_eq_getElem?_getD, List.getElem?_map, h2, h3]

def four (ds : List Deed) (phase : Int) (c : Cmd) (k : Nat) : List Nat := grp ds phase c 3 k ++ (grp ds phase c 2 k ++ (grp ds phase c 1 k ++ grp ds phase c 0 k))

theorem rank_cases (d : Deed) : rank d = 0 ∨ rank d = 1 ∨ rank d = 2 ∨ rank d = 3 := by
  unfold rank; split <;> split <;> simp

theorem orderTo_four (ds : List Deed) (phase : Int) (c : Cmd) : ∀ k, k ≤ ds.length → orderTo ds phase c k = four ds phase c k
  | 0, _ => rfl
  | k + 1, hk => by
    have ih := orderTo_four ds phase c k (by omega)
    have hd : ds[k]? = some ds[k] := List.getElem?_eq_getElem (by omega)
    generalize ds[k] = d at hd
    have hrk : rk ds k = rank d := by simp [rk, List.getD_eq_getElem?_getD, List.getElem?_map, hd]
    cases hf : fits d phase c with
    | false =>
      rw [orderTo_no hd hf, ih]
      unfold four
      rw [grp_no hd hf, grp_no hd hf, grp_no hd hf, grp_no hd hf]
    | true =>
      rw [orderTo_yes hd hf, ih]
      have no : ∀ {m n : Int}, rank d = m → m ≤ n → ∀ y ∈ grp ds phase c n k, sooner ds k y = false := by
        intro m n h1 h2 y hy
        unfold sooner
        rw [grp_rk hy, hrk, h1]
        exact decide_eq_false (by omega)
      have yes : ∀ {m n : Int}, rank d = m → n < m → ∀ y ∈ grp ds phase c n k, sooner ds k y = true := by
        intro m n h1 h2 y hy
        unfold sooner
        rw [grp_rk hy, hrk, h1]
        exact decide_eq_true (by omega)
      have app : ∀ {p : Nat → Prop} {A B : List Nat}, (∀ y ∈ A, p y) → (∀ y ∈ B, p y) → ∀ y ∈ A ++ B, p y := by
        intro p A B hA hB y hy
        rcases List.mem_append.1 hy with h | h
        · exact hA y h
        · exact hB y h
      unfold four
      rcases rank_cases d with h | h | h | h
      · rw [← List.append_nil (grp ds phase c 3 k ++ _), put_split _ _ _ _ (app (no h (by omega)) (app (no h (by omega)) (app (no h (by omega)) (no h (by omega))))) (by simp)]
        rw [grp_rank hd (n := 3) (by omega), grp_rank hd (n := 2) (by omega), grp_rank hd (n := 1) (by omega), grp_yes hd h hf]
        simp
      · rw [← List.append_assoc, ← List.append_assoc, put_split _ _ _ _ (app (app (no h (by omega)) (no h (by omega))) (no h (by omega))) (yes h (by omega))]
        rw [grp_rank hd (n := 3) (by omega), grp_rank hd (n := 2) (by omega), grp_yes hd h hf, grp_rank hd (n := 0) (by omega)]
        simp
      · rw [← List.append_assoc, put_split _ _ _ _ (app (no h (by omega)) (no h (by omega))) (app (yes h (by omega)) (yes h (by omega)))]
        rw [grp_rank hd (n := 3) (by omega), grp_yes hd h hf, grp_rank hd (n := 1) (by omega), grp_rank hd (n := 0) (by omega)]
        simp
      · rw [put_split _ _ _ _ (no h (by omega)) (app (yes h (by omega)) (app (yes h (by omega)) (yes h (by omega))))]
        rw [grp_yes hd h hf, grp_rank hd (n := 2) (by omega), grp_rank hd (n := 1) (by omega), grp_rank hd (n := 0) (by omega)]
        simp

theorem upper_four (ds : List Deed) (phase : Int) (c : Cmd) : upper ds phase c 4 = four ds phase c ds.length := by
  simp [upper, four]

/-- The program's list is the reference's. -/
theorem order_same (ds : List Deed) (phase : Int) (c : Cmd) : orderTo ds phase c ds.length = upper ds phase c 4 := by
  rw [upper_four, orderTo_four ds phase c _ (Nat.le_refl _)]
end Go.Proofs.Ytpbhlphemkdljaa.RuleQ
