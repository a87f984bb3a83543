/- The plain law of the rules' list: ranks do not rise, equal ranks by number, each rule that fits once; counts of numbers in a list. No program in sight. -/
import Derived.Test.YtpbhlphemkdljaaRuleQ
namespace Go.Proofs.Ytpbhlphemkdljaa.RuleT
open Go RuleP RuleQ

def Ahead (ds : List Deed) (a b : Nat) : Prop := rk ds b < rk ds a ∨ (rk ds a = rk ds b ∧ a < b)
theorem Ahead.ne {ds : List Deed} {a b : Nat} (h : Ahead ds a b) : a ≠ b := by
  rintro rfl; rcases h with h | ⟨_, h⟩ <;> omega

theorem grp_sorted (ds : List Deed) (phase : Int) (c : Cmd) (n : Int) : ∀ k, (grp ds phase c n k).Pairwise (Ahead ds)
  | 0 => List.Pairwise.nil
  | k + 1 => by
    have ih := grp_sorted ds phase c n k
    unfold grp
    split
    · rename_i hif
      refine List.pairwise_append.2 ⟨ih, List.pairwise_singleton _ _, fun a ha b hb => ?_⟩
      rw [List.mem_singleton] at hb
      subst hb
      refine .inr ⟨?_, grp_lt ha⟩
      rw [grp_rk ha]
      cases hd : ds[b]? with
      | none => rw [hd] at hif; cases hif
      | some d =>
        rw [hd] at hif
        simp only [Option.map_some, Option.some.injEq, Bool.and_eq_true, decide_eq_true_eq] at hif
        simp [rk, List.getD_eq_getElem?_getD, List.getElem?_map, hd, hif.1]
    · exact ih

theorem four_sorted (ds : List Deed) (phase : Int) (c : Cmd) (k : Nat) : (four ds phase c k).Pairwise (Ahead ds) := by
  have cross : ∀ {m n : Int}, n < m → ∀ a ∈ grp ds phase c m k, ∀ b ∈ grp ds phase c n k, Ahead ds a b := by
    intro m n h a ha b hb
    exact .inl (by rw [grp_rk ha, grp_rk hb]; exact h)
  have app : ∀ {m : Int} {A B : List Nat}, (∀ a ∈ grp ds phase c m k, ∀ b ∈ A, Ahead ds a b) → (∀ a ∈ grp ds phase c m k, ∀ b ∈ B, Ahead ds a b) → ∀ a ∈ grp ds phase c m k, ∀ b ∈ A ++ B, Ahead ds a b := by
    intro m A B h1 h2 a ha b hb
    rcases List.mem_append.1 hb with h | h
    · exact h1 a ha b h
    · exact h2 a ha b h
  unfold four
  refine List.pairwise_append.2 ⟨grp_sorted .., List.pairwise_append.2 ⟨grp_sorted .., List.pairwise_append.2 ⟨grp_sorted .., grp_sorted .., cross (by omega)⟩, app (cross (by omega)) (cross (by omega))⟩, app (cross (by omega)) (app (cross (by omega)) (cross (by omega)))⟩

theorem four_mem {ds : List Deed} {phase : Int} {c : Cmd} {k y : Nat} : y ∈ four ds phase c k ↔ y < k ∧ ∃ d, ds[y]? = some d ∧ fits d phase c = true := by
  unfold four
  simp only [List.mem_append, grp_mem]
  constructor
  · rintro (⟨h, d, h1, _, h2⟩ | ⟨h, d, h1, _, h2⟩ | ⟨h, d, h1, _, h2⟩ | ⟨h, d, h1, _, h2⟩) <;> exact ⟨h, d, h1, h2⟩
  · rintro ⟨h, d, h1, h2⟩
    rcases rank_cases d with hr | hr | hr | hr
    · exact .inr (.inr (.inr ⟨h, d, h1, hr, h2⟩))
    · exact .inr (.inr (.inl ⟨h, d, h1, hr, h2⟩))
    · exact .inr (.inl ⟨h, d, h1, hr, h2⟩)
    · exact .inl ⟨h, d, h1, hr, h2⟩

theorem upper_lt {ds : List Deed} {phase : Int} {c : Cmd} {i : Nat} (h : i < (upper ds phase c 4).length) : (upper ds phase c 4).getD i 0 < ds.length := by
  rw [List.getD_eq_getElem?_getD, List.getElem?_eq_getElem h]
  have hm := List.getElem_mem h
  generalize (upper ds phase c 4)[i] = y at *
  rw [upper_four] at hm
  exact (four_mem.1 hm).1

theorem upper_next {ds : List Deed} {phase : Int} {c : Cmd} {i : Nat} (h : i + 1 < (upper ds phase c 4).length) : Ahead ds ((upper ds phase c 4).getD i 0) ((upper ds phase c 4).getD (i + 1) 0) := by
  have hs := four_sorted ds phase c ds.length
  rw [← upper_four] at hs
  have := List.pairwise_iff_getElem.1 hs i (i + 1) (by omega) h (by omega)
  rw [List.getD_eq_getElem?_getD, List.getD_eq_getElem?_getD, List.getElem?_eq_getElem h, List.getElem?_eq_getElem (by omega)]
  exact this

/-- How often each number below n stands in a list. -/
def counts (n : Nat) (l : List Nat) : List Int := (List.range n).map fun j => ((l.count j : Nat) : Int)
theorem counts_length (n : Nat) (l : List Nat) : (counts n l).length = n := by simp [counts]
theorem counts_get {n : Nat} {l : List Nat} {j : Nat} (h : j < n) : (counts n l).getD j 0 = ((l.count j : Nat) : Int) := by
  simp [counts, List.getD_eq_getElem?_getD, List.getElem?_range h]
theorem counts_nil (n : Nat) : counts n [] = List.replicate n 0 := by
  refine List.ext_getElem (by simp [counts]) fun i h1 h2 => by simp [counts]
theorem counts_snoc {n : Nat} {l : List Nat} {x : Nat} (h : x < n) : (counts n l).set x ((counts n l).getD x 0 + 1) = counts n (l ++ [x]) := by
  refine List.ext_getElem (by simp [counts]) fun i h1 h2 => ?_
  have hi : i < n := by simpa [counts] using h2
  rw [List.getElem_set]
  simp only [counts_get h]
  simp only [counts, List.getElem_map, List.getElem_range, List.count_append, List.count_singleton]
  by_cases hx : x = i
  · subst hx; simp
  · simp [hx]

theorem sorted_count {ds : List Deed} : ∀ {l : List Nat}, l.Pairwise (Ahead ds) → ∀ j, l.count j = if j ∈ l then 1 else 0
  | [], _, j => by simp
  | x :: l, h, j => by
    rw [List.pairwise_cons] at h
    have ih := sorted_count h.2 j
    rw [List.count_cons, ih]
    by_cases hx : x = j
    · subst hx
      have : x ∉ l := fun hm => (h.1 x hm).ne rfl
      simp [this]
    · simp [hx, Ne.symm hx]

theorem upper_count {ds : List Deed} {phase : Int} {c : Cmd} {j : Nat} {d : Deed} (h : ds[j]? = some d) : (upper ds phase c 4).count j = if fits d phase c = true then 1 else 0 := by
  have hs := four_sorted ds phase c ds.length
  rw [upper_four, sorted_count hs]
  have hj : j < ds.length := by
    rcases Nat.lt_or_ge j ds.length with h' | h'
    · exact h'
    · rw [List.getElem?_eq_none h'] at h; cases h
  have e : (j ∈ four ds phase c ds.length) ↔ fits d phase c = true := by
    rw [four_mem]
    constructor
    · rintro ⟨_, d', h1, h2⟩; rw [h] at h1; cases h1; exact h2
    · exact fun hf => ⟨hj, d, h, hf⟩
  simp only [e]
end Go.Proofs.Ytpbhlphemkdljaa.RuleT
