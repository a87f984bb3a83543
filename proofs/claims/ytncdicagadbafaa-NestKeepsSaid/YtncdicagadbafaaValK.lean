/- The children of a thing, one behind the other, and how many they are: plain. Conditions: none. -/
import Derived.Test.YtncdicagadbafaaNestP
namespace Go.Proofs.Ytncdicagadbafaa.ValK
open NestP

theorem chain_next {n : Nat} {l : List Int} : ∀ (k : Nat) (c : Int) (i : Nat), i + 1 < (chain n l k c).length → (chain n l k c).getD (i + 1) 0 = at' l ((chain n l k c).getD i 0)
  | 0, _, _, h => by simp [chain] at h
  | k + 1, c, i, h => by
    rw [chain] at h ⊢
    split
    case isFalse h' => rw [if_neg h'] at h; simp at h
    case isTrue h' =>
      rw [if_pos h'] at h
      simp only [List.length_cons] at h
      cases i with
      | zero =>
        simp only [List.getD_cons_succ, List.getD_cons_zero]
        cases k with
        | zero => simp [chain] at h
        | succ k =>
          rw [chain] at h ⊢
          split
          · simp
          · rename_i h''; rw [if_neg h''] at h; simp at h
      | succ i =>
        simp only [List.getD_cons_succ]
        exact chain_next k _ i (by omega)
theorem chain_head {n : Nat} {l : List Int} (k : Nat) (c : Int) (h : 0 < (chain n l k c).length) : (chain n l k c).getD 0 0 = c := by
  cases k with
  | zero => simp [chain] at h
  | succ k =>
    rw [chain] at h ⊢
    split
    · simp
    · rename_i h''; rw [if_neg h''] at h; simp at h

theorem kid_first {w : Wd} (g : NestP.Good w) {x : Int} (hx : isT w.n x = true) : at' w.ch x = (kids w x).getD 0 0 := by
  have h1 := isT_iff.1 hx
  have hf := g.fin x h1.1 h1.2
  unfold ended at hf
  by_cases h0 : 0 < (kids w x).length
  · have h2 := h0
    unfold kids at h0 ⊢
    rw [if_pos hx] at h0 ⊢
    exact (chain_head _ _ h0).symm
  · have : kids w x = [] := List.length_eq_zero_iff.1 (by omega)
    rw [this] at hf ⊢
    simpa using hf
theorem kid_next {w : Wd} (g : NestP.Good w) {x : Int} (hx : isT w.n x = true) {i : Nat} (hi : i < (kids w x).length) : at' w.ne ((kids w x).getD i 0) = (kids w x).getD (i + 1) 0 := by
  by_cases h0 : i + 1 < (kids w x).length
  · have h2 := h0
    unfold kids at h0 ⊢
    rw [if_pos hx] at h0 ⊢
    exact (chain_next _ _ _ h0).symm
  · have h1 := isT_iff.1 hx
    have hf := g.fin x h1.1 h1.2
    unfold ended at hf
    have hl : (kids w x).getLast? = some ((kids w x).getD i 0) := by
      rw [List.getLast?_eq_getElem?, show (kids w x).length - 1 = i by omega, List.getElem?_eq_getElem hi, List.getD_eq_getElem?_getD, List.getElem?_eq_getElem hi]
      rfl
    rw [hl] at hf
    have hz : (kids w x).getD (i + 1) 0 = 0 := by rw [List.getD_eq_getElem?_getD, List.getElem?_eq_none (by omega : (kids w x).length ≤ i + 1)]; rfl
    rw [hz]
    exact hf

/-- The things below a number that are in another one. -/
def F (w : Wd) (x : Int) (m : Nat) : List Int := ((List.range m).map fun (i : Nat) => (i : Int)).filter fun z => isT w.n z && (at' w.pa z == x)
theorem F_one (w : Wd) (x : Int) : (F w x 1).length = 0 := by simp [F, isT]
theorem F_succ (w : Wd) (x : Int) (m : Nat) : (F w x (m + 1)).length = (F w x m).length + if (isT w.n (m : Int) && (at' w.pa (m : Int) == x)) = true then 1 else 0 := by
  unfold F
  rw [List.range_succ, List.map_append, List.filter_append, List.length_append]
  congr 1
  simp only [List.map_cons, List.map_nil, List.filter_cons, List.filter_nil]
  split <;> simp
theorem F_le (w : Wd) (x : Int) (m : Nat) : (F w x m).length ≤ m := by
  unfold F
  exact Nat.le_trans (List.length_filter_le _ _) (by simp)
theorem F_all {w : Wd} (g : NestP.Good w) {x : Int} (hx : isT w.n x = true) : (F w x w.n).length = (kids w x).length := by
  refine List.Perm.length_eq ((List.perm_ext_iff_of_nodup ?_ (g.kids_nodup x)).2 fun e => ?_)
  · refine List.Pairwise.filter _ ?_
    rw [List.pairwise_map]
    exact List.nodup_range.imp fun h h' => h (by omega)
  · rw [g.kid_iff hx]
    unfold F
    simp only [List.mem_filter, List.mem_map, List.mem_range, Bool.and_eq_true, beq_iff_eq]
    constructor
    · rintro ⟨_, h⟩; exact h
    · intro h
      have h1 := isT_iff.1 h.1
      exact ⟨⟨e.toNat, by omega, by omega⟩, h⟩
end Go.Proofs.Ytncdicagadbafaa.ValK
