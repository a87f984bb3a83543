/- The plain law of a line's words: each is a sign, or begins with a dash or an apostrophe, or is a dictionary word when it is cut. No program in sight. -/
import Derived.Test.YthnkfaddjenbhaaLetQ
namespace Go.Proofs.Ythnkfaddjenbhaa.LetG
open Go LetP LetY LetX LetZ LetQ Byt

def Good (x : List UInt8) : Prop := x = [46] ∨ x = [44] ∨ ∃ b t, x = b :: t ∧ (code b = 45 ∨ code b = 39 ∨ isWord (short x) = true)

theorem low_code {b : UInt8} (h : rowB b = true) : wbyte (code (low b)) = true := by
  unfold rowB row at h
  cases hg : great (code b) with
  | true =>
    rw [code_low_yes hg]
    unfold great at hg
    unfold wbyte wfirst small
    simp only [Bool.and_eq_true, decide_eq_true_eq] at hg
    simp; omega
  | false =>
    rw [code_low_no hg]
    rw [hg] at h
    unfold wbyte wfirst
    revert h
    cases small (code b) <;> cases digit (code b) <;> simp
theorem low_first {b : UInt8} (h : rowB b = true) (h1 : code (low b) ≠ 45) (h2 : code (low b) ≠ 39) : wfirst (code (low b)) = true := by
  have h3 := low_code h
  unfold wbyte at h3
  simp only [Bool.or_eq_true, beq_iff_eq] at h3
  rcases h3 with h3 | h3 | h3
  · exact h3
  · exact absurd h3 h1
  · exact absurd h3 h2
theorem good_lower {x : List UInt8} (hx : x ≠ []) (h : ∀ b ∈ x, rowB b = true) : Good (lower x) := by
  cases x with
  | nil => exact absurd rfl hx
  | cons b t =>
    refine .inr (.inr ⟨low b, lower t, rfl, ?_⟩)
    by_cases h1 : code (low b) = 45
    · exact .inl h1
    · by_cases h2 : code (low b) = 39
      · exact .inr (.inl h2)
      · refine .inr (.inr ?_)
        have hs : short (lower (b :: t)) = low b :: (lower t).take 8 := rfl
        unfold isWord
        rw [hs]
        show (decide _ && (wfirst (code (low b)) && _)) = true
        have hl : (low b :: (lower t).take 8).length ≤ 9 := by
          have := List.length_take_le 8 (lower t)
          simp only [List.length_cons]; omega
        have ha : (low b :: (lower t).take 8).all (fun b => wbyte (code b)) = true := by
          refine List.all_eq_true.2 fun c hc => ?_
          have hc' : c ∈ lower (b :: t) := by
            rcases List.mem_cons.1 hc with rfl | hc
            · exact List.mem_cons_self
            · exact List.mem_cons_of_mem _ (List.mem_of_mem_take hc)
          obtain ⟨d, hd, rfl⟩ := List.mem_map.1 hc'
          exact low_code (h d hd)
        rw [ha, low_first (h b List.mem_cons_self) h1 h2, decide_eq_true hl]; rfl
theorem good_flush {cur : List UInt8} (h : ∀ b ∈ cur, rowB b = true) : ∀ x ∈ flush cur, Good x := by
  intro x hx
  unfold flush at hx
  split at hx
  · simp at hx
  · rename_i hne
    rw [List.mem_singleton] at hx
    subst hx
    exact good_lower hne h
theorem good_sep (b : UInt8) : ∀ x ∈ sep b, Good x := by
  intro x hx
  unfold sep at hx
  split at hx
  · rename_i h
    rw [List.mem_singleton] at hx
    subst hx
    unfold code at h
    rcases h with h | h
    · exact .inl (by rw [show b = 46 from UInt8.toNat_inj.1 (by show b.toNat = 46; omega)])
    · exact .inr (.inl (by rw [show b = 44 from UInt8.toNat_inj.1 (by show b.toNat = 44; omega)]))
  · simp at hx
theorem good_scan : ∀ (l cur : List UInt8), (∀ b ∈ cur, rowB b = true) → ∀ x ∈ scan l cur, Good x
  | [], cur, h => good_flush h
  | b :: t, cur, h => by
    intro x hx
    unfold scan at hx
    split at hx
    · rename_i hb
      refine good_scan t (cur ++ [b]) (fun c hc => ?_) x hx
      rcases List.mem_append.1 hc with hc | hc
      · exact h c hc
      · rw [List.mem_singleton] at hc; rw [hc]; exact hb
    · rcases List.mem_append.1 hx with hx | hx
      · exact good_flush h x hx
      · rcases List.mem_append.1 hx with hx | hx
        · exact good_sep b x hx
        · exact good_scan t [] (by simp) x hx
theorem good_words (l : List UInt8) : ∀ x ∈ words l, Good x := good_scan l [] (by simp)
theorem len_flush {cur : List UInt8} : ∀ x ∈ flush cur, x.length ≤ cur.length := by
  intro x hx
  unfold flush at hx
  split at hx
  · simp at hx
  · rw [List.mem_singleton] at hx
    subst hx
    unfold lower
    rw [List.length_map]; exact Nat.le_refl _
theorem len_sep (b : UInt8) : ∀ x ∈ sep b, x.length ≤ 1 := by
  intro x hx
  unfold sep at hx
  split at hx
  · rw [List.mem_singleton] at hx
    subst hx; exact Nat.le_refl _
  · simp at hx
theorem len_scan : ∀ (l cur : List UInt8), ∀ x ∈ scan l cur, x.length ≤ cur.length + l.length
  | [], cur => fun x hx => len_flush x hx
  | b :: t, cur => by
    intro x hx
    unfold scan at hx
    split at hx
    · have := len_scan t (cur ++ [b]) x hx
      simp only [List.length_append, List.length_cons, List.length_nil] at this ⊢; omega
    · rcases List.mem_append.1 hx with hx | hx
      · have := len_flush x hx
        simp only [List.length_cons]; omega
      · rcases List.mem_append.1 hx with hx | hx
        · have := len_sep b x hx
          simp only [List.length_cons]; omega
        · have := len_scan t [] x hx
          simp only [List.length_cons, List.length_nil] at this ⊢; omega
theorem len_words (l : List UInt8) : ∀ x ∈ words l, x.length ≤ l.length := fun x hx => by
  have := len_scan l [] x hx
  simp only [List.length_nil] at this; omega
end Go.Proofs.Ythnkfaddjenbhaa.LetG
