/- The plain law of joining: the words of a line, joined with blanks, are the words of what comes out. No program in sight. -/
import Derived.Test.YthnkfaddjenbhaaLetG
namespace Go.Proofs.Ythnkfaddjenbhaa.LetJ
open Go LetP LetY LetX LetZ LetQ LetG Byt

def glue (sp : List UInt8) : List (List UInt8) → List UInt8
  | [] => []
  | [x] => x
  | x :: y :: t => x ++ sp ++ glue sp (y :: t)

theorem glue_snoc (sp : List UInt8) : ∀ (l : List (List UInt8)) (x : List UInt8), glue sp (l ++ [x]) = if l = [] then x else glue sp l ++ sp ++ x
  | [], x => rfl
  | [y], x => by simp [glue]
  | y :: z :: t, x => by
    have h := glue_snoc sp (z :: t) x
    rw [if_neg (List.cons_ne_nil _ _)] at h ⊢
    show y ++ sp ++ glue sp (z :: t ++ [x]) = y ++ sp ++ glue sp (z :: t) ++ sp ++ x
    rw [h]; simp only [List.append_assoc]

theorem glue_len (sp : List UInt8) : ∀ (l : List (List UInt8)), (glue sp l).length ≤ l.flatten.length + l.length * sp.length
  | [] => by simp [glue]
  | [x] => by simp [glue]
  | x :: y :: t => by
    have h := glue_len sp (y :: t)
    simp only [glue, List.flatten_cons, List.length_append, List.length_cons] at h ⊢
    have e : (t.length + 1 + 1) * sp.length = (t.length + 1) * sp.length + sp.length := by rw [Nat.succ_mul]
    omega

/-- A word as a scan gives it. -/
def Tidy (x : List UInt8) : Prop := x = [46] ∨ x = [44] ∨ (x ≠ [] ∧ (∀ b ∈ x, rowB b = true) ∧ lower x = x)

theorem row_low {b : UInt8} (h : rowB b = true) : rowB (low b) = true := by
  have h3 := low_code h
  unfold wbyte wfirst at h3
  unfold rowB row
  simp only [Bool.or_eq_true, beq_iff_eq] at h3 ⊢
  rcases h3 with (h3 | h3) | h3 | h3 <;> simp [h3]
theorem tidy_flush {cur : List UInt8} (h : ∀ b ∈ cur, rowB b = true) : ∀ x ∈ flush cur, Tidy x := by
  intro x hx
  unfold flush at hx
  split at hx
  · simp at hx
  · rename_i hne
    rw [List.mem_singleton] at hx
    subst hx
    refine .inr (.inr ⟨?_, ?_, ?_⟩)
    · intro e; exact hne (List.map_eq_nil_iff.1 e)
    · intro b hb
      obtain ⟨d, hd, rfl⟩ := List.mem_map.1 hb
      exact row_low (h d hd)
    · exact lower_lower cur
theorem tidy_sep (b : UInt8) : ∀ x ∈ sep b, Tidy x := by
  intro x hx
  unfold sep at hx
  split at hx
  · rename_i h
    rw [List.mem_singleton] at hx
    subst hx
    unfold code at h
    rcases h with h | h
    · exact .inl (by rw [show b = 46 from UInt8.toNat_inj.1 (by show b.toNat = 46; omega)])
    · exact .inr (.inl (by rw [show b = 44 from UInt8.toNat_inj.1 (by show b.toNat = 44; omega)]))
  · simp at hx
theorem tidy_scan : ∀ (l cur : List UInt8), (∀ b ∈ cur, rowB b = true) → ∀ x ∈ scan l cur, Tidy x
  | [], cur, h => tidy_flush h
  | b :: t, cur, h => by
    intro x hx
    unfold scan at hx
    split at hx
    · rename_i hb
      refine tidy_scan t (cur ++ [b]) (fun c hc => ?_) x hx
      rcases List.mem_append.1 hc with hc | hc
      · exact h c hc
      · rw [List.mem_singleton] at hc; rw [hc]; exact hb
    · rcases List.mem_append.1 hx with hx | hx
      · exact tidy_flush h x hx
      · rcases List.mem_append.1 hx with hx | hx
        · exact tidy_sep b x hx
        · exact tidy_scan t [] (by simp) x hx
theorem scan_rows : ∀ (x rest cur : List UInt8), (∀ b ∈ x, rowB b = true) → scan (x ++ rest) cur = scan rest (cur ++ x)
  | [], rest, cur, _ => by simp
  | b :: t, rest, cur, h => by
    show scan (b :: (t ++ rest)) cur = _
    rw [scan, if_pos (h b List.mem_cons_self), scan_rows t rest (cur ++ [b]) fun c hc => h c (List.mem_cons_of_mem _ hc)]
    simp
theorem row32 : rowB 32 = false := by decide
theorem row46 : rowB 46 = false := by decide
theorem row44 : rowB 44 = false := by decide
theorem sep32 : sep 32 = [] := by decide
theorem sep46 : sep 46 = [[46]] := by decide
theorem sep44 : sep 44 = [[44]] := by decide
theorem scan_blank (rest cur : List UInt8) : scan (32 :: rest) cur = flush cur ++ scan rest [] := by
  rw [scan, if_neg (by rw [row32]; simp), sep32]; rfl
theorem scan_tidy {x : List UInt8} (h : Tidy x) : scan x [] = [x] := by
  rcases h with rfl | rfl | ⟨hne, hr, hl⟩
  · rw [scan, if_neg (by rw [row46]; simp), sep46]; rfl
  · rw [scan, if_neg (by rw [row44]; simp), sep44]; rfl
  · have := scan_rows x [] [] hr
    rw [List.append_nil, List.nil_append] at this
    rw [this, scan]
    unfold flush
    rw [if_neg hne, hl]
theorem scan_tidy_blank {x : List UInt8} (rest : List UInt8) (h : Tidy x) : scan (x ++ 32 :: rest) [] = x :: scan rest [] := by
  rcases h with rfl | rfl | ⟨hne, hr, hl⟩
  · show scan (46 :: 32 :: rest) [] = _
    rw [scan, if_neg (by rw [row46]; simp), sep46, scan_blank]; rfl
  · show scan (44 :: 32 :: rest) [] = _
    rw [scan, if_neg (by rw [row44]; simp), sep44, scan_blank]; rfl
  · rw [scan_rows x _ [] hr, List.nil_append, scan_blank]
    unfold flush
    rw [if_neg hne, hl]; rfl
theorem scan_glue : ∀ (l : List (List UInt8)), (∀ x ∈ l, Tidy x) → scan (glue [32] l) [] = l
  | [], _ => rfl
  | [x], h => scan_tidy (h x List.mem_cons_self)
  | x :: y :: t, h => by
    show scan (x ++ [32] ++ glue [32] (y :: t)) [] = _
    rw [List.append_assoc]
    show scan (x ++ 32 :: glue [32] (y :: t)) [] = _
    rw [scan_tidy_blank _ (h x List.mem_cons_self), scan_glue (y :: t) fun z hz => h z (List.mem_cons_of_mem _ hz)]
theorem words_glue (l : List UInt8) : words (glue [32] (words l)) = words l := scan_glue _ (tidy_scan l [] (by simp))

theorem flat_flush (cur : List UInt8) : (flush cur).flatten.length ≤ cur.length ∧ (flush cur).length ≤ cur.length := by
  unfold flush
  split
  · simp
  · rename_i hne
    have : 0 < cur.length := List.length_pos_iff.2 hne
    simp [lower]; omega
theorem flat_sep (b : UInt8) : (sep b).flatten.length ≤ 1 ∧ (sep b).length ≤ 1 := by
  unfold sep
  split <;> simp
theorem flat_scan : ∀ (l cur : List UInt8), (scan l cur).flatten.length ≤ cur.length + l.length ∧ (scan l cur).length ≤ cur.length + l.length
  | [], cur => flat_flush cur
  | b :: t, cur => by
    unfold scan
    split
    · have := flat_scan t (cur ++ [b])
      simp only [List.length_append, List.length_cons, List.length_nil] at this ⊢; omega
    · have h1 := flat_flush cur
      have h2 := flat_sep b
      have h3 := flat_scan t []
      simp only [List.flatten_append, List.length_append, List.length_cons, List.length_nil] at h1 h2 h3 ⊢; omega
theorem glue_words_len (l : List UInt8) : (glue [32] (words l)).length ≤ 2 * l.length := by
  have h1 := flat_scan l []
  have h2 := glue_len [32] (words l)
  unfold words at *
  simp only [List.length_cons, List.length_nil] at h1 h2 ⊢; omega
end Go.Proofs.Ythnkfaddjenbhaa.LetJ
