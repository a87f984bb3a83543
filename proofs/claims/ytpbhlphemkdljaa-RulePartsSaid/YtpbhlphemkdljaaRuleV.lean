/- The rules' slice with its room, its two parts; a list of numbers without its first. Conditions: none. -/
import Derived.Test.YtpbhlphemkdljaaRuleD
import Derived.Test.YtpbhlphemkdljaaRuleU
import Derived.Test.YtpbhlphemkdljaaSliceP
namespace Go.Proofs.Ytpbhlphemkdljaa.RuleV
open Go.ChangeShapes Go.WideShapes Go.ChangeAt Go.RowKit Go.Deep
open RuleP RuleX RuleS RuleD Ints Slic

def Room (v : Value) : Prop := ∃ a n cap, v = .slice a n cap ∧ n ≤ cap ∧ cap ≤ maxLen ∧ (a = none → cap = 0)
section
variable {H : Type} {enc : TypeId × Value → H} {w : World} {base : Nat} {spare : Nat → Bool} {held : Bool}
theorem trod_room {n : Nat} {v : Value} {y : DataW H × List MemPlace} (h : DataW.trod enc Try.prog w base spare held n 33 [v] = some y) : Room v := by
  rcases open_slice Try.underlying33 h with ⟨hcs, _⟩ | ⟨a, len, cap, m, n', D, Pl, hcs, hb, hl, hm, hmm, hx, hi⟩
  · obtain rfl : v = .slice none 0 0 := by simpa using hcs
    exact ⟨none, 0, 0, rfl, Nat.le_refl _, by simp, fun _ => rfl⟩
  · obtain rfl : v = .slice (some a) len cap := by simpa using hcs
    exact ⟨some a, len, cap, rfl, hl, hm, by simp⟩
theorem open_tables2 {r : Reach} {b0 : Nat} {v : Value} {d : DataW H} {p : List MemPlace} (hv : Value.okWide Try.prog w r b0 35 v) (h : DataW.Trod enc Try.prog w base spare held 35 v d p) :
    ∃ (v0 v1 v2 v3 v4 v5 v6 v7 v8 v9 v10 v11 v12 v13 v14 : Value) (ds : List Deed), v = .agg #[v0, v1, v2, v3, v4, v5, v6, v7, v8, v9, v10, v11, v12, v13, v14] ∧ Deeds w v10 ds ∧ Room v10 := by
  obtain ⟨cs, rfl, hsz⟩ := okWide_struct Try.underlying35 hv
  obtain ⟨fuel, hf⟩ := h
  obtain ⟨l⟩ := cs
  obtain ⟨c0, c1, c2, c3, c4, c5, c6, c7, c8, c9, c10, c11, c12, c13, c14, _, _, _, _, _, _, _, _, _, _, y10, _, _, _, _, n, rfl, _, _, _, _, _, _, _, _, _, _, _, h10, _⟩ := fields_tables (hsz.trans cellsTables) hf
  obtain ⟨ds, h1, _⟩ := trod_deeds h10
  exact ⟨c0, c1, c2, c3, c4, c5, c6, c7, c8, c9, c10, c11, c12, c13, c14, ds, rfl, h1, trod_room h10⟩
end

theorem deeds_take {w : World} {a : Option Addr} {n cap : Nat} {ds : List Deed} (h : Deeds w (.slice a n cap) ds) (k : Nat) (hk : k ≤ ds.length) : Deeds w (.slice a k cap) (ds.take k) := by
  obtain ⟨a', cap', hv, h⟩ := h
  injection hv with e1 e2 e3
  subst e1 e3
  refine ⟨a, cap, by rw [List.length_take, Nat.min_eq_left hk], ?_⟩
  rcases h with rfl | ⟨b, off, ha, hb, hd⟩
  · exact .inl (by simp)
  · refine .inr ⟨b, off, ha, hb, fun i d hi => hd i d ?_⟩
    rw [List.getElem?_take] at hi
    split at hi
    · exact hi
    · cases hi
theorem deeds_drop {w : World} {a : Option Addr} {n cap : Nat} {ds : List Deed} (h : Deeds w (.slice a n cap) ds) (hn : n ≤ cap) (k : Nat) (hk : k ≤ ds.length) : Deeds w (.slice (cutAt a cap k 6) (n - k) (cap - k)) (ds.drop k) := by
  obtain ⟨a', cap', hv, h⟩ := h
  injection hv with e1 e2 e3
  subst e1 e3
  refine ⟨_, _, by rw [List.length_drop, e2], ?_⟩
  rcases h with rfl | ⟨b, off, rfl, hb, hd⟩
  · exact .inl (by simp)
  · by_cases hc : cap = k
    · refine .inl (List.drop_eq_nil_of_le (by omega))
    · refine .inr ⟨b, off + k * 6, ?_, hb, fun i d hi => ?_⟩
      · unfold cutAt
        rw [if_neg hc]
        by_cases hz : k = 0
        · subst hz; simp [Addr.add]
        · show some (Addr.add _ _) = _
          unfold Addr.add
          rw [if_neg (by omega)]
      · rw [List.getElem?_drop] at hi
        have := hd (k + i) d hi
        rw [show off + k * 6 + i * 6 = off + (k + i) * 6 by rw [Nat.add_mul]; omega]
        exact this

/-- The first number of a list that is read, and the rest of it. -/
theorem reads_cons {w : World} {v : Value} {x : Int} {l : List Int} (h : Reads w v (x :: l)) :
    ∃ b off n cap, v = .slice (some ⟨b, off, none⟩) n cap ∧ Hid (n = l.length + 1) ∧ 1 ≤ n ∧ n ≤ cap ∧ cap ≤ maxLen ∧ w.cell? ⟨b, off, none⟩ = some (.int .i64 x) ∧ Hid (∀ w', (∀ o, w'.cell? ⟨b, o, none⟩ = w.cell? ⟨b, o, none⟩) → w.heap.size ≤ w'.heap.size → Reads w' (.slice (cutAt (some ⟨b, off, none⟩) cap 1 1) (n - 1) (cap - 1)) l) := by
  rcases h with ⟨_, h⟩ | ⟨b, off, cap, hv, h1, h2, h3, h4⟩
  · cases h
  · refine ⟨b, off, _, cap, hv, rfl, by simp, h1, h2, by simpa using h4 0 (by simp), fun w' hw hs => ?_⟩
    simp only [List.length_cons] at h1 h4 ⊢
    by_cases hc : cap = 1
    · have hl : l = [] := List.length_eq_zero_iff.1 (by omega)
      subst hl
      refine .inr ⟨b, off, 0, ?_, by simp, by simp, Nat.lt_of_lt_of_le h3 hs, by simp⟩
      simp [cutAt, hc]
    · refine .inr ⟨b, off + 1, cap - 1, ?_, by omega, by omega, Nat.lt_of_lt_of_le h3 hs, fun i hi => ?_⟩
      · simp [cutAt, hc, Addr.add]
      · rw [hw]
        have := h4 (i + 1) (by omega)
        rw [show off + 1 + i = off + (i + 1) by omega, this]
        simp
end Go.Proofs.Ytpbhlphemkdljaa.RuleV
