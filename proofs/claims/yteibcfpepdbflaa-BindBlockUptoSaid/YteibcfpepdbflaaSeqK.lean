/- Slices whose elements take k cells each: one that can be read, and one that a call owns; over every program. No walk here. -/
import Derived.Test.YteibcfpepdbflaaSeq
namespace Go.Proofs.Yteibcfpepdbflaa.Sk
open Go Go.RowKit Sq

section
variable {α : Type} {enc : α → List Value} {k : Nat}

theorem flat_len (hk : ∀ x, (enc x).length = k) : ∀ l : List α, (l.flatMap enc).length = l.length * k
  | [] => by simp
  | x :: l => by rw [List.flatMap_cons, List.length_append, hk, flat_len hk l, List.length_cons, Nat.succ_mul, Nat.add_comm]
theorem flat_at (hk : ∀ x, (enc x).length = k) : ∀ (l : List α) (i j : Nat) (x : α), l[i]? = some x → j < k → (l.flatMap enc)[i * k + j]? = (enc x)[j]?
  | [], i, j, x, h, _ => by simp at h
  | y :: l, 0, j, x, h, hj => by
    simp only [List.getElem?_cons_zero, Option.some.injEq] at h
    subst h
    rw [List.flatMap_cons, Nat.zero_mul, Nat.zero_add, List.getElem?_append_left (by rw [hk]; exact hj)]
  | y :: l, i + 1, j, x, h, hj => by
    rw [List.getElem?_cons_succ] at h
    rw [List.flatMap_cons, List.getElem?_append_right (by rw [hk, Nat.succ_mul]; omega), hk, show (i + 1) * k + j - k = i * k + j by rw [Nat.succ_mul]; omega]
    exact flat_at hk l i j x h hj

def Rd (enc : α → List Value) (w : World) (A : Option Addr) (n : Nat) (l : List α) : Prop :=
  n = l.length ∧ (0 < n → ∃ b o, A = some ⟨b, o, none⟩ ∧ b < w.heap.size ∧ ∀ j u, (l.flatMap enc)[j]? = some u → w.cell? ⟨b, o + j, none⟩ = some u)
def Rv (enc : α → List Value) (w : World) (v : Value) (l : List α) : Prop := ∃ A n c, v = .slice A n c ∧ n ≤ c ∧ c ≤ maxLen ∧ Rd enc w A n l

theorem Rd.nil (w : World) (A : Option Addr) : Rd enc w A 0 [] := ⟨rfl, fun h => absurd h (by omega)⟩
theorem Rd.drewN {w : World} {A : Option Addr} {n : Nat} {l : List α} (h : Rd enc w A n l) (q : Nat) : Rd enc (w.drewN q) A n l := h
theorem Rd.drew {w : World} {A : Option Addr} {n : Nat} {l : List α} (h : Rd enc w A n l) : Rd enc w.drew A n l := h
theorem Rd.below {w w' : World} {A : Option Addr} {n : Nat} {l : List α} (h : Rd enc w A n l) (hb : Below w.heap.size w w') : Rd enc w' A n l :=
  ⟨h.1, fun hn => by
    obtain ⟨b, o, e, hlt, hc⟩ := h.2 hn
    exact ⟨b, o, e, Nat.lt_of_lt_of_le hlt hb.size, fun i x hx => (bcell hb b _ hlt).trans (hc i x hx)⟩⟩
theorem Rd.alloc {w : World} {A : Option Addr} {n : Nat} {l : List α} (h : Rd enc w A n l) (o : Obj) : Rd enc (w.alloc o) A n l := h.below ((Below.refl _ _).alloc (Nat.le_refl _) _)
theorem Rd.at_ {w : World} {A : Option Addr} {n : Nat} {l : List α} (hk : ∀ x, (enc x).length = k) (h : Rd enc w A n l) {i : Nat} (hi : i < n) :
    ∃ b o, A = some ⟨b, o, none⟩ ∧ b < w.heap.size ∧ ∃ hl : i < l.length, ∀ j u, (enc l[i])[j]? = some u → w.cell? ⟨b, o + i * k + j, none⟩ = some u := by
  obtain ⟨b, o, e, hlt, hc⟩ := h.2 (by omega)
  have hl : i < l.length := by have := h.1; omega
  refine ⟨b, o, e, hlt, hl, fun j u hu => ?_⟩
  rw [Nat.add_assoc]
  refine hc _ u ?_
  rw [flat_at hk l i j _ (List.getElem?_eq_getElem hl) (by rw [← hk l[i]]; exact (List.getElem?_eq_some_iff.1 hu).1)]
  exact hu
theorem Rd.high {w : World} {A : Option Addr} {n : Nat} {l : List α} (h : Rd enc w A n l) (m : Nat) (hm : m ≤ n) : Rd enc w A m (l.take m) := by
  refine ⟨by rw [List.length_take, ← h.1]; omega, fun hn => ?_⟩
  obtain ⟨b, o, e, hlt, hc⟩ := h.2 (by omega)
  refine ⟨b, o, e, hlt, fun j u hu => hc j u ?_⟩
  have e1 : (l.flatMap enc) = (l.take m).flatMap enc ++ (l.drop m).flatMap enc := by rw [← List.flatMap_append, List.take_append_drop]
  rw [e1, List.getElem?_append_left (List.getElem?_eq_some_iff.1 hu).1]
  exact hu
def cutAt (A : Option Addr) (cap m k : Nat) : Option Addr := if cap = m then A else A.map (·.add (m * k))
theorem Rd.low {w : World} {A : Option Addr} {n : Nat} {l : List α} (hk : ∀ x, (enc x).length = k) (h : Rd enc w A n l) (m cap : Nat) (hm : m ≤ n) (hc : n ≤ cap) : Rd enc w (cutAt A cap m k) (n - m) (l.drop m) := by
  refine ⟨by rw [List.length_drop, ← h.1], fun hn => ?_⟩
  obtain ⟨b, o, rfl, hlt, hcell⟩ := h.2 (by omega)
  refine ⟨b, o + m * k, ?_, hlt, fun j u hu => ?_⟩
  · unfold cutAt
    rw [if_neg (by omega)]
    simp only [Option.map_some, Addr.add]
    split
    · rename_i h0; rw [h0]; rfl
    · rfl
  · rw [Nat.add_assoc]
    refine hcell _ u ?_
    have e1 : (l.flatMap enc) = (l.take m).flatMap enc ++ (l.drop m).flatMap enc := by rw [← List.flatMap_append, List.take_append_drop]
    have e2 : ((l.take m).flatMap enc).length = m * k := by rw [flat_len hk, List.length_take, ← h.1, Nat.min_eq_left hm]
    rw [e1, List.getElem?_append_right (by rw [e2]; omega), e2, show m * k + j - m * k = j by omega]
    exact hu
end

section
open Go.ChangeShapes Go.WideShapes Go.Deep
variable {H : Type} {en : TypeId × Value → H} {P : Program} {w : World} {base : Nat} {spare : Nat → Bool} {held : Bool}
theorem trod_rv {α : Type} {enc : α → List Value} {k : Nat} (hk : ∀ x, (enc x).length = k) (h0k : 0 < k) {T E : TypeId} (hT : P.underlying T = some (.slice E)) (hE : P.cellsOf E = k)
    (hopen : ∀ (n : Nat) (cs : List Value) (y : DataW H × List MemPlace), cs.length = k → DataW.trod en P w base spare held n E cs = some y → ∃ x, cs = enc x)
    {n : Nat} {v : Value} {y : DataW H × List MemPlace} (h : DataW.trod en P w base spare held n T [v] = some y) : ∃ l, Rv enc w v l := by
  rcases open_slice hT h with ⟨hcs, _⟩ | ⟨a, len, cap, m, n', D, Pl, hcs, hb, hl, hm, hmm, hx, hi⟩
  · obtain rfl : v = .slice none 0 0 := by simpa using hcs
    exact ⟨[], none, 0, 0, rfl, Nat.le_refl _, by unfold maxLen; omega, Rd.nil _ _⟩
  · obtain rfl : v = .slice (some a) len cap := by simpa using hcs
    have hlm : len ≤ m := by rw [hmm]; split <;> omega
    rw [hE] at hi
    have hc1 : ∀ i, i < len → ∃ x, ∀ j, j < k → w.cell? ((a.add (i * k)).add j) = (enc x)[j]? := by
      intro i hil
      obtain ⟨cs', hc, ht⟩ := hi i (by omega)
      obtain ⟨_, hcl, hat⟩ := World.cells?_some hc
      obtain ⟨x, rfl⟩ := hopen _ _ _ hcl ht
      exact ⟨x, hat⟩
    obtain ⟨l, hll, hlc⟩ := choose_list len hc1
    refine ⟨l, some a, len, cap, rfl, hl, hm, hll.symm, fun h0 => ?_⟩
    obtain ⟨x0, h00⟩ := hc1 0 h0
    have h00 := h00 0 h0k
    obtain ⟨b, o, sp⟩ := a
    have hadd0 : ((⟨b, o, sp⟩ : Addr).add (0 * k)).add 0 = ⟨b, o, sp⟩ := by simp [Addr.add]
    rw [hadd0, List.getElem?_eq_getElem (by rw [hk]; exact h0k)] at h00
    have hsp : sp = none := by
      cases sp with
      | none => rfl
      | some s => simp [World.cell?] at h00; split at h00 <;> simp at h00
    subst hsp
    refine ⟨b, o, rfl, ?_, fun j u hu => ?_⟩
    · rcases Nat.lt_or_ge b w.heap.size with h | h
      · exact h
      · simp [World.cell?, Array.getElem?_eq_none h] at h00
    · have hjl := (List.getElem?_eq_some_iff.1 hu).1
      rw [flat_len hk] at hjl
      have hq : j / k < l.length := Nat.div_lt_of_lt_mul (by rw [Nat.mul_comm]; exact hjl)
      have hr : j % k < k := Nat.mod_lt _ h0k
      have hj : j = j / k * k + j % k := by rw [Nat.mul_comm]; exact (Nat.div_add_mod j k).symm
      rw [hj, flat_at hk l (j / k) (j % k) _ (List.getElem?_eq_getElem hq) hr] at hu
      have h1 := hlc (j / k) _ (List.getElem?_eq_getElem hq) (j % k) hr
      rw [hu] at h1
      rw [← h1]
      congr 1
      have e : ∀ (x y : Nat), ((⟨b, o, none⟩ : Addr).add x).add y = ⟨b, o + x + y, none⟩ := by
        intro x y
        simp only [Addr.add]
        by_cases hx : x = 0 <;> by_cases hy : y = 0 <;> simp [hx, hy]
      rw [e, Nat.add_assoc, ← hj]
end
end Go.Proofs.Yteibcfpepdbflaa.Sk
