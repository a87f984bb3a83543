/- The plain mathematics of letters: bytes by sort, texts in small letters. No program in sight. -/
import Derived.WalkKit
namespace Go.Proofs.Ythnkfaddjenbhaa.LetP
open Go

def small (n : Int) : Bool := decide (97 ≤ n) && decide (n ≤ 122)
def great (n : Int) : Bool := decide (65 ≤ n) && decide (n ≤ 90)
def digit (n : Int) : Bool := decide (48 ≤ n) && decide (n ≤ 57)
def code (b : UInt8) : Int := (b.toNat : Int)
def low (b : UInt8) : UInt8 := if great (code b) then b + 32 else b
def cap (b : UInt8) : UInt8 := if small (code b) then b - 32 else b
theorem code_lo (b : UInt8) : 0 ≤ code b := by unfold code; omega
theorem code_hi (b : UInt8) : code b ≤ 255 := by have := b.toNat_lt; unfold code; omega
theorem code_low_yes {b : UInt8} (h : great (code b) = true) : code (low b) = code b + 32 := by
  unfold low
  rw [if_pos h]
  unfold great code at *
  simp only [Bool.and_eq_true, decide_eq_true_eq] at h
  rw [UInt8.toNat_add]
  have : (32 : UInt8).toNat = 32 := rfl
  omega
theorem code_low_no {b : UInt8} (h : great (code b) = false) : low b = b := by
  unfold low
  rw [if_neg (by rw [h]; decide)]
theorem code_cap_yes {b : UInt8} (h : small (code b) = true) : code (cap b) = code b - 32 := by
  unfold cap
  rw [if_pos h]
  unfold small code at *
  simp only [Bool.and_eq_true, decide_eq_true_eq] at h
  have := b.toNat_lt
  rw [UInt8.toNat_sub]
  have : (32 : UInt8).toNat = 32 := rfl
  omega
theorem code_cap_no {b : UInt8} (h : small (code b) = false) : cap b = b := by
  unfold cap
  rw [if_neg (by rw [h]; decide)]
/-- The first n bytes turned. -/
def turn (f : UInt8 → UInt8) (n : Nat) (l : List UInt8) : List UInt8 := (l.take n).map f ++ l.drop n
theorem turn_length (f : UInt8 → UInt8) (n : Nat) (l : List UInt8) : (turn f n l).length = l.length := by
  simp [turn]; omega
theorem turn_zero (f : UInt8 → UInt8) (l : List UInt8) : turn f 0 l = l := by simp [turn]
theorem turn_get (f : UInt8 → UInt8) (k : Nat) (l : List UInt8) (h : k < l.length) : (turn f k l)[k]'(by rw [turn_length]; exact h) = l[k] := by
  unfold turn
  rw [List.getElem_append_right (by simp; omega)]
  simp [Nat.min_eq_left (Nat.le_of_lt h)]
theorem turn_step (f : UInt8 → UInt8) (k : Nat) (l : List UInt8) (h : k < l.length) : (turn f k l).set k (f l[k]) = turn f (k + 1) l := by
  unfold turn
  have hl : ((l.take k).map f).length = k := by simp; omega
  have e1 : (l.take (k + 1)).map f = (l.take k).map f ++ [f l[k]] := by rw [List.take_succ_eq_append_getElem h, List.map_append]; rfl
  have e2 : l.drop k = l[k] :: l.drop (k + 1) := List.drop_eq_getElem_cons h
  rw [List.set_append_right _ _ (by omega), hl, Nat.sub_self, e1, e2, List.set_cons_zero]
  simp
def lower (l : List UInt8) : List UInt8 := l.map low
def capital (l : List UInt8) : List UInt8 := turn cap 1 l
theorem turn_all (f : UInt8 → UInt8) (l : List UInt8) : turn f l.length l = l.map f := by simp [turn]
theorem low_low (b : UInt8) : low (low b) = low b := by
  cases h : great (code b) with
  | false => rw [code_low_no h, code_low_no h]
  | true =>
    refine code_low_no ?_
    rw [code_low_yes h]
    unfold great at *
    simp only [Bool.and_eq_true, decide_eq_true_eq] at h
    simp; omega
theorem low_cap (b : UInt8) : low (cap b) = low b := by
  cases h : small (code b) with
  | false => rw [code_cap_no h]
  | true =>
    have hg : great (code b) = false := by
      unfold small great at *
      simp only [Bool.and_eq_true, decide_eq_true_eq] at h
      simp; omega
    have hc : great (code (cap b)) = true := by
      rw [code_cap_yes h]
      unfold small great at *
      simp only [Bool.and_eq_true, decide_eq_true_eq] at h ⊢
      omega
    rw [code_low_no hg]
    have h1 := code_low_yes hc
    rw [code_cap_yes h] at h1
    unfold code at h1
    exact UInt8.toNat_inj.1 (by omega)
theorem lower_lower (l : List UInt8) : lower (lower l) = lower l := by simp [lower, low_low]
theorem lower_capital (l : List UInt8) : lower (capital l) = lower l := by
  unfold lower capital turn
  rw [List.map_append, List.map_map]
  have : (fun b => low (cap b)) = low := funext low_cap
  rw [show low ∘ cap = low from this, ← List.map_append, List.take_append_drop]
end Go.Proofs.Ythnkfaddjenbhaa.LetP
