/- Flags in plain Lean: the bits of a number from 0 to 65535; a world with another flag, or prop. No program here. -/
import Derived.Lib.QuoteBits
import Derived.Test.YtncdicagadbafaaCore
namespace Go.Proofs.Ytncdicagadbafaa.AttrP
open Go Go.RowKit Go.Lib NestP NestW Sq WorldD MvA

def flB (n : Int) (f : Int) : Bool := n / 2 ^ f.toNat % 2 == 1
def up (n f : Int) : Int := if flB n f = true then n else n + 2 ^ f.toNat
def down (n f : Int) : Int := if flB n f = true then n - 2 ^ f.toNat else n
theorem or_pow (m f : Nat) : m ||| 2 ^ f = if m / 2 ^ f % 2 = 1 then m else m + 2 ^ f := by
  have hm : m = 2 ^ f * (m / 2 ^ f) + m % 2 ^ f := (Nat.div_add_mod m _).symm
  have hr : m % 2 ^ f < 2 ^ f := Nat.mod_lt _ (Nat.two_pow_pos _)
  generalize m / 2 ^ f = q at hm ⊢
  generalize m % 2 ^ f = r at hm hr
  have e1 : m = 2 ^ f * q ||| r := by rw [hm]; exact Nat.two_pow_add_eq_or_of_lt hr q
  have e2 : m ||| 2 ^ f = 2 ^ f * (q / 2 * 2 + 1) + r := by
    rw [Nat.two_pow_add_eq_or_of_lt hr, ← Lib.or_one_nat, e1, Nat.or_assoc, Nat.or_comm r, ← Nat.or_assoc]
    congr 1
    rw [Nat.mul_comm _ (q ||| 1), ← Nat.shiftLeft_eq, Nat.shiftLeft_or_distrib, Nat.shiftLeft_eq, Nat.shiftLeft_eq, Nat.one_mul, Nat.mul_comm]
  rw [e2, hm]
  split
  · rw [show q / 2 * 2 + 1 = q by omega]
  · rw [show q / 2 * 2 + 1 = q + 1 by omega, Nat.mul_add, Nat.mul_one]; omega
theorem or_i {n f : Int} (hn : 0 ≤ n ∧ n ≤ 65535) (h0 : 0 ≤ f) (h1 : f ≤ 15) : bits .or .i64 n (2 ^ f.toNat) = up n f := by
  obtain ⟨m, rfl⟩ := Int.eq_ofNat_of_zero_le hn.1
  obtain ⟨k, rfl⟩ := Int.eq_ofNat_of_zero_le h0
  have hk : 2 ^ k ≤ 2 ^ 15 := Nat.pow_le_pow_right (by omega) (by omega)
  have e : bits .or .i64 (m : Int) ((2 ^ k : Nat) : Int) = ((m ||| 2 ^ k : Nat) : Int) := by
    show IntKind.i64.wrap ((BitVec.ofInt 64 (m : Int) ||| BitVec.ofInt 64 ((2 ^ k : Nat) : Int)).toNat : Int) = _
    rw [BitVec.toNat_or, ofInt_u64 m (by omega), ofInt_u64 (2 ^ k) (by omega)]
    refine Lib.wrap_i64_small _ ?_
    rw [or_pow]; generalize 2 ^ k = p at hk; split <;> omega
  have e2 : ((2 : Int) ^ ((k : Int)).toNat) = ((2 ^ k : Nat) : Int) := by simp
  rw [e2, e, or_pow]
  unfold up flB
  rw [e2]
  have e3 : (m : Int) / ((2 ^ k : Nat) : Int) % 2 = ((m / 2 ^ k % 2 : Nat) : Int) := by simp
  rw [e3]
  by_cases h : m / 2 ^ k % 2 = 1
  · rw [if_pos h, if_pos (by rw [h]; rfl)]
  · rw [if_neg h, if_neg (by rw [beq_iff_eq]; exact fun hc => h (by exact_mod_cast hc))]; push_cast; rfl
theorem andNot_i {n f : Int} (hn : 0 ≤ n ∧ n ≤ 65535) (h0 : 0 ≤ f) (h1 : f ≤ 15) : bits .andNot .i64 n (2 ^ f.toNat) = down n f := by
  obtain ⟨m, rfl⟩ := Int.eq_ofNat_of_zero_le hn.1
  obtain ⟨k, rfl⟩ := Int.eq_ofNat_of_zero_le h0
  have hk : 2 ^ k ≤ 2 ^ 15 := Nat.pow_le_pow_right (by omega) (by omega)
  have e2 : ((2 : Int) ^ ((k : Int)).toNat) = ((2 ^ k : Nat) : Int) := by simp
  have e : bits .andNot .i64 (m : Int) ((2 ^ k : Nat) : Int) = ((m - (m &&& 2 ^ k) : Nat) : Int) := by
    show IntKind.i64.wrap ((BitVec.ofInt 64 (m : Int) &&& ~~~BitVec.ofInt 64 ((2 ^ k : Nat) : Int)).toNat : Int) = _
    have hx : (BitVec.ofInt 64 (m : Int)).toNat = m := ofInt_u64 m (by omega)
    have hy : (BitVec.ofInt 64 ((2 ^ k : Nat) : Int)).toNat = 2 ^ k := ofInt_u64 (2 ^ k) (by omega)
    generalize BitVec.ofInt 64 (m : Int) = x at hx ⊢
    generalize BitVec.ofInt 64 ((2 ^ k : Nat) : Int) = y at hy ⊢
    have hs : (x &&& ~~~y) + (x &&& y) = x := by
      rw [BitVec.add_eq_or_of_and_eq_zero]
      · rw [← BitVec.and_or_distrib_left, show ~~~y ||| y = BitVec.allOnes 64 by simp, BitVec.and_allOnes]
      · rw [BitVec.and_assoc, ← BitVec.and_assoc (~~~y), BitVec.and_comm (~~~y) x, BitVec.and_assoc]; simp
    have h1 : (x &&& ~~~y).toNat ≤ m := by rw [BitVec.toNat_and, hx]; exact Nat.and_le_left
    have h2 : (x &&& y).toNat = m &&& 2 ^ k := by rw [BitVec.toNat_and, hx, hy]
    have h3 : (m &&& 2 ^ k) ≤ m := Nat.and_le_left
    have h4 : ((x &&& ~~~y).toNat + (x &&& y).toNat) % 2 ^ 64 = m := by rw [← BitVec.toNat_add, hs, hx]
    rw [h2, Nat.mod_eq_of_lt (by omega)] at h4
    rw [show (x &&& ~~~y).toNat = m - (m &&& 2 ^ k) by omega]
    exact Lib.wrap_i64_small _ (by omega)
  have ha : m &&& 2 ^ k = (decide (m / 2 ^ k % 2 = 1)).toNat * 2 ^ k := by
    rw [← Nat.testBit_eq_decide_div_mod_eq]
    apply Nat.eq_of_testBit_eq
    intro i
    rw [Nat.testBit_and, Nat.testBit_two_pow]
    by_cases hi : k = i
    · subst hi; cases hh : m.testBit k <;> simp
    · cases hh : m.testBit k <;> simp [hi]
  rw [e2, e, ha]
  unfold down flB
  rw [e2]
  have e3 : (m : Int) / ((2 ^ k : Nat) : Int) % 2 = ((m / 2 ^ k % 2 : Nat) : Int) := by simp
  rw [e3]
  by_cases h : m / 2 ^ k % 2 = 1
  · have hle : 2 ^ k ≤ m := by
      rcases Nat.lt_or_ge m (2 ^ k) with hlt | hge
      · rw [Nat.div_eq_of_lt hlt] at h; omega
      · exact hge
    rw [if_pos (by rw [h]; rfl), decide_eq_true h]
    show (((m - 1 * 2 ^ k : Nat)) : Int) = _
    rw [Nat.one_mul]; omega
  · rw [if_neg (by rw [beq_iff_eq]; exact fun hc => h (by exact_mod_cast hc)), decide_eq_false h]
    show (((m - 0 * 2 ^ k : Nat)) : Int) = _
    simp
theorem and1 {n : Int} (f : Int) (hn : 0 ≤ n ∧ n ≤ 65535) : (bits .and .i64 (n / 2 ^ f.toNat) 1 == 1) = flB n f := by
  obtain ⟨m, rfl⟩ := Int.eq_ofNat_of_zero_le hn.1
  have e : ((m : Int) / 2 ^ f.toNat) = ((m / 2 ^ f.toNat : Nat) : Int) := by simp
  unfold flB
  rw [e]
  have hk : m / 2 ^ f.toNat ≤ 65535 := Nat.le_trans (Nat.div_le_self _ _) (by omega)
  generalize m / 2 ^ f.toNat = k at hk ⊢
  have h2 : bits .and .i64 (k : Int) 1 = ((k % 2 : Nat) : Int) := by
    show IntKind.i64.wrap ((BitVec.ofInt 64 (k : Int) &&& BitVec.ofInt 64 ((1 : Nat) : Int)).toNat : Int) = _
    rw [BitVec.toNat_and, ofInt_u64 k (by omega), ofInt_u64 1 (by omega), Nat.and_one_is_mod]
    exact Lib.wrap_i64_small _ (by omega)
  rw [h2]
  simp
theorem cases16 {f : Int} (h0 : 0 ≤ f) (h1 : f ≤ 15) : f = 0 ∨ f = 1 ∨ f = 2 ∨ f = 3 ∨ f = 4 ∨ f = 5 ∨ f = 6 ∨ f = 7 ∨ f = 8 ∨ f = 9 ∨ f = 10 ∨ f = 11 ∨ f = 12 ∨ f = 13 ∨ f = 14 ∨ f = 15 := by omega
theorem two_f {f : Int} (h0 : 0 ≤ f) (h1 : f ≤ 15) : (1 : Int) ≤ 2 ^ f.toNat ∧ (2 : Int) ^ f.toNat ≤ 32768 := by
  rcases cases16 h0 h1 with rfl | rfl | rfl | rfl | rfl | rfl | rfl | rfl | rfl | rfl | rfl | rfl | rfl | rfl | rfl | rfl <;> decide
theorem up_bd {n f : Int} (hn : 0 ≤ n ∧ n ≤ 65535) (h0 : 0 ≤ f) (h1 : f ≤ 15) : 0 ≤ up n f ∧ up n f ≤ 65535 := by
  unfold up flB
  rcases cases16 h0 h1 with rfl | rfl | rfl | rfl | rfl | rfl | rfl | rfl | rfl | rfl | rfl | rfl | rfl | rfl | rfl | rfl <;> (simp; split <;> omega)
theorem down_bd {n f : Int} (hn : 0 ≤ n ∧ n ≤ 65535) (h0 : 0 ≤ f) (h1 : f ≤ 15) : 0 ≤ down n f ∧ down n f ≤ 65535 := by
  unfold down flB
  rcases cases16 h0 h1 with rfl | rfl | rfl | rfl | rfl | rfl | rfl | rfl | rfl | rfl | rfl | rfl | rfl | rfl | rfl | rfl <;> (simp; split <;> omega)
set_option maxHeartbeats 2000000 in
theorem fl_up {n f k : Int} (hn : 0 ≤ n ∧ n ≤ 65535) (h0 : 0 ≤ f) (h1 : f ≤ 15) (k0 : 0 ≤ k) (k1 : k ≤ 15) : flB (up n f) k = (decide (f = k) || flB n k) := by
  unfold up flB
  rcases cases16 h0 h1 with rfl | rfl | rfl | rfl | rfl | rfl | rfl | rfl | rfl | rfl | rfl | rfl | rfl | rfl | rfl | rfl <;>
  rcases cases16 k0 k1 with rfl | rfl | rfl | rfl | rfl | rfl | rfl | rfl | rfl | rfl | rfl | rfl | rfl | rfl | rfl | rfl <;>
  (rw [Bool.eq_iff_iff]; simp; (try split) <;> omega)
set_option maxHeartbeats 2000000 in
theorem fl_down {n f k : Int} (hn : 0 ≤ n ∧ n ≤ 65535) (h0 : 0 ≤ f) (h1 : f ≤ 15) (k0 : 0 ≤ k) (k1 : k ≤ 15) : flB (down n f) k = (!decide (f = k) && flB n k) := by
  unfold down flB
  rcases cases16 h0 h1 with rfl | rfl | rfl | rfl | rfl | rfl | rfl | rfl | rfl | rfl | rfl | rfl | rfl | rfl | rfl | rfl <;>
  rcases cases16 k0 k1 with rfl | rfl | rfl | rfl | rfl | rfl | rfl | rfl | rfl | rfl | rfl | rfl | rfl | rfl | rfl | rfl <;>
  (rw [Bool.eq_iff_iff]; simp; (try split) <;> omega)

/-- The error of a thing, and a flag. -/
def askN (n : Nat) (x f : Int) : Int := if isT n x = true then (if f < 0 ∨ 15 < f then 5 else 0) else 11
def hasB (g : Wd) (x f : Int) : Bool := decide (askN g.n x f = 0) && flB (at' g.fl x) f
def setF (g : Wd) (x v : Int) : Wd := { g with fl := g.fl.set x.toNat v }
def setP (g : Wd) (k : Nat) (v : Int) : Wd := { g with pr := g.pr.set k v }
def onG (g : Wd) (x f : Int) : Wd := if askN g.n x f = 0 then setF g x (up (at' g.fl x) f) else g
def offG (g : Wd) (x f : Int) : Wd := if askN g.n x f = 0 then setF g x (down (at' g.fl x) f) else g
/-- The flags are numbers from 0 to 65535, one for each thing. -/
def Fl (g : Wd) : Prop := g.fl.length = g.n ∧ ∀ e ∈ g.fl, 0 ≤ e ∧ e ≤ 65535
theorem ask_ok {n : Nat} {x f : Int} : askN n x f = 0 ↔ isT n x = true ∧ 0 ≤ f ∧ f ≤ 15 := by
  unfold askN
  constructor
  · intro h
    split at h
    · rename_i hx
      split at h
      · cases h
      · exact ⟨hx, by omega, by omega⟩
    · cases h
  · rintro ⟨hx, h0, h1⟩
    rw [if_pos hx, if_neg (by omega)]
theorem Fl.at_ {g : Wd} (h : Fl g) (x : Int) : 0 ≤ at' g.fl x ∧ at' g.fl x ≤ 65535 := by
  rcases at_mem (l := g.fl) (x := x) with h1 | h1
  · rw [h1]; omega
  · exact h.2 _ h1
theorem setF_n (g : Wd) (x v : Int) : (setF g x v).n = g.n := rfl
theorem Fl.set {g : Wd} (h : Fl g) (x : Int) {v : Int} (hv : 0 ≤ v ∧ v ≤ 65535) : Fl (setF g x v) := by
  refine ⟨by show (g.fl.set x.toNat v).length = g.n; rw [List.length_set]; exact h.1, fun e he => ?_⟩
  rcases List.mem_or_eq_of_mem_set he with h1 | h1
  · exact h.2 _ h1
  · rw [h1]; exact hv
theorem set_same (l : List Int) (x : Int) (hx : 0 ≤ x) : l.set x.toNat (at' l x) = l := by
  unfold at'
  rcases Nat.lt_or_ge x.toNat l.length with h | h
  · apply List.ext_getElem?
    intro i
    rw [List.getElem?_set]
    split
    · rename_i hi
      subst hi
      simp [h]
    · rfl
  · exact List.set_eq_of_length_le h
end Go.Proofs.Ytncdicagadbafaa.AttrP
