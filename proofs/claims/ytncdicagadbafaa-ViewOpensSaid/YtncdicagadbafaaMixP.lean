/- The plain mathematics of the generator: the next state, the numbers told, and that next states of unlike states are unlike. No program in sight. -/
import Derived.WalkKit
import Derived.ProofKit
import Derived.OpenShut
import Derived.Handy
import Derived.Laws.Bits64
namespace Go.Proofs.Ytncdicagadbafaa.MixP
open Go Go.RowKit

/-- The state that counts for s. -/
def one (s : Int) : Int := if s = 0 then 1 else s
def x1 (s : Int) : Int := bits BinOp.xor IntKind.u64 s (s / 4096)
def x2 (s : Int) : Int := bits BinOp.xor IntKind.u64 s (IntKind.u64.wrap (s * 33554432))
def x3 (s : Int) : Int := bits BinOp.xor IntKind.u64 s (s / 134217728)
def nx (s : Int) : Int := x3 (x2 (x1 (one s)))
def fr (n : Int) : Int := one (IntKind.u64.wrap (IntKind.u64.wrap (IntKind.u64.wrap n * 2654435769) + 1))
def va (s : Int) : Int := IntKind.u64.wrap (nx s * 2685821657736338717) / 4294967296
def be (s n : Int) : Int := if n < 1 then 0 else va s % n
def bs (s n : Int) : Int := if n < 1 then s else nx s
def steps : Nat → Int → Int
  | 0, s => s
  | k + 1, s => nx (steps k s)
/-- How many steps a number asks for. -/
def count (k : Int) : Nat := if k ≤ 0 then 0 else if 65536 ≤ k then 65536 else k.toNat
def sk (s k : Int) : Int := steps (count k) s

theorem swap4 (a b c d : Nat) (h : a ^^^ b = c ^^^ d) : a ^^^ c = b ^^^ d := by
  apply Nat.eq_of_testBit_eq
  intro i
  have := congrArg (fun t => t.testBit i) h
  simp only [Nat.testBit_xor] at this ⊢
  revert this
  cases a.testBit i <;> cases b.testBit i <;> cases c.testBit i <;> cases d.testBit i <;> decide
theorem eq_of_xor_zero (a b : Nat) (h : a ^^^ b = 0) : a = b := by
  have h' : a ^^^ b = 0 ^^^ 0 := by simpa using h
  have := swap4 a b 0 0 h'
  simpa using this
theorem apart_of (S : Nat → Nat) (hS : ∀ a b, S (a ^^^ b) = S a ^^^ S b) (h0 : ∀ d, d < 18446744073709551616 → d = S d → d = 0) (x y : Nat) (hx : x < 18446744073709551616) (hy : y < 18446744073709551616) (h : x ^^^ S x = y ^^^ S y) : x = y := by
  have h1 := swap4 _ _ _ _ h
  rw [← hS] at h1
  exact eq_of_xor_zero _ _ (h0 _ (Nat.xor_lt_two_pow (n := 64) (by omega) (by omega)) h1)
theorem d1 (x y : Nat) (hx : x < 18446744073709551616) (hy : y < 18446744073709551616) (h : x ^^^ x / 4096 = y ^^^ y / 4096) : x = y := by
  refine apart_of (fun z => z / 4096) (fun a b => ?_) (fun d _ h => by omega) x y hx hy h
  have := @Nat.shiftRight_xor_distrib 12 a b
  simpa only [Nat.shiftRight_eq_div_pow] using this
theorem d3 (x y : Nat) (hx : x < 18446744073709551616) (hy : y < 18446744073709551616) (h : x ^^^ x / 134217728 = y ^^^ y / 134217728) : x = y := by
  refine apart_of (fun z => z / 134217728) (fun a b => ?_) (fun d _ h => by omega) x y hx hy h
  have := @Nat.shiftRight_xor_distrib 27 a b
  simpa only [Nat.shiftRight_eq_div_pow] using this
theorem z2 (d : Nat) (hd : d < 18446744073709551616) (h : d = d * 33554432 % 18446744073709551616) : d = 0 := by
  have h1 : d * 33554432 % 18446744073709551616 = (d % 549755813888) * 33554432 := by
    rw [show (18446744073709551616 : Nat) = 549755813888 * 33554432 from rfl, Nat.mul_mod_mul_right]
  rw [h1] at h
  omega
theorem l2 (a b : Nat) : (a ^^^ b) * 33554432 % 18446744073709551616 = (a * 33554432 % 18446744073709551616) ^^^ (b * 33554432 % 18446744073709551616) := by
  have := @Nat.shiftLeft_xor_distrib 25 a b
  have h2 := @Nat.xor_mod_two_pow (a <<< 25) (b <<< 25) 64
  rw [← this] at h2
  simp only [Nat.shiftLeft_eq] at h2
  have e1 : (2:Nat)^25 = 33554432 := by decide
  have e2 : (2:Nat)^64 = 18446744073709551616 := by decide
  rw [e1, e2] at h2
  exact h2
theorem d2 (x y : Nat) (hx : x < 18446744073709551616) (hy : y < 18446744073709551616) (h : x ^^^ (x * 33554432 % 18446744073709551616) = y ^^^ (y * 33554432 % 18446744073709551616)) : x = y :=
  apart_of (fun z => z * 33554432 % 18446744073709551616) l2 z2 x y hx hy h

def U (s : Int) : Prop := 0 ≤ s ∧ s < 18446744073709551616
theorem u_wrap (n : Int) : U (IntKind.u64.wrap n) := by
  rw [IntKind.wrap_u64]; unfold U; omega
theorem u_one {s : Int} (h : U s) : U (one s) := by
  unfold one U at *; split <;> omega
theorem u_nat {s : Int} (h : U s) : ∃ k : Nat, s = k ∧ k < 18446744073709551616 := by
  obtain ⟨k, rfl⟩ := Int.eq_ofNat_of_zero_le h.1
  exact ⟨k, rfl, by have := h.2; omega⟩
theorem lt_xor {a b : Nat} (ha : a < 18446744073709551616) (hb : b < 18446744073709551616) : a ^^^ b < 18446744073709551616 :=
  Nat.xor_lt_two_pow (n := 64) ha hb
theorem u_cast {k : Nat} (h : k < 18446744073709551616) : U (k : Int) := by unfold U; omega
theorem x1_nat (k : Nat) (h : k < 18446744073709551616) : x1 k = ((k ^^^ k / 4096 : Nat) : Int) := by
  unfold x1
  rw [show (k : Int) / 4096 = ((k / 4096 : Nat) : Int) by omega]
  exact bits_xor_u64_nat _ _ h (by omega)
theorem x3_nat (k : Nat) (h : k < 18446744073709551616) : x3 k = ((k ^^^ k / 134217728 : Nat) : Int) := by
  unfold x3
  rw [show (k : Int) / 134217728 = ((k / 134217728 : Nat) : Int) by omega]
  exact bits_xor_u64_nat _ _ h (by omega)
theorem x2_nat (k : Nat) (h : k < 18446744073709551616) : x2 k = ((k ^^^ (k * 33554432 % 18446744073709551616) : Nat) : Int) := by
  unfold x2
  rw [IntKind.wrap_u64, show ((k : Int) * 33554432 % 18446744073709551616) = ((k * 33554432 % 18446744073709551616 : Nat) : Int) by omega]
  exact bits_xor_u64_nat _ _ h (Nat.mod_lt _ (by decide))
theorem u_x1 {s : Int} (h : U s) : U (x1 s) := by
  obtain ⟨k, rfl, hk⟩ := u_nat h
  rw [x1_nat k hk]; exact u_cast (lt_xor hk (by omega))
theorem u_x2 {s : Int} (h : U s) : U (x2 s) := by
  obtain ⟨k, rfl, hk⟩ := u_nat h
  rw [x2_nat k hk]; exact u_cast (lt_xor hk (Nat.mod_lt _ (by decide)))
theorem u_x3 {s : Int} (h : U s) : U (x3 s) := by
  obtain ⟨k, rfl, hk⟩ := u_nat h
  rw [x3_nat k hk]; exact u_cast (lt_xor hk (by omega))
theorem u_nx {s : Int} (h : U s) : U (nx s) := u_x3 (u_x2 (u_x1 (u_one h)))
theorem x1_inj {a b : Int} (ha : U a) (hb : U b) (h : x1 a = x1 b) : a = b := by
  obtain ⟨j, rfl, hj⟩ := u_nat ha
  obtain ⟨k, rfl, hk⟩ := u_nat hb
  rw [x1_nat j hj, x1_nat k hk] at h
  rw [d1 j k hj hk (Int.ofNat.inj h)]
theorem x2_inj {a b : Int} (ha : U a) (hb : U b) (h : x2 a = x2 b) : a = b := by
  obtain ⟨j, rfl, hj⟩ := u_nat ha
  obtain ⟨k, rfl, hk⟩ := u_nat hb
  rw [x2_nat j hj, x2_nat k hk] at h
  rw [d2 j k hj hk (Int.ofNat.inj h)]
theorem x3_inj {a b : Int} (ha : U a) (hb : U b) (h : x3 a = x3 b) : a = b := by
  obtain ⟨j, rfl, hj⟩ := u_nat ha
  obtain ⟨k, rfl, hk⟩ := u_nat hb
  rw [x3_nat j hj, x3_nat k hk] at h
  rw [d3 j k hj hk (Int.ofNat.inj h)]
theorem mess_inj {a b : Int} (ha : U a) (hb : U b) (h : x3 (x2 (x1 a)) = x3 (x2 (x1 b))) : a = b :=
  x1_inj ha hb (x2_inj (u_x1 ha) (u_x1 hb) (x3_inj (u_x2 (u_x1 ha)) (u_x2 (u_x1 hb)) h))
theorem u_zero : U 0 := by unfold U; omega
theorem mess_zero : x3 (x2 (x1 0)) = 0 := by
  have h1 : x1 0 = 0 := x1_nat 0 (by omega)
  have h2 : x2 0 = 0 := x2_nat 0 (by omega)
  have h3 : x3 0 = 0 := x3_nat 0 (by omega)
  rw [h1, h2, h3]
theorem one_ne (s : Int) : one s ≠ 0 := by unfold one; split <;> omega
theorem nx_ne {s : Int} (h : U s) : nx s ≠ 0 := fun h0 =>
  one_ne s (mess_inj (u_one h) u_zero (by rw [mess_zero]; exact h0))
theorem nx_inj {a b : Int} (ha : U a) (hb : U b) (ha0 : a ≠ 0) (hb0 : b ≠ 0) (h : nx a = nx b) : a = b := by
  have h1 := mess_inj (u_one ha) (u_one hb) h
  rwa [show one a = a from if_neg ha0, show one b = b from if_neg hb0] at h1
theorem u_fr (n : Int) : U (fr n) := u_one (u_wrap _)
theorem u_steps {s : Int} (h : U s) : ∀ k, U (steps k s)
  | 0 => h
  | k + 1 => u_nx (u_steps h k)
theorem va_range (s : Int) : 0 ≤ va s ∧ va s < 4294967296 := by
  have := u_wrap (nx s * 2685821657736338717)
  unfold va U at *; omega
theorem steps_add (j k : Nat) (s : Int) : steps k (steps j s) = steps (j + k) s := by
  induction k with
  | zero => rfl
  | succ k ih => show nx (steps k (steps j s)) = nx (steps (j + k) s); rw [ih]
theorem sk_add (s x y : Int) (hx : 0 ≤ x) (hy : 0 ≤ y) (h : x + y ≤ 65536) : sk (sk s x) y = sk s (x + y) := by
  unfold sk
  rw [steps_add]
  congr 1
  unfold count
  split <;> split <;> split <;> (try split) <;> (try split) <;> (try split) <;> omega
theorem sk_one (s : Int) : sk s 1 = nx s := rfl
theorem sk_neg (s k : Int) (h : k ≤ 0) : sk s k = s := by unfold sk count; rw [if_pos h]; rfl
end Go.Proofs.Ytncdicagadbafaa.MixP
