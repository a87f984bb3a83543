/- The plain mathematics of values: numbers of sixteen bits, and what an operator comes to. No program in sight. -/
import Derived.WalkKit
namespace Go.Proofs.Ytncdicagadbafaa.ValP

/-- The value that a number is. -/
def wr (a : Int) : Int := (a + 32768) % 65536 - 32768
theorem wr_lo (a : Int) : -32768 ≤ wr a := by unfold wr; omega
theorem wr_hi (a : Int) : wr a ≤ 32767 := by unfold wr; omega
theorem wr_in {a : Int} (h : -32768 ≤ a) (h' : a ≤ 32767) : wr a = a := by unfold wr; omega
theorem wr_wr (a : Int) : wr (wr a) = wr a := wr_in (wr_lo a) (wr_hi a)

theorem wr_tmod (a : Int) : wr a = if a.tmod 65536 < -32768 then a.tmod 65536 + 65536 else if a.tmod 65536 > 32767 then a.tmod 65536 - 65536 else a.tmod 65536 := by
  unfold wr
  have h : a.tmod 65536 = if 0 ≤ a then a % 65536 else -((-a) % 65536) := by
    split
    · rename_i h; exact Int.tmod_eq_emod_of_nonneg h
    · rename_i h
      have : a = -(-a) := by omega
      conv => lhs; rw [this]
      rw [Int.neg_tmod, Int.tmod_eq_emod_of_nonneg (by omega)]
  rw [h]
  split <;> split <;> (try split) <;> omega

def tr (b : Bool) : Int := if b then 1 else 0
def dv (x y : Int) : Int := wr (x.tdiv y)
def md (x y : Int) : Int := wr (x.tmod y)
theorem tdiv_small {x y : Int} (hx : -32768 ≤ x) (hx' : x ≤ 32767) : -32768 ≤ x.tdiv y ∧ x.tdiv y ≤ 32768 := by
  have h := Int.natAbs_tdiv_le_natAbs x y
  omega
theorem tmod_small {x y : Int} (hx : -32768 ≤ x) (hx' : x ≤ 32767) : -32768 ≤ x.tmod y ∧ x.tmod y ≤ 32767 := by
  rcases Int.lt_or_le x 0 with h | h
  · have e : x = -(-x) := by omega
    have h1 : x.tmod y = -((-x).tmod y) := by conv => lhs; rw [e]; rw [Int.neg_tmod]
    have h2 := Int.tmod_nonneg y (show 0 ≤ -x by omega)
    have h3 : (-x).tmod y ≤ -x := by
      rw [Int.tmod_def]
      have h4 : 0 ≤ y * (-x).tdiv y := by
        rcases Int.lt_or_le y 0 with hy | hy
        · have : (-x).tdiv y ≤ 0 := by
            have e2 : y = -(-y) := by omega
            rw [e2, Int.tdiv_neg]
            have := Int.tdiv_nonneg (show 0 ≤ -x by omega) (show 0 ≤ -y by omega)
            omega
          exact Int.mul_nonneg_of_nonpos_of_nonpos (by omega) this
        · exact Int.mul_nonneg hy (Int.tdiv_nonneg (by omega) hy)
      omega
    omega
  · have h2 := Int.tmod_nonneg y h
    have h3 : x.tmod y ≤ x := by
      rw [Int.tmod_def]
      have h4 : 0 ≤ y * x.tdiv y := by
        rcases Int.lt_or_le y 0 with hy | hy
        · have : x.tdiv y ≤ 0 := by
            have e2 : y = -(-y) := by omega
            rw [e2, Int.tdiv_neg]
            have := Int.tdiv_nonneg h (show 0 ≤ -y by omega)
            omega
          exact Int.mul_nonneg_of_nonpos_of_nonpos (by omega) this
        · exact Int.mul_nonneg hy (Int.tdiv_nonneg h hy)
      omega
    omega

/-- What an operator comes to of two values (up: what the first one is in; is: is it a thing?): the value, and the error's number. -/
def opV (up : Int) (isx : Bool) (op x y : Int) : Int :=
  if op = 1 then tr (x != 0 || y != 0) else if op = 2 then tr (x != 0 && y != 0) else if op = 3 then tr (x == y) else if op = 4 then tr (x != y) else
  if op = 5 then tr (decide (x < y)) else if op = 6 then tr (decide (x ≤ y)) else if op = 7 then tr (decide (y < x)) else if op = 8 then tr (decide (y ≤ x)) else
  if op = 9 then (if isx = true then tr (up == y) else 0) else if op = 10 then wr (x + y) else if op = 11 then wr (x - y) else if op = 12 then wr (x * y) else
  if op = 13 then (if y = 0 then 0 else dv x y) else if op = 14 then (if y = 0 then 0 else md x y) else 0
def opE (isx : Bool) (op y : Int) : Int :=
  if op = 9 then (if isx = true then 0 else 11) else if op = 13 then (if y = 0 then 1 else 0) else if op = 14 then (if y = 0 then 1 else 0) else
  if op = 1 ∨ op = 2 ∨ op = 3 ∨ op = 4 ∨ op = 5 ∨ op = 6 ∨ op = 7 ∨ op = 8 ∨ op = 10 ∨ op = 11 ∨ op = 12 then 0 else 16
end Go.Proofs.Ytncdicagadbafaa.ValP
