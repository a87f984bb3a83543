/- The walks of the reference through things within things. Conditions: the lists of a world can be read. -/
import Derived.Test.YtncdicagadbafaaSeq
import Derived.Test.YtncdicagadbafaaNestP
import Derived.Outline
import Derived.Deep.DeepCutAuto
import Derived.Deep.RegionHeld3
import Derived.Deep.QuietTactic
import Derived.BigQuiet
namespace Go.Proofs.Ytncdicagadbafaa.NestW
open Go Go.RowKit NestP Sq

abbrev I : Int → Value := Value.int .i64
theorem elI : El Try.prog 23 3 I 0 8 := ⟨Try.underlying23, by kernel_rfl, fun _ => rfl, fun _ => rfl⟩

theorem at_lt {l : List Int} {k : Nat} (h : k < l.length) : at' l (k : Int) = l[k] := by
  unfold at'
  rw [if_pos (by omega), Int.toNat_natCast, List.getD_eq_getElem?_getD, List.getElem?_eq_getElem h]; rfl
theorem at_ge {l : List Int} {i : Int} (h : (l.length : Int) ≤ i) : at' l i = 0 := by
  unfold at'
  rw [if_pos (by omega), List.getD_eq_getElem?_getD, List.getElem?_eq_none (by omega)]; rfl
theorem at_neg {l : List Int} {i : Int} (h : i < 0) : at' l i = 0 := if_neg (by omega)

/-- What a box of the call's own holds stays behind a call. -/
theorem kept {w w1 : World} {o : Obj} (hb : Below (w.alloc o).heap.size (w.alloc o) w1) : ∀ b x, b < w.heap.size + 1 → w1.cell? ⟨b, x, none⟩ = (w.alloc o).cell? ⟨b, x, none⟩ :=
  fun b x h => bcell hb b x (by rw [World.size_alloc]; exact h)

set_option maxRecDepth 100000 in
theorem is_r {v0 v4 v5 v6 v7 v8 v9 v10 v11 v12 : Value} {A1 A2 A3 : Option Addr} {n c1 n2 c2 n3 c3 : Nat} (x : Int) (w : World) :
    Calls Try.prog 153 #[.agg #[v0, .slice A1 n c1, .slice A2 n2 c2, .slice A3 n3 c3, v4, v5, v6, v7, v8, v9, v10, v11, v12], .int .i64 x] w fun e w' => e = .returned (.bool (isT n x)) ∧ Below w.heap.size w w' := by
  by_cases h1 : 1 ≤ x
  · by_cases h2 : x < n
    · have H := Lib.hid (show isT n x = true from isT_iff.2 ⟨h1, h2⟩)
      go_enter Try.func153, Try.ntmps153
      go_wp2_with fail
      go_ret
      exact ⟨by rw [H.out]; rfl, by go_grown⟩
    · have H := Lib.hid (show isT n x = false by unfold isT; simp; omega)
      go_enter Try.func153, Try.ntmps153
      go_wp2_with fail
      go_ret
      exact ⟨by rw [H.out]; rfl, by go_grown⟩
  · have H := Lib.hid (show isT n x = false by unfold isT; simp; omega)
    have t0 : decide (1 ≤ x) = false := by simp; omega
    go_enter Try.func153, Try.ntmps153
    go_wp2_with fail
    go_ret
    exact ⟨by rw [H.out]; rfl, by go_grown⟩

set_option maxRecDepth 100000 in
theorem at_r (A : Option Addr) (n c : Nat) (l : List Int) (i : Int) (w : World) (hr : Rd I w A n l) :
    Calls Try.prog 163 #[.slice A n c, .int .i64 i] w fun e w' => e = .returned (.int .i64 (at' l i)) ∧ w = w' := by
  by_cases h0 : i < 0
  · have H := Lib.hid (at_neg (l := l) h0)
    have t0 : decide (i < 0) = true := by simp; omega
    clear hr
    go_enter Try.func163, Try.ntmps163
    go_wp2_with fail
    go_ret
    exact ⟨by rw [H.out]; rfl, rfl⟩
  · have t0 : decide (i < 0) = false := by simp; omega
    by_cases h1 : (n : Int) ≤ i
    · have H := Lib.hid (at_ge (l := l) (by rw [← hr.1]; exact h1))
      clear hr
      go_enter Try.func163, Try.ntmps163
      go_wp2_with fail
      go_ret
      exact ⟨by rw [H.out]; rfl, rfl⟩
    · obtain ⟨k, rfl⟩ := Int.eq_ofNat_of_zero_le (show 0 ≤ i by omega)
      obtain ⟨b, o, rfl, hb, hl, hc⟩ := hr.at_ (show k < n by omega)
      have H := Lib.hid (at_lt hl)
      obtain ⟨y, hy⟩ : ∃ y, l[k] = y := ⟨_, rfl⟩
      rw [hy] at H hc
      have k0 : (0 : Int) ≤ (k : Int) := by omega
      have k1 : (k : Int) < (n : Int) := by omega
      clear hr hy hl h0 h1
      go_enter Try.func163, Try.ntmps163
      go_wp2_with fail
      go_ret
      exact ⟨by rw [H.out]; rfl, rfl⟩
end Go.Proofs.Ytncdicagadbafaa.NestW
