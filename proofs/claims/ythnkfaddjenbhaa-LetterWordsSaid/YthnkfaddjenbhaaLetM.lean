/- A slice of texts that comes in, as a list; and the walks over one that is empty. -/
import Derived.Test.YthnkfaddjenbhaaLetL
import Derived.SliceStrings
namespace Go.Proofs.Ythnkfaddjenbhaa.LetM
open Go.ChangeShapes Go.WideShapes Go.ChangeAt Go.RowKit
open LetP Byt LetW LetX LetY LetZ LetQ Strs LetS LetJ LetK LetL

theorem cellsStr : Try.prog.cellsOf 9 = 1 := by kernel_rfl

theorem str_back (s : ByteArray) : s = str s.data.toList := by
  apply ByteArray.ext
  simp [str]

section
variable {H : Type} {enc : TypeId × Value → H} {w : World} {base : Nat} {spare : Nat → Bool} {held : Bool}
theorem open_strs {v : Value} {d : DataW H} {p : List MemPlace} {r : Reach} {b0 : Nat} (hv : Value.okWide Try.prog w r b0 25 v) (h : DataW.Trod enc Try.prog w base spare held 25 v d p) :
    (∃ a cap, v = .slice a 0 cap) ∨ ∃ l, Reads w v l := by
  obtain ⟨a0, len, cap, rfl⟩ := okWide_slice Try.underlying25 hv
  obtain ⟨fuel, hf⟩ := h
  rcases open_strings Try.underlying25 Try.underlying9 cellsStr hf with ⟨hcs, _⟩ | ⟨a, len', cap', ss, hcs, _, hl, hm, hz, _, hcell, _⟩
  · left
    have e : (.slice a0 len cap : Value) = .slice none 0 0 := by simpa [Value.cells] using hcs
    injection e with _ e2 _
    exact ⟨a0, cap, by rw [e2]⟩
  · have e : (.slice a0 len cap : Value) = .slice (some a) len' cap' := by simpa [Value.cells] using hcs
    injection e with e1 e2 e3
    subst e1 e2 e3
    by_cases h0 : len = 0
    · left; exact ⟨some a, cap, by rw [h0]⟩
    · right
      have hss : len ≤ ss.length := by rw [hz]; split <;> omega
      have hc0 := hcell 0 (by omega)
      obtain ⟨b, o, sp⟩ := a
      have hsp : sp = none := by
        cases sp with
        | none => rfl
        | some s => simp [World.cell?, Addr.add] at hc0; split at hc0 <;> simp at hc0
      subst hsp
      have hb : b < w.heap.size := by
        rcases Nat.lt_or_ge b w.heap.size with h | h
        · exact h
        · simp [World.cell?, Addr.add, Array.getElem?_eq_none h] at hc0
      have hlen : ((ss.take len).map fun s => s.data.toList).length = len := by simp; omega
      refine ⟨(ss.take len).map fun s => s.data.toList, .inr ⟨b, o, cap, by rw [hlen], by rw [hlen]; exact hl, hm, hb, fun i hi => ?_⟩⟩
      rw [hlen] at hi
      have h1 := hcell i (by omega)
      have h2 : (⟨b, o, none⟩ : Addr).add i = ⟨b, o + i, none⟩ := by
        by_cases hi0 : i = 0
        · subst hi0; rfl
        · simp [Addr.add, hi0]
      rw [h2] at h1
      rw [h1]
      unfold sv
      rw [List.getD_eq_getElem?_getD, List.getD_eq_getElem?_getD, List.getElem?_map, List.getElem?_take, if_pos hi, List.getElem?_eq_getElem (by omega)]
      simp only [Option.getD_some, Option.map_some]
      rw [← str_back]
end

theorem join_i0 (a : Option Addr) (cap : Nat) (s : ByteArray) (w : World) : Calls Try.prog 24 #[.slice a 0 cap, .string s] w fun r w' => r = .returned (.string (str [])) ∧ Below w.heap.size w w' := by
  go_enter Try.func24, Try.ntmps24
  go_wp2_with fail
  go_rounds 1
  go_ret
  exact ⟨rfl, by go_grown⟩
theorem join_r0 (a : Option Addr) (cap : Nat) (s : ByteArray) (w : World) : Calls Try.prog 26 #[.slice a 0 cap, .string s] w fun r w' => r = .returned (.string (str [])) ∧ w = w' := by
  go_enter Try.func26, Try.ntmps26
  go_wp2_with fail
  go_ret
  exact ⟨rfl, rfl⟩
theorem few_r0 (a : Option Addr) (cap : Nat) (w : World) : Calls Try.prog 25 #[.slice a 0 cap, .int .i64 300, .int .i64 3000] w fun r w' => r = .returned (.bool true) ∧ w = w' := by
  go_enter Try.func25, Try.ntmps25
  go_wp2_with fail
  go_rounds 1
  go_ret
  exact ⟨rfl, rfl⟩
end Go.Proofs.Ythnkfaddjenbhaa.LetM
