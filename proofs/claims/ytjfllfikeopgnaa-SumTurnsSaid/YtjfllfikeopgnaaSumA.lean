/- The examples of the chapter hold. -/
import Derived.Test.YtjfllfikeopgnaaSumO
import Derived.Test.YtjfllfikeopgnaaReg
import Derived.Laws.IdiomStrings
import Derived.Lib.BufferRead
import Derived.Lib.SlBytesConst
namespace Go.Proofs.Ytjfllfikeopgnaa.SumA
open Go Go.RowKit SumP Sq SumW SumX SumY SumZ SumO

def str (l : List UInt8) : ByteArray := ⟨l.toArray⟩
theorem conv_str {w : World} {A : Option Addr} {n : Nat} (c : Nat) {l : List UInt8} (h : Rd encB w A n l) : (convert 22 9 (.slice A n c)).run Try.prog w = .ok (.string (str l)) w := by
  rcases A with _ | a
  · have h0 : n = 0 := by
      rcases Nat.eq_zero_or_pos n with h0 | h0
      · exact h0
      · obtain ⟨b, o, e, _⟩ := h.2 h0; cases e
    subst h0
    have hl : l = [] := List.length_eq_zero_iff.1 h.1.symm
    subst hl
    exact Lib.run_convert_nil_bytes w 22 9 5 c Try.underlying22 Try.underlying5 Try.underlying9
  · rw [h.1]
    refine run_convert_bytes_back w 22 9 5 a c l Try.underlying22 Try.underlying5 Try.underlying9 fun j hj => ?_
    obtain ⟨b, o, e, _, hc⟩ := h.2 (by rw [h.1]; omega)
    injection e with e
    subst e
    have e : (⟨b, o, none⟩ : Addr).add j = ⟨b, o + j, none⟩ := by
      unfold Addr.add
      split
      · rename_i h0; rw [h0]; rfl
      · rfl
    rw [e]
    exact hc j _ (List.getElem?_eq_getElem hj)

theorem rd_blk {α : Type} {enc : α → Value} {w : World} {g : Nat} {cs : Array Value} {t : TypeId} {fr : Nat × Nat} (hg : w.heap[g]? = some (.cells cs t fr)) (l : List α) (hcs : cs.toList = l.map enc) (n : Nat) (hn : n = l.length) : Rd enc w (some ⟨g, 0, none⟩) n l := by
  subst hn
  refine ⟨rfl, fun _ => ⟨g, 0, rfl, ?_, fun i x hx => ?_⟩⟩
  · rcases Nat.lt_or_ge g w.heap.size with h | h
    · exact h
    · rw [Array.getElem?_eq_none h] at hg; cases hg
  · rw [cell_of_row w g _ cs t fr hg, Nat.zero_add]
    have := congrArg (fun t => t[i]?) hcs
    simp only [List.getElem?_map, hx, Option.map_some, Array.getElem?_toList] at this
    exact this

theorem nine : on 0 [49, 50, 51, 52, 53, 54, 55, 56, 57] = 3421780262 := by decide +kernel
theorem none' : shut [] = [0, 0, 0, 0] := by decide +kernel
theorem three : oerr [1, 2, 3] = 2 := by decide +kernel
theorem three_good : opened [1, 2, 3] = [] := by decide +kernel

set_option maxRecDepth 100000 in
set_option maxHeartbeats 1000000 in
theorem awake (w : World) : Calls Try.prog 9 #[] w fun e w' => e = .returned (.bool true) ∧ Below w.heap.size w w' := by
  have R0 := Lib.hid (rd_lit (enc := encB) w EB [1, 2, 3] #[.int .u8 1, .int .u8 2, .int .u8 3] rfl 3 rfl)
  go_enter Try.func9, Try.ntmps9
  go_wp2_with fail
  refine (open_i _ 3 3 [1, 2, 3] _ R0.out (by omega) (by omega)).mono ?_
  rintro e w1 ⟨v, rfl, hown, hb1⟩
  rw [three]
  clear hown
  go_wp2_with fail
  refine wp_region_held_drew (S := fun _ => True) (by kernel_rfl) trivial (fun hHeld => ?_)
  refine Rg.one (i := 0) (by kernel_rfl) ?_
  refine Rg.eff (i := 0) (t := 8) rfl rfl (by rfl) (by go_simp; first | exact ⟨rfl, rfl⟩ | exact rfl) (fun _ => True) (fun _ _ => trivial) trivial ?_
  simp only [List.setIfInBounds_toArray, List.set_cons_zero, List.set_cons_succ]
  have kc : (convert 22 22 (.slice (some ⟨w1.heap.size, 0, none⟩) 9 9)).run Try.prog ((w1.alloc (.cells #[.int .u8 49, .int .u8 50, .int .u8 51, .int .u8 52, .int .u8 53, .int .u8 54, .int .u8 55, .int .u8 56, .int .u8 57] EB)).drew) = .ok (.slice (some ⟨w1.heap.size, 0, none⟩) 9 9) ((w1.alloc (.cells #[.int .u8 49, .int .u8 50, .int .u8 51, .int .u8 52, .int .u8 53, .int .u8 54, .int .u8 55, .int .u8 56, .int .u8 57] EB (9, 10))).drew) := Lib.run_convert_bytes_const w1.drew 22 5 #[.int .u8 49, .int .u8 50, .int .u8 51, .int .u8 52, .int .u8 53, .int .u8 54, .int .u8 55, .int .u8 56, .int .u8 57] 9 9 Try.underlying22 Try.underlying5
  refine Rg.one (i := 1) (by kernel_rfl) ?_
  refine Rg.eff (i := 1) (t := 9) rfl rfl (by rfl) (by go_simp; first | exact ⟨rfl, rfl⟩ | exact rfl) (fun _ => True) (fun _ _ => trivial) trivial ?_
  simp only [List.setIfInBounds_toArray, List.set_cons_zero, List.set_cons_succ]
  have hR : Rd encB ((w1.alloc (.cells #[.int .u8 49, .int .u8 50, .int .u8 51, .int .u8 52, .int .u8 53, .int .u8 54, .int .u8 55, .int .u8 56, .int .u8 57] EB (9, 10))).drew) (some ⟨w1.heap.size, 0, none⟩) 9 [49, 50, 51, 52, 53, 54, 55, 56, 57] := rd_blk (enc := encB) (heap_alloc_last w1 _) [49, 50, 51, 52, 53, 54, 55, 56, 57] rfl 9 rfl
  clear kc
  refine Rg.one (i := 2) (by kernel_rfl) ?_
  refine Rg.call (i := 2) (t := 10) rfl rfl (by rfl) (by go_simp; exact ⟨rfl, rfl⟩) ?_
  refine (of_i _ 9 9 [49, 50, 51, 52, 53, 54, 55, 56, 57] _ hR (by unfold maxLen; omega)).mono ?_
  rintro e w2 ⟨rfl, hb2⟩
  rw [nine]
  refine ⟨_, rfl, fun _ => True, (fun _ _ => trivial), trivial, ?_⟩
  simp only [List.setIfInBounds_toArray, List.set_cons_zero, List.set_cons_succ]
  refine Rg.take (i := 3) (t := 11) rfl rfl (by kernel_rfl) (by kernel_rfl) (by kernel_rfl) (fun _ _ _ h => h) (by rfl) (by intro w0 hSw; first | (go_simp; done) | (go_simp; with_reducible rfl)) (by assumption) ?_
  simp only [List.setIfInBounds_toArray, List.set_cons_zero, List.set_cons_succ]
  refine Rg.take (i := 4) (t := 12) rfl rfl (by kernel_rfl) (by kernel_rfl) (by kernel_rfl) (fun _ _ _ h => h) (by rfl) (by intro w0 hSw; first | (go_simp; done) | (go_simp; with_reducible rfl)) (by assumption) ?_
  simp only [List.setIfInBounds_toArray, List.set_cons_zero, List.set_cons_succ]
  have hM : Below w.heap.size w ((w1.alloc (.cells #[.int .u8 49, .int .u8 50, .int .u8 51, .int .u8 52, .int .u8 53, .int .u8 54, .int .u8 55, .int .u8 56, .int .u8 57] EB (9, 10))).drew) := (((Below.refl _ _).alloc (Nat.le_refl _) _).trans (hb1.mono (by simp))).alloc (by have := hb1.size; simp at this; omega) _ |>.drew
  refine Rg.two (i := 5) (j := 7) (by kernel_rfl) ?_ ?_
  · refine Rg.call (i := 5) (t := 13) rfl rfl (by rfl) (by go_simp; exact ⟨rfl, rfl⟩) ?_
    refine (seal_i none 0 0 [] _ (Rd.nil _ _) (by omega)).mono ?_
    rintro e w3 ⟨v3, rfl, hown3, hb3⟩
    obtain ⟨A3, c3, rfl, _, _⟩ := hown3.shape
    have hR3 := hown3.rd
    rw [none'] at hR3 ⊢
    clear hown3
    refine ⟨_, rfl, fun w' => Rd encB w' A3 4 [0, 0, 0, 0], (fun _ _ => trivial), hR3, ?_⟩
    simp only [List.setIfInBounds_toArray, List.set_cons_zero, List.set_cons_succ]
    have hH2 : (fun w' => Rd encB w' A3 4 [0, 0, 0, 0]) w3 := hR3
    refine Rg.take (i := 6) (t := 14) rfl rfl (by kernel_rfl) (by kernel_rfl) (by kernel_rfl) (fun _ _ _ h => h) (by rfl) (by intro w0 hSw; have hc := conv_str c3 hSw; first | (go_simp; done) | (go_simp; with_reducible rfl)) (by assumption) ?_
    simp only [List.setIfInBounds_toArray, List.set_cons_zero, List.set_cons_succ]
    refine Rg.one (i := 7) (by kernel_rfl) ?_
    refine Rg.eff (i := 7) (t := 15) rfl rfl (by rfl) (by go_simp; first | exact ⟨rfl, rfl⟩ | exact rfl) (fun w' => Rd encB w' A3 4 [0, 0, 0, 0] ∧ Rd encB w' (some ⟨w3.heap.size, 0, none⟩) 4 [0, 0, 0, 0]) (fun _ h => h.1) ⟨hR3.alloc _, rd_lit (enc := encB) w3 EB [0, 0, 0, 0] #[.int .u8 0, .int .u8 0, .int .u8 0, .int .u8 0] rfl 4 rfl⟩ ?_
    simp only [List.setIfInBounds_toArray, List.set_cons_zero, List.set_cons_succ]
    have hH3 : (fun w' => Rd encB w' A3 4 [0, 0, 0, 0] ∧ Rd encB w' (some ⟨w3.heap.size, 0, none⟩) 4 [0, 0, 0, 0]) (w3.alloc (.cells #[.int .u8 0, .int .u8 0, .int .u8 0, .int .u8 0] EB)) := ⟨hR3.alloc _, rd_lit (enc := encB) w3 EB [0, 0, 0, 0] #[.int .u8 0, .int .u8 0, .int .u8 0, .int .u8 0] rfl 4 rfl⟩
    refine Rg.take (i := 8) (t := 16) rfl rfl (by kernel_rfl) (by kernel_rfl) (by kernel_rfl) (fun _ _ _ h => h) (by rfl) (by intro w0 hSw; have hc := conv_str 4 hSw.2; first | (go_simp; done) | (go_simp; with_reducible rfl)) (by assumption) ?_
    simp only [List.setIfInBounds_toArray, List.set_cons_zero, List.set_cons_succ]
    refine Rg.take (i := 9) (t := 17) rfl rfl (by kernel_rfl) (by kernel_rfl) (by kernel_rfl) (fun _ _ _ h => h) (by rfl) (by intro w0 hSw; first | (go_simp; done) | (go_simp; with_reducible rfl)) (by assumption) ?_
    simp only [List.setIfInBounds_toArray, List.set_cons_zero, List.set_cons_succ]
    refine Rg.take (i := 10) (t := 18) rfl rfl (by kernel_rfl) (by kernel_rfl) (by kernel_rfl) (fun _ _ _ h => h) (by rfl) (by intro w0 hSw; first | (go_simp; done) | (go_simp; with_reducible rfl)) (by assumption) ?_
    simp only [List.setIfInBounds_toArray, List.set_cons_zero, List.set_cons_succ]
    refine Rg.take (i := 11) (t := 19) rfl rfl (by kernel_rfl) (by kernel_rfl) (by kernel_rfl) (fun _ _ _ h => h) (by rfl) (by intro w0 hSw; first | (go_simp; done) | (go_simp; with_reducible rfl)) (by assumption) ?_
    simp only [List.setIfInBounds_toArray, List.set_cons_zero, List.set_cons_succ]
    refine Rg.take (i := 12) (t := 20) rfl rfl (by kernel_rfl) (by kernel_rfl) (by kernel_rfl) (fun _ _ _ h => h) (by rfl) (by intro w0 hSw; first | (go_simp; done) | (go_simp; with_reducible rfl)) (by assumption) ?_
    simp only [List.setIfInBounds_toArray, List.set_cons_zero, List.set_cons_succ]
    refine Rg.take (i := 13) (t := 21) rfl rfl (by kernel_rfl) (by kernel_rfl) (by kernel_rfl) (fun _ _ _ h => h) (by rfl) (by intro w0 hSw; first | (go_simp; done) | (go_simp; with_reducible rfl)) (by assumption) ?_
    simp only [List.setIfInBounds_toArray, List.set_cons_zero, List.set_cons_succ]
    refine Rg.take (i := 14) (t := 22) rfl rfl (by kernel_rfl) (by kernel_rfl) (by kernel_rfl) (fun _ _ _ h => h) (by rfl) (by intro w0 hSw; first | (go_simp; done) | (go_simp; with_reducible rfl)) (by assumption) ?_
    simp only [List.setIfInBounds_toArray, List.set_cons_zero, List.set_cons_succ]
    refine Rg.take (i := 15) (t := 0) rfl rfl (by kernel_rfl) (by kernel_rfl) (by kernel_rfl) (fun _ _ _ h => h) (by rfl) (by intro w0 hSw; first | (go_simp; done) | (go_simp; with_reducible rfl)) (by assumption) ?_
    simp only [List.setIfInBounds_toArray, List.set_cons_zero]
    refine wpAnyH_done (by kernel_rfl) ?_ _
    go_wp2_with fail
    go_ret
    exact ⟨rfl, (Sq.join (Sq.join hM hb2) hb3).alloc (Sq.join (Sq.join hM hb2) hb3).size _⟩
  · refine Rg.eff (i := 7) (t := 15) rfl rfl (by rfl) (by go_simp; first | exact ⟨rfl, rfl⟩ | exact rfl) (fun w' => Rd encB w' (some ⟨w2.heap.size, 0, none⟩) 4 [0, 0, 0, 0]) (fun _ _ => trivial) (rd_lit (enc := encB) w2 EB [0, 0, 0, 0] #[.int .u8 0, .int .u8 0, .int .u8 0, .int .u8 0] rfl 4 rfl) ?_
    simp only [List.setIfInBounds_toArray, List.set_cons_zero, List.set_cons_succ]
    have hH2 : (fun w' => Rd encB w' (some ⟨w2.heap.size, 0, none⟩) 4 [0, 0, 0, 0]) (w2.alloc (.cells #[.int .u8 0, .int .u8 0, .int .u8 0, .int .u8 0] EB)) := rd_lit (enc := encB) w2 EB [0, 0, 0, 0] #[.int .u8 0, .int .u8 0, .int .u8 0, .int .u8 0] rfl 4 rfl
    refine Rg.take (i := 8) (t := 16) rfl rfl (by kernel_rfl) (by kernel_rfl) (by kernel_rfl) (fun _ _ _ h => h) (by rfl) (by intro w0 hSw; have hc := conv_str 4 hSw; first | (go_simp; done) | (go_simp; with_reducible rfl)) (by assumption) ?_
    simp only [List.setIfInBounds_toArray, List.set_cons_zero, List.set_cons_succ]
    refine Rg.one (i := 5) (by kernel_rfl) ?_
    refine Rg.call (i := 5) (t := 13) rfl rfl (by rfl) (by go_simp; exact ⟨rfl, rfl⟩) ?_
    refine (seal_i none 0 0 [] _ (Rd.nil _ _) (by omega)).mono ?_
    rintro e w3 ⟨v3, rfl, hown3, hb3⟩
    obtain ⟨A3, c3, rfl, _, _⟩ := hown3.shape
    have hR3 := hown3.rd
    rw [none'] at hR3 ⊢
    clear hown3
    have hL3 := hH2.below hb3
    refine ⟨_, rfl, fun w' => Rd encB w' (some ⟨w2.heap.size, 0, none⟩) 4 [0, 0, 0, 0] ∧ Rd encB w' A3 4 [0, 0, 0, 0], (fun _ h => h.1), ⟨hL3, hR3⟩, ?_⟩
    simp only [List.setIfInBounds_toArray, List.set_cons_zero, List.set_cons_succ]
    have hH3 : (fun w' => Rd encB w' (some ⟨w2.heap.size, 0, none⟩) 4 [0, 0, 0, 0] ∧ Rd encB w' A3 4 [0, 0, 0, 0]) w3 := ⟨hL3, hR3⟩
    refine Rg.take (i := 6) (t := 14) rfl rfl (by kernel_rfl) (by kernel_rfl) (by kernel_rfl) (fun _ _ _ h => h) (by rfl) (by intro w0 hSw; have hc := conv_str c3 hSw.2; first | (go_simp; done) | (go_simp; with_reducible rfl)) (by assumption) ?_
    simp only [List.setIfInBounds_toArray, List.set_cons_zero, List.set_cons_succ]
    refine Rg.take (i := 9) (t := 17) rfl rfl (by kernel_rfl) (by kernel_rfl) (by kernel_rfl) (fun _ _ _ h => h) (by rfl) (by intro w0 hSw; first | (go_simp; done) | (go_simp; with_reducible rfl)) (by assumption) ?_
    simp only [List.setIfInBounds_toArray, List.set_cons_zero, List.set_cons_succ]
    refine Rg.take (i := 10) (t := 18) rfl rfl (by kernel_rfl) (by kernel_rfl) (by kernel_rfl) (fun _ _ _ h => h) (by rfl) (by intro w0 hSw; first | (go_simp; done) | (go_simp; with_reducible rfl)) (by assumption) ?_
    simp only [List.setIfInBounds_toArray, List.set_cons_zero, List.set_cons_succ]
    refine Rg.take (i := 11) (t := 19) rfl rfl (by kernel_rfl) (by kernel_rfl) (by kernel_rfl) (fun _ _ _ h => h) (by rfl) (by intro w0 hSw; first | (go_simp; done) | (go_simp; with_reducible rfl)) (by assumption) ?_
    simp only [List.setIfInBounds_toArray, List.set_cons_zero, List.set_cons_succ]
    refine Rg.take (i := 12) (t := 20) rfl rfl (by kernel_rfl) (by kernel_rfl) (by kernel_rfl) (fun _ _ _ h => h) (by rfl) (by intro w0 hSw; first | (go_simp; done) | (go_simp; with_reducible rfl)) (by assumption) ?_
    simp only [List.setIfInBounds_toArray, List.set_cons_zero, List.set_cons_succ]
    refine Rg.take (i := 13) (t := 21) rfl rfl (by kernel_rfl) (by kernel_rfl) (by kernel_rfl) (fun _ _ _ h => h) (by rfl) (by intro w0 hSw; first | (go_simp; done) | (go_simp; with_reducible rfl)) (by assumption) ?_
    simp only [List.setIfInBounds_toArray, List.set_cons_zero, List.set_cons_succ]
    refine Rg.take (i := 14) (t := 22) rfl rfl (by kernel_rfl) (by kernel_rfl) (by kernel_rfl) (fun _ _ _ h => h) (by rfl) (by intro w0 hSw; first | (go_simp; done) | (go_simp; with_reducible rfl)) (by assumption) ?_
    simp only [List.setIfInBounds_toArray, List.set_cons_zero, List.set_cons_succ]
    refine Rg.take (i := 15) (t := 0) rfl rfl (by kernel_rfl) (by kernel_rfl) (by kernel_rfl) (fun _ _ _ h => h) (by rfl) (by intro w0 hSw; first | (go_simp; done) | (go_simp; with_reducible rfl)) (by assumption) ?_
    simp only [List.setIfInBounds_toArray, List.set_cons_zero]
    refine wpAnyH_done (by kernel_rfl) ?_ _
    go_wp2_with fail
    go_ret
    exact ⟨rfl, Sq.join ((Sq.join hM hb2).alloc (Sq.join hM hb2).size _) hb3⟩
end Go.Proofs.Ytjfllfikeopgnaa.SumA
