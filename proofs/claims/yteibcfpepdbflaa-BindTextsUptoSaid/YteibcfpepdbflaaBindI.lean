/- clewref17.with: texts, with one that is not there yet behind. Conditions: lengths within the reach. -/
import Derived.Test.YteibcfpepdbflaaBindS
namespace Go.Proofs.Yteibcfpepdbflaa.BindI
open Go Go.RowKit BindP BindD BindO BindW BindS
open Byt (str)

set_option maxRecDepth 100000 in
theorem with_r (s : S) (l : List S) (v : Value) (w : World) (B : Nat) (ho : Sq.Own sv 9 w B v l) (hB : B ≤ w.heap.size) (hn : l.length ≤ 4194304) :
    Calls Try.prog 33 #[v, .string (str s)] w fun e w' => ∃ v', e = .returned v' ∧ Sq.Own sv 9 w' B v' (wth l s) ∧ Below B w w' := by
  obtain ⟨A, c, rfl, _, _⟩ := ho.shape
  obtain ⟨n, hn2⟩ : ∃ n, l.length = n := ⟨_, rfl⟩
  rw [hn2] at ho hn ⊢
  have HO := Lib.hid ho
  have HR := Lib.hid ho.rd
  have HN := Lib.hid hn2
  have HB := Lib.hid hB
  clear ho hn2 hB
  go_enter Try.func33, Try.ntmps33
  go_wp2_with fail
  go_loop [5] (fun i => ∃ j : Nat, j ≤ n ∧ i = .int .i64 (j : Int) ∧ Hid (∀ k x, k < j → l[k]? = some x → x ≠ s)) (fun i => n - (intOf i).toNat)
  case atStart => exact ⟨0, Nat.zero_le _, rfl, Lib.hid fun k x hk => by omega⟩
  case round =>
    obtain ⟨j, hj, rfl, HT⟩ := hrel
    by_cases hlt : j < n
    · obtain ⟨b, o, rfl, hb, hl, hc⟩ := HR.out.at_ hlt
      obtain ⟨y, hy⟩ : ∃ y, l[j] = y := ⟨_, rfl⟩
      rw [hy] at hc
      unfold sv at hc
      have HLY := Lib.hid (show l[j]? = some y by rw [List.getElem?_eq_getElem hl, hy])
      have k0 : (0 : Int) ≤ (j : Int) := by omega
      have k1 : (j : Int) < (n : Int) := by omega
      clear hy hl
      by_cases hys : y = s
      · subst hys
        have HW := Lib.hid (show wth l y = l by unfold wth; rw [if_pos (List.mem_of_getElem? HLY.out)])
        have q := eq_q (rfl : y = y)
        go_wp2_with fail
        go_ret
        exact ⟨_, rfl, by rw [HW.out]; exact HO.out, Below.refl _ _⟩
      · have q := ne_q hys
        have HT2 := Lib.hid (show ∀ k x, k < j + 1 → l[k]? = some x → x ≠ s from fun k x hk hx => by
          rcases Nat.lt_or_eq_of_le (Nat.le_of_lt_succ hk) with e | e
          · exact HT.out k x e hx
          · subst e
            rw [HLY.out] at hx
            injection hx with hx
            rw [← hx]; exact hys)
        go_wp2_with fail
        go_round
        case rel => exact ⟨j + 1, by omega, by go_num, HT2⟩
        case measure => simp [intOf]; omega
    · obtain rfl : n = j := by omega
      have HW := Lib.hid (show wth l s = l ++ [s] by
        unfold wth
        rw [if_neg]
        intro hm
        obtain ⟨k, hk, e⟩ := List.getElem_of_mem hm
        exact HT.out k s (by rw [← HN.out]; exact hk) (by rw [List.getElem?_eq_getElem hk, e]) rfl)
      go_wp2_with (at_builtin; refine Sq.wpList_append elS rfl _ _ rfl rfl (HO.out.alloc (.cells #[.string (str s)] 9)) (some ⟨w.heap.size, 0, none⟩) 1 1 [s] rfl (Sq.rd_lit (enc := sv) w 9 [s] _ rfl 1 rfl) (by have := HN.out; unfold maxLen; omega) (by have := HN.out; omega) (by have := HB.out; simp; omega) ?_; intro v3 w3 ho3 hb3 _ _; have HO3 := Lib.hid ho3; have HB3 := Lib.hid (((Below.refl B w).alloc HB.out _).trans hb3); clear ho3 hb3)
      go_ret
      exact ⟨_, rfl, by rw [HW.out]; exact HO3.out, HB3.out⟩
end Go.Proofs.Yteibcfpepdbflaa.BindI
