/- What a right world says of its flags and props, in plain Lean; a world with another flag, or prop, is right, too. No walk here. -/
import Derived.Test.YtncdicagadbafaaAttrU
import Derived.Test.YtncdicagadbafaaTabR
namespace Go.Proofs.Ytncdicagadbafaa.AttrQ
open Go Go.RowKit NestP NestW NestX NestY ValP ValW ValX ValR Sq WorldD CopP MoveP LvP MvA AttrP AttrW AttrX AttrY AttrU TabD TabW TabX TabB TabR MixP

theorem right_iff {t : TbV} {g : Wd} : rightB t g = true ↔ g.gl.length = t.gl.n ∧ g.pa.length = t.th.n ∧ g.fl.length = t.th.n ∧ g.pr.length = t.th.n * t.pr.n ∧ g.ti.length = t.da.n ∧ nested g = true ∧ valuesB g.gl = true ∧ valuesB g.pr = true ∧ allB g.fl 0 (bitsF t.fl - 1) = true ∧
    (allB g.ti 0 32767 && (isV g.sc && (fromB g.tu 0 2147483647 && (fromB g.ov 0 3 && (fromB g.it 0 ((t.th.n : Int) - 1) && (fromB g.go 0 12 && placedB t g)))))) = true := by
  unfold rightB
  have hm : (g.pr.length : Int) = (t.th.n : Int) * (t.pr.n : Int) ↔ g.pr.length = t.th.n * t.pr.n := by constructor <;> intro h <;> exact_mod_cast h
  simp only [Bool.and_eq_true, Bool.not_eq_true', bne_eq_false_iff_eq, hm, Int.natCast_inj]
theorem right_fl {t : TbV} {g : Wd} (h : rightB t g = true) : Fl g := by
  obtain ⟨_, h1, h2, _, _, _, _, _, h8, _⟩ := right_iff.1 h
  refine ⟨by rw [h2]; exact h1.symm, fun e he => ?_⟩
  have h3 := fromB_iff.1 ((List.all_eq_true.1 h8) e he)
  have h4 := bits_bd t.fl
  omega
theorem right_pl {t : TbV} {g : Wd} (h : rightB t g = true) (hp : t.pr.n ≤ 16) (hT : ThP t) : Pl g t.pr.n := by
  obtain ⟨_, h1, _, h3, _⟩ := right_iff.1 h
  have hn : g.n = t.th.n := h1
  exact ⟨by rw [hn]; exact hT.2.1, hp, by rw [hn]; exact h3⟩
theorem right_setF {t : TbV} {g : Wd} (h : rightB t g = true) (x : Int) {v : Int} (hv : 0 ≤ v ∧ v ≤ bitsF t.fl - 1) : rightB t (setF g x v) = true := by
  obtain ⟨h0, h1, h2, h3, h4, h5, h6, h7, h8, h9⟩ := right_iff.1 h
  refine right_iff.2 ⟨h0, h1, ?_, h3, h4, h5, h6, h7, ?_, h9⟩
  · show (g.fl.set x.toNat v).length = _
    rw [List.length_set]; exact h2
  · show ((g.fl.set x.toNat v).all _) = true
    refine List.all_eq_true.2 fun e he => ?_
    rcases List.mem_or_eq_of_mem_set he with he | rfl
    · exact (List.all_eq_true.1 h8) e he
    · exact fromB_iff.2 hv
theorem right_setP {t : TbV} {g : Wd} (h : rightB t g = true) (k : Nat) {v : Int} (hv : isV v = true) : rightB t (setP g k v) = true := by
  obtain ⟨h0, h1, h2, h3, h4, h5, h6, h7, h8, h9⟩ := right_iff.1 h
  refine right_iff.2 ⟨h0, h1, h2, ?_, h4, h5, h6, ?_, h8, h9⟩
  · show (g.pr.set k v).length = _
    rw [List.length_set]; exact h3
  · show ((g.pr.set k v).all _) = true
    refine List.all_eq_true.2 fun e he => ?_
    rcases List.mem_or_eq_of_mem_set he with he | rfl
    · exact (List.all_eq_true.1 h7) e he
    · exact hv
set_option maxHeartbeats 2000000 in
theorem up_lt {n f : Int} {m : Nat} (hm : m ≤ 16) (hn : 0 ≤ n ∧ n ≤ 2 ^ m - 1) (h0 : 0 ≤ f) (h1 : f ≤ 15) (hf : f < m) : 0 ≤ up n f ∧ up n f ≤ 2 ^ m - 1 := by
  unfold up flB
  have hm' : m = 0 ∨ m = 1 ∨ m = 2 ∨ m = 3 ∨ m = 4 ∨ m = 5 ∨ m = 6 ∨ m = 7 ∨ m = 8 ∨ m = 9 ∨ m = 10 ∨ m = 11 ∨ m = 12 ∨ m = 13 ∨ m = 14 ∨ m = 15 ∨ m = 16 := by omega
  rcases cases16 h0 h1 with rfl | rfl | rfl | rfl | rfl | rfl | rfl | rfl | rfl | rfl | rfl | rfl | rfl | rfl | rfl | rfl <;>
  rcases hm' with rfl | rfl | rfl | rfl | rfl | rfl | rfl | rfl | rfl | rfl | rfl | rfl | rfl | rfl | rfl | rfl | rfl <;>
  first
    | (exfalso; omega)
    | (simp at hn ⊢; split <;> omega)
theorem down_le {n f : Int} (hn : 0 ≤ n ∧ n ≤ 65535) (h0 : 0 ≤ f) (h1 : f ≤ 15) : 0 ≤ down n f ∧ down n f ≤ n := by
  refine ⟨(down_bd hn h0 h1).1, ?_⟩
  have := (two_f h0 h1).1
  unfold down
  split <;> omega
theorem right_fl_at {t : TbV} {g : Wd} (h : rightB t g = true) (x : Int) : 0 ≤ at' g.fl x ∧ at' g.fl x ≤ bitsF t.fl - 1 := by
  obtain ⟨_, _, _, _, _, _, _, _, h8, _⟩ := right_iff.1 h
  have h4 := bits_bd t.fl
  rcases at_mem (l := g.fl) (x := x) with h1 | h1
  · rw [h1]; omega
  · exact fromB_iff.1 ((List.all_eq_true.1 h8) _ h1)
theorem right_on {t : TbV} {g : Wd} (h : rightB t g = true) (x f : Int) (hf : f < t.fl) : rightB t (onG g x f) = true := by
  unfold onG
  split
  · rename_i hE
    obtain ⟨_, h0, h1⟩ := ask_ok.1 hE
    have h2 := right_fl_at h x
    refine right_setF h x ?_
    unfold bitsF at h2 ⊢
    exact up_lt (by omega) h2 h0 h1 (by omega)
  · exact h
theorem right_off {t : TbV} {g : Wd} (h : rightB t g = true) (x f : Int) : rightB t (offG g x f) = true := by
  unfold offG
  split
  · rename_i hE
    obtain ⟨_, h0, h1⟩ := ask_ok.1 hE
    have h2 := right_fl_at h x
    have h4 := bits_bd t.fl
    have h3 := down_le (n := at' g.fl x) ⟨h2.1, by omega⟩ h0 h1
    exact right_setF h x ⟨h3.1, by omega⟩
  · exact h
theorem right_put {t : TbV} {g : Wd} (h : rightB t g = true) (np : Nat) (x p m : Int) : rightB t (putG g np x p m) = true := by
  unfold putG
  split
  · split
    · rename_i hv
      exact right_setP h _ hv
    · exact h
  · exact h
theorem onG_n (g : Wd) (x f : Int) : (onG g x f).n = g.n := by unfold onG; split <;> rfl
theorem offG_n (g : Wd) (x f : Int) : (offG g x f).n = g.n := by unfold offG; split <;> rfl
theorem putG_n (g : Wd) (np : Nat) (x p m : Int) : (putG g np x p m).n = g.n := by unfold putG; split <;> (try split) <;> rfl
theorem fl_on {g : Wd} (h : Fl g) (x f : Int) : Fl (onG g x f) := by
  unfold onG
  split
  · rename_i hE
    obtain ⟨_, h0, h1⟩ := ask_ok.1 hE
    exact h.set x (up_bd (h.at_ x) h0 h1)
  · exact h
theorem fl_off {g : Wd} (h : Fl g) (x f : Int) : Fl (offG g x f) := by
  unfold offG
  split
  · rename_i hE
    obtain ⟨_, h0, h1⟩ := ask_ok.1 hE
    exact h.set x (down_bd (h.at_ x) h0 h1)
  · exact h
theorem at_setF {g : Wd} (h : Fl g) {x : Int} (hx : isT g.n x = true) (v j : Int) : at' (setF g x v).fl j = if j = x then v else at' g.fl j := by
  have hx' := isT_iff.1 hx
  have h1 : (setF g x v).fl = setI g.fl x v := rfl
  rw [h1]
  exact at_set v (by omega) (by rw [h.1]; omega) j
/-- The flag that was set is had, and no other one is another one. -/
theorem has_on {g : Wd} (h : Fl g) (x f y k : Int) : hasB (onG g x f) y k = if x = y ∧ f = k ∧ askN g.n x f = 0 then true else hasB g y k := by
  unfold hasB
  rw [onG_n]
  unfold onG
  by_cases hE : askN g.n x f = 0
  · rw [if_pos hE, at_setF h (ask_ok.1 hE).1]
    obtain ⟨hx, h0, h1⟩ := ask_ok.1 hE
    by_cases hK : askN g.n y k = 0
    · obtain ⟨hy, k0, k1⟩ := ask_ok.1 hK
      rw [hK]
      by_cases hxy : y = x
      · subst hxy
        rw [if_pos rfl, fl_up (h.at_ y) h0 h1 k0 k1]
        by_cases hfk : f = k
        · simp [hfk, hK]
        · simp [hfk]
      · rw [if_neg hxy, if_neg (show ¬ (x = y ∧ f = k ∧ askN g.n x f = 0) from fun h => hxy h.1.symm)]
    · rw [if_neg (show ¬ (x = y ∧ f = k ∧ askN g.n x f = 0) from fun h => hK (by rw [← h.1, ← h.2.1]; exact hE))]
      simp [hK]
  · rw [if_neg hE, if_neg (show ¬ (x = y ∧ f = k ∧ askN g.n x f = 0) from fun h => hE h.2.2)]
theorem has_off {g : Wd} (h : Fl g) (x f y k : Int) : hasB (offG g x f) y k = if x = y ∧ f = k ∧ askN g.n x f = 0 then false else hasB g y k := by
  unfold hasB
  rw [offG_n]
  unfold offG
  by_cases hE : askN g.n x f = 0
  · rw [if_pos hE, at_setF h (ask_ok.1 hE).1]
    obtain ⟨hx, h0, h1⟩ := ask_ok.1 hE
    by_cases hK : askN g.n y k = 0
    · obtain ⟨hy, k0, k1⟩ := ask_ok.1 hK
      rw [hK]
      by_cases hxy : y = x
      · subst hxy
        rw [if_pos rfl, fl_down (h.at_ y) h0 h1 k0 k1]
        by_cases hfk : f = k
        · simp [hfk, hK]
        · simp [hfk]
      · rw [if_neg hxy, if_neg (show ¬ (x = y ∧ f = k ∧ askN g.n x f = 0) from fun h => hxy h.1.symm)]
    · rw [if_neg (show ¬ (x = y ∧ f = k ∧ askN g.n x f = 0) from fun h => hK (by rw [← h.1, ← h.2.1]; exact hE))]
      simp [hK]
  · rw [if_neg hE, if_neg (show ¬ (x = y ∧ f = k ∧ askN g.n x f = 0) from fun h => hE h.2.2)]
/-- What was put is there, and no other prop is another one. -/
theorem prop_put {g : Wd} {np : Nat} (h : Pl g np) (x p m y q : Int) : propV (putG g np x p m) np y q = if putE g np x p m = 0 ∧ x = y ∧ p = q then m else propV g np y q := by
  unfold propV
  rw [putG_n]
  unfold putG putE
  by_cases hE : plE g.n np x p = 0
  · obtain ⟨k, r, i0, ix, rfl, rfl, h1, h2, h3, h4, h5, h6, h7, h8⟩ := pl_ix hE h.1 h.2.1
    rw [if_pos hE, if_pos hE, h6, Int.toNat_natCast]
    by_cases hv : isV m = true
    · rw [if_pos hv, if_pos hv]
      by_cases hK : plE g.n np y q = 0
      · obtain ⟨k', r', i0', ix', rfl, rfl, h1', h2', h3', h4', h5', h6', h7', h8'⟩ := pl_ix hK h.1 h.2.1
        rw [if_pos hK, if_pos hK, h6']
        have hs : at' (setP g ix m).pr (ix' : Int) = if (ix' : Int) = (ix : Int) then m else at' g.pr (ix' : Int) := by
          have e1 : (setP g ix m).pr = setI g.pr (ix : Int) m := by unfold setP setI; rw [Int.toNat_natCast]
          rw [e1]
          exact at_set m (by omega) (by rw [h.2.2]; omega) _
        rw [hs]
        by_cases hk : k = k'
        · subst hk
          by_cases hr : r = r'
          · subst hr
            rw [if_pos (by omega), if_pos ⟨rfl, rfl, rfl⟩]
          · rw [if_neg (by omega), if_neg (fun hh => hr (by have := hh.2.2; omega))]
        · have hne : ¬ ((ix' : Int) = (ix : Int)) := by
            intro hh
            rcases Nat.lt_or_ge k k' with hlt | hge
            · have h9 : (k + 1) * np ≤ k' * np := Nat.mul_le_mul_right _ hlt
              rw [Nat.add_mul, Nat.one_mul] at h9
              have h10 : ((k * np : Nat) : Int) = i0 := by rw [← h4]; simp
              have h11 : ((k' * np : Nat) : Int) = i0' := by rw [← h4']; simp
              omega
            · have h9 : (k' + 1) * np ≤ k * np := Nat.mul_le_mul_right _ (by omega)
              rw [Nat.add_mul, Nat.one_mul] at h9
              have h10 : ((k * np : Nat) : Int) = i0 := by rw [← h4]; simp
              have h11 : ((k' * np : Nat) : Int) = i0' := by rw [← h4']; simp
              omega
          rw [if_neg hne, if_neg (fun hh => hk (by have := hh.2.1; omega))]
      · rw [if_neg hK, if_neg hK, if_neg (fun hh => hK (by rw [← hh.2.1, ← hh.2.2]; exact hE))]
    · rw [if_neg hv, if_neg hv, if_neg (show ¬ ((1 : Int) = 0 ∧ (k : Int) = y ∧ (r : Int) = q) from fun hh => absurd hh.1 (by decide))]
  · rw [if_neg hE, if_neg hE, if_neg (show ¬ (plE g.n np x p = 0 ∧ x = y ∧ p = q) from fun hh => hE hh.1)]
theorem pl_put {g : Wd} {np : Nat} (h : Pl g np) (x p m : Int) : Pl (putG g np x p m) np := by
  refine ⟨by rw [putG_n]; exact h.1, h.2.1, ?_⟩
  rw [putG_n, ← h.2.2]
  unfold putG
  split
  · split
    · show (g.pr.set _ m).length = _
      rw [List.length_set]
    · rfl
  · rfl
end Go.Proofs.Ytncdicagadbafaa.AttrQ
