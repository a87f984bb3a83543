/- The comparison of lists, and the rules' order on whatever tables. -/
import Derived.Test.YtpbhlphemkdljaaRuleR
import Derived.Test.YtpbhlphemkdljaaRuleQ
namespace Go.Proofs.Ytpbhlphemkdljaa.RuleS
open Go Go.RowKit RuleP RuleW Ints RuleX RuleO RuleR

/-- A slice value that reads as a list, with its length written out. -/
theorem Reads.shape {w : World} {v : Value} {l : List Int} (h : Reads w v l) : ∃ a cap n, v = .slice a n cap ∧ n = l.length ∧ n ≤ maxLen := by
  rcases h with ⟨rfl, rfl⟩ | ⟨b, off, cap, rfl, h1, h2, h3, h4⟩
  · exact ⟨none, 0, 0, rfl, rfl, by unfold maxLen; omega⟩
  · exact ⟨_, cap, _, rfl, rfl, Nat.le_trans h1 h2⟩

theorem same_of (la lb : List Int) (hl : la.length = lb.length) (h : ∀ i, i < la.length → la.getD i 0 = lb.getD i 0) : la = lb := by
  refine List.ext_getElem hl fun i h1 h2 => ?_
  have := h i h1
  rw [List.getD_eq_getElem?_getD, List.getD_eq_getElem?_getD, List.getElem?_eq_getElem h1, List.getElem?_eq_getElem h2] at this
  exact this

set_option maxRecDepth 100000 in
theorem same_r (va vb : Value) (la lb : List Int) (w : World) (ha : Reads w va la) (hb : Reads w vb lb) :
    Calls Try.prog 12 #[va, vb] w fun r w' => r = .returned (.bool (decide (la = lb))) ∧ Below w.heap.size w w' := by
  obtain ⟨aa, ca, na, rfl, hna, hma⟩ := Reads.shape ha
  obtain ⟨ab, cb, nb, rfl, hnb, hmb⟩ := Reads.shape hb
  unfold maxLen at hma hmb
  by_cases hl : na = nb
  · subst hl
    rcases ha with ⟨h1, rfl⟩ | ⟨ba, oa, ca', h1, _, _, _, hca⟩
    · have h0 : na = 0 := by simpa using hna
      subst h0
      have hlb : lb = [] := List.length_eq_zero_iff.1 hnb.symm
      subst hlb
      clear hb hna hnb
      go_enter Try.func12, Try.ntmps12
      go_wp2_with fail
      go_rounds 1
      go_ret
      exact ⟨rfl, by go_grown⟩
    · injection h1 with e1 e2 e3
      subst e1
      rcases hb with ⟨h2, rfl⟩ | ⟨bb, ob, cb', h2, _, _, _, hcb⟩
      · have h0 : na = 0 := by simpa using hnb
        subst h0
        have hla : la = [] := List.length_eq_zero_iff.1 hna.symm
        subst hla
        clear hca e2 e3 hna hnb
        go_enter Try.func12, Try.ntmps12
        go_wp2_with fail
        go_rounds 1
        go_ret
        exact ⟨rfl, by go_grown⟩
      · injection h2 with f1 f2 f3
        subst f1
        have HA := Lib.hid hca
        have HB := Lib.hid hcb
        have HNA := Lib.hid hna
        have HNB := Lib.hid hnb
        clear hca hcb hna hnb e2 e3 f2 f3
        go_enter Try.func12, Try.ntmps12
        go_wp2_with fail
        go_loopw [5] (fun i wr => ∃ k : Nat, k ≤ na ∧ i = .int .i64 (k : Int) ∧ (∀ j, j < k → la.getD j 0 = lb.getD j 0) ∧ ∃ q, wr = w.drewN q) (fun i _ => na - (intOf i).toNat)
        case atStart => exact ⟨0, Nat.zero_le _, rfl, fun j hj => by omega, 0, rfl⟩
        case round =>
          obtain ⟨k, hk, rfl, hall, q, rfl⟩ := hrel
          have HALL := Lib.hid hall
          clear hall
          by_cases hlt : k < na
          · have c1 : w.cell? ⟨ba, oa + k, none⟩ = some (.int .i64 (la.getD k 0)) := HA.out k (by rw [← HNA.out]; exact hlt)
            have c2 : w.cell? ⟨bb, ob + k, none⟩ = some (.int .i64 (lb.getD k 0)) := HB.out k (by rw [← HNB.out]; exact hlt)
            have k0 : (0 : Int) ≤ (k : Int) := by omega
            have k1 : (k : Int) < (na : Int) := by omega
            obtain ⟨x, hx⟩ : ∃ x, la.getD k 0 = x := ⟨_, rfl⟩
            obtain ⟨y, hy⟩ : ∃ y, lb.getD k 0 = y := ⟨_, rfl⟩
            rw [hx] at c1
            rw [hy] at c2
            have HX := Lib.hid hx
            have HY := Lib.hid hy
            clear hx hy
            by_cases hxy : x = y
            · have t : (x != y) = false := by simp [hxy]
              have HXY := Lib.hid hxy
              clear hxy
              go_wp2
              go_quiet (fail)
              go_wp2
              go_roundw
              case rel =>
                refine ⟨k + 1, by omega, by go_num, fun j hj => ?_, ?_⟩
                · rcases Nat.lt_or_eq_of_le (Nat.le_of_lt_succ hj) with h | rfl
                  · exact HALL.out j h
                  · rw [HX.out, HY.out, HXY.out]
                · exact ⟨_, rfl⟩
              case measure => simp [intOf]; omega
            · have t : (x != y) = true := by simp [hxy]
              have HXY := Lib.hid hxy
              clear hxy
              go_wp2
              go_quiet (fail)
              go_wp2
              go_ret
              refine ⟨Ints.retb ?_, belowN (belowN (Below.refl _ _) _) _⟩
              symm
              refine decide_eq_false fun h => HXY.out ?_
              rw [← HX.out, ← HY.out, h]
          · have hkn : k = na := by omega
            have HK := Lib.hid hkn
            clear hkn
            go_wp2
            go_ret
            refine ⟨Ints.retb ?_, belowN (Below.refl _ _) _⟩
            symm
            refine decide_eq_true (same_of _ _ (by rw [← HNA.out, ← HNB.out]) fun i hi => HALL.out i ?_)
            rw [HK.out, HNA.out]; exact hi
  · have t : ((na : Int) != (nb : Int)) = true := by simp; omega
    have HNA := Lib.hid hna
    have HNB := Lib.hid hnb
    have HL := Lib.hid hl
    clear ha hb hna hnb hl
    go_enter Try.func12, Try.ntmps12
    go_wp2
    go_ret
    refine ⟨Ints.retb ?_, by go_grown⟩
    symm
    refine decide_eq_false fun h => HL.out ?_
    rw [HNA.out, HNB.out, h]

/-- The value of the rules' slice in the tables. -/
def Deeds (w : World) (v : Value) (ds : List Deed) : Prop :=
  ∃ a cap, v = .slice a ds.length cap ∧ (ds = [] ∨ ∃ b off, a = some ⟨b, off, none⟩ ∧ b < w.heap.size ∧ ∀ i d, ds[i]? = some d → DeedAt w b (off + i * 6) d)
theorem Deeds.below {w w' : World} {v : Value} {ds : List Deed} (h : Deeds w v ds) (hb : Below w.heap.size w w') : Deeds w' v ds := by
  obtain ⟨a, cap, hv, h⟩ := h
  refine ⟨a, cap, hv, ?_⟩
  rcases h with h | ⟨b, off, ha, hbw, hd⟩
  · exact .inl h
  · refine .inr ⟨b, off, ha, Nat.lt_of_lt_of_le hbw hb.size, fun i d hi => ?_⟩
    obtain ⟨h0, h1, h2, h3, h4, h5⟩ := hd i d hi
    have hk := fun o => bcell hb b o hbw
    exact ⟨by rw [hk]; exact h0, by rw [hk]; exact h1, by rw [hk]; exact h2, by rw [hk]; exact h3, by rw [hk]; exact h4, by rw [hk]; exact h5⟩

theorem order_any (v0 v1 v2 v3 v4 v5 v6 v7 v8 v9 v v11 v12 v13 v14 : Value) (ds : List Deed) (phase : Int) (c : Cmd) (w : World) (hlen : ds.length ≤ 600) (hd : Deeds w v ds) :
    Calls Try.prog 13 #[.agg #[v0, v1, v2, v3, v4, v5, v6, v7, v8, v9, v, v11, v12, v13, v14], .int .i64 phase,
      .agg #[.int .i64 c.verb, .int .i64 c.noun, .int .i64 c.second, .int .i64 c.number, .int .i64 c.dir]] w fun r w' =>
      ∃ v', r = .returned v' ∧ Own w' w.heap.size v' (ns (upper ds phase c 4)) ∧ Below w.heap.size w w' := by
  obtain ⟨a, cap, rfl, h⟩ := hd
  rcases h with rfl | ⟨b, off, rfl, hb, hd⟩
  · exact order_nil v0 v1 v2 v3 v4 v5 v6 v7 v8 v9 v11 v12 v13 v14 a cap phase c w
  · have h := order_i v0 v1 v2 v3 v4 v5 v6 v7 v8 v9 v11 v12 v13 v14 b off cap ds phase c w hb hlen hd
    rw [RuleQ.order_same] at h
    exact h
theorem order_r_any (v0 v1 v2 v3 v4 v5 v6 v7 v8 v9 v v11 v12 v13 v14 : Value) (ds : List Deed) (phase : Int) (c : Cmd) (w : World) (hlen : ds.length ≤ 600) (hd : Deeds w v ds) :
    Calls Try.prog 14 #[.agg #[v0, v1, v2, v3, v4, v5, v6, v7, v8, v9, v, v11, v12, v13, v14], .int .i64 phase,
      .agg #[.int .i64 c.verb, .int .i64 c.noun, .int .i64 c.second, .int .i64 c.number, .int .i64 c.dir]] w fun r w' =>
      ∃ v', r = .returned v' ∧ Own w' w.heap.size v' (ns (upper ds phase c 4)) ∧ Below w.heap.size w w' := by
  obtain ⟨a, cap, rfl, h⟩ := hd
  rcases h with rfl | ⟨b, off, rfl, hb, hd⟩
  · exact order_r_nil v0 v1 v2 v3 v4 v5 v6 v7 v8 v9 v11 v12 v13 v14 a cap phase c w
  · exact order_r v0 v1 v2 v3 v4 v5 v6 v7 v8 v9 v11 v12 v13 v14 b off cap ds phase c w hb hlen hd
end Go.Proofs.Ytpbhlphemkdljaa.RuleS
