/- nest.rows: the things in each thing are those that say so, each once. Conditions: the lists of a world can be read, and their numbers are numbers of things, or 0. -/
import Derived.Test.YtncdicagadbafaaRgtW
import Derived.Test.YtncdicagadbafaaMvR
import Derived.Deep.LoopGhost
import Derived.Outline
namespace Go.Proofs.Ytncdicagadbafaa.RgtR
open Go Go.RowKit NestP NestW NestX NestY ValP ValW ValX ValR Sq RgtW MvR

theorem elB : El Try.prog 134 4 Value.bool false 1 := ⟨Try.underlying134, by kernel_rfl, fun _ => rfl, fun _ => rfl⟩
theorem make_b (n : Nat) (hn : n ≤ 60) (w : World) : (Instr.makeSlice 134 (.int .i64 (n : Int)) (.int .i64 (n : Int))).run Try.prog w = .ok (.slice (some ⟨w.heap.size, 0, none⟩) n n) (w.alloc (.cells (madeCells #[.bool false] (n * 1)) 4)) := by
  obtain ⟨i, hi, hz, hs, hby⟩ := elB.parts
  have h := run_makeSlice (P := Try.prog) (w := w) 134 4 i (.bool false) Try.underlying134 hi hz .i64 .i64 (n : Int) (n : Int) (by omega) (by omega) (by rw [hs, Int.toNat_natCast]; omega) (by rw [hby]; omega) (by omega)
  rw [hs, Int.toNat_natCast] at h
  exact h
/-- Which numbers were met. -/
def metL (n : Nat) (V : List Int) : List Bool := (List.range n).map fun (i : Nat) => V.contains (i : Int)
theorem metL_len (n : Nat) (V : List Int) : (metL n V).length = n := by unfold metL; simp
theorem metL_nil (n : Nat) : metL n [] = List.replicate n false := by
  unfold metL
  refine List.ext_getElem (by simp) fun i h1 h2 => ?_
  simp
theorem metL_at {n : Nat} {V : List Int} {i : Nat} (h : i < (metL n V).length) : (metL n V)[i] = V.contains (i : Int) := by unfold metL; simp
theorem metL_set {n : Nat} {V : List Int} {i : Nat} : (metL n V).set i true = metL n (V ++ [(i : Int)]) := by
  refine List.ext_getElem (by simp [metL_len]) fun j h1 h2 => ?_
  rw [metL_at, List.getElem_set]
  split
  · rename_i h; subst h; simp
  · rename_i h
    rw [metL_at]
    have : ((j : Int) == (i : Int)) = false := beq_eq_false_iff_ne.2 (by omega)
    simp only [List.contains_eq_mem, List.mem_append, List.mem_singleton]
    have h' : ¬ ((j : Int) = (i : Int)) := by omega
    simp [h']
theorem own_lit' (w : World) (n : Nat) (hn : n ≤ 60) {B : Nat} (hB : B ≤ w.heap.size) :
    Sq.Own Value.bool 4 (w.alloc (.cells (madeCells #[.bool false] (n * 1)) 4)) B (.slice (some ⟨w.heap.size, 0, none⟩) n n) (metL n []) := by
  rw [metL_nil]
  refine own_lit elB w _ _ ?_ (by simp [maxLen]; omega) hB n (by simp)
  rw [Nat.mul_one, toList_madeCells_one]
  simp
theorem met_cell {w : World} {B b n : Nat} {V : List Int} (h : Sq.Own Value.bool 4 w B (.slice (some ⟨b, 0, none⟩) n n) (metL n V)) {i : Nat} (hi : i < n) : w.cell? ⟨b, i, none⟩ = some (.bool (V.contains (i : Int))) ∧ w.frozen? ⟨b, i, none⟩ = false := by
  obtain ⟨g', hg', _, _, hc, hz⟩ := h.at_ (by omega)
  injection hg' with hg'
  injection hg' with hg'
  subst hg'
  have hl : i < (metL n V).length := by rw [metL_len]; exact hi
  have := hc i hl
  rw [metL_at] at this
  exact ⟨this, hz i⟩

/-- The state between two steps. -/
structure St (w : World) (n : Nat) (box : Array Value) (wr : World) (V : List Int) : Prop where
  box : wr.heap[w.heap.size]? = some (.cells box 31 (0, 0))
  own : Sq.Own Value.bool 4 wr (w.heap.size + 1) (.slice (some ⟨w.heap.size + 1, 0, none⟩) n n) (metL n V)
  below : Below w.heap.size w wr
  size : w.heap.size + 2 ≤ wr.heap.size
  nod : V.Nodup
  ist : ∀ e ∈ V, isT n e = true
theorem St.step {w wr : World} {n : Nat} {box : Array Value} {V : List Int} (h : St w n box wr V) {i : Nat} (h1 : 1 ≤ i) (h2 : i < n) (hv : V.contains (i : Int) = false) : St w n box (wr.setCell ⟨w.heap.size + 1, i, none⟩ (.bool true)) (V ++ [(i : Int)]) where
  box := (Below.heap_setCell _ _ _ _ (by simp)).trans h.box
  own := by
    have := h.own.store i true
    rw [metL_set] at this
    exact this
  below := h.below.setCell (by simp) _
  size := by have := h.size; simp; omega
  nod := by
    refine List.nodup_append.2 ⟨h.nod, by simp, ?_⟩
    intro a ha b hb
    simp only [List.mem_singleton] at hb
    subst hb
    intro e
    subst e
    simp at hv
    exact hv ha
  ist := fun e he => by
    rcases List.mem_append.1 he with he | he
    · exact h.ist e he
    · simp only [List.mem_singleton] at he
      subst he
      exact isT_iff.2 ⟨by omega, by omega⟩

theorem st_new (w : World) (box : Array Value) (n : Nat) (hn : n ≤ 60) : St w n box ((w.alloc (.cells box 31)).alloc (.cells (madeCells #[.bool false] n) 4)) [] where
  box := (Below.heap_alloc _ _ _ (by simp)).trans (World.alloc_heap_new w _)
  own := by
    have := own_lit' (w.alloc (.cells box 31)) n hn (B := w.heap.size + 1) (by simp)
    rw [Nat.mul_one, World.size_alloc] at this
    exact this
  below := ((Below.refl _ w).alloc (Nat.le_refl _) _).alloc (by simp) _
  size := by simp
  nod := List.nodup_nil
  ist := fun e he => by cases he
theorem St.drewN {w wr : World} {n : Nat} {box : Array Value} {V : List Int} (h : St w n box wr V) (q : Nat) : St w n box (wr.drewN q) V := ⟨h.box, h.own, belowN h.below q, h.size, h.nod, h.ist⟩
theorem St.len {w wr : World} {n : Nat} {box : Array Value} {V : List Int} (h : St w n box wr V) : V.length ≤ n - 1 := few h.nod h.ist
theorem rowsF_step {g : Wd} {n k : Nat} {V : List Int} (hg : g.n = n) (h1 : 1 ≤ k) (h2 : k < n) :
    rowsF g ((List.range (n - 1)).drop (k - 1)) V = match row g (k : Nat) (n - V.length) (at' g.ch (k : Nat)) V with | none => none | some V' => rowsF g ((List.range (n - 1)).drop k) V' := by
  rw [List.drop_eq_getElem_cons (by simp; omega), List.getElem_range, rowsF, hg, show k - 1 + 1 = k by omega]
  rfl
theorem rows_none {g : Wd} {n : Nat} (hg : g.n = n) (h : rowsF g (List.range (n - 1)) [] = none) : rows g = false := by unfold rows; rw [hg, h]
theorem rows_some {g : Wd} {n : Nat} {V : List Int} (hg : g.n = n) (h : rowsF g (List.range (n - 1)) [] = some V) : rows g = (List.range (n - 1)).all fun i => met1 g V (i + 1 : Nat) := by unfold rows; rw [hg, h]
theorem metA_no {g : Wd} {n : Nat} {V : List Int} {k : Nat} (h1 : 1 ≤ k) (h2 : k < n) (h : met1 g V (k : Int) = false) : ((List.range (n - 1)).all fun i => met1 g V (i + 1 : Nat)) = false := by
  rw [List.all_eq_false]
  refine ⟨k - 1, List.mem_range.2 (by omega), ?_⟩
  rw [show k - 1 + 1 = k by omega, h]
  simp
theorem metA_yes {g : Wd} {n : Nat} {V : List Int} (h : ∀ i, i + 1 < n → met1 g V ((i + 1 : Nat) : Int) = true) : ((List.range (n - 1)).all fun i => met1 g V (i + 1 : Nat)) = true := by
  rw [List.all_eq_true]
  intro i hi
  exact h i (by have := List.mem_range.1 hi; omega)

set_option maxRecDepth 100000 in
set_option maxHeartbeats 4000000 in
theorem rows_i {v0 v4 v5 v6 v7 v8 v9 v10 v11 v12 : Value} {A1 A2 A3 : Option Addr} {n c1 c2 c3 : Nat} (g : Wd) (w : World) (hg : g.n = n) (r1 : Rd I w A1 n g.pa) (r2 : Rd I w A2 n g.ch) (r3 : Rd I w A3 n g.ne) (hn : n ≤ 60) (h1 : 1 ≤ n) (hin : inside g = true) :
    Calls Try.prog 141 #[.agg #[v0, .slice A1 n c1, .slice A2 n c2, .slice A3 n c3, v4, v5, v6, v7, v8, v9, v10, v11, v12]] w fun e w' => e = .returned (.bool (rows g)) ∧ Below w.heap.size w w' := by
  have R1 := Lib.hid r1
  have R2 := Lib.hid r2
  have R3 := Lib.hid r3
  have HG := Lib.hid hg
  have HI : Hid ((∀ x, 0 ≤ at' g.pa x ∧ at' g.pa x < n) ∧ (∀ x, 0 ≤ at' g.ch x ∧ at' g.ch x < n) ∧ (∀ x, 0 ≤ at' g.ne x ∧ at' g.ne x < n)) := by
    unfold inside at hin
    simp only [Bool.and_eq_true, hg] at hin
    exact Lib.hid ⟨at_in hin.1.1 h1, at_in hin.1.2 h1, at_in hin.2 h1⟩
  clear r1 r2 r3 hin hg
  go_enter Try.func141, Try.ntmps141
  have HM : ∀ w : World, (Instr.makeSlice 134 (.int .i64 (n : Int)) (.int .i64 (n : Int))).run Try.prog w = .ok (.slice (some ⟨w.heap.size, 0, none⟩) n n) (w.alloc (.cells (madeCells #[.bool false] (n * 1)) 4)) := make_b n hn
  go_wp2_with fail
  go_step3
  go_wp2_with fail
  go_step3
  go_wp2_with fail
  go_loopg [5] (n - 1) (fun q up wr => ∃ (k : Nat) (V : List Int), k + q = n ∧ 1 ≤ k ∧ up = .int .i64 (k : Int) ∧ Hid (rowsF g ((List.range (n - 1)).drop (k - 1)) V = rowsF g (List.range (n - 1)) []) ∧ St w n #[v0, .slice A1 n c1, .slice A2 n c2, .slice A3 n c3, v4, v5, v6, v7, v8, v9, v10, v11, v12] wr V)
  case atStart => exact ⟨1, [], by omega, by omega, rfl, Lib.hid rfl, st_new w _ n hn⟩
  case round =>
    obtain ⟨k, V, hk, hk1, rfl, HR, hS⟩ := hrel
    cases gk with
    | zero =>
      have d0 : decide (k < n) = false := by simp; omega
      have HV := Lib.hid (show rowsF g (List.range (n - 1)) [] = some V by
        rw [← HR.out, List.drop_eq_nil_of_le (by simp; omega), rowsF])
      have HS := Lib.hid hS
      clear hS HR
      go_wp2_with fail
      go_loopw [7] (fun xv wy => ∃ k : Nat, 1 ≤ k ∧ k ≤ n ∧ xv = .int .i64 (k : Int) ∧ Hid (∀ i, i + 1 < k → met1 g V ((i + 1 : Nat) : Int) = true) ∧ St w n #[v0, .slice A1 n c1, .slice A2 n c2, .slice A3 n c3, v4, v5, v6, v7, v8, v9, v10, v11, v12] wy V) (fun xv _ => n - (intOf xv).toNat)
      case atStart => exact ⟨1, by omega, by omega, rfl, Lib.hid fun i hi => by omega, HS.out⟩
      case round =>
        obtain ⟨k, hk1, hk2, rfl, HA, hS⟩ := hrel
        by_cases hlt : k < n
        · have k0 : (0 : Int) ≤ (k : Int) := by omega
          have k1 : (k : Int) < (n : Int) := by omega
          obtain ⟨hmet, hmf⟩ := met_cell hS.own hlt
          have h0 := hS.box
          obtain ⟨b1, o1, rfl, hb1, hl1, hcell1⟩ := (R1.out.below hS.below).at_ hlt
          obtain ⟨b3, o3, rfl, hb3, hl3, hcell3⟩ := (R3.out.below hS.below).at_ hlt
          rw [← at_lt hl1] at hcell1
          rw [← at_lt hl3] at hcell3
          clear hl1 hl3
          obtain ⟨q1, hq1⟩ : ∃ q1, V.contains (k : Int) = q1 := ⟨_, rfl⟩
          obtain ⟨p, hp⟩ : ∃ p, at' g.pa (k : Int) = p := ⟨_, rfl⟩
          obtain ⟨r, hr⟩ : ∃ r, at' g.ne (k : Int) = r := ⟨_, rfl⟩
          have HM1 := Lib.hid (show met1 g V (k : Int) = ((q1 == (p != 0)) && (q1 || r == 0)) by unfold met1; rw [hq1, hp, hr])
          rw [hq1] at hmet
          rw [hp] at hcell1
          rw [hr] at hcell3
          unfold I at hcell1 hcell3
          clear hp hr hq1
          obtain ⟨x0, x1, x2, x3, x4, x5, x6, x7, x8, x9, x10, x11, x12, xf⟩ := cells13 h0
          have HS := Lib.hid hS
          clear hS
          by_cases hp0 : p = 0
          · subst hp0
            cases q1 with
            | true =>
              have HF := Lib.hid (show rows g = false from (rows_some HG.out HV.out).trans (metA_no hk1 hlt (by rw [HM1.out]; rfl)))
              go_wp2_with fail
              go_quiet (fail)
              go_wp2_with fail
              (try rw [Exit.noGoto_ret])
              go_ret
              exact ⟨by rw [HF.out]; rfl, belowN HS.out.below _⟩
            | false =>
              by_cases hr0 : r = 0
              · subst hr0
                have HN := Lib.hid (show ∀ i, i + 1 < k + 1 → met1 g V ((i + 1 : Nat) : Int) = true from fun i hi => by
                  by_cases h : i + 1 = k
                  · rw [h, HM1.out]; rfl
                  · exact HA.out i (by omega))
                go_wp2_with fail
                go_quiet (fail)
                go_wp2_with fail
                go_roundw
                case rel => exact ⟨k + 1, by omega, by omega, by go_num, HN, HS.out.drewN _⟩
                case measure => simp [intOf]; omega
              · have t1 : (r != 0) = true := by simp [hr0]
                have t2 : (r == 0) = false := by simp [hr0]
                have HF := Lib.hid (show rows g = false from (rows_some HG.out HV.out).trans (metA_no hk1 hlt (by rw [HM1.out, t2]; rfl)))
                clear hr0
                go_wp2_with fail
                go_quiet (fail)
                go_wp2_with fail
                (try rw [Exit.noGoto_ret])
                go_ret
                exact ⟨by rw [HF.out]; rfl, belowN HS.out.below _⟩
          · have t0 : (p != 0) = true := by simp [hp0]
            cases q1 with
            | true =>
              have HN := Lib.hid (show ∀ i, i + 1 < k + 1 → met1 g V ((i + 1 : Nat) : Int) = true from fun i hi => by
                by_cases h : i + 1 = k
                · rw [h, HM1.out, t0]; rfl
                · exact HA.out i (by omega))
              clear hp0
              go_wp2_with fail
              go_quiet (fail)
              go_wp2_with fail
              go_roundw
              case rel => exact ⟨k + 1, by omega, by omega, by go_num, HN, HS.out.drewN _⟩
              case measure => simp [intOf]; omega
            | false =>
              have HF := Lib.hid (show rows g = false from (rows_some HG.out HV.out).trans (metA_no hk1 hlt (by rw [HM1.out, t0]; rfl)))
              clear hp0
              go_wp2_with fail
              go_quiet (fail)
              go_wp2_with fail
              (try rw [Exit.noGoto_ret])
              go_ret
              exact ⟨by rw [HF.out]; rfl, belowN HS.out.below _⟩
        · have d1 : decide (k < n) = false := decide_eq_false hlt
          have HF := Lib.hid (show rows g = true from (rows_some HG.out HV.out).trans (metA_yes fun i hi => HA.out i (by omega)))
          have hB := Lib.hid hS.below
          clear hS
          go_wp2_with fail
          (try rw [Exit.noGoto_ret])
          go_ret
          exact ⟨by rw [HF.out]; rfl, hB.out⟩
    | succ q =>
      have hkn : k < n := by omega
      have k0 : (0 : Int) ≤ (k : Int) := by omega
      have k1 : (k : Int) < (n : Int) := by omega
      obtain ⟨b, o, rfl, hb, hl, hcell⟩ := (R2.out.below hS.below).at_ hkn
      rw [← at_lt hl] at hcell
      obtain ⟨m, hm⟩ := Int.eq_ofNat_of_zero_le (HI.out.2.1 (k : Int)).1
      have hm2 : m < n := by have := (HI.out.2.1 (k : Int)).2; omega
      have HM := Lib.hid hm
      rw [hm] at hcell
      unfold I at hcell
      clear hm hl
      have h0 := hS.box
      obtain ⟨x0, x1, x2, x3, x4, x5, x6, x7, x8, x9, x10, x11, x12, xf⟩ := cells13 h0
      have HS := Lib.hid hS
      clear hS h0
      go_wp2_with fail
      clear x0 x1 x2 x3 x4 x5 x6 x7 x8 x9 x10 x11 x12 xf hcell
      go_loopg [6] (n - V.length) (fun f cv wy => ∃ (c : Nat) (V' : List Int), c < n ∧ cv = .int .i64 (c : Int) ∧ V'.length + f = n ∧ Hid (row g (k : Int) f (c : Int) V' = row g (k : Int) (n - V.length) (at' g.ch (k : Int)) V) ∧ St w n #[v0, .slice A1 n c1, .slice (some ⟨b, o, none⟩) n c2, .slice A3 n c3, v4, v5, v6, v7, v8, v9, v10, v11, v12] wy V')
      case atStart => exact ⟨m, V, hm2, rfl, by have := HS.out.len; omega, Lib.hid (by rw [HM.out]), HS.out⟩
      case round =>
        obtain ⟨c, V', hc, rfl, hlen, HT, hS'⟩ := hrel
        cases gk with
        | zero => exact absurd hS'.len (by omega)
        | succ f =>
          by_cases hc0 : c = 0
          · subst hc0
            have HN := Lib.hid (show rowsF g ((List.range (n - 1)).drop (k + 1 - 1)) V' = rowsF g (List.range (n - 1)) [] by
              have e := rowsF_step (V := V) HG.out hk1 hkn
              rw [← HT.out, show ((0 : Nat) : Int) = 0 from rfl, row, if_pos rfl] at e
              rw [← HR.out, e, Nat.add_sub_cancel])
            go_wp2_with fail
            go_roundg q
            case measure => omega
            case rel => exact ⟨k + 1, V', by omega, by omega, by go_num, HN, hS'⟩
          · have hc1 : 1 ≤ c := by omega
            have hne : ((c : Int) == 0) = false := beq_eq_false_iff_ne.2 (by omega)
            have c0 : (0 : Int) ≤ (c : Int) := by omega
            have c1' : (c : Int) < (n : Int) := by omega
            obtain ⟨hmet, hmf⟩ := met_cell hS'.own hc
            have h0 := hS'.box
            have HU := Lib.hid (show row g (k : Int) (f + 1) (c : Int) V' = if V'.contains (c : Int) || at' g.pa (c : Int) != (k : Int) then none else row g (k : Int) f (at' g.ne (c : Int)) (V' ++ [(c : Int)]) by rw [row, if_neg (by omega)])
            clear hc0
            obtain ⟨q1, hq1⟩ : ∃ q1, V'.contains (c : Int) = q1 := ⟨_, rfl⟩
            rw [hq1] at hmet
            have HQ := Lib.hid hq1
            clear hq1
            cases q1 with
            | true =>
              have HF := Lib.hid (show rows g = false from rows_none HG.out (by
                have e := rowsF_step (V := V) HG.out hk1 hkn
                rw [← HT.out, HU.out, HQ.out, Bool.true_or, if_pos rfl] at e
                rw [← HR.out, e]))
              have hB := Lib.hid hS'.below
              clear hS'
              go_wp2_with fail
              (try rw [Exit.noGoto_ret])
              go_ret
              exact ⟨by rw [HF.out]; rfl, hB.out⟩
            | false =>
              obtain ⟨b1, o1, rfl, hb1, hl1, hcell1⟩ := (R1.out.below hS'.below).at_ hc
              obtain ⟨b3, o3, rfl, hb3, hl3, hcell3⟩ := R3.out.at_ hc
              rw [← at_lt hl1] at hcell1
              rw [← at_lt hl3] at hcell3
              obtain ⟨p, hp⟩ := Int.eq_ofNat_of_zero_le (HI.out.1 (c : Int)).1
              obtain ⟨m3, hm3⟩ := Int.eq_ofNat_of_zero_le (HI.out.2.2 (c : Int)).1
              have hm32 : m3 < n := by have := (HI.out.2.2 (c : Int)).2; omega
              have HP := Lib.hid hp
              have HM3 := Lib.hid hm3
              rw [hp] at hcell1
              rw [hm3] at hcell3
              unfold I at hcell1 hcell3
              clear hp hm3 hl1 hl3
              obtain ⟨x0, x1, x2, x3, x4, x5, x6, x7, x8, x9, x10, x11, x12, xf⟩ := cells13 h0
              by_cases hpk : p = k
              · subst hpk
                have HZ := Lib.hid (show row g (p : Int) f (m3 : Int) (V' ++ [(c : Int)]) = row g (p : Int) (n - V.length) (at' g.ch (p : Int)) V by
                  rw [← HT.out, HU.out, HQ.out, HP.out, HM3.out]; simp)
                have hS2 := Lib.hid (hS'.step hc1 hc HQ.out)
                have hsz := hS'.size
                have f3 := (hS2.out.below.cell (p := ⟨b3, o3 + c, none⟩) hb3).trans hcell3
                clear hS'
                go_wp2_with fail
                go_roundg f
                case measure => omega
                case rel => exact ⟨m3, V' ++ [(c : Int)], hm32, rfl, by simp; omega, HZ, hS2.out⟩
              · have HF := Lib.hid (show rows g = false from rows_none HG.out (by
                  have e := rowsF_step (V := V) HG.out hk1 hkn
                  rw [← HT.out, HU.out, HQ.out, HP.out, show ((p : Int) != (k : Int)) = true by simp; omega, Bool.or_true, if_pos rfl] at e
                  rw [← HR.out, e]))
                have t0 : ((p : Int) != (k : Int)) = true := by simp; omega
                have hB := Lib.hid hS'.below
                clear hS' hpk
                go_wp2_with fail
                (try rw [Exit.noGoto_ret])
                go_ret
                exact ⟨by rw [HF.out]; rfl, hB.out⟩
end Go.Proofs.Ytncdicagadbafaa.RgtR
