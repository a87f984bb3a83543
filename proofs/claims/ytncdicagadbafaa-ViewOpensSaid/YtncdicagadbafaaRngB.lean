/- nest.Below. Conditions: things are within things as they must be; at most 1024 of them. -/
import Derived.Test.YtncdicagadbafaaRngD
import Derived.Test.YtncdicagadbafaaRgIn
namespace Go.Proofs.Ytncdicagadbafaa.RngB
open Go Go.RowKit NestP NestW NestX NestY ValP ValW ValX ValR Sq Rng RngU RngT RngC RngD RgIn
attribute [local go_sem] Oper.semAt_some

/-- What lies below each of some things, in a row. -/
def flat (g : Wd) (k : Nat) (l : List Int) : List Int := l.flatMap fun c => c :: below g k c
theorem flat_snoc (g : Wd) (k : Nat) (l : List Int) (c : Int) : flat g k (l ++ [c]) = (flat g k l ++ [c]) ++ below g k c := by simp [flat]
theorem flat_len {g : Wd} {k M : Nat} : ∀ {l : List Int}, (∀ c ∈ l, (below g k c).length ≤ M) → (flat g k l).length ≤ l.length * (M + 1)
  | [], _ => by simp [flat]
  | c :: l, h => by
    have h1 := flat_len (l := l) fun d hd => h d (List.mem_cons_of_mem _ hd)
    have h2 := h c List.mem_cons_self
    simp only [flat, List.flatMap_cons, List.length_append, List.length_cons] at h1 ⊢
    rw [Nat.add_mul, Nat.one_mul]
    omega
theorem below_len {g : Wd} (hg : NestP.Good g) {k : Nat} {x : Int} (h : g.n ≤ k + (ups g x).length) : (below g k x).length ≤ g.n :=
  Nat.le_trans (few (below_nodup hg k x h) fun e he => ((mem_below hg k x e h).1 he).2.1) (Nat.sub_le _ _)

theorem region_S {v0 v4 v5 v6 v7 v8 v9 v10 v11 v12 v : Value} {A1 A2 A3 : Option Addr} {n c1 n2 c2 n3 c3 b ob : Nat} {U : World}
    (h : U.heap[ob]? = some (.cells #[v] 23 (0, 0)) ∧ U.heap[b]? = some (.cells #[v0, .slice A1 n c1, .slice A2 n2 c2, .slice A3 n3 c3, v4, v5, v6, v7, v8, v9, v10, v11, v12] 31 (0, 0))) {V : World} (hb : Below U.heap.size U V) :
    V.heap[ob]? = some (.cells #[v] 23 (0, 0)) ∧ V.heap[b]? = some (.cells #[v0, .slice A1 n c1, .slice A2 n2 c2, .slice A3 n3 c3, v4, v5, v6, v7, v8, v9, v10, v11, v12] 31 (0, 0)) :=
  ⟨(hb.block _ (Array.getElem?_eq_some_iff.1 h.1).1).trans h.1, (hb.block _ (Array.getElem?_eq_some_iff.1 h.2).1).trans h.2⟩

set_option maxRecDepth 100000 in
set_option maxHeartbeats 4000000 in
theorem below_i {v0 v4 v5 v6 v7 v8 v9 v10 v11 v12 : Value} {A1 A2 A3 : Option Addr} {n c1 c2 c3 : Nat} (g : Wd) (hG : NestP.Good g) (hg : g.n = n) (hn : n ≤ 1024) : ∀ (k : Nat) (x : Int) (w : World), g.n ≤ k + (ups g x).length → Rd I w A2 n g.ch → Rd I w A3 n g.ne →
    Calls Try.prog 50 #[.agg #[v0, .slice A1 n c1, .slice A2 n c2, .slice A3 n c3, v4, v5, v6, v7, v8, v9, v10, v11, v12], .int .i64 x] w fun e w' => ∃ v, e = .returned v ∧ Sq.Own I 3 w' w.heap.size v (below g k x) ∧ Below w.heap.size w w' := by
  intro k
  induction k with
  | zero =>
    intro x w hx _ _
    have := hG.ups_len x
    have := hG.pos
    omega
  | succ k ih =>
    intro x w hx hp2 hp3
    have HIH := Lib.hid ih
    have HX := Lib.hid hx
    have HG := Lib.hid hG
    have HP2 := Lib.hid hp2
    have HP3 := Lib.hid hp3
    have HKL := Lib.hid (show (kids g x).length ≤ n from hg ▸ kids_short g x)
    have HBL := Lib.hid (show ∀ c ∈ kids g x, g.n ≤ k + (ups g c).length ∧ (below g k c).length ≤ n from fun c hc => by
      have h1 : g.n ≤ k + (ups g c).length := by rw [hG.depth_kid hc]; omega
      exact ⟨h1, hg ▸ below_len hG h1⟩)
    clear ih hx hG hp2 hp3
    refine (callsIn_wide (n := 3)).1 ?_
    refine callsIn_of_wp_marks Try.func50 rfl trivial ?_ rfl
    simp only [Try.ntmps50, List.size_toArray, List.length_cons, List.length_nil, Nat.reduceAdd, Nat.reduceSub, Array.replicate_succ, Array.replicate_zero, List.push_toArray, List.append_toArray, List.nil_append, List.cons_append]
    gi_wp2_with (refine ⟨trivial, ?_⟩; gi_at_call 112; refine (callsIn_wide.2 (children_i x _)).mono ?_; rintro e w' ⟨rfl, rfl⟩)
    obtain ⟨W4, hW4⟩ : ∃ W4, (((w.alloc (.cells #[v0, .slice A1 n c1, .slice A2 n c2, .slice A3 n c3, v4, v5, v6, v7, v8, v9, v10, v11, v12] 31)).alloc (.cells #[.slice none 0 0] 23)).alloc (.cells #[v0, .slice A1 n c1, .slice A2 n c2, .slice A3 n c3, v4, v5, v6, v7, v8, v9, v10, v11, v12] 31)).alloc (.cells #[.int .i64 x] 3) = W4 := ⟨_, rfl⟩
    obtain ⟨s4, f0, f1, f2, f3, hB4⟩ := alloc4 hW4
    rw [hW4]
    clear hW4
    refine wpIn_rangeFunc_ownG rfl (by omega) (gf := 162) (lb := #[.pointer (some ⟨w.heap.size + 1 + 1, 0, none⟩), .pointer (some ⟨w.heap.size + 1 + 1 + 1, 0, none⟩)]) rfl trivial (enters_of Try.func162 (by kernel_rfl) rfl)
      (children_stopsK g x w W4 (w.heap.size + 1 + 1) (w.heap.size + 1 + 1 + 1) (w.heap.size + 1) (w.heap.size + 4) hg HP2.out HP3.out (by omega) f2 f3 ⟨hB4.size, hB4.block⟩ (by omega) (by omega) (by omega) (by omega) (by omega) (by omega) (by omega))
      Kept.t (fun W l o o' h1 h2 h3 _ => Kept.b (by omega) W l o o' h1 h2 h3) (Below.refl _ _) (fun _ => rfl)
      (fun pre W => (∃ v, Boxed W (w.heap.size + 1) 23 v ∧ W.ownsRow (w.heap.size + 4) 3 1 v (flat g k (pre.map (·.1))).length ((flat g k (pre.map (·.1))).map I) ∧ True) ∧ (W.heap[w.heap.size]? = some (.cells #[v0, .slice A1 n c1, .slice A2 n c2, .slice A3 n c3, v4, v5, v6, v7, v8, v9, v10, v11, v12] 31 (0, 0)) ∧ (w.heap.size + 4 ≤ W.heap.size ∧ Below w.heap.size w W)))
      (fun _ _ _ => False)
      (OwnFrom.and (Own.from (holdsRow_own (w.heap.size + 4) (w.heap.size + 1) 23 3 1 (fun pre : List (Kid g x) => (flat g k (pre.map (·.1))).length) (fun pre => (flat g k (pre.map (·.1))).map I) (fun _ _ => True)) _) (OwnFrom.and (own_cells _ _ _ _ _) (OwnFrom.and (fun _ _ _ _ hs hg _ => Nat.le_trans hs hg.size) (ownFrom_below (Nat.le_refl _) (by omega)))))
      (fun _ _ _ _ _ hs _ _ => hs)
      ⟨⟨_, f1, World.ownsRow_nil _ _ _ _, trivial⟩, f0, by omega, hB4⟩
      (fun c => { tmps := #[.agg #[v0, .slice A1 n c1, .slice A2 n c2, .slice A3 n c3, v4, v5, v6, v7, v8, v9, v10, v11, v12], .int .i64 x, .pointer (some ⟨w.heap.size, 0, none⟩), undef, .slice none 0 0, .pointer (some ⟨w.heap.size + 1, 0, none⟩), .int .i64 c.1, .agg #[v0, .slice A1 n c1, .slice A2 n c2, .slice A3 n c3, v4, v5, v6, v7, v8, v9, v10, v11, v12], .int .i64 x, .func (.func 162) #[] #[.pointer (some ⟨w.heap.size + 1 + 1, 0, none⟩), .pointer (some ⟨w.heap.size + 1 + 1 + 1, 0, none⟩)], .int .i64 c.1, undef, undef, undef, undef, undef, undef, undef, undef, undef], defers := [] }) ?assign ?body ?done ?stop
    case assign =>
      intro l x W K hK
      gi_wp2
      exact hK
    case body =>
      rintro l pre ⟨c, hcm⟩ W ⟨⟨v, hv, hrow, _⟩, hw0, hs, hB⟩ hlt
      have HV : Sq.Own I 3 W (w.heap.size + 4) v (flat g k (pre.map (·.1))) := hrow
      have HL := Lib.hid (show (flat g k (pre.map (·.1))).length ≤ 1024 * 1025 from Nat.le_trans (flat_len (M := n) fun d hd => by
        obtain ⟨e, _, rfl⟩ := List.mem_map.1 hd
        exact (HBL.out _ e.2).2) (by rw [List.length_map]; exact Nat.mul_le_mul (by have := HKL.out; omega) (by omega)))
      obtain ⟨U1, hU1⟩ : ∃ U1, W.drew.alloc (.cells #[.int .i64 c] 3) = U1 := ⟨_, rfl⟩
      have st1 : St (w.heap.size + 4) W U1 := by subst hU1; exact (St.refl _ _).drew.alloc hs _
      have hr1 : Rd I U1 (some ⟨W.heap.size, 0, none⟩) 1 [c] := by subst hU1; exact rd_lit W.drew 3 [c] #[.int .i64 c] rfl 1 rfl
      have HV1 : Sq.Own I 3 U1 (w.heap.size + 4) v (flat g k (pre.map (·.1))) := by subst hU1; exact HV.drew.alloc _
      have hS1 := hw0
      have hS2 := (st1.1.block _ (by omega)).trans hw0
      have hv1 := (st1.1.block _ (by omega)).trans hv
      have hB1 := Nat.le_trans hs st1.1.size
      have HL2 := HL.out
      clear hrow
      gi_wp2
      refine region_held (S := fun U => U.heap[w.heap.size]? = some (.cells #[v0, .slice A1 n c1, .slice A2 n c2, .slice A3 n c3, v4, v5, v6, v7, v8, v9, v10, v11, v12] 31 (0, 0))) (by kernel_rfl) (by kernel_rfl) (fun ⟨_, _, h⟩ => h) hw0 (fun hHeld => ?_)
      refine Rg.take (i := 1) (t := 12) rfl rfl (by kernel_rfl) (by kernel_rfl) (by kernel_rfl) (fun _ _ _ h => h) (by rfl) (by intro w0 hSw; first | (go_simp; done) | (go_simp; with_reducible rfl)) (by assumption) ?_
      simp only [List.setIfInBounds_toArray, List.set_cons_zero, List.set_cons_succ]
      refine Rg.take (i := 4) (t := 15) rfl rfl (by kernel_rfl) (by kernel_rfl) (by kernel_rfl) (fun _ _ _ h => h) (by rfl) (by intro w0 hSw; obtain ⟨x0, x1, x2, x3, x4, x5, x6, x7, x8, x9, x10, x11, x12, xf⟩ := cells13 hSw; first | (go_simp; done) | (go_simp; with_reducible rfl)) (by assumption) ?_
      simp only [List.setIfInBounds_toArray, List.set_cons_zero, List.set_cons_succ]
      refine Rg.take (i := 5) (t := 16) rfl rfl (by kernel_rfl) (by kernel_rfl) (by kernel_rfl) (fun _ _ _ h => h) (by rfl) (by intro w0 hSw; first | (go_simp; done) | (go_simp; with_reducible rfl)) (by assumption) ?_
      simp only [List.setIfInBounds_toArray, List.set_cons_zero, List.set_cons_succ]
      refine Rg.two (i := 0) (j := 2) (by kernel_rfl) ?_ ?_
      · refine Rg.eff (i := 0) (t := 11) (v := v) (w1 := W.drew) rfl rfl (by rfl) (by have z := (cell1 hv).1; first | (go_simp; done) | (go_simp; rfl)) (fun U => U.heap[w.heap.size]? = some (.cells #[v0, .slice A1 n c1, .slice A2 n c2, .slice A3 n c3, v4, v5, v6, v7, v8, v9, v10, v11, v12] 31 (0, 0))) (fun _ h => h) hS1 ?_
        simp only [List.setIfInBounds_toArray, List.set_cons_zero, List.set_cons_succ]
        refine Rg.one (i := 2) (by kernel_rfl) ?_
        refine Rg.eff (i := 2) (t := 13) (v := .slice (some ⟨W.heap.size, 0, none⟩) 1 1) (w1 := U1) rfl rfl (by rfl) (by rw [← hU1]; first | (go_simp; done) | (go_simp; rfl)) (fun U => U.heap[w.heap.size]? = some (.cells #[v0, .slice A1 n c1, .slice A2 n c2, .slice A3 n c3, v4, v5, v6, v7, v8, v9, v10, v11, v12] 31 (0, 0))) (fun _ h => h) hS2 ?_
        simp only [List.setIfInBounds_toArray, List.set_cons_zero, List.set_cons_succ]
        refine Rg.one (i := 3) (by kernel_rfl) ?_
        refine app elI (i := 3) (t := 14) (.tmp 11) (.tmp 13) rfl rfl (by rfl) rfl rfl HV1 (some ⟨W.heap.size, 0, none⟩) 1 1 [c] rfl hr1 (by unfold maxLen; omega) (by omega) hB1 ?_
        intro v14 U2 ho2 hb2 hg2 _
        have st2 := st1.app HV1 hb2 hg2
        have hS3 := (st2.1.block _ (by omega)).trans hw0
        have hB2 := Nat.le_trans hs st2.1.size
        have bb2 := hB.trans (st2.1.mono (by omega))
        refine ⟨hS3, ?_⟩
        simp only [List.setIfInBounds_toArray, List.set_cons_zero, List.set_cons_succ]
        refine Rg.one (i := 6) (by kernel_rfl) ?_
        refine Rg.call (i := 6) (t := 17) rfl rfl (by rfl) (by go_simp; exact ⟨rfl, rfl⟩) ?_
        refine (HIH.out c U2 (HBL.out c hcm).1 (HP2.out.below bb2) (HP3.out.below bb2)).mono ?_
        rintro e U3 ⟨v17, rfl, ho3, hb3⟩
        have st3 := st2.call hB2 hb3
        have hS4 := (st3.1.block _ (by omega)).trans hw0
        have hB3 := Nat.le_trans hs st3.1.size
        have ho2' := ho2.below hb3
        obtain ⟨A17, c17, rfl, _, _⟩ := ho3.shape
        refine ⟨_, rfl, fun U => U.heap[w.heap.size]? = some (.cells #[v0, .slice A1 n c1, .slice A2 n c2, .slice A3 n c3, v4, v5, v6, v7, v8, v9, v10, v11, v12] 31 (0, 0)), fun _ h => h, hS4, ?_⟩
        simp only [List.setIfInBounds_toArray, List.set_cons_zero, List.set_cons_succ]
        refine Rg.one (i := 7) (by kernel_rfl) ?_
        refine app elI (i := 7) (t := 18) (.tmp 14) (.tmp 17) rfl rfl (by rfl) rfl rfl ho2' A17 _ c17 (below g k c) rfl ho3.rd (by have := (HBL.out c hcm).2; rw [List.length_append, List.length_singleton]; unfold maxLen; omega) (by have := (HBL.out c hcm).2; rw [List.length_append, List.length_singleton]; omega) hB3 ?_
        intro v18 U4 ho4 hb4 hg4 _
        obtain ⟨A18, m18, c18, rfl⟩ : ∃ A m c, v18 = .slice A m c := by obtain ⟨A, c', h, _⟩ := ho4.shape; exact ⟨A, _, c', h⟩
        have st4 := st3.app ho2' hb4 hg4
        have hS5 := (st4.1.block _ (by omega)).trans hw0
        have hv5 := (st4.1.block _ (by omega)).trans hv
        have hB4' := Nat.le_trans hs st4.1.size
        refine ⟨hS5, ?_⟩
        simp only [List.setIfInBounds_toArray, List.set_cons_zero, List.set_cons_succ]
        refine Rg.one (i := 8) (by kernel_rfl) ?_
        refine effN (i := 8) (w1 := U4.setCell ⟨w.heap.size + 1, 0, none⟩ (.slice A18 m18 c18)) rfl rfl (by rfl) (by obtain ⟨z, zf⟩ := cell1 hv5; first | (go_simp; done) | (go_simp; rfl)) ⟨(set_other (by omega)).trans hS5, ?_⟩
        refine wpAnyH_done (by kernel_rfl) ?_ _
        gi_wp2
        exact ⟨(st4.2.trans (KeepsOthers.setCell _ _ _)).from _, ⟨by simp; exact st4.1.size, fun i hi ho => (set_other ho).trans (st4.1.block i hi)⟩,
          ⟨⟨.slice A18 m18 c18, (heapSet hv5 0 _).trans (by simp), by
            have h := own_set ho4 (show w.heap.size + 1 < w.heap.size + 4 by omega) (.slice A18 m18 c18)
            rw [← flat_snoc] at h
            rw [List.map_append]
            exact h, trivial⟩, (set_other (by omega)).trans hS5, by simp; exact hB4', (hB.trans (st4.1.mono (by omega))).setCell (by simp) _⟩⟩
      · refine Rg.eff (i := 2) (t := 13) (v := .slice (some ⟨W.heap.size, 0, none⟩) 1 1) (w1 := U1) rfl rfl (by rfl) (by rw [← hU1]; first | (go_simp; done) | (go_simp; rfl)) (fun U => U.heap[w.heap.size]? = some (.cells #[v0, .slice A1 n c1, .slice A2 n c2, .slice A3 n c3, v4, v5, v6, v7, v8, v9, v10, v11, v12] 31 (0, 0))) (fun _ h => h) hS2 ?_
        simp only [List.setIfInBounds_toArray, List.set_cons_zero, List.set_cons_succ]
        refine Rg.one (i := 0) (by kernel_rfl) ?_
        refine Rg.eff (i := 0) (t := 11) (v := v) (w1 := U1) rfl rfl (by rfl) (by have z := (cell1 hv1).1; first | (go_simp; done) | (go_simp; rfl)) (fun U => U.heap[w.heap.size]? = some (.cells #[v0, .slice A1 n c1, .slice A2 n c2, .slice A3 n c3, v4, v5, v6, v7, v8, v9, v10, v11, v12] 31 (0, 0))) (fun _ h => h) hS2 ?_
        simp only [List.setIfInBounds_toArray, List.set_cons_zero, List.set_cons_succ]
        refine Rg.one (i := 3) (by kernel_rfl) ?_
        refine app elI (i := 3) (t := 14) (.tmp 11) (.tmp 13) rfl rfl (by rfl) rfl rfl HV1 (some ⟨W.heap.size, 0, none⟩) 1 1 [c] rfl hr1 (by unfold maxLen; omega) (by omega) hB1 ?_
        intro v14 U2 ho2 hb2 hg2 _
        have st2 := st1.app HV1 hb2 hg2
        have hS3 := (st2.1.block _ (by omega)).trans hw0
        have hB2 := Nat.le_trans hs st2.1.size
        have bb2 := hB.trans (st2.1.mono (by omega))
        refine ⟨hS3, ?_⟩
        simp only [List.setIfInBounds_toArray, List.set_cons_zero, List.set_cons_succ]
        refine Rg.one (i := 6) (by kernel_rfl) ?_
        refine Rg.call (i := 6) (t := 17) rfl rfl (by rfl) (by go_simp; exact ⟨rfl, rfl⟩) ?_
        refine (HIH.out c U2 (HBL.out c hcm).1 (HP2.out.below bb2) (HP3.out.below bb2)).mono ?_
        rintro e U3 ⟨v17, rfl, ho3, hb3⟩
        have st3 := st2.call hB2 hb3
        have hS4 := (st3.1.block _ (by omega)).trans hw0
        have hB3 := Nat.le_trans hs st3.1.size
        have ho2' := ho2.below hb3
        obtain ⟨A17, c17, rfl, _, _⟩ := ho3.shape
        refine ⟨_, rfl, fun U => U.heap[w.heap.size]? = some (.cells #[v0, .slice A1 n c1, .slice A2 n c2, .slice A3 n c3, v4, v5, v6, v7, v8, v9, v10, v11, v12] 31 (0, 0)), fun _ h => h, hS4, ?_⟩
        simp only [List.setIfInBounds_toArray, List.set_cons_zero, List.set_cons_succ]
        refine Rg.one (i := 7) (by kernel_rfl) ?_
        refine app elI (i := 7) (t := 18) (.tmp 14) (.tmp 17) rfl rfl (by rfl) rfl rfl ho2' A17 _ c17 (below g k c) rfl ho3.rd (by have := (HBL.out c hcm).2; rw [List.length_append, List.length_singleton]; unfold maxLen; omega) (by have := (HBL.out c hcm).2; rw [List.length_append, List.length_singleton]; omega) hB3 ?_
        intro v18 U4 ho4 hb4 hg4 _
        obtain ⟨A18, m18, c18, rfl⟩ : ∃ A m c, v18 = .slice A m c := by obtain ⟨A, c', h, _⟩ := ho4.shape; exact ⟨A, _, c', h⟩
        have st4 := st3.app ho2' hb4 hg4
        have hS5 := (st4.1.block _ (by omega)).trans hw0
        have hv5 := (st4.1.block _ (by omega)).trans hv
        have hB4' := Nat.le_trans hs st4.1.size
        refine ⟨hS5, ?_⟩
        simp only [List.setIfInBounds_toArray, List.set_cons_zero, List.set_cons_succ]
        refine Rg.one (i := 8) (by kernel_rfl) ?_
        refine effN (i := 8) (w1 := U4.setCell ⟨w.heap.size + 1, 0, none⟩ (.slice A18 m18 c18)) rfl rfl (by rfl) (by obtain ⟨z, zf⟩ := cell1 hv5; first | (go_simp; done) | (go_simp; rfl)) ⟨(set_other (by omega)).trans hS5, ?_⟩
        refine wpAnyH_done (by kernel_rfl) ?_ _
        gi_wp2
        exact ⟨(st4.2.trans (KeepsOthers.setCell _ _ _)).from _, ⟨by simp; exact st4.1.size, fun i hi ho => (set_other ho).trans (st4.1.block i hi)⟩,
          ⟨⟨.slice A18 m18 c18, (heapSet hv5 0 _).trans (by simp), by
            have h := own_set ho4 (show w.heap.size + 1 < w.heap.size + 4 by omega) (.slice A18 m18 c18)
            rw [← flat_snoc] at h
            rw [List.map_append]
            exact h, trivial⟩, (set_other (by omega)).trans hS5, by simp; exact hB4', (hB.trans (st4.1.mono (by omega))).setCell (by simp) _⟩⟩
    case done =>
      rintro D ys W hD hys ⟨⟨v, hv, hrow, _⟩, _, _, hB⟩ hK
      have hc := hv.cell
      gi_wp2
      refine ⟨by simp, .inl ⟨_, _, rfl, run_takeDeferred hK, ?_⟩⟩
      exact ⟨_, results_tmp rfl _ _ _, v, rfl, by rw [hys] at hrow; exact Sq.Own.lower (ownsRow_putObj hrow _ hK rfl) (by omega), hB.trans (belowK_b (w := w) (Nat.le_refl _) W D _ _ (by omega) hK rfl rfl)⟩
    case stop =>
      rintro D c pre W _ _ h _
      exact h.elim
end Go.Proofs.Ytncdicagadbafaa.RngB
