/- nest.ups, nest.Top, nest.Within. Conditions: the list of parents reads. -/
import Derived.Test.YtncdicagadbafaaRngU
namespace Go.Proofs.Ytncdicagadbafaa.RngT
open Go Go.RowKit NestP NestW NestX NestY ValP ValW ValX ValR Sq Rng RngU
attribute [local go_sem] Oper.semAt_some

theorem ups_i {v0 v4 v5 v6 v7 v8 v9 v10 v11 v12 : Value} {A1 A2 A3 : Option Addr} {n c1 n2 c2 n3 c3 : Nat} (x : Int) (w : World) :
    Calls Try.prog 114 #[.agg #[v0, .slice A1 n c1, .slice A2 n2 c2, .slice A3 n3 c3, v4, v5, v6, v7, v8, v9, v10, v11, v12], .int .i64 x] w fun e w' => e = .returned (.func (.func 164) #[] #[.pointer (some ⟨w.heap.size, 0, none⟩), .pointer (some ⟨w.heap.size + 1, 0, none⟩)]) ∧ w' = (w.alloc (.cells #[v0, .slice A1 n c1, .slice A2 n2 c2, .slice A3 n3 c3, v4, v5, v6, v7, v8, v9, v10, v11, v12] 31)).alloc (.cells #[.int .i64 x] 3) := by
  go_enter Try.func114, Try.ntmps114
  go_wp2_with fail
  go_ret
  exact ⟨rfl, rfl⟩

theorem alloc4 {w W : World} {o1 o2 o3 o4 : Obj} (h : (((w.alloc o1).alloc o2).alloc o3).alloc o4 = W) :
    W.heap.size = w.heap.size + 4 ∧ W.heap[w.heap.size]? = some o1 ∧ W.heap[w.heap.size + 1]? = some o2 ∧ W.heap[w.heap.size + 1 + 1]? = some o3 ∧ W.heap[w.heap.size + 1 + 1 + 1]? = some o4 ∧ Below w.heap.size w W := by
  subst h
  have n1 := World.alloc_heap_new w o1
  have n2 := World.alloc_heap_new (w.alloc o1) o2
  have n3 := World.alloc_heap_new ((w.alloc o1).alloc o2) o3
  have n4 := World.alloc_heap_new (((w.alloc o1).alloc o2).alloc o3) o4
  simp only [World.size_alloc] at n2 n3 n4
  refine ⟨by simp, ?_, ?_, ?_, n4, (((((Below.refl _ w).alloc (Nat.le_refl _) _).alloc (by simp only [World.size_alloc]; omega) _).alloc (by simp only [World.size_alloc]; omega) _).alloc (by simp only [World.size_alloc]; omega) _)⟩
  · exact (Below.heap_alloc _ _ _ (by simp only [World.size_alloc]; omega)).trans ((Below.heap_alloc _ _ _ (by simp only [World.size_alloc]; omega)).trans ((Below.heap_alloc _ _ _ (by simp only [World.size_alloc]; omega)).trans n1))
  · exact (Below.heap_alloc _ _ _ (by simp only [World.size_alloc]; omega)).trans ((Below.heap_alloc _ _ _ (by simp only [World.size_alloc]; omega)).trans n2)
  · exact (Below.heap_alloc _ _ _ (by simp only [World.size_alloc]; omega)).trans n3
theorem own_heap {β : Type} (B k : Nat) (cs : β → Array Value) (t : TypeId) (fr : Nat × Nat) : OwnFrom B (fun s W => W.heap[k]? = some (.cells (cs s) t fr)) :=
  fun _ _ _ _ hs hg hr => (grownBy_keeps_cells hg (fun r e => (hr r e).2) hs rfl).trans hs
set_option maxRecDepth 100000 in
set_option maxHeartbeats 4000000 in
theorem top_i {v0 v4 v5 v6 v7 v8 v9 v10 v11 v12 : Value} {A1 A2 A3 : Option Addr} {n c1 n2 c2 n3 c3 : Nat} (g : Wd) (x : Int) (w : World) (hp : Rd I w A1 n g.pa) (hn : n ≤ 17592186043904) :
    Calls Try.prog 54 #[.agg #[v0, .slice A1 n c1, .slice A2 n2 c2, .slice A3 n3 c3, v4, v5, v6, v7, v8, v9, v10, v11, v12], .int .i64 x] w fun e w' => e = .returned (.int .i64 (top g x)) ∧ Below w.heap.size w w' := by
  refine (callsIn_wide (n := 3)).1 ?_
  refine callsIn_of_wp_marks Try.func54 rfl trivial ?_ rfl
  simp only [Try.ntmps54, List.size_toArray, List.length_cons, List.length_nil, Nat.reduceAdd, Nat.reduceSub, Array.replicate_succ, Array.replicate_zero, List.push_toArray, List.append_toArray, List.nil_append, List.cons_append]
  gi_wp2_with (refine ⟨trivial, ?_⟩; gi_at_call 114; refine (callsIn_wide.2 (ups_i x _)).mono ?_; rintro e w' ⟨rfl, rfl⟩)
  obtain ⟨W4, hW4⟩ : ∃ W4, (((w.alloc (.cells #[v0, .slice A1 n c1, .slice A2 n2 c2, .slice A3 n3 c3, v4, v5, v6, v7, v8, v9, v10, v11, v12] 31)).alloc (.cells #[.int .i64 0] 3)).alloc (.cells #[v0, .slice A1 n c1, .slice A2 n2 c2, .slice A3 n3 c3, v4, v5, v6, v7, v8, v9, v10, v11, v12] 31)).alloc (.cells #[.int .i64 x] 3) = W4 := ⟨_, rfl⟩
  obtain ⟨s4, f0, f1, f2, f3, hB4⟩ := alloc4 hW4
  rw [hW4]
  clear hW4
  refine range (gf := 164) (lb := #[.pointer (some ⟨w.heap.size + 1 + 1, 0, none⟩), .pointer (some ⟨w.heap.size + 1 + 1 + 1, 0, none⟩)]) rfl (enters_of Try.func164 (by kernel_rfl) rfl)
    (ups_gives g x w W4 (w.heap.size + 1 + 1) (w.heap.size + 1 + 1 + 1) (w.heap.size + 1) (w.heap.size + 4) hp hn f2 f3 ⟨hB4.size, hB4.block⟩ (by omega) (by omega) (by omega) (by omega) (by omega) (by omega) (by omega) (by omega) (by omega))
    (by omega) Kept.t (Kept.b (by omega)) (Below.refl _ _) (fun _ => rfl)
    (fun pre W => W.heap[w.heap.size + 1]? = some (.cells #[.int .i64 (pre.getLastD 0)] 3 (0, 0)) ∧ Below w.heap.size w W) (fun _ _ _ => False)
    (OwnFrom.and (own_heap _ _ (fun pre : List Int => #[.int .i64 (pre.getLastD 0)]) _ _) (ownFrom_below (Nat.le_refl _) (by omega))) (fun _ _ _ _ _ hs _ _ => hs)
    (fun _ W v h => ⟨(set_other (by omega)).trans h.1, h.2.setCell (by simp; omega) _⟩) (fun _ _ _ _ h => h)
    ⟨f1, hB4⟩
    (fun c => { tmps := #[.agg #[v0, .slice A1 n c1, .slice A2 n2 c2, .slice A3 n3 c3, v4, v5, v6, v7, v8, v9, v10, v11, v12], .int .i64 x, .pointer (some ⟨w.heap.size, 0, none⟩), undef, .int .i64 0, .pointer (some ⟨w.heap.size + 1, 0, none⟩), .int .i64 c, .agg #[v0, .slice A1 n c1, .slice A2 n2 c2, .slice A3 n3 c3, v4, v5, v6, v7, v8, v9, v10, v11, v12], .int .i64 x, .func (.func 164) #[] #[.pointer (some ⟨w.heap.size + 1 + 1, 0, none⟩), .pointer (some ⟨w.heap.size + 1 + 1 + 1, 0, none⟩)], .int .i64 c, undef, undef], defers := [] }) ?assign ?body ?done ?stop
  case assign =>
    intro l c W K hK
    gi_wp2
    exact hK
  case body =>
    rintro l pre c W ⟨hc, hB⟩ _
    obtain ⟨c0, cf⟩ := cell1 hc
    gi_wp2
    exact ⟨KeepsOthers.setCell _ _ _, ⟨by simp, fun k hk ho => set_other ho⟩, (heapSet hc 0 _).trans (by simp), hB.setCell (by simp) _⟩
  case done =>
    rintro D ys W hD rfl ⟨hc, hB⟩ hK
    obtain ⟨c0, cf⟩ := cell1 hc
    gi_wp2
    refine ⟨by simp, .inl ⟨_, _, rfl, run_takeDeferred hK, ?_⟩⟩
    exact ⟨_, results_tmp rfl _ _ _, by rw [show top g x = (ups g x).getLast?.getD 0 by simp [top]]; rfl, hB.trans (belowK_b (w := w) (Nat.le_refl _) W D _ _ (by omega) hK rfl rfl)⟩
  case stop =>
    rintro D c pre W _ _ h _
    exact h.elim

theorem alloc5 {w W : World} {o1 o2 o3 o4 o5 : Obj} (h : ((((w.alloc o1).alloc o2).alloc o3).alloc o4).alloc o5 = W) :
    W.heap.size = w.heap.size + 5 ∧ W.heap[w.heap.size]? = some o1 ∧ W.heap[w.heap.size + 1]? = some o2 ∧ W.heap[w.heap.size + 1 + 1]? = some o3 ∧ W.heap[w.heap.size + 1 + 1 + 1]? = some o4 ∧ W.heap[w.heap.size + 1 + 1 + 1 + 1]? = some o5 ∧ Below w.heap.size w W := by
  obtain ⟨V, hV⟩ : ∃ V, (((w.alloc o1).alloc o2).alloc o3).alloc o4 = V := ⟨_, rfl⟩
  obtain ⟨h4, k0, k1, k2, k3, hB⟩ := alloc4 hV
  rw [hV] at h
  subst h
  have n5 := World.alloc_heap_new V o5
  rw [h4] at n5
  exact ⟨by simp [h4], (Below.heap_alloc _ _ _ (by omega)).trans k0, (Below.heap_alloc _ _ _ (by omega)).trans k1, (Below.heap_alloc _ _ _ (by omega)).trans k2, (Below.heap_alloc _ _ _ (by omega)).trans k3, n5, hB.alloc hB.size _⟩
theorem results_cell {P : Program} {fn : Func} {p : Tmp} {ty : TypeId} (h : fn.results = #[.cell p ty]) (tmps : Array Value) (w : World) (g : Nat) (v : Value)
    (hp : tmps.getD p undef = .pointer (some ⟨g, 0, none⟩)) (hu : P.underlying ty = some .bool) {t : TypeId} {fr : Nat × Nat} (hg : w.heap[g]? = some (.cells #[v] t fr)) : (results fn tmps).run P w = .ok v w := by
  have hp' : tmps[p]?.getD undef = .pointer (some ⟨g, 0, none⟩) := by simpa using hp
  have hc : w.cell? ⟨g, 0, none⟩ = some v := by simp [World.cell?, hg]
  simp [results, h, hp', asAddr, go_sem, isAgg, underlying, hu, hc]
theorem own_cells {β : Type} (B k : Nat) (cs : Array Value) (t : TypeId) (fr : Nat × Nat) : OwnFrom B (fun (_ : β) W => W.heap[k]? = some (.cells cs t fr)) := own_heap B k (fun _ => cs) t fr
theorem own_pure {β : Type} (B : Nat) (p : β → Prop) : OwnFrom B (fun s (_ : World) => p s) := fun _ _ _ _ hs _ _ => hs

set_option maxRecDepth 100000 in
set_option maxHeartbeats 4000000 in
theorem within_i {v0 v4 v5 v6 v7 v8 v9 v10 v11 v12 : Value} {A1 A2 A3 : Option Addr} {n c1 n2 c2 n3 c3 : Nat} (g : Wd) (x y : Int) (w : World) (hp : Rd I w A1 n g.pa) (hn : n ≤ 17592186043904) :
    Calls Try.prog 52 #[.agg #[v0, .slice A1 n c1, .slice A2 n2 c2, .slice A3 n3 c3, v4, v5, v6, v7, v8, v9, v10, v11, v12], .int .i64 x, .int .i64 y] w fun e w' => e = .returned (.bool (within g x y)) ∧ Below w.heap.size w w' := by
  refine (callsIn_wide (n := 3)).1 ?_
  refine callsIn_of_wp_marks Try.func52 rfl trivial ?_ rfl
  simp only [Try.ntmps52, List.size_toArray, List.length_cons, List.length_nil, Nat.reduceAdd, Nat.reduceSub, Array.replicate_succ, Array.replicate_zero, List.push_toArray, List.append_toArray, List.nil_append, List.cons_append]
  gi_wp2_with (refine ⟨trivial, ?_⟩; gi_at_call 114; refine (callsIn_wide.2 (ups_i x _)).mono ?_; rintro e w' ⟨rfl, rfl⟩)
  obtain ⟨W5, hW5⟩ : ∃ W5, ((((w.alloc (.cells #[v0, .slice A1 n c1, .slice A2 n2 c2, .slice A3 n3 c3, v4, v5, v6, v7, v8, v9, v10, v11, v12] 31)).alloc (.cells #[.int .i64 y] 3)).alloc (.cells #[.bool false] 4)).alloc (.cells #[v0, .slice A1 n c1, .slice A2 n2 c2, .slice A3 n3 c3, v4, v5, v6, v7, v8, v9, v10, v11, v12] 31)).alloc (.cells #[.int .i64 x] 3) = W5 := ⟨_, rfl⟩
  obtain ⟨s5, f0, f1, f2, f3, f4, hB5⟩ := alloc5 hW5
  rw [hW5]
  clear hW5
  refine range (gf := 164) (lb := #[.pointer (some ⟨w.heap.size + 1 + 1 + 1, 0, none⟩), .pointer (some ⟨w.heap.size + 1 + 1 + 1 + 1, 0, none⟩)]) rfl (enters_of Try.func164 (by kernel_rfl) rfl)
    (ups_gives g x w W5 (w.heap.size + 1 + 1 + 1) (w.heap.size + 1 + 1 + 1 + 1) (w.heap.size + 1 + 1) (w.heap.size + 5) hp hn f3 f4 ⟨hB5.size, hB5.block⟩ (by omega) (by omega) (by omega) (by omega) (by omega) (by omega) (by omega) (by omega) (by omega))
    (by omega) Kept.t (Kept.b (by omega)) (Below.refl _ _) (fun _ => rfl)
    (fun pre W => (W.heap[w.heap.size + 1]? = some (.cells #[.int .i64 y] 3 (0, 0)) ∧ (W.heap[w.heap.size + 1 + 1]? = some (.cells #[.bool false] 4 (0, 0)) ∧ y ∉ pre)) ∧ Below w.heap.size w W)
    (fun c pre W => (W.heap[w.heap.size + 1 + 1]? = some (.cells #[.bool true] 4 (0, 0)) ∧ (y ∈ pre ∧ c = .ret)) ∧ Below w.heap.size w W)
    (OwnFrom.and (OwnFrom.and (own_cells _ _ _ _ _) (OwnFrom.and (own_cells _ _ _ _ _) (own_pure _ (fun pre => y ∉ pre)))) (ownFrom_below (Nat.le_refl _) (by omega)))
    (fun c => OwnFrom.and (OwnFrom.and (own_cells _ _ _ _ _) (own_pure _ (fun pre => y ∈ pre ∧ c = .ret))) (ownFrom_below (Nat.le_refl _) (by omega)))
    (fun _ W v h => ⟨⟨(set_other (by omega)).trans h.1.1, (set_other (by omega)).trans h.1.2.1, h.1.2.2⟩, h.2.setCell (by simp; omega) _⟩)
    (fun c _ W v h => ⟨⟨(set_other (by omega)).trans h.1.1, h.1.2⟩, h.2.setCell (by simp; omega) _⟩)
    ⟨⟨f1, f2, by simp⟩, hB5⟩
    (fun c => { tmps := #[.agg #[v0, .slice A1 n c1, .slice A2 n2 c2, .slice A3 n3 c3, v4, v5, v6, v7, v8, v9, v10, v11, v12], .int .i64 x, .int .i64 y, .pointer (some ⟨w.heap.size, 0, none⟩), undef, .pointer (some ⟨w.heap.size + 1, 0, none⟩), .pointer (some ⟨w.heap.size + 1 + 1, 0, none⟩), .int .i64 c, .agg #[v0, .slice A1 n c1, .slice A2 n2 c2, .slice A3 n3 c3, v4, v5, v6, v7, v8, v9, v10, v11, v12], .int .i64 x, .func (.func 164) #[] #[.pointer (some ⟨w.heap.size + 1 + 1 + 1, 0, none⟩), .pointer (some ⟨w.heap.size + 1 + 1 + 1 + 1, 0, none⟩)], .int .i64 c, undef, undef, undef], defers := [] }) ?assign ?body ?done ?stop
  case assign =>
    intro l c W K hK
    gi_wp2
    exact hK
  case body =>
    rintro l pre c W ⟨⟨hy, hr, hni⟩, hB⟩ _
    obtain ⟨c0, cf⟩ := cell1 hy
    obtain ⟨d0, df⟩ := cell1 hr
    have HNI := Lib.hid hni
    clear hni
    by_cases hcy : c = y
    · subst hcy
      gi_wp2
      exact ⟨KeepsOthers.setCell _ _ _, ⟨(heapSet hr 0 _).trans (by simp), by simp, rfl⟩, hB.setCell (by simp; omega) _⟩
    · gi_wp2
      exact ⟨KeepsOthers.refl _, ⟨Nat.le_refl _, fun _ _ _ => rfl⟩, ⟨hy, hr, by have := HNI.out; simp; exact ⟨this, fun h => hcy h.symm⟩⟩, hB⟩
  case done =>
    rintro D ys W hD rfl ⟨⟨hy, hr, hni⟩, hB⟩ hK
    obtain ⟨d0, df⟩ := cell1 hr
    have HNI := Lib.hid (show within g x y = false by unfold within; simpa using hni)
    clear hni
    gi_wp2
    have hK2 := (set_other (W := W) (X := w.heap.size + 1 + 1) (k := D) (v := .bool false) (by omega)).trans hK
    refine ⟨by simp, .inl ⟨_, _, rfl, run_takeDeferred hK2, ?_⟩⟩
    refine ⟨_, results_cell (t := 4) (fr := (0, 0)) rfl _ _ (w.heap.size + 1 + 1) (.bool false) rfl Try.underlying4 ((World.putObj_heap_other (by omega)).trans ((heapSet hr 0 _).trans (by simp))), by rw [HNI.out], (hB.setCell (by simp; omega) _).trans (belowK_b (w := w) (Nat.le_refl _) _ D _ _ (by omega) hK2 rfl rfl)⟩
  case stop =>
    rintro D c pre W hD hpre ⟨⟨hr, hy, rfl⟩, hB⟩ hK
    obtain ⟨d0, df⟩ := cell1 hr
    have HNI := Lib.hid (show within g x y = true by unfold within; simpa using hpre.subset hy)
    clear hy
    gi_wp2
    refine ⟨by simp, .inl ⟨_, _, rfl, run_takeDeferred hK, ?_⟩⟩
    exact ⟨_, results_cell rfl _ _ (w.heap.size + 1 + 1) (.bool true) rfl Try.underlying4 ((World.putObj_heap_other (by omega)).trans hr), by rw [HNI.out], hB.trans (belowK_b (w := w) (Nat.le_refl _) _ D _ _ (by omega) hK rfl rfl)⟩
end Go.Proofs.Ytncdicagadbafaa.RngT
