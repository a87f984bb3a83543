/- Small laws that many texts use: boxes of thirteen cells, a function's result in a box, slices of a call's own, slices.Clone at ints, nest.Is and clewref20.Is. Conditions: none. -/
import Derived.Test.YtncdicagadbafaaWorldD
import Derived.Test.YtncdicagadbafaaNestY
import Derived.Lib.SliceRun
import Derived.RangeFuncRecord
import Derived.IntWalk
import Derived.Maps.AppendAt
import Derived.RegionTactic
import Derived.Laws.Rows
import Derived.ChangeAlike
namespace Go.Proofs.Ytncdicagadbafaa.ValX
open Go Go.RowKit NestP NestW NestX NestY Sq WorldD
set_option maxRecDepth 100000 in
theorem is_n {v0 v4 v5 v6 v7 v8 v9 v10 v11 v12 : Value} {A1 A2 A3 : Option Addr} {n c1 n2 c2 n3 c3 : Nat} (x : Int) (w : World) :
    Calls Try.prog 46 #[.agg #[v0, .slice A1 n c1, .slice A2 n2 c2, .slice A3 n3 c3, v4, v5, v6, v7, v8, v9, v10, v11, v12], .int .i64 x] w fun e w' => e = .returned (.bool (isT n x)) ∧ Below w.heap.size w w' := by
  by_cases h1 : 1 ≤ x
  · by_cases h2 : x < n
    · have H := Lib.hid (show isT n x = true from isT_iff.2 ⟨h1, h2⟩)
      go_enter Try.func46, Try.ntmps46
      go_wp2_with fail
      go_ret
      exact ⟨by rw [H.out]; rfl, by go_grown⟩
    · have H := Lib.hid (show isT n x = false by unfold isT; simp; omega)
      go_enter Try.func46, Try.ntmps46
      go_wp2_with fail
      go_ret
      exact ⟨by rw [H.out]; rfl, by go_grown⟩
  · have H := Lib.hid (show isT n x = false by unfold isT; simp; omega)
    have t0 : decide (1 ≤ x) = false := by simp; omega
    go_enter Try.func46, Try.ntmps46
    go_wp2_with fail
    go_ret
    exact ⟨by rw [H.out]; rfl, by go_grown⟩
set_option maxRecDepth 100000 in
theorem is_o {v0 v4 v5 v6 v7 v8 v9 v10 v11 v12 : Value} {A1 A2 A3 : Option Addr} {n c1 n2 c2 n3 c3 : Nat} (x : Int) (w : World) :
    Calls Try.prog 45 #[.agg #[v0, .slice A1 n c1, .slice A2 n2 c2, .slice A3 n3 c3, v4, v5, v6, v7, v8, v9, v10, v11, v12], .int .i64 x] w fun e w' => e = .returned (.bool (isT n x)) ∧ Below w.heap.size w w' := by
  by_cases h1 : 1 ≤ x
  · by_cases h2 : x < n
    · have H := Lib.hid (show isT n x = true from isT_iff.2 ⟨h1, h2⟩)
      go_enter Try.func45, Try.ntmps45
      go_wp2_with fail
      go_ret
      exact ⟨by rw [H.out]; rfl, by go_grown⟩
    · have H := Lib.hid (show isT n x = false by unfold isT; simp; omega)
      go_enter Try.func45, Try.ntmps45
      go_wp2_with fail
      go_ret
      exact ⟨by rw [H.out]; rfl, by go_grown⟩
  · have H := Lib.hid (show isT n x = false by unfold isT; simp; omega)
    have t0 : decide (1 ≤ x) = false := by simp; omega
    go_enter Try.func45, Try.ntmps45
    go_wp2_with fail
    go_ret
    exact ⟨by rw [H.out]; rfl, by go_grown⟩
end Go.Proofs.Ytncdicagadbafaa.ValX
namespace Go.Proofs.Ytncdicagadbafaa.ValR
open Go Go.RowKit NestP NestW NestX NestY Sq WorldD
theorem heapSet {w : World} {g : Nat} {cs : Array Value} {t : TypeId} {fr : Nat × Nat} (h : w.heap[g]? = some (.cells cs t fr)) (i : Nat) (v : Value) :
    (w.setCell ⟨g, i, none⟩ v).heap[g]? = some (.cells (cs.setIfInBounds i v) t fr) := by
  simp only [World.setCell, Array.getElem?_modify, h]
  rfl
theorem set13 {w : World} {g : Nat} {t : TypeId} {fr : Nat × Nat} {z0 z1 z2 z3 z4 z5 z6 z7 z8 z9 z10 z11 z12 a0 a1 a2 a3 a4 a5 a6 a7 a8 a9 a10 a11 a12 : Value} (h : w.heap[g]? = some (.cells #[z0, z1, z2, z3, z4, z5, z6, z7, z8, z9, z10, z11, z12] t fr)) :
    (((((((((((((w.setCell ⟨g, 0, none⟩ a0).setCell ⟨g, 1, none⟩ a1).setCell ⟨g, 2, none⟩ a2).setCell ⟨g, 3, none⟩ a3).setCell ⟨g, 4, none⟩ a4).setCell ⟨g, 5, none⟩ a5).setCell ⟨g, 6, none⟩ a6).setCell ⟨g, 7, none⟩ a7).setCell ⟨g, 8, none⟩ a8).setCell ⟨g, 9, none⟩ a9).setCell ⟨g, 10, none⟩ a10).setCell ⟨g, 11, none⟩ a11).setCell ⟨g, 12, none⟩ a12).heap[g]? = some (.cells #[a0, a1, a2, a3, a4, a5, a6, a7, a8, a9, a10, a11, a12] t fr) := by
  have := (heapSet (heapSet (heapSet (heapSet (heapSet (heapSet (heapSet (heapSet (heapSet (heapSet (heapSet (heapSet (heapSet h 0 a0) 1 a1) 2 a2) 3 a3) 4 a4) 5 a5) 6 a6) 7 a7) 8 a8) 9 a9) 10 a10) 11 a11) 12 a12)
  simpa using this
theorem cells13 {w : World} {g : Nat} {t : TypeId} {z0 z1 z2 z3 z4 z5 z6 z7 z8 z9 z10 z11 z12 : Value} (h : w.heap[g]? = some (.cells #[z0, z1, z2, z3, z4, z5, z6, z7, z8, z9, z10, z11, z12] t (0, 0))) :
    w.cell? ⟨g, 0, none⟩ = some z0 ∧ w.cell? ⟨g, 1, none⟩ = some z1 ∧ w.cell? ⟨g, 2, none⟩ = some z2 ∧ w.cell? ⟨g, 3, none⟩ = some z3 ∧ w.cell? ⟨g, 4, none⟩ = some z4 ∧ w.cell? ⟨g, 5, none⟩ = some z5 ∧ w.cell? ⟨g, 6, none⟩ = some z6 ∧ w.cell? ⟨g, 7, none⟩ = some z7 ∧ w.cell? ⟨g, 8, none⟩ = some z8 ∧ w.cell? ⟨g, 9, none⟩ = some z9 ∧ w.cell? ⟨g, 10, none⟩ = some z10 ∧ w.cell? ⟨g, 11, none⟩ = some z11 ∧ w.cell? ⟨g, 12, none⟩ = some z12 ∧ (∀ o, w.frozen? ⟨g, o, none⟩ = false) := by
  refine ⟨?_, ?_, ?_, ?_, ?_, ?_, ?_, ?_, ?_, ?_, ?_, ?_, ?_, ?_⟩
  all_goals simp [World.cell?, World.frozen?, h]
end Go.Proofs.Ytncdicagadbafaa.ValR
namespace Go.Proofs.Ytncdicagadbafaa.MoveP
open Go Go.RowKit NestP NestW NestX NestY Sq WorldD
def setI (l : List Int) (i v : Int) : List Int := l.set i.toNat v
theorem set_len (l : List Int) (i v : Int) : (setI l i v).length = l.length := by unfold setI; simp
theorem at_set {l : List Int} {i : Int} (v : Int) (h0 : 0 ≤ i) (h1 : i < l.length) (j : Int) : at' (setI l i v) j = if j = i then v else at' l j := by
  unfold at' setI
  by_cases hj : 0 ≤ j
  · rw [if_pos hj, if_pos hj, List.getD_eq_getElem?_getD, List.getElem?_set, List.getD_eq_getElem?_getD]
    by_cases he : j = i
    · subst he; rw [if_pos rfl, if_pos (by omega), if_pos rfl]; rfl
    · rw [if_neg (by omega), if_neg he]
  · rw [if_neg hj, if_neg hj, if_neg (by omega)]
end Go.Proofs.Ytncdicagadbafaa.MoveP
namespace Go.Proofs.Ytncdicagadbafaa.RngU
open Go Go.RowKit NestP NestW NestX NestY Sq WorldD
/-- As it lay in wb. -/
def Low (wb W : World) : Prop := wb.heap.size ≤ W.heap.size ∧ ∀ k, k < wb.heap.size → W.heap[k]? = wb.heap[k]?
theorem Low.rd {α : Type} {enc : α → Value} {wb W : World} {A : Option Addr} {n : Nat} {l : List α} (h : Low wb W) (hr : Rd enc wb A n l) : Rd enc W A n l :=
  ⟨hr.1, fun hn => by
    obtain ⟨b, o, e, hlt, hc⟩ := hr.2 hn
    exact ⟨b, o, e, Nat.lt_of_lt_of_le hlt h.1, fun i x hx => (World.cell?_of_block (h.2 b hlt)).trans (hc i x hx)⟩⟩
end Go.Proofs.Ytncdicagadbafaa.RngU
namespace Go.Proofs.Ytncdicagadbafaa.CopP
open Go Go.RowKit NestP NestW NestX NestY Sq WorldD ValX ValR
theorem eqnil (w : World) (a : Option Addr) (n c : Nat) : (binOp .eql 23 (.slice a n c) (.slice none 0 0)).run Try.prog w = .ok (.bool a.isNone) w := by
  rw [Lib.run_eql_slice_nil w 23 3 a n c 0 0 Try.underlying23]
attribute [local go_sem] eqnil
set_option maxRecDepth 100000 in
set_option maxHeartbeats 1000000 in
theorem clone_i {A : Option Addr} {n c : Nat} (l : List Int) (w : World) (hr : Rd I w A n l) (hn : n ≤ 17592186043904) :
    Calls Try.prog 108 #[.slice A n c] w fun e w' => ∃ A' c', e = .returned (.slice A' n c') ∧ Sq.Own I 3 w' w.heap.size (.slice A' n c') l ∧ Below w.heap.size w w' := by
  have HR := Lib.hid hr
  clear hr
  go_enter Try.func108, Try.ntmps108
  cases A with
  | none =>
    obtain rfl : n = 0 := by
      rcases Nat.eq_zero_or_pos n with h | h
      · exact h
      · obtain ⟨b, o, h, _⟩ := HR.out.2 h; cases h
    obtain rfl : l = [] := List.length_eq_zero_iff.1 HR.out.1.symm
    go_wp2_with fail
    go_ret
    exact ⟨none, 0, rfl, own_nil _ _, Below.refl _ _⟩
  | some a =>
    have H0 : Sq.Own I 3 (w.alloc (.cells #[] 3)) w.heap.size (.slice (some ⟨w.heap.size, 0, none⟩) 0 0) [] := own_lit elI w [] #[] rfl (by simp) (Nat.le_refl _) 0 rfl
    go_wp2_with (at_builtin; refine wpList_append elI rfl (.tmp 5) (.tmp 6) rfl rfl H0 (some a) n c l rfl (HR.out.alloc _) (by unfold maxLen; simp; omega) (by simp; omega) (by simp) ?_; intro v' w1 ho hb _ _; obtain ⟨A', c', rfl, _, _⟩ := ho.shape)
    go_ret
    exact ⟨A', c', by rw [HR.out.len]; rfl, by rw [HR.out.len]; exact ho, ((Below.refl _ w).alloc (Nat.le_refl _) _).trans hb⟩
theorem own_same {w w' : World} {B : Nat} {v : Value} {l : List Int} (h : Sq.Own I 3 w B v l) (hk : ∀ k, B ≤ k → w'.heap[k]? = w.heap[k]?) : Sq.Own I 3 w' B v l := by
  obtain ⟨hl, h⟩ := h
  refine ⟨hl, ?_⟩
  rcases h with h | ⟨g, cap, cur, hv, hB, hh, hr⟩
  · exact .inl h
  · exact .inr ⟨g, cap, cur, hv, hB, (hk g hB).trans hh, hr⟩
theorem results_c {fn : Func} {p : Tmp} {ty : TypeId} (h : fn.results = #[.cell p ty]) (tmps : Array Value) {P : Program} (w : World) (g : Nat) (t' : TypeId) (cs : Array Value) (fr : Nat × Nat) (fs : Array Field)
    (hp : tmps.getD p undef = .pointer (some ⟨g, 0, none⟩)) (hg : w.heap[g]? = some (.cells cs t' fr))
    (hu : P.underlying ty = some (.struct fs)) (hi : (P.info? ty).map (·.size) = some cs.size) :
    (results fn tmps).run P w = .ok (.agg cs) w := by
  have hp' : tmps[p]?.getD undef = .pointer (some ⟨g, 0, none⟩) := by simpa using hp
  simp [results, h, hp', asAddr, run_loadVar_row w g t' ty cs fr _ hg hu rfl hi]
theorem ret_c {P : Program} {fn : Func} {Q : Ending → World → Prop} {a : Act} {w : World} {p : Tmp} {ty : TypeId} {g : Nat} {t' : TypeId} {cs : Array Value} {fr : Nat × Nat} {fs : Array Field} (hg : w.heap[g]? = some (.cells cs t' fr))
    (h : fn.results = #[.cell p ty]) (hp : a.tmps.getD p undef = .pointer (some ⟨g, 0, none⟩)) (hu : P.underlying ty = some (.struct fs)) (hi : (P.info? ty).map (·.size) = some cs.size) (hd : a.defers = [])
    (hq : Q (.returned (.agg cs)) w) : bodyPost P fn Q .ret a w :=
  bodyPost_ret (results_c h _ _ g t' cs fr _ hp hg hu hi) hd hq
theorem results_ct {fn : Func} {p u : Tmp} {ty : TypeId} (h : fn.results = #[.cell p ty, .tmp u]) (tmps : Array Value) {P : Program} (w : World) (g : Nat) (t' : TypeId) (cs : Array Value) (fr : Nat × Nat) (fs : Array Field)
    (hp : tmps.getD p undef = .pointer (some ⟨g, 0, none⟩)) (hg : w.heap[g]? = some (.cells cs t' fr))
    (hu : P.underlying ty = some (.struct fs)) (hi : (P.info? ty).map (·.size) = some cs.size) :
    (results fn tmps).run P w = .ok (.tuple #[.agg cs, tmps.getD u undef]) w := by
  have hp' : tmps[p]?.getD undef = .pointer (some ⟨g, 0, none⟩) := by simpa using hp
  simp [results, h, hp', asAddr, run_loadVar_row w g t' ty cs fr _ hg hu rfl hi]
theorem ret_ct {P : Program} {fn : Func} {Q : Ending → World → Prop} {a : Act} {w : World} {p u : Tmp} {ty : TypeId} {g : Nat} {t' : TypeId} {cs : Array Value} {fr : Nat × Nat} {fs : Array Field} (hg : w.heap[g]? = some (.cells cs t' fr))
    (h : fn.results = #[.cell p ty, .tmp u]) (hp : a.tmps.getD p undef = .pointer (some ⟨g, 0, none⟩)) (hu : P.underlying ty = some (.struct fs)) (hi : (P.info? ty).map (·.size) = some cs.size) (hd : a.defers = [])
    (hq : Q (.returned (.tuple #[.agg cs, a.tmps.getD u undef])) w) : bodyPost P fn Q .ret a w :=
  bodyPost_ret (results_ct h _ _ g t' cs fr _ hp hg hu hi) hd hq
theorem alloc3 {w W : World} {o1 o2 o3 : Obj} (h : ((w.alloc o1).alloc o2).alloc o3 = W) :
    W.heap.size = w.heap.size + 3 ∧ W.heap[w.heap.size]? = some o1 ∧ W.heap[w.heap.size + 1]? = some o2 ∧ W.heap[w.heap.size + 1 + 1]? = some o3 ∧ Below w.heap.size w W := by
  subst h
  have n1 := World.alloc_heap_new w o1
  have n2 := World.alloc_heap_new (w.alloc o1) o2
  have n3 := World.alloc_heap_new ((w.alloc o1).alloc o2) o3
  simp only [World.size_alloc] at n2 n3
  refine ⟨by simp, ?_, ?_, n3, ((((Below.refl _ w).alloc (Nat.le_refl _) _).alloc (by simp only [World.size_alloc]; omega) _).alloc (by simp only [World.size_alloc]; omega) _)⟩
  · exact (Below.heap_alloc _ _ _ (by simp only [World.size_alloc]; omega)).trans ((Below.heap_alloc _ _ _ (by simp only [World.size_alloc]; omega)).trans n1)
  · exact (Below.heap_alloc _ _ _ (by simp only [World.size_alloc]; omega)).trans n2
/-- Thirteen cells stored. -/
def set13w (w : World) (g : Nat) (a0 a1 a2 a3 a4 a5 a6 a7 a8 a9 a10 a11 a12 : Value) : World := (((((((((((((w.setCell ⟨g, 0, none⟩ a0).setCell ⟨g, 1, none⟩ a1).setCell ⟨g, 2, none⟩ a2).setCell ⟨g, 3, none⟩ a3).setCell ⟨g, 4, none⟩ a4).setCell ⟨g, 5, none⟩ a5).setCell ⟨g, 6, none⟩ a6).setCell ⟨g, 7, none⟩ a7).setCell ⟨g, 8, none⟩ a8).setCell ⟨g, 9, none⟩ a9).setCell ⟨g, 10, none⟩ a10).setCell ⟨g, 11, none⟩ a11).setCell ⟨g, 12, none⟩ a12)
theorem set13_other (w : World) (g : Nat) {a0 a1 a2 a3 a4 a5 a6 a7 a8 a9 a10 a11 a12 : Value} {k : Nat} (h : k ≠ g) : (set13w w g a0 a1 a2 a3 a4 a5 a6 a7 a8 a9 a10 a11 a12).heap[k]? = w.heap[k]? := by
  unfold set13w
  iterate 13 (rw [Below.heap_setCell _ _ _ _ h])
theorem set13_below {w0 w : World} {g B : Nat} {a0 a1 a2 a3 a4 a5 a6 a7 a8 a9 a10 a11 a12 : Value} (hb : Below B w0 w) (h : B ≤ g) (_ : 0 ≤ g) : Below B w0 (set13w w g a0 a1 a2 a3 a4 a5 a6 a7 a8 a9 a10 a11 a12) := by
  unfold set13w
  iterate 13 (refine Below.setCell ?_ h _)
  exact hb
theorem own_at {w : World} {B : Nat} {v : Value} {l : List Int} (h : Sq.Own I 3 w B v l) {k : Nat} (hk : v.ownBlock = some k) : B ≤ k ∧ k < w.heap.size := World.ownsRow.lt h k hk
/-- A store into another block. -/
theorem own_ne {w : World} {B : Nat} {v : Value} {l : List Int} (h : Sq.Own I 3 w B v l) {g : Nat} (hg : v.ownBlock ≠ some g) (i : Nat) (x : Value) : Sq.Own I 3 (w.setCell ⟨g, i, none⟩ x) B v l := by
  obtain ⟨hl, h⟩ := h
  refine ⟨hl, ?_⟩
  rcases h with h | ⟨g', cap, cur, hv, hB, hh, hr⟩
  · exact .inl h
  · refine .inr ⟨g', cap, cur, hv, hB, (Below.heap_setCell w _ x g' ?_).trans hh, hr⟩
    intro e
    exact hg (by rw [hv]; exact congrArg some e)
end Go.Proofs.Ytncdicagadbafaa.CopP
namespace Go.Proofs.Ytncdicagadbafaa.LvP
open Go Go.RowKit NestP NestW NestX NestY Sq WorldD ValR CopP
theorem own_cell {w : World} {B g1 n d : Nat} {l : List Int} (h : Sq.Own I 3 w B (.slice (some ⟨g1, 0, none⟩) n d) l) {i : Nat} (hi : i < n) : w.cell? ⟨g1, i, none⟩ = some (.int .i64 (at' l (i : Int))) := by
  obtain ⟨g', hg', _, _, hc, _⟩ := h.at_ (by omega)
  injection hg' with hg'
  injection hg' with hg'
  subst hg'
  have hl : i < l.length := by have := h.rd.len; omega
  rw [hc i hl]
  unfold at' I
  rw [if_pos (by omega), List.getD_eq_getElem?_getD, Int.toNat_natCast, List.getElem?_eq_getElem hl]
  rfl
theorem own_frozen {w : World} {B g1 n d : Nat} {l : List Int} (h : Sq.Own I 3 w B (.slice (some ⟨g1, 0, none⟩) n d) l) (hn : 0 < n) : ∀ k, w.frozen? ⟨g1, k, none⟩ = false := by
  obtain ⟨g', hg', _, _, _, hz⟩ := h.at_ hn
  injection hg' with hg'
  injection hg' with hg'
  subst hg'
  exact hz
end Go.Proofs.Ytncdicagadbafaa.LvP
namespace Go.Proofs.Ytncdicagadbafaa.MvR
open Go Go.RowKit NestP NestW NestX NestY Sq WorldD
theorem alloc2 {w W : World} {o1 o2 : Obj} (h : (w.alloc o1).alloc o2 = W) :
    W.heap.size = w.heap.size + 2 ∧ W.heap[w.heap.size]? = some o1 ∧ W.heap[w.heap.size + 1]? = some o2 ∧ Below w.heap.size w W := by
  subst h
  have n1 := World.alloc_heap_new w o1
  have n2 := World.alloc_heap_new (w.alloc o1) o2
  simp only [World.size_alloc] at n2
  exact ⟨by simp, (Below.heap_alloc _ _ _ (by simp only [World.size_alloc]; omega)).trans n1, n2, (((Below.refl _ w).alloc (Nat.le_refl _) _).alloc (by simp only [World.size_alloc]; omega) _)⟩
theorem own_e (U : World) (g : Nat) (hg : U.heap.size = g) : Sq.Own I 3 (U.alloc (.cells #[] 3)) U.heap.size (.slice (some ⟨g, 0, none⟩) 0 0) [] := by
  subst hg
  exact own_lit elI U [] #[] rfl (by simp [maxLen]) (Nat.le_refl _) 0 rfl
end Go.Proofs.Ytncdicagadbafaa.MvR
namespace Go.Proofs.Ytncdicagadbafaa.AwkP
open Go Go.RowKit NestP NestW NestX NestY Sq WorldD CopP RngU
theorem wo_low {wb W : World} {v : Value} {g : Wd} (h : Wo wb v g) (hl : Low wb W) : Wo W v g := by
  obtain ⟨A0, A1, A2, A3, A4, A5, A6, n0, c0, n, c1, n2, c2, n3, c3, n4, c4, n5, c5, n6, c6, rfl, ⟨r0, r1, r2, r3, r4, r5, r6⟩, hr⟩ := h
  exact ⟨A0, A1, A2, A3, A4, A5, A6, n0, c0, n, c1, n2, c2, n3, c3, n4, c4, n5, c5, n6, c6, rfl, ⟨hl.rd r0, hl.rd r1, hl.rd r2, hl.rd r3, hl.rd r4, hl.rd r5, hl.rd r6⟩, hr⟩
theorem own_but {w w' : World} {B : Nat} {v : Value} {l : List Int} (h : Sq.Own I 3 w B v l) (hk : ∀ k, B ≤ k → k < w.heap.size → w'.heap[k]? = w.heap[k]?) : Sq.Own I 3 w' B v l := by
  have hl := fun k hk => (own_at h (k := k) hk).2
  obtain ⟨h0, h⟩ := h
  refine ⟨h0, ?_⟩
  rcases h with h | ⟨g', cap, cur, rfl, hB, hh, hr⟩
  · exact .inl h
  · exact .inr ⟨g', cap, cur, rfl, hB, (hk g' hB (hl g' rfl)).trans hh, hr⟩
end Go.Proofs.Ytncdicagadbafaa.AwkP
namespace Go.Proofs.Ytncdicagadbafaa.MvA
end Go.Proofs.Ytncdicagadbafaa.MvA
namespace Go.Proofs.Ytncdicagadbafaa.Awk
end Go.Proofs.Ytncdicagadbafaa.Awk
namespace Go.Proofs.Ytncdicagadbafaa.WoC
end Go.Proofs.Ytncdicagadbafaa.WoC
namespace Go.Proofs.Ytncdicagadbafaa.ValP
end Go.Proofs.Ytncdicagadbafaa.ValP
namespace Go.Proofs.Ytncdicagadbafaa.ValW
end Go.Proofs.Ytncdicagadbafaa.ValW
