/- slices.Clone at ints; a world whose slices are all the call's own. -/
import Derived.Test.YtncdicagadbafaaRngB
import Derived.Test.YtncdicagadbafaaSamW
import Derived.Test.YtncdicagadbafaaMoveP
import Derived.Lib.SliceRun
namespace Go.Proofs.Ytncdicagadbafaa.CopP
open Go Go.RowKit NestP NestW NestX NestY ValP ValW ValX ValR Sq Rng RngU RngT RgIn WorldD

theorem eqnil (w : World) (a : Option Addr) (n c : Nat) : (binOp .eql 23 (.slice a n c) (.slice none 0 0)).run Try.prog w = .ok (.bool a.isNone) w := by
  rw [Lib.run_eql_slice_nil w 23 3 a n c 0 0 Try.underlying23]
attribute [local go_sem] eqnil

set_option maxRecDepth 100000 in
set_option maxHeartbeats 1000000 in
theorem clone_i {A : Option Addr} {n c : Nat} (l : List Int) (w : World) (hr : Rd I w A n l) (hn : n ≤ 17592186043904) :
    Calls Try.prog 108 #[.slice A n c] w fun e w' => ∃ A' c', e = .returned (.slice A' n c') ∧ Sq.Own I 3 w' w.heap.size (.slice A' n c') l ∧ Below w.heap.size w w' := by
  have HR := Lib.hid hr
  clear hr
  go_enter Try.func108, Try.ntmps108
  cases A with
  | none =>
    obtain rfl : n = 0 := by
      rcases Nat.eq_zero_or_pos n with h | h
      · exact h
      · obtain ⟨b, o, h, _⟩ := HR.out.2 h; cases h
    obtain rfl : l = [] := List.length_eq_zero_iff.1 HR.out.1.symm
    go_wp2_with fail
    go_ret
    exact ⟨none, 0, rfl, own_nil _ _, Below.refl _ _⟩
  | some a =>
    have H0 : Sq.Own I 3 (w.alloc (.cells #[] 3)) w.heap.size (.slice (some ⟨w.heap.size, 0, none⟩) 0 0) [] := own_lit elI w [] #[] rfl (by simp) (Nat.le_refl _) 0 rfl
    go_wp2_with (at_builtin; refine wpList_append elI rfl (.tmp 5) (.tmp 6) rfl rfl H0 (some a) n c l rfl (HR.out.alloc _) (by unfold maxLen; simp; omega) (by simp; omega) (by simp) ?_; intro v' w1 ho hb _ _; obtain ⟨A', c', rfl, _, _⟩ := ho.shape)
    go_ret
    exact ⟨A', c', by rw [HR.out.len]; rfl, by rw [HR.out.len]; exact ho, ((Below.refl _ w).alloc (Nat.le_refl _) _).trans hb⟩

theorem own_same {w w' : World} {B : Nat} {v : Value} {l : List Int} (h : Sq.Own I 3 w B v l) (hk : ∀ k, B ≤ k → w'.heap[k]? = w.heap[k]?) : Sq.Own I 3 w' B v l := by
  obtain ⟨hl, h⟩ := h
  refine ⟨hl, ?_⟩
  rcases h with h | ⟨g, cap, cur, hv, hB, hh, hr⟩
  · exact .inl h
  · exact .inr ⟨g, cap, cur, hv, hB, (hk g hB).trans hh, hr⟩
theorem results_c {fn : Func} {p : Tmp} {ty : TypeId} (h : fn.results = #[.cell p ty]) (tmps : Array Value) {P : Program} (w : World) (g : Nat) (t' : TypeId) (cs : Array Value) (fr : Nat × Nat) (fs : Array Field)
    (hp : tmps.getD p undef = .pointer (some ⟨g, 0, none⟩)) (hg : w.heap[g]? = some (.cells cs t' fr))
    (hu : P.underlying ty = some (.struct fs)) (hi : (P.info? ty).map (·.size) = some cs.size) :
    (results fn tmps).run P w = .ok (.agg cs) w := by
  have hp' : tmps[p]?.getD undef = .pointer (some ⟨g, 0, none⟩) := by simpa using hp
  simp [results, h, hp', asAddr, run_loadVar_row w g t' ty cs fr _ hg hu rfl hi]
theorem ret_c {P : Program} {fn : Func} {Q : Ending → World → Prop} {a : Act} {w : World} {p : Tmp} {ty : TypeId} {g : Nat} {t' : TypeId} {cs : Array Value} {fr : Nat × Nat} {fs : Array Field} (hg : w.heap[g]? = some (.cells cs t' fr))
    (h : fn.results = #[.cell p ty]) (hp : a.tmps.getD p undef = .pointer (some ⟨g, 0, none⟩)) (hu : P.underlying ty = some (.struct fs)) (hi : (P.info? ty).map (·.size) = some cs.size) (hd : a.defers = [])
    (hq : Q (.returned (.agg cs)) w) : bodyPost P fn Q .ret a w :=
  bodyPost_ret (results_c h _ _ g t' cs fr _ hp hg hu hi) hd hq
theorem results_ct {fn : Func} {p u : Tmp} {ty : TypeId} (h : fn.results = #[.cell p ty, .tmp u]) (tmps : Array Value) {P : Program} (w : World) (g : Nat) (t' : TypeId) (cs : Array Value) (fr : Nat × Nat) (fs : Array Field)
    (hp : tmps.getD p undef = .pointer (some ⟨g, 0, none⟩)) (hg : w.heap[g]? = some (.cells cs t' fr))
    (hu : P.underlying ty = some (.struct fs)) (hi : (P.info? ty).map (·.size) = some cs.size) :
    (results fn tmps).run P w = .ok (.tuple #[.agg cs, tmps.getD u undef]) w := by
  have hp' : tmps[p]?.getD undef = .pointer (some ⟨g, 0, none⟩) := by simpa using hp
  simp [results, h, hp', asAddr, run_loadVar_row w g t' ty cs fr _ hg hu rfl hi]
theorem ret_ct {P : Program} {fn : Func} {Q : Ending → World → Prop} {a : Act} {w : World} {p u : Tmp} {ty : TypeId} {g : Nat} {t' : TypeId} {cs : Array Value} {fr : Nat × Nat} {fs : Array Field} (hg : w.heap[g]? = some (.cells cs t' fr))
    (h : fn.results = #[.cell p ty, .tmp u]) (hp : a.tmps.getD p undef = .pointer (some ⟨g, 0, none⟩)) (hu : P.underlying ty = some (.struct fs)) (hi : (P.info? ty).map (·.size) = some cs.size) (hd : a.defers = [])
    (hq : Q (.returned (.tuple #[.agg cs, a.tmps.getD u undef])) w) : bodyPost P fn Q .ret a w :=
  bodyPost_ret (results_ct h _ _ g t' cs fr _ hp hg hu hi) hd hq
theorem alloc3 {w W : World} {o1 o2 o3 : Obj} (h : ((w.alloc o1).alloc o2).alloc o3 = W) :
    W.heap.size = w.heap.size + 3 ∧ W.heap[w.heap.size]? = some o1 ∧ W.heap[w.heap.size + 1]? = some o2 ∧ W.heap[w.heap.size + 1 + 1]? = some o3 ∧ Below w.heap.size w W := by
  subst h
  have n1 := World.alloc_heap_new w o1
  have n2 := World.alloc_heap_new (w.alloc o1) o2
  have n3 := World.alloc_heap_new ((w.alloc o1).alloc o2) o3
  simp only [World.size_alloc] at n2 n3
  refine ⟨by simp, ?_, ?_, n3, ((((Below.refl _ w).alloc (Nat.le_refl _) _).alloc (by simp only [World.size_alloc]; omega) _).alloc (by simp only [World.size_alloc]; omega) _)⟩
  · exact (Below.heap_alloc _ _ _ (by simp only [World.size_alloc]; omega)).trans ((Below.heap_alloc _ _ _ (by simp only [World.size_alloc]; omega)).trans n1)
  · exact (Below.heap_alloc _ _ _ (by simp only [World.size_alloc]; omega)).trans n2
/-- Thirteen cells stored. -/
def set13w (w : World) (g : Nat) (a0 a1 a2 a3 a4 a5 a6 a7 a8 a9 a10 a11 a12 : Value) : World := (((((((((((((w.setCell ⟨g, 0, none⟩ a0).setCell ⟨g, 1, none⟩ a1).setCell ⟨g, 2, none⟩ a2).setCell ⟨g, 3, none⟩ a3).setCell ⟨g, 4, none⟩ a4).setCell ⟨g, 5, none⟩ a5).setCell ⟨g, 6, none⟩ a6).setCell ⟨g, 7, none⟩ a7).setCell ⟨g, 8, none⟩ a8).setCell ⟨g, 9, none⟩ a9).setCell ⟨g, 10, none⟩ a10).setCell ⟨g, 11, none⟩ a11).setCell ⟨g, 12, none⟩ a12)
theorem set13_other (w : World) (g : Nat) {a0 a1 a2 a3 a4 a5 a6 a7 a8 a9 a10 a11 a12 : Value} {k : Nat} (h : k ≠ g) : (set13w w g a0 a1 a2 a3 a4 a5 a6 a7 a8 a9 a10 a11 a12).heap[k]? = w.heap[k]? := by
  unfold set13w
  iterate 13 (rw [Below.heap_setCell _ _ _ _ h])
theorem set13_below {w0 w : World} {g B : Nat} {a0 a1 a2 a3 a4 a5 a6 a7 a8 a9 a10 a11 a12 : Value} (hb : Below B w0 w) (h : B ≤ g) (_ : 0 ≤ g) : Below B w0 (set13w w g a0 a1 a2 a3 a4 a5 a6 a7 a8 a9 a10 a11 a12) := by
  unfold set13w
  iterate 13 (refine Below.setCell ?_ h _)
  exact hb
/-- Two slices lie in different blocks. -/
def apart (a b : Value) : Prop := ∀ k, a.ownBlock = some k → b.ownBlock ≠ some k
theorem own_at {w : World} {B : Nat} {v : Value} {l : List Int} (h : Sq.Own I 3 w B v l) {k : Nat} (hk : v.ownBlock = some k) : B ≤ k ∧ k < w.heap.size := World.ownsRow.lt h k hk
theorem apart_of {w w' : World} {B : Nat} {a b : Value} {l m : List Int} (h : Sq.Own I 3 w B a l) (k : Sq.Own I 3 w' w.heap.size b m) : apart a b := fun j hj hb => by
  have h1 := own_at h hj
  have h2 := own_at k hb
  omega
/-- A world whose slices are the call's own, from block B on; they lie apart. -/
def Ow (w : World) (B : Nat) (v : Value) (g : Wd) : Prop :=
  ∃ (A0 A1 A2 A3 A4 A5 A6 : Option Addr) (n0 c0 n c1 n2 c2 n3 c3 n4 c4 n5 c5 n6 c6 : Nat), v = .agg #[.slice A0 n0 c0, .slice A1 n c1, .slice A2 n2 c2, .slice A3 n3 c3, .slice A4 n4 c4, .slice A5 n5 c5, .slice A6 n6 c6, .int .u64 g.seed, .int .i64 g.sc, .int .i64 g.tu, .int .i64 g.ov, .int .i64 g.it, .int .i64 g.go] ∧
    (Sq.Own I 3 w B (.slice A0 n0 c0) g.gl ∧ Sq.Own I 3 w B (.slice A1 n c1) g.pa ∧ Sq.Own I 3 w B (.slice A2 n2 c2) g.ch ∧ Sq.Own I 3 w B (.slice A3 n3 c3) g.ne ∧ Sq.Own I 3 w B (.slice A4 n4 c4) g.fl ∧ Sq.Own I 3 w B (.slice A5 n5 c5) g.pr ∧ Sq.Own I 3 w B (.slice A6 n6 c6) g.ti) ∧
    [Value.slice A0 n0 c0, .slice A1 n c1, .slice A2 n2 c2, .slice A3 n3 c3, .slice A4 n4 c4, .slice A5 n5 c5, .slice A6 n6 c6].Pairwise apart
theorem pw_snoc {l : List Value} {x : Value} (h : l.Pairwise apart) (hx : ∀ a ∈ l, apart a x) : (l ++ [x]).Pairwise apart := by
  rw [List.pairwise_append]
  exact ⟨h, by simp, fun a ha b hb => by rw [List.mem_singleton] at hb; subst hb; exact hx a ha⟩
theorem pw_get {l : List Value} (h : l.Pairwise apart) {i j : Nat} {a b : Value} (hi : l[i]? = some a) (hj : l[j]? = some b) (hne : i ≠ j) {k : Nat} (ha : a.ownBlock = some k) : b.ownBlock ≠ some k := by
  obtain ⟨hi', rfl⟩ := List.getElem?_eq_some_iff.1 hi
  obtain ⟨hj', rfl⟩ := List.getElem?_eq_some_iff.1 hj
  rw [List.pairwise_iff_getElem] at h
  rcases Nat.lt_or_ge i j with hlt | hge
  · exact h i j hi' hj' hlt k ha
  · intro hb
    exact h j i hj' hi' (by omega) k hb ha
/-- A store into another block. -/
theorem own_ne {w : World} {B : Nat} {v : Value} {l : List Int} (h : Sq.Own I 3 w B v l) {g : Nat} (hg : v.ownBlock ≠ some g) (i : Nat) (x : Value) : Sq.Own I 3 (w.setCell ⟨g, i, none⟩ x) B v l := by
  obtain ⟨hl, h⟩ := h
  refine ⟨hl, ?_⟩
  rcases h with h | ⟨g', cap, cur, hv, hB, hh, hr⟩
  · exact .inl h
  · refine .inr ⟨g', cap, cur, hv, hB, (Below.heap_setCell w _ x g' ?_).trans hh, hr⟩
    intro e
    exact hg (by rw [hv]; exact congrArg some e)
/-- The result's cells stored: a world of one's own is handed back. -/
theorem close {w V : World} {B b2 : Nat} {g : Wd} {B0 B1 B2 B3 B4 B5 B6 : Option Addr} {m0 d0 m1 d1 m2 d2 m3 d3 m4 d4 m5 d5 m6 d6 : Nat}
    (o0 : Sq.Own I 3 V B (.slice B0 m0 d0) g.gl) (o1 : Sq.Own I 3 V B (.slice B1 m1 d1) g.pa) (o2 : Sq.Own I 3 V B (.slice B2 m2 d2) g.ch) (o3 : Sq.Own I 3 V B (.slice B3 m3 d3) g.ne) (o4 : Sq.Own I 3 V B (.slice B4 m4 d4) g.fl) (o5 : Sq.Own I 3 V B (.slice B5 m5 d5) g.pr) (o6 : Sq.Own I 3 V B (.slice B6 m6 d6) g.ti)
    (hap : [Value.slice B0 m0 d0, .slice B1 m1 d1, .slice B2 m2 d2, .slice B3 m3 d3, .slice B4 m4 d4, .slice B5 m5 d5, .slice B6 m6 d6].Pairwise apart)
    (h1 : w.heap.size ≤ b2) (h2 : b2 < B) (hb : Below w.heap.size w V) :
    Ow (set13w V b2 (.slice B0 m0 d0) (.slice B1 m1 d1) (.slice B2 m2 d2) (.slice B3 m3 d3) (.slice B4 m4 d4) (.slice B5 m5 d5) (.slice B6 m6 d6) (.int .u64 g.seed) (.int .i64 g.sc) (.int .i64 g.tu) (.int .i64 g.ov) (.int .i64 g.it) (.int .i64 g.go)) w.heap.size (.agg #[.slice B0 m0 d0, .slice B1 m1 d1, .slice B2 m2 d2, .slice B3 m3 d3, .slice B4 m4 d4, .slice B5 m5 d5, .slice B6 m6 d6, .int .u64 g.seed, .int .i64 g.sc, .int .i64 g.tu, .int .i64 g.ov, .int .i64 g.it, .int .i64 g.go]) g ∧
    Below w.heap.size w (set13w V b2 (.slice B0 m0 d0) (.slice B1 m1 d1) (.slice B2 m2 d2) (.slice B3 m3 d3) (.slice B4 m4 d4) (.slice B5 m5 d5) (.slice B6 m6 d6) (.int .u64 g.seed) (.int .i64 g.sc) (.int .i64 g.tu) (.int .i64 g.ov) (.int .i64 g.it) (.int .i64 g.go)) := by
  have fin : ∀ {v : Value} {l : List Int}, Sq.Own I 3 V B v l → Sq.Own I 3 (set13w V b2 (.slice B0 m0 d0) (.slice B1 m1 d1) (.slice B2 m2 d2) (.slice B3 m3 d3) (.slice B4 m4 d4) (.slice B5 m5 d5) (.slice B6 m6 d6) (.int .u64 g.seed) (.int .i64 g.sc) (.int .i64 g.tu) (.int .i64 g.ov) (.int .i64 g.it) (.int .i64 g.go)) w.heap.size v l :=
    fun h => (own_same h fun i hi => set13_other _ _ (by omega)).lower (by omega)
  exact ⟨⟨B0, B1, B2, B3, B4, B5, B6, m0, d0, m1, d1, m2, d2, m3, d3, m4, d4, m5, d5, m6, d6, rfl, ⟨fin o0, fin o1, fin o2, fin o3, fin o4, fin o5, fin o6⟩, hap⟩, set13_below hb h1 (Nat.zero_le _)⟩
theorem Ow.drew {w : World} {B : Nat} {v : Value} {g : Wd} (h : Ow w B v g) : Ow w.drew B v g := h
end Go.Proofs.Ytncdicagadbafaa.CopP
