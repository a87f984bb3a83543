/- slices.AppendSeq and slices.Collect over whatever iterator of ints; nest.Children. Conditions: the lists of first children and of next ones read. -/
import Derived.Test.YtncdicagadbafaaRngC
namespace Go.Proofs.Ytncdicagadbafaa.RngD
open Go Go.RowKit NestP NestW NestX NestY ValP ValW ValX ValR Sq Rng RngU RngT RngC
attribute [local go_sem] Oper.semAt_some

set_option maxRecDepth 100000 in
set_option maxHeartbeats 4000000 in
theorem appendSeq_i {gf : Nat} {lb : Array Value} (xs : List Int) (w : World) (hlen : xs.length ≤ 17592186043904) (eg : ∀ args w, (callFunc gf args).run Try.prog w = .ok (.enter gf args) w)
    (hseq : SeqStopsK Fence.wide 2 Try.prog gf lb (fun c : Int => #[.int .i64 c]) (Below w.heap.size) (fun ys => ys = xs) (fun pre => pre <+: xs) xs.length w) :
    Calls Try.prog 161 #[.slice none 0 0, .func (.func gf) #[] lb] w fun e w' => ∃ v, e = .returned v ∧ Sq.Own I 3 w' w.heap.size v xs ∧ (v = .slice none 0 0 ↔ xs = []) ∧ Below w.heap.size w w' := by
  obtain ⟨i0, hi, hz0, hz1, hz2⟩ := elI.parts
  refine (callsIn_wide (n := 3)).1 ?_
  refine callsIn_of_wp_marks Try.func161 rfl trivial ?_ rfl
  simp only [Try.ntmps161, List.size_toArray, List.length_cons, List.length_nil, Nat.reduceAdd, Nat.reduceSub, Array.replicate_succ, Array.replicate_zero, List.push_toArray, List.append_toArray, List.nil_append, List.cons_append]
  gi_wp2
  have bO := Boxed.new w 23 (.slice none 0 0)
  have hB0 : Below w.heap.size w (w.alloc (.cells #[.slice none 0 0] 23)) := (Below.refl _ w).alloc (Nat.le_refl _) _
  refine wpIn_rangeFunc_ownG rfl (by omega) (gf := gf) (lb := lb) rfl trivial eg hseq belowK_t (belowK_b (by simp)) hB0 (fun _ => rfl)
    (fun pre W => (∃ v, Boxed W w.heap.size 23 v ∧ W.ownsRow w.heap.size 3 1 v pre.length (pre.map I) ∧ (v = .slice none 0 0 ↔ pre = [])) ∧ Below w.heap.size w W)
    (fun _ _ _ => False)
    (OwnFrom.and (Own.from (holdsRow_own w.heap.size w.heap.size 23 3 1 (fun pre => pre.length) (fun pre => pre.map I) (fun pre v => v = .slice none 0 0 ↔ pre = [])) _) (ownFrom_below (Nat.le_refl _) (by simp)))
    (fun _ _ _ _ _ hs _ _ => hs)
    ⟨⟨_, bO, World.ownsRow_nil _ _ _ _, by simp⟩, hB0⟩
    (fun x => { tmps := #[.slice none 0 0, .func (.func gf) #[] lb, .pointer (some ⟨w.heap.size, 0, none⟩), undef, .slice none 0 0, .int .i64 x, .func (.func gf) #[] lb, .int .i64 x, undef, undef, undef, undef, undef], defers := [] }) ?assign ?body ?done ?stop
  case assign =>
    intro l x W K hK
    gi_wp2
    exact hK
  case body =>
    rintro l pre x W ⟨⟨v, hv, hrow, hnil⟩, hB⟩ hlt
    have hc := hv.cell
    gi_wp2_with (gi_at_builtin; refine wpListIn_append_own _ rfl _ _ 23 rfl w.heap.size 3 i0 (I 0) 1 8 Try.underlying23 hi hz0 hz1 hz2 rfl (by decide) _ _ _ rfl (hrow.alloc _) ⟨W.heap.size, 0, none⟩ 1 1 [I x] rfl rfl (cell_one_new _ _ _) (by simp [I, Value.oneCell']) (by unfold maxLen; omega) (by omega) (by have := hB.size; simp; omega) ?_; intro v' w1 hown' hgrow _; obtain ⟨g', cap', rfl⟩ := ownsRow_succ hown'; obtain ⟨hv1, hv2, hr2, hk2, hb2⟩ := hv.appended (by decide) hrow hB.size (Nat.le_refl _) hown' hgrow; have hc1 := hv1.cell; have hf1 := hv1.frozen)
    exact ⟨hk2.from _, hb2, ⟨_, hv2, by simpa using hr2, by simp⟩, hB.trans hb2⟩
  case done =>
    rintro D ys W hD rfl ⟨⟨v, hv, hrow, hnil⟩, hB⟩ hK
    have hc := hv.cell
    gi_wp2
    refine ⟨by simp, .inl ⟨_, _, rfl, run_takeDeferred hK, ?_⟩⟩
    exact ⟨_, results_tmp rfl _ _ _, v, rfl, ownsRow_putObj hrow _ hK rfl, hnil, hB.trans (belowK_b (w := w) (Nat.le_refl _) W D _ _ (by simp at hD; omega) hK rfl rfl)⟩
  case stop =>
    rintro D c pre W _ _ h _
    exact h.elim

theorem collect_i {gf : Nat} {lb : Array Value} (xs : List Int) (w : World) (hlen : xs.length ≤ 17592186043904) (eg : ∀ args w, (callFunc gf args).run Try.prog w = .ok (.enter gf args) w)
    (hseq : SeqStopsK Fence.wide 2 Try.prog gf lb (fun c : Int => #[.int .i64 c]) (Below w.heap.size) (fun ys => ys = xs) (fun pre => pre <+: xs) xs.length w) :
    Calls Try.prog 111 #[.func (.func gf) #[] lb] w fun e w' => ∃ v, e = .returned v ∧ Sq.Own I 3 w' w.heap.size v xs ∧ (v = .slice none 0 0 ↔ xs = []) ∧ Below w.heap.size w w' := by
  go_enter Try.func111, Try.ntmps111
  go_wp2_with (go_at_call 161; refine (appendSeq_i xs w hlen eg hseq).mono ?_; rintro e w1 ⟨v, rfl, ho, hnil, hb⟩)
  go_ret
  exact ⟨v, rfl, ho, hnil, hb⟩

set_option maxHeartbeats 1000000 in
theorem kids_seq {v0 v4 v5 v6 v7 v8 v9 v10 v11 v12 : Value} {A1 A2 A3 : Option Addr} {n c1 c2 c3 : Nat} (g : Wd) (x : Int) (W1 : World) (hg : g.n = n) (hp2 : Rd I W1 A2 n g.ch) (hp3 : Rd I W1 A3 n g.ne) (hn : n ≤ 17592186043904) :
    SeqStopsK Fence.wide 2 Try.prog 162 #[.pointer (some ⟨W1.heap.size, 0, none⟩), .pointer (some ⟨W1.heap.size + 1, 0, none⟩)] (fun c : Int => #[.int .i64 c])
      (Below ((W1.alloc (.cells #[v0, .slice A1 n c1, .slice A2 n c2, .slice A3 n c3, v4, v5, v6, v7, v8, v9, v10, v11, v12] 31)).alloc (.cells #[.int .i64 x] 3)).heap.size) (fun ys => ys = kids g x) (fun pre => pre <+: kids g x) (kids g x).length
      ((W1.alloc (.cells #[v0, .slice A1 n c1, .slice A2 n c2, .slice A3 n c3, v4, v5, v6, v7, v8, v9, v10, v11, v12] 31)).alloc (.cells #[.int .i64 x] 3)) := by
  obtain ⟨W3, hW3⟩ : ∃ W3, (W1.alloc (.cells #[v0, .slice A1 n c1, .slice A2 n c2, .slice A3 n c3, v4, v5, v6, v7, v8, v9, v10, v11, v12] 31)).alloc (.cells #[.int .i64 x] 3) = W3 := ⟨_, rfl⟩
  have f2 : W3.heap[W1.heap.size]? = some (.cells #[v0, .slice A1 n c1, .slice A2 n c2, .slice A3 n c3, v4, v5, v6, v7, v8, v9, v10, v11, v12] 31 (0, 0)) := by subst hW3; exact (Below.heap_alloc _ _ _ (by simp)).trans (World.alloc_heap_new W1 _)
  have f3 : W3.heap[W1.heap.size + 1]? = some (.cells #[.int .i64 x] 3 (0, 0)) := by subst hW3; have h := World.alloc_heap_new (W1.alloc (.cells #[v0, .slice A1 n c1, .slice A2 n c2, .slice A3 n c3, v4, v5, v6, v7, v8, v9, v10, v11, v12] 31)) (.cells #[.int .i64 x] 3); rwa [World.size_alloc] at h
  have s3 : W3.heap.size = W1.heap.size + 2 := by subst hW3; simp
  have hB3 : Below W1.heap.size W1 W3 := by subst hW3; exact ((Below.refl _ W1).alloc (Nat.le_refl _) _).alloc (by simp) _
  rw [hW3]
  intro l J Jx W hW hJ hJx hY hJ0
  exact children_stops g x W1 W3 W1.heap.size (W1.heap.size + 1) W3.heap.size W3.heap.size hg hp2 hp3 hn f2 f3 ⟨hB3.size, hB3.block⟩ (by omega) (by omega) (by omega) (by omega) (by omega) (Nat.le_refl _) (by omega) l J Jx W hW hJ hJx
    (fun pre y U hU hl => (hY pre y U hU hl).mono fun e U' h => h.imp (fun ⟨a, b, c⟩ => ⟨a, b, c.size, fun k hk _ => c.block k hk⟩) id) hJ0

set_option maxRecDepth 100000 in
set_option maxHeartbeats 2000000 in
theorem childrenN_i {v0 v4 v5 v6 v7 v8 v9 v10 v11 v12 : Value} {A1 A2 A3 : Option Addr} {n c1 c2 c3 : Nat} (g : Wd) (x : Int) (w : World) (hg : g.n = n) (hp2 : Rd I w A2 n g.ch) (hp3 : Rd I w A3 n g.ne) (hn : n ≤ 17592186043904) :
    Calls Try.prog 48 #[.agg #[v0, .slice A1 n c1, .slice A2 n c2, .slice A3 n c3, v4, v5, v6, v7, v8, v9, v10, v11, v12], .int .i64 x] w fun e w' => ∃ v, e = .returned v ∧ Sq.Own I 3 w' w.heap.size v (kids g x) ∧ (v = .slice none 0 0 ↔ kids g x = []) ∧ Below w.heap.size w w' := by
  have HK := Lib.hid (show (kids g x).length ≤ 17592186043904 from Nat.le_trans (kids_short g x) (hg ▸ hn))
  have HP2 := Lib.hid hp2
  have HP3 := Lib.hid hp3
  clear hp2 hp3
  go_enter Try.func48, Try.ntmps48
  go_wp2_with (go_at_call 112; refine (children_i x _).mono ?_; rintro e w1 ⟨rfl, rfl⟩)
  obtain ⟨W1, hW1⟩ : ∃ W1, w.alloc (.cells #[v0, .slice A1 n c1, .slice A2 n c2, .slice A3 n c3, v4, v5, v6, v7, v8, v9, v10, v11, v12] 31) = W1 := ⟨_, rfl⟩
  have s1 : W1.heap.size = w.heap.size + 1 := by subst hW1; simp
  have hB1 : Below w.heap.size w W1 := by subst hW1; exact (Below.refl _ w).alloc (Nat.le_refl _) _
  have HS := kids_seq (v0 := v0) (v4 := v4) (v5 := v5) (v6 := v6) (v7 := v7) (v8 := v8) (v9 := v9) (v10 := v10) (v11 := v11) (v12 := v12) (A1 := A1) (c1 := c1) (c2 := c2) (c3 := c3) g x W1 hg (HP2.out.below hB1) (HP3.out.below hB1) hn
  rw [s1] at HS
  have HS' := Lib.hid HS
  clear HS
  rw [hW1]
  clear hW1
  go_wp2_with (go_at_call 111; refine (collect_i (kids g x) _ HK.out (enters_of Try.func162 (by kernel_rfl) rfl) HS'.out).mono ?_; rintro e w1 ⟨v, rfl, ho, hnil, hb⟩)
  go_ret
  exact ⟨v, rfl, ho.lower (by simp; omega), hnil, (((hB1.alloc (by omega) _).alloc (by simp; omega) _)).trans (hb.mono (by simp; omega))⟩
end Go.Proofs.Ytncdicagadbafaa.RngD
