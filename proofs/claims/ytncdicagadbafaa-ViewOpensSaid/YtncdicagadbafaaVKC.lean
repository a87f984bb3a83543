/- What a round keeps that may turn a box and the slice in it. Conditions: none. slices.AppendSeq and slices.Collect over such iterators. Conditions: the world reads, things are within things as they must be, at most 128 of them; a flag for each thing, from 0 to 65535. -/
import Derived.Test.YtncdicagadbafaaVB
import Derived.Test.YtncdicagadbafaaViewX
import Derived.Test.YtncdicagadbafaaRngD
import Derived.Maps.OwnIn
namespace Go.Proofs.Ytncdicagadbafaa.ViewK
open Go Go.RowKit NestP NestW NestX NestY ValP ValW ValX ValR Sq WorldD CopP MoveP LvP MvA AttrP AttrW AttrX AttrY AttrZ AttrU AttrV AttrQ TabD TabW TabX TabB TabR MixP AwkP WoC ViewP ViewW Rng RngU RngT RngC RngD RngB
attribute [local go_sem] Oper.semAt_some

/-- The block in which the slice lies that a box holds. -/
def boxRow (ob : Nat) (W : World) : Option Nat := (W.cell? ⟨ob, 0, none⟩).bind Value.ownBlock
theorem boxRow_same {ob : Nat} {W W' : World} (h : W'.heap[ob]? = W.heap[ob]?) : boxRow ob W' = boxRow ob W := by
  unfold boxRow
  rw [World.cell?_of_block (a := ⟨ob, 0, none⟩) h]
/-- A round keeps all cells but a box, and the block of the slice in it; the slice may come to lie in a new block. -/
structure KeptR (ob : Nat) (W W' : World) : Prop where
  size : W.heap.size ≤ W'.heap.size
  keep : ∀ k o, W.heap[k]? = some o → o.isCells = true → k ≠ ob → boxRow ob W ≠ some k → W'.heap[k]? = some o
  row : boxRow ob W' = boxRow ob W ∨ ∃ k, boxRow ob W' = some k ∧ W.heap.size ≤ k ∧ k < W'.heap.size
theorem KeptR.t {ob : Nat} {A B C : World} (h : KeptR ob A B) (k : KeptR ob B C) : KeptR ob A C := by
  refine ⟨Nat.le_trans h.size k.size, fun i o hi ho hne hr => k.keep i o (h.keep i o hi ho hne hr) ho hne ?_, ?_⟩
  · rcases h.row with e | ⟨r, e, h1, h2⟩
    · rw [e]; exact hr
    · rw [e]
      intro he
      injection he with he
      have := (Array.getElem?_eq_some_iff.1 hi).1
      omega
  · rcases k.row with e | ⟨r, e, h1, h2⟩
    · rcases h.row with e2 | ⟨r, e2, h1, h2⟩
      · exact .inl (e.trans e2)
      · exact .inr ⟨r, e.trans e2, h1, Nat.lt_of_lt_of_le h2 k.size⟩
    · exact .inr ⟨r, e, Nat.le_trans h.size h1, h2⟩
theorem KeptR.below {ob : Nat} {W W' : World} (hob : ob < W.heap.size) (hb : Below W.heap.size W W') : KeptR ob W W' :=
  ⟨hb.size, fun _ _ hk _ _ _ => (hb.block _ (Array.getElem?_eq_some_iff.1 hk).1).trans hk, .inl (boxRow_same (hb.block ob hob))⟩
theorem KeptR.b {ob : Nat} {w : World} (hob : ob < w.heap.size) (W : World) (l : Nat) (o o' : Obj) (hl : w.heap.size ≤ l) (h : W.heap[l]? = some o) (hc : o.isCells = false) (_ : o.isWalk = false) : KeptR ob W (W.putObj l o') := by
  refine ⟨by simp, fun k p hk hp _ _ => ?_, .inl (boxRow_same (World.putObj_heap_other (by omega)))⟩
  have hne : k ≠ l := by
    rintro rfl
    rw [hk] at h
    injection h with h
    rw [h, hc] at hp
    cases hp
  exact (World.putObj_heap_other hne).trans hk
/-- The slice's block is none of the first ones, and there. -/
def InRow (ob B : Nat) (W : World) : Prop := ∀ r, boxRow ob W = some r → B ≤ r ∧ r < W.heap.size
theorem InRow.on {ob B : Nat} {W W' : World} (h : InRow ob B W) (hB : B ≤ W.heap.size) (hk : KeptR ob W W') : InRow ob B W' := by
  intro r hr
  rcases hk.row with e | ⟨k, e, h1, h2⟩
  · obtain ⟨h3, h4⟩ := h r (e ▸ hr)
    exact ⟨h3, Nat.lt_of_lt_of_le h4 hk.size⟩
  · rw [hr] at e
    injection e with e
    subst e
    exact ⟨Nat.le_trans hB h1, h2⟩
/-- The cells that lay in wb lie as they lay. -/
def LowC (wb W : World) : Prop := wb.heap.size ≤ W.heap.size ∧ ∀ (k : Nat) (o : Obj), wb.heap[k]? = some o → o.isCells = true → W.heap[k]? = some o
theorem LowC.refl (w : World) : LowC w w := ⟨Nat.le_refl _, fun _ _ h _ => h⟩
theorem LowC.below {wb W W' : World} (h : LowC wb W) (hb : Below W.heap.size W W') : LowC wb W' := ⟨Nat.le_trans h.1 hb.size, fun k o hk ho => (hb.block k (Nat.lt_of_lt_of_le (Array.getElem?_eq_some_iff.1 hk).1 h.1)).trans (h.2 k o hk ho)⟩
theorem LowC.kept {wb W W' : World} {ob : Nat} (h : LowC wb W) (hk : KeptR ob W W') (q1 : wb.heap.size ≤ ob) (q2 : InRow ob wb.heap.size W) : LowC wb W' :=
  ⟨Nat.le_trans h.1 hk.size, fun k o h1 ho => hk.keep k o (h.2 k o h1 ho) ho (by have := (Array.getElem?_eq_some_iff.1 h1).1; omega) fun e => by
    have := (Array.getElem?_eq_some_iff.1 h1).1
    have := (q2 k e).1
    omega⟩
theorem LowC.rd {wb W : World} (h : LowC wb W) {A : Option Addr} {n : Nat} {l : List Int} (hr : Rd I wb A n l) : Rd I W A n l :=
  ⟨hr.1, fun hn => by
    obtain ⟨b, o, e, hlt, hc⟩ := hr.2 hn
    refine ⟨b, o, e, Nat.lt_of_lt_of_le hlt h.1, fun i x hx => ?_⟩
    have h1 := hc i x hx
    have h2 : ∃ cs t fr, wb.heap[b]? = some (.cells cs t fr) := by
      cases hh : wb.heap[b]? with
      | none => simp [World.cell?, hh] at h1
      | some ob => cases ob <;> first | exact ⟨_, _, _, rfl⟩ | simp [World.cell?, hh] at h1
    obtain ⟨cs, t, fr, h2⟩ := h2
    exact (World.cell?_of_block (a := ⟨b, o + i, none⟩) ((h.2 b _ h2 rfl).trans h2.symm)).trans h1⟩
theorem LowC.wo {wb W : World} (h : LowC wb W) {v : Value} {g : Wd} (hw : Wo wb v g) : Wo W v g := by
  obtain ⟨A0, A1, A2, A3, A4, A5, A6, n0, c0, n, c1, n2, c2, n3, c3, n4, c4, n5, c5, n6, c6, rfl, ⟨r0, r1, r2, r3, r4, r5, r6⟩, hr⟩ := hw
  exact ⟨A0, A1, A2, A3, A4, A5, A6, n0, c0, n, c1, n2, c2, n3, c3, n4, c4, n5, c5, n6, c6, rfl, ⟨LowC.rd h r0, LowC.rd h r1, LowC.rd h r2, LowC.rd h r3, LowC.rd h r4, LowC.rd h r5, LowC.rd h r6⟩, hr⟩

theorem own_keptR {ob B : Nat} {w1 wr : World} {v : Value} {l : List Int} (h : Sq.Own I 3 w1 B v l) (hk : KeptR ob w1 wr) (hob : ob < B) (hr : ∀ r, boxRow ob w1 = some r → r < B) : Sq.Own I 3 wr B v l := by
  obtain ⟨h0, h⟩ := h
  refine ⟨h0, ?_⟩
  rcases h with h | ⟨g', cap, cur, rfl, hB, hh, hx⟩
  · exact .inl h
  · exact .inr ⟨g', cap, cur, rfl, hB, hk.keep g' _ hh rfl (by omega) (fun e => by have := hr _ e; omega), hx⟩
theorem children_own {v : Value} {w : World} (g : Wd) (hG : NestP.Good g) (x : Int) (ho : Wo w v g) :
    Calls Try.prog 48 #[v, .int .i64 x] w fun e w' => ∃ A c, e = .returned (.slice A (kids g x).length c) ∧ Sq.Own I 3 w' w.heap.size (.slice A (kids g x).length c) (kids g x) ∧ Below w.heap.size w w' := by
  obtain ⟨A0, A1, A2, A3, A4, A5, A6, n0, c0, n, c1, n2, c2, n3, c3, n4, c4, n5, c5, n6, c6, rfl, ⟨r0, r1, r2, r3, r4, r5, r6⟩, hu, hw, hb⟩ := ho
  have hg : g.n = n := r1.len.symm
  obtain rfl : n2 = n := r2.len.trans (hG.chl.trans hg)
  obtain rfl : n3 = n2 := r3.len.trans (hG.nel.trans hg)
  refine (childrenN_i g x w hg r2 r3 hb.2.1).mono ?_
  rintro e w' ⟨u, rfl, ho, _, hb'⟩
  obtain ⟨A, c, rfl, _, _⟩ := ho.shape
  exact ⟨A, c, rfl, ho, hb'⟩
theorem wo_agg {w : World} {v : Value} {g : Wd} (h : Wo w v g) : ∃ a0 a1 a2 a3 a4 a5 a6 a7 a8 a9 a10 a11 a12 : Value, v = .agg #[a0, a1, a2, a3, a4, a5, a6, a7, a8, a9, a10, a11, a12] := by
  obtain ⟨A0, A1, A2, A3, A4, A5, A6, n0, c0, n, c1, n2, c2, n3, c3, n4, c4, n5, c5, n6, c6, rfl, _⟩ := h
  exact ⟨_, _, _, _, _, _, _, _, _, _, _, _, _, rfl⟩
theorem fore_split (g : Wd) (k : Nat) {L : List Int} {j : Nat} (hl : j < L.length) : fore g k L = fore g k (L.take j) ++ ((if hasB g L[j] 3 = true then [] else L[j] :: (if showsB g L[j] = true then reach g k L[j] else [])) ++ fore g k (L.drop (j + 1))) := by
  conv => lhs; rw [← List.take_append_drop j L, List.drop_eq_getElem_cons hl]
  unfold fore
  rw [List.flatMap_append, List.flatMap_cons]

theorem undef_no {b : Bool} (h : some undef = some (Value.bool b)) : False := by
  injection h with h
  unfold undef at h
  cases h
/-- The numbers of a round. -/
theorem rnd {j m : Nat} (hlt : j < m) (hm : m ≤ 128) : (0 : Int) ≤ (j : Int) ∧ (j : Int) < (m : Int) ∧ wrap64 ((j : Int) + 1) = ((j + 1 : Nat) : Int) ∧ m - (intOf (Value.int .i64 (wrap64 ((j : Int) + 1)))).toNat < m - (intOf (Value.int .i64 (j : Int))).toNat := by
  have hwk : wrap64 ((j : Int) + 1) = ((j + 1 : Nat) : Int) := by rw [IntWalk.wrap64_in _ (by omega)]; simp
  refine ⟨by omega, by omega, hwk, ?_⟩
  rw [hwk]
  simp [intOf]
  omega
/-- What a visit of a child does to what has come. -/
theorem visit (g : Wd) (k : Nat) {L : List Int} {j : Nat} (hl : j < L.length) {c : Int} (hc : L[j] = c) {q3 q4 : Bool} (h3 : hasB g c 3 = q3) (h4 : showsB g c = q4) {pre : List Int} {N : Nat} (hN : pre.length + (fore g k L).length ≤ N) :
    (q3 = true → fore g k (L.take (j + 1)) = fore g k (L.take j)) ∧
    (q3 = false → (pre ++ fore g k (L.take j)).length < N ∧ (fore g k (L.take j) ++ [c] <+: fore g k L) ∧
      (q4 = false → fore g k (L.take (j + 1)) = fore g k (L.take j) ++ [c]) ∧
      (q4 = true → fore g k (L.take (j + 1)) = (fore g k (L.take j) ++ [c]) ++ reach g k c ∧ (pre ++ fore g k (L.take j) ++ [c]).length + (reach g k c).length ≤ N ∧ ∀ p, p <+: reach g k c → (fore g k (L.take j) ++ [c]) ++ p <+: fore g k L)) := by
  have hsp := fore_split g k hl
  have hT : fore g k (L.take (j + 1)) = fore g k (L.take j) ++ (if hasB g L[j] 3 = true then [] else L[j] :: (if showsB g L[j] = true then reach g k L[j] else [])) := by rw [List.take_succ_eq_append_getElem hl, fore_snoc]
  rw [hc, h3, h4] at hsp hT
  have hlen := congrArg List.length hsp
  refine ⟨fun h => by rw [hT, if_pos h, List.append_nil], fun h => ?_⟩
  subst h
  rw [if_neg (by simp)] at hsp hT hlen
  simp only [List.length_append, List.length_cons] at hlen
  refine ⟨by rw [List.length_append]; omega, by rw [hsp]; exact ⟨_, by rw [List.append_assoc]; rfl⟩, fun h => by rw [hT, if_neg (by rw [h]; simp)], fun h => ?_⟩
  subst h
  rw [if_pos rfl] at hsp hT hlen
  refine ⟨by rw [hT, List.append_assoc]; rfl, by simp only [List.length_append, List.length_cons, List.length_nil]; omega, fun p hp => ?_⟩
  obtain ⟨r, hr⟩ := hp
  rw [hsp, ← hr]
  exact ⟨r ++ fore g k (L.drop (j + 1)), by simp⟩

end Go.Proofs.Ytncdicagadbafaa.ViewK

namespace Go.Proofs.Ytncdicagadbafaa.ViewC
open Go Go.RowKit NestP NestW NestX NestY ValP ValW ValX ValR Sq WorldD CopP MoveP LvP MvA AttrP AttrW AttrX AttrY AttrZ AttrU AttrV AttrQ TabD TabW TabX TabB TabR MixP AwkP WoC ViewP ViewW ViewK Rng RngU RngT RngC RngD RngB
attribute [local go_sem] Oper.semAt_some

theorem reached_i {v : Value} (g : Wd) (x : Int) (w : World) (ho : Wo w v g) :
    Calls Try.prog 132 #[v, .int .i64 x] w fun e w' => e = .returned (.func (.func 168) #[] #[.pointer (some ⟨w.heap.size, 0, none⟩), .pointer (some ⟨w.heap.size + 1, 0, none⟩)]) ∧ Below w.heap.size w w' ∧ w'.heap.size = w.heap.size + 2 ∧
      (∃ cs, v = .agg cs ∧ w'.heap[w.heap.size]? = some (.cells cs 31 (0, 0))) ∧ w'.heap[w.heap.size + 1]? = some (.cells #[.int .i64 x] 3 (0, 0)) := by
  obtain ⟨A0, A1, A2, A3, A4, A5, A6, n0, c0, n, c1, n2, c2, n3, c3, n4, c4, n5, c5, n6, c6, rfl, _⟩ := ho
  go_enter Try.func132, Try.ntmps132
  go_wp2_with fail
  go_ret
  obtain ⟨W, hW⟩ : ∃ W, (w.alloc (.cells #[.slice A0 n0 c0, .slice A1 n c1, .slice A2 n2 c2, .slice A3 n3 c3, .slice A4 n4 c4, .slice A5 n5 c5, .slice A6 n6 c6, .int .u64 g.seed, .int .i64 g.sc, .int .i64 g.tu, .int .i64 g.ov, .int .i64 g.it, .int .i64 g.go] 31)).alloc (.cells #[.int .i64 x] 3) = W := ⟨_, rfl⟩
  obtain ⟨h1, h2, h3, h4⟩ := MvR.alloc2 hW
  rw [hW]
  exact ⟨rfl, h4, h1, ⟨_, rfl, h2⟩, h3⟩

theorem boxRow_box {ob : Nat} {W : World} {v : Value} {t : TypeId} (h : Boxed W ob t v) : boxRow ob W = v.ownBlock := by
  unfold boxRow
  rw [h.cell]
  rfl
set_option maxRecDepth 100000 in
set_option maxHeartbeats 4000000 in
theorem appendSeq_k {gf : Nat} {lb : Array Value} (xs : List Int) (w : World) (hlen : xs.length ≤ 17592186043904) (eg : ∀ args w, (callFunc gf args).run Try.prog w = .ok (.enter gf args) w)
    (hseq : SeqStopsK Fence.wide 2 Try.prog gf lb (fun c : Int => #[.int .i64 c]) (KeptR w.heap.size) (fun ys => ys = xs) (fun pre => pre <+: xs) xs.length (w.alloc (.cells #[.slice none 0 0] 23))) :
    Calls Try.prog 161 #[.slice none 0 0, .func (.func gf) #[] lb] w fun e w' => ∃ v, e = .returned v ∧ Sq.Own I 3 w' w.heap.size v xs ∧ (v = .slice none 0 0 ↔ xs = []) ∧ Below w.heap.size w w' := by
  obtain ⟨i0, hi, hz0, hz1, hz2⟩ := elI.parts
  refine (callsIn_wide (n := 3)).1 ?_
  refine callsIn_of_wp_marks Try.func161 rfl trivial ?_ rfl
  simp only [Try.ntmps161, List.size_toArray, List.length_cons, List.length_nil, Nat.reduceAdd, Nat.reduceSub, Array.replicate_succ, Array.replicate_zero, List.push_toArray, List.append_toArray, List.nil_append, List.cons_append]
  gi_wp2
  have bO := Boxed.new w 23 (.slice none 0 0)
  have hB0 : Below w.heap.size w (w.alloc (.cells #[.slice none 0 0] 23)) := (Below.refl _ w).alloc (Nat.le_refl _) _
  refine wpIn_rangeFunc_ownG rfl (by omega) (gf := gf) (lb := lb) rfl trivial eg hseq KeptR.t (KeptR.b (by simp)) (Below.refl _ _) (fun _ => rfl)
    (fun pre W => (∃ v, Boxed W w.heap.size 23 v ∧ W.ownsRow w.heap.size 3 1 v pre.length (pre.map I) ∧ (v = .slice none 0 0 ↔ pre = [])) ∧ Below w.heap.size w W)
    (fun _ _ _ => False)
    (OwnFrom.and (Own.from (holdsRow_own w.heap.size w.heap.size 23 3 1 (fun pre => pre.length) (fun pre => pre.map I) (fun pre v => v = .slice none 0 0 ↔ pre = [])) _) (ownFrom_below (Nat.le_refl _) (by simp)))
    (fun _ _ _ _ _ hs _ _ => hs)
    ⟨⟨_, bO, World.ownsRow_nil _ _ _ _, by simp⟩, hB0⟩
    (fun x => { tmps := #[.slice none 0 0, .func (.func gf) #[] lb, .pointer (some ⟨w.heap.size, 0, none⟩), undef, .slice none 0 0, .int .i64 x, .func (.func gf) #[] lb, .int .i64 x, undef, undef, undef, undef, undef], defers := [] }) ?assign ?body ?done ?stop
  case assign =>
    intro l x W K hK
    gi_wp2
    exact hK
  case body =>
    rintro l pre x W ⟨⟨v, hv, hrow, hnil⟩, hB⟩ hlt
    have hc := hv.cell
    gi_wp2_with (gi_at_builtin; refine wpListIn_append_own_at _ rfl _ _ 23 rfl w.heap.size 3 i0 (I 0) 1 8 Try.underlying23 hi hz0 hz1 hz2 rfl (by decide) _ _ _ rfl (hrow.alloc _) ⟨W.heap.size, 0, none⟩ 1 1 [I x] rfl rfl (cell_one_new _ _ _) (by simp [I, Value.oneCell']) (by unfold maxLen; omega) (by omega) (by have := hB.size; simp; omega) ?_; intro v' w1 hown' hgrow _ hor; obtain ⟨g', cap', rfl⟩ := ownsRow_succ hown'; obtain ⟨hv1, hv2, hr2, hk2, hb2⟩ := hv.appended (by decide) hrow hB.size (Nat.le_refl _) hown' hgrow; have hc1 := hv1.cell; have hf1 := hv1.frozen)
    refine ⟨hk2.from _, ⟨hb2.size, fun k o hk ho hne hr => ?_, ?_⟩, ⟨_, hv2, by simpa using hr2, by simp⟩, hB.trans hb2⟩
    · have hlt := (Array.getElem?_eq_some_iff.1 hk).1
      rw [boxRow_box hv] at hr
      exact (Below.heap_setCell _ _ _ _ (by simpa using hne)).trans ((hgrow.block k (by simp; omega) (fun e => hr e.symm)).trans ((Below.heap_alloc _ _ _ hlt).trans hk))
    · rw [boxRow_box hv2, boxRow_box hv]
      rcases hor with h | h
      · exact .inl h
      · refine .inr ⟨_, h, by simp, ?_⟩
        have h3 := (World.ownsRow.lt hr2 _ h).2
        exact h3
  case done =>
    rintro D ys W hD rfl ⟨⟨v, hv, hrow, hnil⟩, hB⟩ hK
    have hc := hv.cell
    gi_wp2
    refine ⟨by simp, .inl ⟨_, _, rfl, run_takeDeferred hK, ?_⟩⟩
    exact ⟨_, results_tmp rfl _ _ _, v, rfl, ownsRow_putObj hrow _ hK rfl, hnil, hB.trans (belowK_b (w := w) (Nat.le_refl _) W D _ _ (by simp at hD; omega) hK rfl rfl)⟩
  case stop =>
    rintro D c pre W _ _ h _
    exact h.elim

theorem collect_k {gf : Nat} {lb : Array Value} (xs : List Int) (w : World) (hlen : xs.length ≤ 17592186043904) (eg : ∀ args w, (callFunc gf args).run Try.prog w = .ok (.enter gf args) w)
    (hseq : SeqStopsK Fence.wide 2 Try.prog gf lb (fun c : Int => #[.int .i64 c]) (KeptR w.heap.size) (fun ys => ys = xs) (fun pre => pre <+: xs) xs.length (w.alloc (.cells #[.slice none 0 0] 23))) :
    Calls Try.prog 111 #[.func (.func gf) #[] lb] w fun e w' => ∃ v, e = .returned v ∧ Sq.Own I 3 w' w.heap.size v xs ∧ (v = .slice none 0 0 ↔ xs = []) ∧ Below w.heap.size w w' := by
  go_enter Try.func111, Try.ntmps111
  go_wp2_with (go_at_call 161; refine (appendSeq_k xs w hlen eg hseq).mono ?_; rintro e w1 ⟨v, rfl, ho, hnil, hb⟩)
  go_ret
  exact ⟨v, rfl, ho, hnil, hb⟩

end Go.Proofs.Ytncdicagadbafaa.ViewC
