/- How a story begins, in plain Lean; slices of a call's own of whom no two share a block; clewref05.From and clewref19.after. Conditions: the tables read. -/
import Derived.Test.YtncdicagadbafaaVB
import Derived.Test.YtncdicagadbafaaTabB
namespace Go.Proofs.Ytncdicagadbafaa.NewP
open Go Go.RowKit NestP NestW NestX NestY ValP ValW ValX ValR Sq WorldD CopP MoveP LvP MvA AttrP AttrW AttrX TabD TabW TabX TabB MixP Awk AwkP

/-- The first place from one on at which a number stands; 0: none. -/
def aftR (l : List Int) (p : Int) : Nat → Nat → Int
  | 0, _ => 0
  | s + 1, i => if at' l (i : Int) = p then (i : Int) else aftR l p s (i + 1)
def aft (l : List Int) (x : Nat) (p : Int) : Int := aftR l p (l.length - x) x
theorem aft_no {l : List Int} {x : Nat} (h : l.length ≤ x) (p : Int) : aft l x p = 0 := by
  unfold aft; rw [Nat.sub_eq_zero_of_le h]; rfl
theorem aft_go {l : List Int} {x : Nat} (h : x < l.length) (p : Int) : aft l x p = if at' l (x : Int) = p then (x : Int) else aft l (x + 1) p := by
  unfold aft
  rw [show l.length - x = (l.length - (x + 1)) + 1 by omega]
  rfl
def pas (t : TbV) : List Int := t.th.l.map ThV.pa
def chN (t : TbV) (k : Nat) : Int := if 0 < k then aft (pas t) 1 (k : Int) else 0
def neN (t : TbV) (k : Nat) : Int := if at' (pas t) (k : Int) = 0 then 0 else aft (pas t) (k + 1) (at' (pas t) (k : Int))
/-- The world as far as so many things. -/
def newK (t : TbV) (k : Nat) : Wd where
  gl := t.gl.l
  pa := (pas t).take k
  ch := (List.range k).map (chN t)
  ne := (List.range k).map (neN t)
  fl := (t.th.l.take k).map ThV.fl
  pr := (t.th.l.take k).flatMap fun e => e.pr.l
  ti := List.replicate t.da.n 0
  seed := fr t.rl
  sc := 0
  tu := 0
  ov := 0
  it := 0
  go := 0
def newW (t : TbV) : Wd := newK t t.th.n

/-- One thing more. -/
theorem newK_succ (t : TbV) {k : Nat} (hl : k < t.th.l.length) : (newK t (k + 1)).pa = (newK t k).pa ++ [(t.th.l[k]).pa] ∧ (newK t (k + 1)).ch = (newK t k).ch ++ [chN t k] ∧ (newK t (k + 1)).ne = (newK t k).ne ++ [neN t k] ∧ (newK t (k + 1)).fl = (newK t k).fl ++ [(t.th.l[k]).fl] ∧ (newK t (k + 1)).pr = (newK t k).pr ++ (t.th.l[k]).pr.l := by
  refine ⟨?_, ?_, ?_, ?_, ?_⟩
  · show (t.th.l.map ThV.pa).take (k + 1) = (t.th.l.map ThV.pa).take k ++ _
    rw [List.take_succ_eq_append_getElem (by rw [List.length_map]; exact hl), List.getElem_map]
  · show (List.range (k + 1)).map _ = (List.range k).map _ ++ _
    rw [List.range_succ, List.map_append]; rfl
  · show (List.range (k + 1)).map _ = (List.range k).map _ ++ _
    rw [List.range_succ, List.map_append]; rfl
  · show (t.th.l.take (k + 1)).map _ = (t.th.l.take k).map _ ++ _
    rw [List.take_succ_eq_append_getElem hl, List.map_append]; rfl
  · show (t.th.l.take (k + 1)).flatMap _ = (t.th.l.take k).flatMap _ ++ _
    rw [List.take_succ_eq_append_getElem hl, List.flatMap_append, List.flatMap_singleton]
theorem newK_len (t : TbV) (k : Nat) (hp : ∀ e ∈ t.th.l, e.pr.l.length ≤ 16) : (newK t k).pa.length ≤ k ∧ (newK t k).ch.length ≤ k ∧ (newK t k).ne.length ≤ k ∧ (newK t k).fl.length ≤ k ∧ (newK t k).pr.length ≤ 16 * k := by
  refine ⟨?_, ?_, ?_, ?_, ?_⟩
  · show ((pas t).take k).length ≤ k
    rw [List.length_take]; omega
  · show ((List.range k).map _).length ≤ k
    rw [List.length_map, List.length_range]; omega
  · show ((List.range k).map _).length ≤ k
    rw [List.length_map, List.length_range]; omega
  · show ((t.th.l.take k).map _).length ≤ k
    rw [List.length_map, List.length_take]; omega
  · have h : ∀ l : List ThV, (∀ e ∈ l, e.pr.l.length ≤ 16) → (l.flatMap fun e => e.pr.l).length ≤ 16 * l.length := by
      intro l
      induction l with
      | nil => intro _; simp
      | cons e l ih =>
        intro h
        rw [List.flatMap_cons, List.length_append, List.length_cons]
        have h1 := h e (by simp)
        have h2 := ih fun x hx => h x (by simp [hx])
        omega
    have h1 := h (t.th.l.take k) fun e he => hp e (List.mem_of_mem_take he)
    rw [List.length_take] at h1
    show ((t.th.l.take k).flatMap _).length ≤ _
    omega

/-- Slices of the call's own; no two share a block, and none lies in a certain one. -/
structure Held (w : World) (B b : Nat) (ps : List (Value × List Int)) : Prop where
  own : ∀ p ∈ ps, Sq.Own I 3 w B p.1 p.2
  apart : ps.Pairwise fun p q => p.1.ownBlock = none ∨ p.1.ownBlock ≠ q.1.ownBlock
  off : ∀ p ∈ ps, p.1.ownBlock ≠ some b
def nil7 : List (Value × List Int) := [(.slice none 0 0, []), (.slice none 0 0, []), (.slice none 0 0, []), (.slice none 0 0, []), (.slice none 0 0, []), (.slice none 0 0, []), (.slice none 0 0, [])]
theorem nil7_mem {p : Value × List Int} (h : p ∈ nil7) : p = (.slice none 0 0, []) := by
  unfold nil7 at h
  simp only [List.mem_cons, List.not_mem_nil, or_false, or_self] at h
  exact h
theorem held_nil (w : World) (B b : Nat) : Held w B b nil7 := by
  refine ⟨fun p hp => ?_, ?_, fun p hp => ?_⟩
  · rw [nil7_mem hp]; exact own_nil w B
  · unfold nil7; simp [Value.ownBlock]
  · rw [nil7_mem hp]; simp [Value.ownBlock]
section
variable {w w' : World} {B b : Nat} {ps a c : List (Value × List Int)} {v v' : Value} {l l' : List Int}
theorem Held.kept (h : Held w B b ps) {row : Option Nat} (hg : w.grownBy w' row) (hr : ∀ p ∈ ps, p.1.ownBlock = none ∨ p.1.ownBlock ≠ row) : Held w' B b ps :=
  ⟨fun p hp => (h.own p hp).kept hg (hr p hp), h.apart, h.off⟩
theorem Held.below (h : Held w B b ps) (hb : Below w.heap.size w w') : Held w' B b ps := ⟨fun p hp => (h.own p hp).below hb, h.apart, h.off⟩
theorem Held.move (h : Held w B b ps) {b' : Nat} (hb : w.heap.size ≤ b') : Held w B b' ps :=
  ⟨h.own, h.apart, fun p hp e => by have := (World.ownsRow.lt (h.own p hp) b' e).2; omega⟩
theorem Held.at_ (h : Held w B b (a ++ (v, l) :: c)) : Sq.Own I 3 w B v l := h.own (v, l) (by simp)
theorem Held.put (h : Held w B b (a ++ (v, l) :: c)) (hs : b < w.heap.size) (hg : w.grownBy w' v.ownBlock) (ho : Sq.Own I 3 w' B v' l') (hv : v'.ownBlock = v.ownBlock ∨ v'.ownBlock = some w.heap.size) : Held w' B b (a ++ (v', l') :: c) := by
  obtain ⟨ho1, ha1, hf1⟩ := h
  have hp := List.pairwise_append.1 ha1
  have hc := List.pairwise_cons.1 hp.2.1
  have hal : ∀ p ∈ a, p.1.ownBlock = none ∨ p.1.ownBlock ≠ v.ownBlock := fun p hm => hp.2.2 p hm (v, l) (by simp)
  have hcl : ∀ p ∈ c, p.1.ownBlock = none ∨ p.1.ownBlock ≠ v.ownBlock := fun p hm => by
    rcases hc.1 p hm with h | h
    · cases he : p.1.ownBlock with
      | none => exact .inl rfl
      | some k => exact .inr (by rw [show v.ownBlock = none from h]; simp)
    · exact .inr fun e => h e.symm
  have hlt : ∀ p ∈ a ++ c, p.1.ownBlock ≠ some w.heap.size := fun p hm e => by
    have hm' : p ∈ a ++ (v, l) :: c := by rcases List.mem_append.1 hm with h | h <;> simp [h]
    have := (World.ownsRow.lt (ho1 p hm') _ e).2; omega
  refine ⟨fun p hm => ?_, List.pairwise_append.2 ⟨hp.1, List.pairwise_cons.2 ⟨fun q hq => ?_, hc.2⟩, fun p hm q hq => ?_⟩, fun p hm => ?_⟩
  · rcases List.mem_append.1 hm with h | h
    · exact (ho1 p (by simp [h])).kept hg (hal p h)
    · rcases List.mem_cons.1 h with rfl | h
      · exact ho
      · exact (ho1 p (by simp [h])).kept hg (hcl p h)
  · rcases hv with hv | hv
    · show v'.ownBlock = none ∨ v'.ownBlock ≠ _
      rw [hv]; exact hc.1 q hq
    · right
      show v'.ownBlock ≠ _
      rw [hv]; exact fun e => hlt q (by simp [hq]) e.symm
  · rcases List.mem_cons.1 hq with rfl | hq
    · show p.1.ownBlock = none ∨ p.1.ownBlock ≠ v'.ownBlock
      rcases hv with hv | hv
      · rw [hv]; exact hal p hm
      · rw [hv]; exact .inr (hlt p (by simp [hm]))
    · exact hp.2.2 p hm q (by simp [hq])
  · rcases List.mem_append.1 hm with h | h
    · exact hf1 p (by simp [h])
    · rcases List.mem_cons.1 h with rfl | h
      · show v'.ownBlock ≠ some b
        rcases hv with hv | hv
        · rw [hv]; exact hf1 (v, l) (by simp)
        · rw [hv]; exact fun e => by injection e with e; omega
      · exact hf1 p (by simp [h])
theorem Held.store (h : Held w B b ps) (i : Nat) (x : Value) : Held (w.setCell ⟨b, i, none⟩ x) B b ps :=
  ⟨fun p hp => own_ne (h.own p hp) (h.off p hp) i x, h.apart, h.off⟩
end

/-- The cells of a world of seven slices and a seed. -/
def wcells (ps : List (Value × List Int)) (s : Value) : Array Value := (ps.map Prod.fst ++ [s, .int .i64 0, .int .i64 0, .int .i64 0, .int .i64 0, .int .i64 0]).toArray
theorem wcells_set (a c : List (Value × List Int)) (v v' : Value) (l l' : List Int) (s : Value) : (wcells (a ++ (v, l) :: c) s).setIfInBounds a.length v' = wcells (a ++ (v', l') :: c) s := by
  unfold wcells
  rw [List.setIfInBounds_toArray]
  congr 1
  rw [List.map_append, List.map_append, List.map_cons, List.map_cons, List.append_assoc, List.append_assoc, List.set_append_right _ _ (by simp)]
  simp

/-- Two boxes that stay, what the call holds, and all that lay there. -/
structure Na (w : World) (cs cs2 : Array Value) (T T2 : TypeId) (b : Nat) (ps : List (Value × List Int)) (wr : World) : Prop where
  tab : wr.heap[w.heap.size]? = some (.cells cs T (0, 0))
  res : wr.heap[w.heap.size + 1]? = some (.cells cs2 T2 (0, 0))
  held : Held wr (w.heap.size + 2) b ps
  below : Below w.heap.size w wr
  lt : w.heap.size + 2 ≤ wr.heap.size
  bl : w.heap.size + 1 ≤ b
  bt : b < wr.heap.size
section
variable {w wr w' : World} {cs cs2 : Array Value} {T T2 : TypeId} {b : Nat} {ps a c : List (Value × List Int)} {v v' s : Value} {l l' : List Int}
theorem Na.new {W : World} (h : (w.alloc (.cells cs T)).alloc (.cells cs2 T2) = W) : Na w cs cs2 T T2 (w.heap.size + 1) nil7 W := by
  subst h
  have h0 : ((w.alloc (.cells cs T)).alloc (.cells cs2 T2)).heap[w.heap.size]? = some (.cells cs T (0, 0)) := (Below.heap_alloc (w.alloc (.cells cs T)) (.cells cs2 T2) w.heap.size (by simp)).trans (World.alloc_heap_new w _)
  have h1 : ((w.alloc (.cells cs T)).alloc (.cells cs2 T2)).heap[w.heap.size + 1]? = some (.cells cs2 T2 (0, 0)) := by
    have := World.alloc_heap_new (w.alloc (.cells cs T)) (.cells cs2 T2)
    simpa using this
  exact ⟨h0, h1, held_nil _ _ _, ((Below.refl _ _).alloc (Nat.le_refl _) _).alloc (by simp) _, by simp, by omega, by simp⟩
theorem Na.on (h : Na w cs cs2 T T2 b ps wr) (hb : Below wr.heap.size wr w') : Na w cs cs2 T T2 b ps w' :=
  ⟨(hb.block _ (by have := h.lt; omega)).trans h.tab, (hb.block _ (by have := h.lt; omega)).trans h.res, h.held.below hb, h.below.trans (hb.mono h.below.size), Nat.le_trans h.lt hb.size, h.bl, Nat.lt_of_lt_of_le h.bt hb.size⟩
theorem Na.drew (h : Na w cs cs2 T T2 b ps wr) : Na w cs cs2 T T2 b ps wr.drew := h.on (Below.drew (Below.refl _ _))
theorem Na.put (h : Na w cs cs2 T T2 b (a ++ (v, l) :: c) wr) (hB : Below (w.heap.size + 2) wr w') (hg : wr.grownBy w' v.ownBlock) (ho : Sq.Own I 3 w' (w.heap.size + 2) v' l') (hv : v'.ownBlock = v.ownBlock ∨ v'.ownBlock = some wr.heap.size) : Na w cs cs2 T T2 b (a ++ (v', l') :: c) w' :=
  ⟨(hB.block _ (by omega)).trans h.tab, (hB.block _ (by omega)).trans h.res, h.held.put h.bt hg ho hv, h.below.trans (hB.mono (by omega)), Nat.le_trans h.lt hB.size, h.bl, Nat.lt_of_lt_of_le h.bt hB.size⟩
/-- A slice made where none was. -/
theorem Na.made (h : Na w cs cs2 T T2 b (a ++ (.slice none 0 0, l) :: c) wr) (hb : Below wr.heap.size wr w') (ho : Sq.Own I 3 w' (w.heap.size + 2) v' l') (hv : v'.ownBlock = some wr.heap.size) : Na w cs cs2 T T2 b (a ++ (v', l') :: c) w' :=
  h.put (hb.mono h.lt) ⟨hb.os, hb.tape, hb.output, hb.size, fun k hk _ => hb.block k hk⟩ ho (.inr hv)
/-- The world's own box. -/
theorem Na.box (h : Na w cs cs2 T T2 b ps wr) (cs3 : Array Value) : Na w cs cs2 T T2 wr.heap.size ps (wr.alloc (.cells cs3 T2)) ∧ (wr.alloc (.cells cs3 T2)).heap[wr.heap.size]? = some (.cells cs3 T2 (0, 0)) := by
  have hb : Below wr.heap.size wr (wr.alloc (.cells cs3 T2)) := (Below.refl _ _).alloc (Nat.le_refl _) _
  have h2 := h.on hb
  refine ⟨⟨h2.tab, h2.res, ?_, h2.below, h2.lt, by have := h.lt; omega, by simp⟩, World.alloc_heap_new wr _⟩
  have h3 := (h.held.move (Nat.le_refl _)).below hb
  exact h3
theorem Na.store (h : Na w cs cs2 T T2 b ps wr) (hne : b ≠ w.heap.size + 1) (i : Nat) (x : Value) : Na w cs cs2 T T2 b ps (wr.setCell ⟨b, i, none⟩ x) :=
  ⟨(Below.heap_setCell _ _ _ _ (by have := h.bl; simp; omega)).trans h.tab, (Below.heap_setCell _ _ _ _ (by simp; omega)).trans h.res, h.held.store i x, h.below.setCell (by have := h.bl; simp; omega) _, by
    have := h.lt
    simpa [World.setCell] using this, h.bl, by
    have := h.bt
    simpa [World.setCell] using this⟩

/-- The same, and the box of the world in the making. -/
structure Nb (w : World) (cs cs2 : Array Value) (T T2 : TypeId) (b : Nat) (ps : List (Value × List Int)) (s : Value) (wr : World) : Prop where
  na : Na w cs cs2 T T2 b ps wr
  box : wr.heap[b]? = some (.cells (wcells ps s) T2 (0, 0))
  hne : b ≠ w.heap.size + 1
theorem Nb.on (h : Nb w cs cs2 T T2 b ps s wr) (hb : Below wr.heap.size wr w') : Nb w cs cs2 T T2 b ps s w' := ⟨h.na.on hb, (hb.block _ h.na.bt).trans h.box, h.hne⟩
theorem Nb.drew (h : Nb w cs cs2 T T2 b ps s wr) : Nb w cs cs2 T T2 b ps s wr.drew := h.on (Below.drew (Below.refl _ _))
/-- Behind an append to one of the slices. -/
theorem Nb.mid (h : Nb w cs cs2 T T2 b (a ++ (v, l) :: c) s wr) (hB : Below (w.heap.size + 2) wr w') (hg : wr.grownBy w' v.ownBlock) (ho : Sq.Own I 3 w' (w.heap.size + 2) v' l') (hv : v'.ownBlock = v.ownBlock ∨ v'.ownBlock = some wr.heap.size) :
    Na w cs cs2 T T2 b (a ++ (v', l') :: c) w' ∧ w'.heap[b]? = some (.cells (wcells (a ++ (v, l) :: c) s) T2 (0, 0)) :=
  ⟨h.na.put hB hg ho hv, (hg.block b h.na.bt fun e => h.na.held.off (v, l) (by simp) e.symm).trans h.box⟩
/-- And the store of it. -/
theorem Nb.fin (hne : b ≠ w.heap.size + 1) (h : Na w cs cs2 T T2 b (a ++ (v', l') :: c) wr) (hx : wr.heap[b]? = some (.cells (wcells (a ++ (v, l) :: c) s) T2 (0, 0))) : Nb w cs cs2 T T2 b (a ++ (v', l') :: c) s (wr.setCell ⟨b, a.length, none⟩ v') :=
  ⟨h.store hne _ _, by rw [heapSet hx, wcells_set a c v v' l l' s], hne⟩
end

/-- The same; and a third box, as the second one is: the second one itself at first. -/
structure Nz (w : World) (cs cs2 : Array Value) (T T2 : TypeId) (b : Nat) (ps : List (Value × List Int)) (wr : World) : Prop where
  na : Na w cs cs2 T T2 b ps wr
  box : wr.heap[b]? = some (.cells cs2 T2 (0, 0))
section
variable {w wr w' : World} {cs cs2 : Array Value} {T T2 : TypeId} {b : Nat} {ps a c : List (Value × List Int)} {v v' s : Value} {l l' : List Int}
theorem Nz.new {W : World} (h : (w.alloc (.cells cs T)).alloc (.cells cs2 T2) = W) : Nz w cs cs2 T T2 (w.heap.size + 1) nil7 W := ⟨Na.new h, (Na.new h).res⟩
theorem Nz.on (h : Nz w cs cs2 T T2 b ps wr) (hb : Below wr.heap.size wr w') : Nz w cs cs2 T T2 b ps w' := ⟨h.na.on hb, (hb.block _ h.na.bt).trans h.box⟩
theorem Nz.drew (h : Nz w cs cs2 T T2 b ps wr) : Nz w cs cs2 T T2 b ps wr.drew := h.on (Below.drew (Below.refl _ _))
theorem Nz.put (h : Nz w cs cs2 T T2 b (a ++ (v, l) :: c) wr) (hB : Below (w.heap.size + 2) wr w') (hg : wr.grownBy w' v.ownBlock) (ho : Sq.Own I 3 w' (w.heap.size + 2) v' l') (hv : v'.ownBlock = v.ownBlock ∨ v'.ownBlock = some wr.heap.size) : Nz w cs cs2 T T2 b (a ++ (v', l') :: c) w' :=
  ⟨h.na.put hB hg ho hv, (hg.block b h.na.bt fun e => h.na.held.off (v, l) (by simp) e.symm).trans h.box⟩
theorem Nz.made (h : Nz w cs cs2 T T2 b (a ++ (.slice none 0 0, l) :: c) wr) (hb : Below wr.heap.size wr w') (ho : Sq.Own I 3 w' (w.heap.size + 2) v' l') (hv : v'.ownBlock = some wr.heap.size) : Nz w cs cs2 T T2 b (a ++ (v', l') :: c) w' :=
  ⟨h.na.made hb ho hv, (hb.block _ h.na.bt).trans h.box⟩
theorem Nz.alloc (h : Nz w cs cs2 T T2 b ps wr) : Nz w cs cs2 T T2 wr.heap.size ps (wr.alloc (.cells cs2 T2)) := ⟨(h.na.box cs2).1, (h.na.box cs2).2⟩
end
theorem Nz.whole {w wr : World} {cs : Array Value} {T T2 : TypeId} {b : Nat} {v0 v1 v2 v3 v4 v5 v6 s z0 z1 z2 z3 z4 z5 z6 z7 z8 z9 z10 z11 z12 : Value} {l0 l1 l2 l3 l4 l5 l6 : List Int}
    (h : Nz w cs #[z0, z1, z2, z3, z4, z5, z6, z7, z8, z9, z10, z11, z12] T T2 b [(v0, l0), (v1, l1), (v2, l2), (v3, l3), (v4, l4), (v5, l5), (v6, l6)] wr) (hne : b ≠ w.heap.size + 1) :
    Nb w cs #[z0, z1, z2, z3, z4, z5, z6, z7, z8, z9, z10, z11, z12] T T2 b [(v0, l0), (v1, l1), (v2, l2), (v3, l3), (v4, l4), (v5, l5), (v6, l6)] s (set13w wr b v0 v1 v2 v3 v4 v5 v6 s (.int .i64 0) (.int .i64 0) (.int .i64 0) (.int .i64 0) (.int .i64 0)) := by
  have h2 := set13 (a0 := v0) (a1 := v1) (a2 := v2) (a3 := v3) (a4 := v4) (a5 := v5) (a6 := v6) (a7 := s) (a8 := .int .i64 0) (a9 := .int .i64 0) (a10 := .int .i64 0) (a11 := .int .i64 0) (a12 := .int .i64 0) h.box
  refine ⟨?_, h2, hne⟩
  exact (((((((((((((h.na.store hne 0 v0).store hne 1 v1).store hne 2 v2).store hne 3 v3).store hne 4 v4).store hne 5 v5).store hne 6 v6).store hne 7 s).store hne 8 _).store hne 9 _).store hne 10 _).store hne 11 _).store hne 12 _)

theorem from_r (n : Int) (w : World) : Calls Try.prog 158 #[.int .i64 n] w fun e w' => e = .returned (.int .u64 (fr n)) ∧ w = w' := by
  by_cases hz : IntKind.u64.wrap (IntKind.u64.wrap (IntKind.u64.wrap n * 2654435769) + 1) = 0
  · have hz' : (IntKind.u64.wrap (IntKind.u64.wrap (IntKind.u64.wrap n * 2654435769) + 1) == 0) = true := by simp [hz]
    have H := Lib.hid (show fr n = 1 from if_pos hz)
    clear hz
    go_enter Try.func158, Try.ntmps158
    go_wp2
    go_ret
    exact ⟨by rw [H.out]; rfl, rfl⟩
  · have hz' : (IntKind.u64.wrap (IntKind.u64.wrap (IntKind.u64.wrap n * 2654435769) + 1) == 0) = false := by simp [hz]
    have H := Lib.hid (show fr n = _ from if_neg hz)
    clear hz
    go_enter Try.func158, Try.ntmps158
    go_wp2
    go_ret
    exact ⟨by rw [H.out]; rfl, rfl⟩
set_option maxRecDepth 100000 in
set_option maxHeartbeats 4000000 in
theorem after_i (t : TbV) (x : Nat) (p : Int) (hn : 0 < t.th.n) (w : World) (hr : TbR w t) :
    Calls Try.prog 159 #[.agg #[.int .i64 t.ti, .int .i64 t.au, .int .i64 t.rl, .int .i64 t.mx, .slice t.tx.a t.tx.n t.tx.c, .int .i64 t.fl, .slice t.pr.a t.pr.n t.pr.c, .slice t.gl.a t.gl.n t.gl.c, .slice t.th.a t.th.n t.th.c, .slice t.ac.a t.ac.n t.ac.c, .slice t.de.a t.de.n t.de.c, .slice t.fu.a t.fu.n t.fu.c, .slice t.da.a t.da.n t.da.c, .slice t.pm.a t.pm.n t.pm.c, .slice t.lo.a t.lo.n t.lo.c], .int .i64 (x : Int), .int .i64 p] w fun e w' => e = .returned (.int .i64 (aft (pas t) x p)) ∧ Below w.heap.size w w' := by
  have bth : t.th.n ≤ 9223372036854775807 := by have h1 := hr.2.2.2.1.1; have h2 := hr.2.2.2.1.2.1; unfold maxLen at h2; omega
  have HR := Lib.hid hr.2.2.2.1.2.2.1
  obtain ⟨b, o, hA, hb, HC⟩ := sk_all ThE_len HR.out hn
  have HL := Lib.hid HR.out.1
  rw [hA]
  clear hr hA
  go_enter Try.func159, Try.ntmps159
  have HX := Lib.hid (Bx.new w #[.int .i64 t.ti, .int .i64 t.au, .int .i64 t.rl, .int .i64 t.mx, .slice t.tx.a t.tx.n t.tx.c, .int .i64 t.fl, .slice t.pr.a t.pr.n t.pr.c, .slice t.gl.a t.gl.n t.gl.c, .slice (some ⟨b, o, none⟩) t.th.n t.th.c, .slice t.ac.a t.ac.n t.ac.c, .slice t.de.a t.de.n t.de.c, .slice t.fu.a t.fu.n t.fu.c, .slice t.da.a t.da.n t.da.c, .slice t.pm.a t.pm.n t.pm.c, .slice t.lo.a t.lo.n t.lo.c] 28)
  obtain ⟨W1, hW1⟩ : ∃ W1, w.alloc (.cells #[.int .i64 t.ti, .int .i64 t.au, .int .i64 t.rl, .int .i64 t.mx, .slice t.tx.a t.tx.n t.tx.c, .int .i64 t.fl, .slice t.pr.a t.pr.n t.pr.c, .slice t.gl.a t.gl.n t.gl.c, .slice (some ⟨b, o, none⟩) t.th.n t.th.c, .slice t.ac.a t.ac.n t.ac.c, .slice t.de.a t.de.n t.de.c, .slice t.fu.a t.fu.n t.fu.c, .slice t.da.a t.da.n t.da.c, .slice t.pm.a t.pm.n t.pm.c, .slice t.lo.a t.lo.n t.lo.c] 28) = W1 := ⟨_, rfl⟩
  rw [hW1] at HX
  obtain ⟨x0, x1, x2, x3, x4, x5, x6, x7, x8, x9, x10, x11, x12, x13, x14, xf⟩ := cells15 HX.out.box
  go_wp2_with fail
  go_loop [7] (fun i => ∃ k : Nat, (k ≤ t.th.n ∨ t.th.n ≤ k) ∧ i = .int .i64 (k : Int) ∧ Hid (aft (pas t) x p = aft (pas t) k p)) (fun i => t.th.n - (intOf i).toNat)
  case atStart => exact ⟨x, by omega, rfl, Lib.hid rfl⟩
  case round =>
    obtain ⟨k, hk, rfl, HE⟩ := hrel
    by_cases hlt : k < t.th.n
    · have t1 : decide (k < t.th.n) = true := decide_eq_true hlt
      have k0 : (0 : Int) ≤ (k : Int) := by omega
      have k1 : (k : Int) < (t.th.n : Int) := by omega
      have hl : k < t.th.l.length := by rw [← HL.out]; exact hlt
      have hl2 : k < (pas t).length := by unfold pas; rw [List.length_map]; exact hl
      have hc2 := (HX.out.below.cell (p := ⟨b, o + k * 9 + 2, none⟩) hb).trans (HC.out k hl 2 _ rfl)
      have hG := aft_go hl2 p
      have hq : at' (pas t) (k : Int) = t.th.l[k].pa := by rw [at_lt hl2]; exact List.getElem_map ThV.pa
      rw [hq] at hG
      obtain ⟨q, hqq⟩ : ∃ q, t.th.l[k].pa = q := ⟨_, rfl⟩
      rw [hqq] at hc2 hG
      have HG := Lib.hid hG
      clear hG hq hl2 hl hqq hk
      by_cases hp : q = p
      · have t2 : (q == p) = true := beq_iff_eq.2 hp
        have HP := Lib.hid hp
        clear hp
        go_wp2_with fail
        go_ret
        exact ⟨by rw [HE.out, HG.out, if_pos HP.out] <;> rfl, HX.out.below⟩
      · have t2 : (q == p) = false := beq_eq_false_iff_ne.2 hp
        have HP := Lib.hid hp
        clear hp
        go_wp2_with fail
        go_round
        case rel => exact ⟨k + 1, by omega, by go_num, Lib.hid (by rw [HE.out, HG.out, if_neg HP.out])⟩
        case measure => simp [intOf]; omega
    · have t1 : decide (k < t.th.n) = false := decide_eq_false hlt
      have HO := Lib.hid (show aft (pas t) x p = 0 by rw [HE.out]; exact aft_no (by unfold pas; rw [List.length_map, ← HL.out]; omega) p)
      clear hk
      go_wp2_with fail
      go_ret
      exact ⟨by rw [HO.out] <;> rfl, HX.out.below⟩
end Go.Proofs.Ytncdicagadbafaa.NewP
