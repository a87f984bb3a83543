/- slices.Clone at ints; a world whose slices are all the call's own. clewref19.Copy hands back a world of one's own; a flag stored into such a world. Conditions: the world reads. A clewlaw23.Scene among the arguments reads as tables and a world; clewlaw23.right. Conditions: none beyond what every reading gives. -/
import Derived.Test.YtncdicagadbafaaVB
import Derived.Test.YtncdicagadbafaaRngB
import Derived.Test.YtncdicagadbafaaSamW
import Derived.Lib.SliceRun
import Derived.Test.YtncdicagadbafaaVER
import Derived.Test.YtncdicagadbafaaVPQ
import Derived.Test.YtncdicagadbafaaTabF
import Derived.Test.YtncdicagadbafaaTabR
import Derived.Test.YtncdicagadbafaaViewW
import Derived.Laws.Rows
namespace Go.Proofs.Ytncdicagadbafaa.CopP
open Go Go.RowKit NestP NestW NestX NestY ValP ValW ValX ValR Sq Rng RngU RngT RgIn WorldD


/-- Two slices lie in different blocks. -/
def apart (a b : Value) : Prop := ∀ k, a.ownBlock = some k → b.ownBlock ≠ some k
theorem apart_of {w w' : World} {B : Nat} {a b : Value} {l m : List Int} (h : Sq.Own I 3 w B a l) (k : Sq.Own I 3 w' w.heap.size b m) : apart a b := fun j hj hb => by
  have h1 := own_at h hj
  have h2 := own_at k hb
  omega
/-- A world whose slices are the call's own, from block B on; they lie apart. -/
def Ow (w : World) (B : Nat) (v : Value) (g : Wd) : Prop :=
  ∃ (A0 A1 A2 A3 A4 A5 A6 : Option Addr) (n0 c0 n c1 n2 c2 n3 c3 n4 c4 n5 c5 n6 c6 : Nat), v = .agg #[.slice A0 n0 c0, .slice A1 n c1, .slice A2 n2 c2, .slice A3 n3 c3, .slice A4 n4 c4, .slice A5 n5 c5, .slice A6 n6 c6, .int .u64 g.seed, .int .i64 g.sc, .int .i64 g.tu, .int .i64 g.ov, .int .i64 g.it, .int .i64 g.go] ∧
    (Sq.Own I 3 w B (.slice A0 n0 c0) g.gl ∧ Sq.Own I 3 w B (.slice A1 n c1) g.pa ∧ Sq.Own I 3 w B (.slice A2 n2 c2) g.ch ∧ Sq.Own I 3 w B (.slice A3 n3 c3) g.ne ∧ Sq.Own I 3 w B (.slice A4 n4 c4) g.fl ∧ Sq.Own I 3 w B (.slice A5 n5 c5) g.pr ∧ Sq.Own I 3 w B (.slice A6 n6 c6) g.ti) ∧
    [Value.slice A0 n0 c0, .slice A1 n c1, .slice A2 n2 c2, .slice A3 n3 c3, .slice A4 n4 c4, .slice A5 n5 c5, .slice A6 n6 c6].Pairwise apart
theorem pw_snoc {l : List Value} {x : Value} (h : l.Pairwise apart) (hx : ∀ a ∈ l, apart a x) : (l ++ [x]).Pairwise apart := by
  rw [List.pairwise_append]
  exact ⟨h, by simp, fun a ha b hb => by rw [List.mem_singleton] at hb; subst hb; exact hx a ha⟩
theorem pw_get {l : List Value} (h : l.Pairwise apart) {i j : Nat} {a b : Value} (hi : l[i]? = some a) (hj : l[j]? = some b) (hne : i ≠ j) {k : Nat} (ha : a.ownBlock = some k) : b.ownBlock ≠ some k := by
  obtain ⟨hi', rfl⟩ := List.getElem?_eq_some_iff.1 hi
  obtain ⟨hj', rfl⟩ := List.getElem?_eq_some_iff.1 hj
  rw [List.pairwise_iff_getElem] at h
  rcases Nat.lt_or_ge i j with hlt | hge
  · exact h i j hi' hj' hlt k ha
  · intro hb
    exact h j i hj' hi' (by omega) k hb ha
/-- The result's cells stored: a world of one's own is handed back. -/
theorem close {w V : World} {B b2 : Nat} {g : Wd} {B0 B1 B2 B3 B4 B5 B6 : Option Addr} {m0 d0 m1 d1 m2 d2 m3 d3 m4 d4 m5 d5 m6 d6 : Nat}
    (o0 : Sq.Own I 3 V B (.slice B0 m0 d0) g.gl) (o1 : Sq.Own I 3 V B (.slice B1 m1 d1) g.pa) (o2 : Sq.Own I 3 V B (.slice B2 m2 d2) g.ch) (o3 : Sq.Own I 3 V B (.slice B3 m3 d3) g.ne) (o4 : Sq.Own I 3 V B (.slice B4 m4 d4) g.fl) (o5 : Sq.Own I 3 V B (.slice B5 m5 d5) g.pr) (o6 : Sq.Own I 3 V B (.slice B6 m6 d6) g.ti)
    (hap : [Value.slice B0 m0 d0, .slice B1 m1 d1, .slice B2 m2 d2, .slice B3 m3 d3, .slice B4 m4 d4, .slice B5 m5 d5, .slice B6 m6 d6].Pairwise apart)
    (h1 : w.heap.size ≤ b2) (h2 : b2 < B) (hb : Below w.heap.size w V) :
    Ow (set13w V b2 (.slice B0 m0 d0) (.slice B1 m1 d1) (.slice B2 m2 d2) (.slice B3 m3 d3) (.slice B4 m4 d4) (.slice B5 m5 d5) (.slice B6 m6 d6) (.int .u64 g.seed) (.int .i64 g.sc) (.int .i64 g.tu) (.int .i64 g.ov) (.int .i64 g.it) (.int .i64 g.go)) w.heap.size (.agg #[.slice B0 m0 d0, .slice B1 m1 d1, .slice B2 m2 d2, .slice B3 m3 d3, .slice B4 m4 d4, .slice B5 m5 d5, .slice B6 m6 d6, .int .u64 g.seed, .int .i64 g.sc, .int .i64 g.tu, .int .i64 g.ov, .int .i64 g.it, .int .i64 g.go]) g ∧
    Below w.heap.size w (set13w V b2 (.slice B0 m0 d0) (.slice B1 m1 d1) (.slice B2 m2 d2) (.slice B3 m3 d3) (.slice B4 m4 d4) (.slice B5 m5 d5) (.slice B6 m6 d6) (.int .u64 g.seed) (.int .i64 g.sc) (.int .i64 g.tu) (.int .i64 g.ov) (.int .i64 g.it) (.int .i64 g.go)) := by
  have fin : ∀ {v : Value} {l : List Int}, Sq.Own I 3 V B v l → Sq.Own I 3 (set13w V b2 (.slice B0 m0 d0) (.slice B1 m1 d1) (.slice B2 m2 d2) (.slice B3 m3 d3) (.slice B4 m4 d4) (.slice B5 m5 d5) (.slice B6 m6 d6) (.int .u64 g.seed) (.int .i64 g.sc) (.int .i64 g.tu) (.int .i64 g.ov) (.int .i64 g.it) (.int .i64 g.go)) w.heap.size v l :=
    fun h => (own_same h fun i hi => set13_other _ _ (by omega)).lower (by omega)
  exact ⟨⟨B0, B1, B2, B3, B4, B5, B6, m0, d0, m1, d1, m2, d2, m3, d3, m4, d4, m5, d5, m6, d6, rfl, ⟨fin o0, fin o1, fin o2, fin o3, fin o4, fin o5, fin o6⟩, hap⟩, set13_below hb h1 (Nat.zero_le _)⟩
theorem Ow.drew {w : World} {B : Nat} {v : Value} {g : Wd} (h : Ow w B v g) : Ow w.drew B v g := h
end Go.Proofs.Ytncdicagadbafaa.CopP

namespace Go.Proofs.Ytncdicagadbafaa.ViewO
open Go Go.RowKit NestP NestW NestX NestY ValP ValW ValX ValR Sq WorldD CopP MoveP LvP MvA AttrP AttrW AttrX AttrY AttrZ AttrU AttrV AttrQ TabD TabW TabX TabB TabR MixP AwkP WoC ViewP ViewW ViewR ViewQ

/-- The box, the result's box, and the slices that have been copied. -/
structure Cy (w : World) (cs zs : Array Value) (ps : List (Value × List Int)) (wr : World) : Prop where
  box : wr.heap[w.heap.size]? = some (.cells cs 31 (0, 0))
  res : wr.heap[w.heap.size + 1]? = some (.cells zs 31 (0, 0))
  big : w.heap.size + 1 + 1 ≤ wr.heap.size
  low : Below w.heap.size w wr
  own : ∀ p ∈ ps, Sq.Own I 3 wr (w.heap.size + 1 + 1) p.1 p.2
  ap : (ps.map Prod.fst).Pairwise apart
section
variable {w wr w1 : World} {cs zs : Array Value} {ps : List (Value × List Int)}
theorem Cy.call (h : Cy w cs zs ps wr) {v : Value} {l : List Int} (ho : Sq.Own I 3 w1 wr.heap.size v l) (hb : Below wr.heap.size wr w1) : Cy w cs zs (ps ++ [(v, l)]) w1 := by
  refine ⟨(hb.block _ (Nat.lt_of_lt_of_le (Nat.lt_succ_of_lt (Nat.lt_succ_self _)) h.big)).trans h.box, (hb.block _ h.big).trans h.res, Nat.le_trans h.big hb.size, h.low.trans (hb.mono h.low.size), fun p hp => ?_, ?_⟩
  · rcases List.mem_append.1 hp with hp | hp
    · exact (h.own p hp).below hb
    · rw [List.mem_singleton.1 hp]
      exact ho.lower h.big
  · rw [List.map_append]
    refine pw_snoc h.ap fun a ha => ?_
    obtain ⟨p, hp, rfl⟩ := List.mem_map.1 ha
    exact apart_of (h.own p hp) ho
theorem Cy.set (h : Cy w cs zs ps wr) (i : Nat) (x : Value) : Cy w (cs.setIfInBounds i x) zs ps (wr.setCell ⟨w.heap.size, i, none⟩ x) := by
  refine ⟨?_, (Below.heap_setCell _ _ _ _ (by simp)).trans h.res, by simpa using h.big, h.low.setCell (p := ⟨w.heap.size, i, none⟩) (Nat.le_refl _) _, fun p hp => own_same (h.own p hp) fun k hk => Below.heap_setCell _ _ _ _ (by simp; omega), h.ap⟩
  simp [World.setCell, Array.getElem?_modify, h.box]
end

set_option maxRecDepth 100000 in
set_option maxHeartbeats 4000000 in
theorem copy_r {v : Value} (g : Wd) (w : World) (ho : Wo w v g) :
    Calls Try.prog 81 #[v] w fun e w' => ∃ u, e = .returned u ∧ Ow w' w.heap.size u g ∧ Below w.heap.size w w' := by
  obtain ⟨A0, A1, A2, A3, A4, A5, A6, n0, c0, n, c1, n2, c2, n3, c3, n4, c4, n5, c5, n6, c6, rfl, ⟨r0, r1, r2, r3, r4, r5, r6⟩, _, _, hb⟩ := ho
  have R0 := Lib.hid r0
  have R1 := Lib.hid r1
  have R2 := Lib.hid r2
  have R3 := Lib.hid r3
  have R4 := Lib.hid r4
  have R5 := Lib.hid r5
  have R6 := Lib.hid r6
  have HL := Lib.hid hb
  clear r0 r1 r2 r3 r4 r5 r6 hb
  go_enter Try.func81, Try.ntmps81
  obtain ⟨w0, hW⟩ : ∃ w0, (w.alloc (.cells #[.slice A0 n0 c0, .slice A1 n c1, .slice A2 n2 c2, .slice A3 n3 c3, .slice A4 n4 c4, .slice A5 n5 c5, .slice A6 n6 c6, .int .u64 g.seed, .int .i64 g.sc, .int .i64 g.tu, .int .i64 g.ov, .int .i64 g.it, .int .i64 g.go] 31)).alloc (.cells #[.slice none 0 0, .slice none 0 0, .slice none 0 0, .slice none 0 0, .slice none 0 0, .slice none 0 0, .slice none 0 0, .int .u64 0, .int .i64 0, .int .i64 0, .int .i64 0, .int .i64 0, .int .i64 0] 31) = w0 := ⟨_, rfl⟩
  obtain ⟨hz0, HA, HZ, hB⟩ := MvR.alloc2 hW
  have C0 := Lib.hid (show Cy w #[.slice A0 n0 c0, .slice A1 n c1, .slice A2 n2 c2, .slice A3 n3 c3, .slice A4 n4 c4, .slice A5 n5 c5, .slice A6 n6 c6, .int .u64 g.seed, .int .i64 g.sc, .int .i64 g.tu, .int .i64 g.ov, .int .i64 g.it, .int .i64 g.go] #[.slice none 0 0, .slice none 0 0, .slice none 0 0, .slice none 0 0, .slice none 0 0, .slice none 0 0, .slice none 0 0, .int .u64 0, .int .i64 0, .int .i64 0, .int .i64 0, .int .i64 0, .int .i64 0] [] w0 from ⟨HA, HZ, by rw [hz0]; exact Nat.le_refl _, hB, fun p hp => absurd hp List.not_mem_nil, List.Pairwise.nil⟩)
  clear hz0 HZ hB
  obtain ⟨x0, x1, x2, x3, x4, x5, x6, x7, x8, x9, x10, x11, x12, xf⟩ := cells13 HA
  clear HA
  go_upto_region 8 with (first
    | (go_at_call 138; (with_reducible refine (copied_r g.gl _ (R0.out.below C0.out.low) (HL.out.1)).mono ?_); rintro e w1 ⟨B0, d0, rfl, ho, hb⟩; have C1 := Lib.hid (show Cy w #[.slice A0 n0 c0, .slice A1 n c1, .slice A2 n2 c2, .slice A3 n3 c3, .slice A4 n4 c4, .slice A5 n5 c5, .slice A6 n6 c6, .int .u64 g.seed, .int .i64 g.sc, .int .i64 g.tu, .int .i64 g.ov, .int .i64 g.it, .int .i64 g.go] #[.slice none 0 0, .slice none 0 0, .slice none 0 0, .slice none 0 0, .slice none 0 0, .slice none 0 0, .slice none 0 0, .int .u64 0, .int .i64 0, .int .i64 0, .int .i64 0, .int .i64 0, .int .i64 0] [(.slice B0 n0 d0, g.gl)] w1 from C0.out.call ho hb); clear hW ho hb x0 x1 x2 x3 x4 x5 x6 x7 x8 x9 x10 x11 x12 xf C0; obtain ⟨x0, x1, x2, x3, x4, x5, x6, x7, x8, x9, x10, x11, x12, xf⟩ := cells13 C1.out.box)
    | (go_at_call 138; (with_reducible refine (copied_r g.pa _ (R1.out.below (C1.out.set 0 (.slice B0 n0 d0)).low) (HL.out.2.1)).mono ?_); rintro e w2 ⟨B1, d1, rfl, ho, hb⟩; have C2 := Lib.hid (show Cy w #[.slice B0 n0 d0, .slice A1 n c1, .slice A2 n2 c2, .slice A3 n3 c3, .slice A4 n4 c4, .slice A5 n5 c5, .slice A6 n6 c6, .int .u64 g.seed, .int .i64 g.sc, .int .i64 g.tu, .int .i64 g.ov, .int .i64 g.it, .int .i64 g.go] #[.slice none 0 0, .slice none 0 0, .slice none 0 0, .slice none 0 0, .slice none 0 0, .slice none 0 0, .slice none 0 0, .int .u64 0, .int .i64 0, .int .i64 0, .int .i64 0, .int .i64 0, .int .i64 0] [(.slice B0 n0 d0, g.gl), (.slice B1 n d1, g.pa)] w2 from (C1.out.set 0 (.slice B0 n0 d0)).call ho hb); clear ho hb x0 x1 x2 x3 x4 x5 x6 x7 x8 x9 x10 x11 x12 xf C1; obtain ⟨x0, x1, x2, x3, x4, x5, x6, x7, x8, x9, x10, x11, x12, xf⟩ := cells13 C2.out.box)
    | (go_at_call 138; (with_reducible refine (copied_r g.ch _ (R2.out.below (C2.out.set 1 (.slice B1 n d1)).low) (HL.out.2.2.1)).mono ?_); rintro e w3 ⟨B2, d2, rfl, ho, hb⟩; have C3 := Lib.hid (show Cy w #[.slice B0 n0 d0, .slice B1 n d1, .slice A2 n2 c2, .slice A3 n3 c3, .slice A4 n4 c4, .slice A5 n5 c5, .slice A6 n6 c6, .int .u64 g.seed, .int .i64 g.sc, .int .i64 g.tu, .int .i64 g.ov, .int .i64 g.it, .int .i64 g.go] #[.slice none 0 0, .slice none 0 0, .slice none 0 0, .slice none 0 0, .slice none 0 0, .slice none 0 0, .slice none 0 0, .int .u64 0, .int .i64 0, .int .i64 0, .int .i64 0, .int .i64 0, .int .i64 0] [(.slice B0 n0 d0, g.gl), (.slice B1 n d1, g.pa), (.slice B2 n2 d2, g.ch)] w3 from (C2.out.set 1 (.slice B1 n d1)).call ho hb); clear ho hb x0 x1 x2 x3 x4 x5 x6 x7 x8 x9 x10 x11 x12 xf C2; obtain ⟨x0, x1, x2, x3, x4, x5, x6, x7, x8, x9, x10, x11, x12, xf⟩ := cells13 C3.out.box)
    | (go_at_call 138; (with_reducible refine (copied_r g.ne _ (R3.out.below (C3.out.set 2 (.slice B2 n2 d2)).low) (HL.out.2.2.2.1)).mono ?_); rintro e w4 ⟨B3, d3, rfl, ho, hb⟩; have C4 := Lib.hid (show Cy w #[.slice B0 n0 d0, .slice B1 n d1, .slice B2 n2 d2, .slice A3 n3 c3, .slice A4 n4 c4, .slice A5 n5 c5, .slice A6 n6 c6, .int .u64 g.seed, .int .i64 g.sc, .int .i64 g.tu, .int .i64 g.ov, .int .i64 g.it, .int .i64 g.go] #[.slice none 0 0, .slice none 0 0, .slice none 0 0, .slice none 0 0, .slice none 0 0, .slice none 0 0, .slice none 0 0, .int .u64 0, .int .i64 0, .int .i64 0, .int .i64 0, .int .i64 0, .int .i64 0] [(.slice B0 n0 d0, g.gl), (.slice B1 n d1, g.pa), (.slice B2 n2 d2, g.ch), (.slice B3 n3 d3, g.ne)] w4 from (C3.out.set 2 (.slice B2 n2 d2)).call ho hb); clear ho hb x0 x1 x2 x3 x4 x5 x6 x7 x8 x9 x10 x11 x12 xf C3; obtain ⟨x0, x1, x2, x3, x4, x5, x6, x7, x8, x9, x10, x11, x12, xf⟩ := cells13 C4.out.box)
    | (go_at_call 138; (with_reducible refine (copied_r g.fl _ (R4.out.below (C4.out.set 3 (.slice B3 n3 d3)).low) (HL.out.2.2.2.2.1)).mono ?_); rintro e w5 ⟨B4, d4, rfl, ho, hb⟩; have C5 := Lib.hid (show Cy w #[.slice B0 n0 d0, .slice B1 n d1, .slice B2 n2 d2, .slice B3 n3 d3, .slice A4 n4 c4, .slice A5 n5 c5, .slice A6 n6 c6, .int .u64 g.seed, .int .i64 g.sc, .int .i64 g.tu, .int .i64 g.ov, .int .i64 g.it, .int .i64 g.go] #[.slice none 0 0, .slice none 0 0, .slice none 0 0, .slice none 0 0, .slice none 0 0, .slice none 0 0, .slice none 0 0, .int .u64 0, .int .i64 0, .int .i64 0, .int .i64 0, .int .i64 0, .int .i64 0] [(.slice B0 n0 d0, g.gl), (.slice B1 n d1, g.pa), (.slice B2 n2 d2, g.ch), (.slice B3 n3 d3, g.ne), (.slice B4 n4 d4, g.fl)] w5 from (C4.out.set 3 (.slice B3 n3 d3)).call ho hb); clear ho hb x0 x1 x2 x3 x4 x5 x6 x7 x8 x9 x10 x11 x12 xf C4; obtain ⟨x0, x1, x2, x3, x4, x5, x6, x7, x8, x9, x10, x11, x12, xf⟩ := cells13 C5.out.box)
    | (go_at_call 138; (with_reducible refine (copied_r g.pr _ (R5.out.below (C5.out.set 4 (.slice B4 n4 d4)).low) (HL.out.2.2.2.2.2.1)).mono ?_); rintro e w6 ⟨B5, d5, rfl, ho, hb⟩; have C6 := Lib.hid (show Cy w #[.slice B0 n0 d0, .slice B1 n d1, .slice B2 n2 d2, .slice B3 n3 d3, .slice B4 n4 d4, .slice A5 n5 c5, .slice A6 n6 c6, .int .u64 g.seed, .int .i64 g.sc, .int .i64 g.tu, .int .i64 g.ov, .int .i64 g.it, .int .i64 g.go] #[.slice none 0 0, .slice none 0 0, .slice none 0 0, .slice none 0 0, .slice none 0 0, .slice none 0 0, .slice none 0 0, .int .u64 0, .int .i64 0, .int .i64 0, .int .i64 0, .int .i64 0, .int .i64 0] [(.slice B0 n0 d0, g.gl), (.slice B1 n d1, g.pa), (.slice B2 n2 d2, g.ch), (.slice B3 n3 d3, g.ne), (.slice B4 n4 d4, g.fl), (.slice B5 n5 d5, g.pr)] w6 from (C5.out.set 4 (.slice B4 n4 d4)).call ho hb); clear ho hb x0 x1 x2 x3 x4 x5 x6 x7 x8 x9 x10 x11 x12 xf C5; obtain ⟨x0, x1, x2, x3, x4, x5, x6, x7, x8, x9, x10, x11, x12, xf⟩ := cells13 C6.out.box)
    | (go_at_call 138; (with_reducible refine (copied_r g.ti _ (R6.out.below (C6.out.set 5 (.slice B5 n5 d5)).low) (HL.out.2.2.2.2.2.2)).mono ?_); rintro e w7 ⟨B6, d6, rfl, ho, hb⟩; have C7 := Lib.hid (show Cy w #[.slice B0 n0 d0, .slice B1 n d1, .slice B2 n2 d2, .slice B3 n3 d3, .slice B4 n4 d4, .slice B5 n5 d5, .slice A6 n6 c6, .int .u64 g.seed, .int .i64 g.sc, .int .i64 g.tu, .int .i64 g.ov, .int .i64 g.it, .int .i64 g.go] #[.slice none 0 0, .slice none 0 0, .slice none 0 0, .slice none 0 0, .slice none 0 0, .slice none 0 0, .slice none 0 0, .int .u64 0, .int .i64 0, .int .i64 0, .int .i64 0, .int .i64 0, .int .i64 0] [(.slice B0 n0 d0, g.gl), (.slice B1 n d1, g.pa), (.slice B2 n2 d2, g.ch), (.slice B3 n3 d3, g.ne), (.slice B4 n4 d4, g.fl), (.slice B5 n5 d5, g.pr), (.slice B6 n6 d6, g.ti)] w7 from (C6.out.set 5 (.slice B5 n5 d5)).call ho hb); clear ho hb x0 x1 x2 x3 x4 x5 x6 x7 x8 x9 x10 x11 x12 xf C6; obtain ⟨x0, x1, x2, x3, x4, x5, x6, x7, x8, x9, x10, x11, x12, xf⟩ := cells13 C7.out.box))
  have C8 := Lib.hid (show Cy w #[.slice B0 n0 d0, .slice B1 n d1, .slice B2 n2 d2, .slice B3 n3 d3, .slice B4 n4 d4, .slice B5 n5 d5, .slice B6 n6 d6, .int .u64 g.seed, .int .i64 g.sc, .int .i64 g.tu, .int .i64 g.ov, .int .i64 g.it, .int .i64 g.go] #[.slice none 0 0, .slice none 0 0, .slice none 0 0, .slice none 0 0, .slice none 0 0, .slice none 0 0, .slice none 0 0, .int .u64 0, .int .i64 0, .int .i64 0, .int .i64 0, .int .i64 0, .int .i64 0] [(.slice B0 n0 d0, g.gl), (.slice B1 n d1, g.pa), (.slice B2 n2 d2, g.ch), (.slice B3 n3 d3, g.ne), (.slice B4 n4 d4, g.fl), (.slice B5 n5 d5, g.pr), (.slice B6 n6 d6, g.ti)] _ from C7.out.set 6 (.slice B6 n6 d6))
  clear C7 x0 x1 x2 x3 x4 x5 x6 x7 x8 x9 x10 x11 x12 xf
  obtain ⟨V, hV⟩ : ∃ V, w7.setCell ⟨w.heap.size, 6, none⟩ (.slice B6 n6 d6) = V := ⟨_, rfl⟩
  rw [hV] at C8 ⊢
  clear hV
  obtain ⟨x0, x1, x2, x3, x4, x5, x6, x7, x8, x9, x10, x11, x12, xf⟩ := cells13 C8.out.box
  obtain ⟨y0, y1, y2, y3, y4, y5, y6, y7, y8, y9, y10, y11, y12, yf⟩ := cells13 C8.out.res
  go_wp2_with fail
  (try simp only [Exit.inBlock, Exit.then])
  refine ret_c (set13 C8.out.res) rfl rfl Try.underlying31 rfl rfl ?_
  have ow := C8.out.own
  obtain ⟨z1, z2⟩ := close (ow (.slice B0 n0 d0, g.gl) (by simp)) (ow (.slice B1 n d1, g.pa) (by simp)) (ow (.slice B2 n2 d2, g.ch) (by simp)) (ow (.slice B3 n3 d3, g.ne) (by simp)) (ow (.slice B4 n4 d4, g.fl) (by simp)) (ow (.slice B5 n5 d5, g.pr) (by simp)) (ow (.slice B6 n6 d6, g.ti) (by simp)) C8.out.ap (Nat.le_succ _) (Nat.lt_succ_self _) C8.out.low
  exact ⟨_, rfl, z1, z2⟩
/-- The slice of the flags. -/
def flagOf : Value → Value
  | .agg cs => cs.getD 4 undef
  | _ => undef
theorem ow_own {w : World} {B : Nat} {v : Value} {g : Wd} (h : Ow w B v g) : Sq.Own I 3 w B (flagOf v) g.fl := by
  obtain ⟨A0, A1, A2, A3, A4, A5, A6, n0, c0, n, c1, n2, c2, n3, c3, n4, c4, n5, c5, n6, c6, rfl, ⟨_, _, _, _, o4, _, _⟩, _⟩ := h
  exact o4
def flG (g : Wd) (l : List Int) : Wd := { g with fl := l }
theorem ow_set {w : World} {B b m c : Nat} {v : Value} {g : Wd} (h : Ow w B v g) (hv : flagOf v = .slice (some ⟨b, 0, none⟩) m c) (k : Nat) (x : Int) : Ow (w.setCell ⟨b, k, none⟩ (.int .i64 x)) B v (flG g (g.fl.set k x)) := by
  obtain ⟨A0, A1, A2, A3, A4, A5, A6, n0, c0, n, c1, n2, c2, n3, c3, n4, c4, n5, c5, n6, c6, rfl, ⟨o0, o1, o2, o3, o4, o5, o6⟩, hp⟩ := h
  have e : Value.slice A4 n4 c4 = .slice (some ⟨b, 0, none⟩) m c := hv
  have hb : (Value.slice A4 n4 c4).ownBlock = some b := by rw [e]; rfl
  have ne : ∀ j, j ≠ 4 → ∀ a, [Value.slice A0 n0 c0, .slice A1 n c1, .slice A2 n2 c2, .slice A3 n3 c3, .slice A4 n4 c4, .slice A5 n5 c5, .slice A6 n6 c6][j]? = some a → a.ownBlock ≠ some b := fun j hj a ha => pw_get hp (i := 4) rfl ha (fun e => hj e.symm) hb
  refine ⟨A0, A1, A2, A3, A4, A5, A6, n0, c0, n, c1, n2, c2, n3, c3, n4, c4, n5, c5, n6, c6, rfl, ⟨own_ne o0 (ne 0 (by omega) _ rfl) _ _, own_ne o1 (ne 1 (by omega) _ rfl) _ _, own_ne o2 (ne 2 (by omega) _ rfl) _ _, own_ne o3 (ne 3 (by omega) _ rfl) _ _, ?_, own_ne o5 (ne 5 (by omega) _ rfl) _ _, own_ne o6 (ne 6 (by omega) _ rfl) _ _⟩, hp⟩
  rw [e] at o4 ⊢
  exact o4.store k x
theorem Ow.wo {w w' : World} {B : Nat} {u v : Value} {g : Wd} {l : List Int} (h : Ow w' B u (flG g l)) (k : Wo w v g) (hl : l.length = g.fl.length) : Wo w' u (flG g l) := by
  obtain ⟨_, _, _, _, _, _, _, m0, _, m1, _, m2, _, m3, _, m4, _, m5, _, m6, _, _, ⟨r0, r1, r2, r3, r4, r5, r6⟩, hu, hw, hb⟩ := k
  obtain ⟨A0, A1, A2, A3, A4, A5, A6, n0, c0, n, c1, n2, c2, n3, c3, n4, c4, n5, c5, n6, c6, rfl, ⟨o0, o1, o2, o3, o4, o5, o6⟩, _⟩ := h
  have e0 : n0 = m0 := o0.rd.len.trans r0.len.symm
  have e1 : n = m1 := o1.rd.len.trans r1.len.symm
  have e2 : n2 = m2 := o2.rd.len.trans r2.len.symm
  have e3 : n3 = m3 := o3.rd.len.trans r3.len.symm
  have e4 : n4 = m4 := o4.rd.len.trans (hl.trans r4.len.symm)
  have e5 : n5 = m5 := o5.rd.len.trans r5.len.symm
  have e6 : n6 = m6 := o6.rd.len.trans r6.len.symm
  exact ⟨A0, A1, A2, A3, A4, A5, A6, n0, c0, n, c1, n2, c2, n3, c3, n4, c4, n5, c5, n6, c6, rfl, ⟨o0.rd, o1.rd, o2.rd, o3.rd, o4.rd, o5.rd, o6.rd⟩, hu, hw, by rw [e0, e1, e2, e3, e4, e5, e6]; exact hb⟩
theorem Ow.below {w w' : World} {B : Nat} {v : Value} {g : Wd} (h : Ow w B v g) (hb : Below w.heap.size w w') : Ow w' B v g := by
  obtain ⟨A0, A1, A2, A3, A4, A5, A6, n0, c0, n, c1, n2, c2, n3, c3, n4, c4, n5, c5, n6, c6, rfl, ⟨o0, o1, o2, o3, o4, o5, o6⟩, hp⟩ := h
  exact ⟨A0, A1, A2, A3, A4, A5, A6, n0, c0, n, c1, n2, c2, n3, c3, n4, c4, n5, c5, n6, c6, rfl, ⟨o0.below hb, o1.below hb, o2.below hb, o3.below hb, o4.below hb, o5.below hb, o6.below hb⟩, hp⟩
theorem Ow.lower {w : World} {B C : Nat} {v : Value} {g : Wd} (h : Ow w B v g) (hc : C ≤ B) : Ow w C v g := by
  obtain ⟨A0, A1, A2, A3, A4, A5, A6, n0, c0, n, c1, n2, c2, n3, c3, n4, c4, n5, c5, n6, c6, rfl, ⟨o0, o1, o2, o3, o4, o5, o6⟩, hp⟩ := h
  exact ⟨A0, A1, A2, A3, A4, A5, A6, n0, c0, n, c1, n2, c2, n3, c3, n4, c4, n5, c5, n6, c6, rfl, ⟨o0.lower hc, o1.lower hc, o2.lower hc, o3.lower hc, o4.lower hc, o5.lower hc, o6.lower hc⟩, hp⟩
end Go.Proofs.Ytncdicagadbafaa.ViewO

namespace Go.Proofs.Ytncdicagadbafaa.ViewU
open Go.ChangeShapes Go.WideShapes Go.ChangeAt
open Go Go.RowKit NestP NestW NestX NestY ValP ValW ValX ValR Sq WorldD CopP MoveP LvP MvA AttrP AttrW AttrX AttrY AttrZ AttrU AttrV AttrQ TabD TabW TabX TabB TabR MixP AwkP WoC ViewP ViewW ViewQ

theorem cells28 {w : World} {b : Nat} {t : TypeId} {z0 z1 z2 z3 z4 z5 z6 z7 z8 z9 z10 z11 z12 z13 z14 z15 z16 z17 z18 z19 z20 z21 z22 z23 z24 z25 z26 z27 : Value} (h : w.heap[b]? = some (.cells #[z0, z1, z2, z3, z4, z5, z6, z7, z8, z9, z10, z11, z12, z13, z14, z15, z16, z17, z18, z19, z20, z21, z22, z23, z24, z25, z26, z27] t (0, 0))) :
    w.cell? ⟨b, 0, none⟩ = some z0 ∧ w.cell? ⟨b, 1, none⟩ = some z1 ∧ w.cell? ⟨b, 2, none⟩ = some z2 ∧ w.cell? ⟨b, 3, none⟩ = some z3 ∧ w.cell? ⟨b, 4, none⟩ = some z4 ∧ w.cell? ⟨b, 5, none⟩ = some z5 ∧ w.cell? ⟨b, 6, none⟩ = some z6 ∧ w.cell? ⟨b, 7, none⟩ = some z7 ∧ w.cell? ⟨b, 8, none⟩ = some z8 ∧ w.cell? ⟨b, 9, none⟩ = some z9 ∧ w.cell? ⟨b, 10, none⟩ = some z10 ∧ w.cell? ⟨b, 11, none⟩ = some z11 ∧ w.cell? ⟨b, 12, none⟩ = some z12 ∧ w.cell? ⟨b, 13, none⟩ = some z13 ∧ w.cell? ⟨b, 14, none⟩ = some z14 ∧ w.cell? ⟨b, 15, none⟩ = some z15 ∧ w.cell? ⟨b, 16, none⟩ = some z16 ∧ w.cell? ⟨b, 17, none⟩ = some z17 ∧ w.cell? ⟨b, 18, none⟩ = some z18 ∧ w.cell? ⟨b, 19, none⟩ = some z19 ∧ w.cell? ⟨b, 20, none⟩ = some z20 ∧ w.cell? ⟨b, 21, none⟩ = some z21 ∧ w.cell? ⟨b, 22, none⟩ = some z22 ∧ w.cell? ⟨b, 23, none⟩ = some z23 ∧ w.cell? ⟨b, 24, none⟩ = some z24 ∧ w.cell? ⟨b, 25, none⟩ = some z25 ∧ w.cell? ⟨b, 26, none⟩ = some z26 ∧ w.cell? ⟨b, 27, none⟩ = some z27 := by
  refine ⟨?_, ?_, ?_, ?_, ?_, ?_, ?_, ?_, ?_, ?_, ?_, ?_, ?_, ?_, ?_, ?_, ?_, ?_, ?_, ?_, ?_, ?_, ?_, ?_, ?_, ?_, ?_, ?_⟩
  all_goals simp [World.cell?, h]

/-- A whole row loaded, guarded or not. -/
theorem load_row {P : Program} {ops : Array Oper} {rest : List Oper} {o : Oper} {a : Act} {w : World} {Q : Exit → Act → World → Prop} (hw : Region.wanted o (yielded ops a.tmps) = true) (ty : TypeId) (x : Operand) (ho : o.op = .load ty x)
    (g : Nat) (hx : a.eval x = .pointer (some ⟨g, 0, none⟩)) (t : TypeId) (cs : Array Value) (fr : Nat × Nat) (d : TypeDesc) (hg : w.heap[g]? = some (.cells cs t fr))
    (hu : P.underlying ty = some d) (hd : (match d with | .struct _ | .array _ _ => true | _ => false) = true) (hi : (P.info? ty).map (·.size) = some cs.size)
    (h : wpList P ops Q rest (a.put o.dst (.agg cs)) w) : wpList P ops Q (o :: rest) a w := by
  unfold wpList
  rw [if_pos hw]
  exact .inl (wp_load_row ty x ho g hx t cs fr d hg hu hd hi h)
theorem cells_scene : Try.prog.cellsOf 69 = 28 := by kernel_rfl
theorem cells_tabs : Try.prog.cellsOf 28 = 15 := by kernel_rfl
section
variable {H : Type} {enc : TypeId × Value → H} {w : World} {base : Nat} {spare : Nat → Bool} {held : Bool}
set_option maxRecDepth 100000 in
theorem wo_of {fuel : Nat} {cs : List Value} {x : DataW H × List MemPlace} (hl : cs.length = 13) (hf : DataW.trod enc Try.prog w base spare held fuel 31 cs = some x) (hw : WorldD.Fitting x.1 31) : ∃ g, Wo w (.agg cs.toArray) g := by
  obtain ⟨e0, e1, e2, e3, e4, e5, e6, e7, e8, e9, e10, e11, e12, y0, y1, y2, y3, y4, y5, y6, y7, y8, y9, y10, y11, y12, fu, rfl, hd, h0, h1, h2, h3, h4, h5, h6, h7, h8, h9, h10, h11, h12⟩ := fields_world hl hf
  obtain ⟨A0, n0, c0, l0, rfl, r0, b0⟩ := ints_of h0
  obtain ⟨A1, n, c1, l1, rfl, r1, b1⟩ := ints_of h1
  obtain ⟨A2, n2, c2, l2, rfl, r2, b2⟩ := ints_of h2
  obtain ⟨A3, n3, c3, l3, rfl, r3, b3⟩ := ints_of h3
  obtain ⟨A4, n4, c4, l4, rfl, r4, b4⟩ := ints_of h4
  obtain ⟨A5, n5, c5, l5, rfl, r5, b5⟩ := ints_of h5
  obtain ⟨A6, n6, c6, l6, rfl, r6, b6⟩ := ints_of h6
  obtain ⟨x7, rfl, w7⟩ := u64_of h7
  obtain ⟨x8, rfl, w8⟩ := int_of h8
  obtain ⟨x9, rfl, w9⟩ := int_of h9
  obtain ⟨x10, rfl, w10⟩ := int_of h10
  obtain ⟨x11, rfl, w11⟩ := int_of h11
  obtain ⟨x12, rfl, w12⟩ := int_of h12
  unfold WorldD.Fitting at hw
  rw [hd, DataW.weights, Try.underlying31] at hw
  simp only [DataW.weightsEach, List.map_cons, List.map_nil, List.all_append, Bool.and_eq_true] at hw
  obtain ⟨g0, g1, g2, g3, g4, g5, g6, _⟩ := hw
  exact ⟨⟨l0, l1, l2, l3, l4, l5, l6, x7, x8, x9, x10, x11, x12⟩, A0, A1, A2, A3, A4, A5, A6, n0, c0, n, c1, n2, c2, n3, c3, n4, c4, n5, c5, n6, c6, rfl, ⟨r0, r1, r2, r3, r4, r5, r6⟩, w7, ⟨w8, w9, w10, w11, w12⟩, b0 g0, b1 g1, b2 g2, b3 g3, b4 g4, b5 g5, b6 g6⟩
/-- A scene's cells: its tables', and its world's. -/
def ScE (t : TbV) (cs : List Value) : Value := .agg (TbE t ++ cs).toArray
set_option maxRecDepth 100000 in
theorem open_scene {v : Value} {d : DataW H} {p : List MemPlace} {r : Reach} {b0 : Nat} (hv : Value.okWide Try.prog w r b0 69 v) (h : DataW.Trod enc Try.prog w base spare held 69 v d p) (hw : WorldD.Fitting d 69) :
    ∃ (t : TbV) (cs : List Value) (g : Wd), v = ScE t cs ∧ TbR w t ∧ cs.length = 13 ∧ Wo w (.agg cs.toArray) g := by
  obtain ⟨cs, rfl, hsz⟩ := okWide_struct Try.underlying69 hv
  obtain ⟨fuel, hf⟩ := h
  obtain ⟨l⟩ := cs
  have hl : l.length = 28 := hsz.trans cells_scene
  have hf2 : DataW.trod enc Try.prog w base spare held fuel 69 l = some _ := hf
  obtain ⟨xs, n, _, hx, _, hlen, hg⟩ := DataW.trod_struct Try.underlying69 hf2
  match xs, hlen with
  | [y0, y1], _ =>
    have e0 : DataW.trod enc Try.prog w base spare held n 28 (l.take 15) = some y0 := by simpa [cells_tabs] using hg 0 _ rfl
    have e1 : DataW.trod enc Try.prog w base spare held n 31 (l.drop 15) = some y1 := by
      have h := hg 1 _ rfl
      simpa [cells_tabs, cellsWorld, List.take_of_length_le (show (l.drop 15).length ≤ 13 by simp [hl])] using h
    obtain ⟨t, ht, hr⟩ := tab_of (by simp [hl]) e0
    have hx1 : d = .agg [y0.1, y1.1] := by simpa using congrArg Prod.fst hx
    have hfit : WorldD.Fitting y1.1 31 := by
      unfold WorldD.Fitting at hw ⊢
      rw [hx1, DataW.weights, Try.underlying69] at hw
      simp only [DataW.weightsEach, List.map_cons, List.map_nil, List.all_append, Bool.and_eq_true] at hw
      first | exact hw.2.1 | exact hw.2
    obtain ⟨g, hgw⟩ := wo_of (by simp [hl]) e1 hfit
    refine ⟨t, l.drop 15, g, ?_, hr, by simp [hl], hgw⟩
    unfold ScE
    rw [← ht, List.take_append_drop]
end
/-- Whether a scene is right; if it is, its tables and its world are. -/
def SomeR (t : TbV) (g : Wd) (w : World) (e : Ending) (w' : World) : Prop := ∃ q : Bool, e = .returned (.bool q) ∧ (q = true → rightB t g = true ∧ ThP t) ∧ Below w.heap.size w w'
set_option maxRecDepth 100000 in
set_option maxHeartbeats 4000000 in
theorem right_v (t : TbV) (g : Wd) (A0 A1 A2 A3 A4 A5 A6 : Option Addr) ( n0 c0 n c1 n2 c2 n3 c3 n4 c4 n5 c5 n6 c6 : Nat) (w : World) (rt : TbR w t) (ho : Wo w (.agg #[.slice A0 n0 c0, .slice A1 n c1, .slice A2 n2 c2, .slice A3 n3 c3, .slice A4 n4 c4, .slice A5 n5 c5, .slice A6 n6 c6, .int .u64 g.seed, .int .i64 g.sc, .int .i64 g.tu, .int .i64 g.ov, .int .i64 g.it, .int .i64 g.go]) g) :
    Calls Try.prog 66 #[.agg #[.int .i64 t.ti, .int .i64 t.au, .int .i64 t.rl, .int .i64 t.mx, .slice t.tx.a t.tx.n t.tx.c, .int .i64 t.fl, .slice t.pr.a t.pr.n t.pr.c, .slice t.gl.a t.gl.n t.gl.c, .slice t.th.a t.th.n t.th.c, .slice t.ac.a t.ac.n t.ac.c, .slice t.de.a t.de.n t.de.c, .slice t.fu.a t.fu.n t.fu.c, .slice t.da.a t.da.n t.da.c, .slice t.pm.a t.pm.n t.pm.c, .slice t.lo.a t.lo.n t.lo.c, .slice A0 n0 c0, .slice A1 n c1, .slice A2 n2 c2, .slice A3 n3 c3, .slice A4 n4 c4, .slice A5 n5 c5, .slice A6 n6 c6, .int .u64 g.seed, .int .i64 g.sc, .int .i64 g.tu, .int .i64 g.ov, .int .i64 g.it, .int .i64 g.go]] w (SomeR t g w) := by
  have HT := Lib.hid rt
  have HO := Lib.hid ho
  clear rt ho
  obtain ⟨q2, hq2⟩ : ∃ q, rightB t g = q := ⟨_, rfl⟩
  have HR := Lib.hid hq2
  clear hq2
  go_enter Try.func66, Try.ntmps66
  obtain ⟨w0, hW⟩ : ∃ w0, w.alloc (.cells #[.int .i64 t.ti, .int .i64 t.au, .int .i64 t.rl, .int .i64 t.mx, .slice t.tx.a t.tx.n t.tx.c, .int .i64 t.fl, .slice t.pr.a t.pr.n t.pr.c, .slice t.gl.a t.gl.n t.gl.c, .slice t.th.a t.th.n t.th.c, .slice t.ac.a t.ac.n t.ac.c, .slice t.de.a t.de.n t.de.c, .slice t.fu.a t.fu.n t.fu.c, .slice t.da.a t.da.n t.da.c, .slice t.pm.a t.pm.n t.pm.c, .slice t.lo.a t.lo.n t.lo.c, .slice A0 n0 c0, .slice A1 n c1, .slice A2 n2 c2, .slice A3 n3 c3, .slice A4 n4 c4, .slice A5 n5 c5, .slice A6 n6 c6, .int .u64 g.seed, .int .i64 g.sc, .int .i64 g.tu, .int .i64 g.ov, .int .i64 g.it, .int .i64 g.go] 69) = w0 := ⟨_, rfl⟩
  have HA : w0.heap[w.heap.size]? = some (.cells #[.int .i64 t.ti, .int .i64 t.au, .int .i64 t.rl, .int .i64 t.mx, .slice t.tx.a t.tx.n t.tx.c, .int .i64 t.fl, .slice t.pr.a t.pr.n t.pr.c, .slice t.gl.a t.gl.n t.gl.c, .slice t.th.a t.th.n t.th.c, .slice t.ac.a t.ac.n t.ac.c, .slice t.de.a t.de.n t.de.c, .slice t.fu.a t.fu.n t.fu.c, .slice t.da.a t.da.n t.da.c, .slice t.pm.a t.pm.n t.pm.c, .slice t.lo.a t.lo.n t.lo.c, .slice A0 n0 c0, .slice A1 n c1, .slice A2 n2 c2, .slice A3 n3 c3, .slice A4 n4 c4, .slice A5 n5 c5, .slice A6 n6 c6, .int .u64 g.seed, .int .i64 g.sc, .int .i64 g.tu, .int .i64 g.ov, .int .i64 g.it, .int .i64 g.go] 69 (0, 0)) := by rw [← hW]; exact World.alloc_heap_new w _
  have LA : w.heap.size < w0.heap.size := by rw [← hW]; simp
  have hB : Below w.heap.size w w0 := by rw [← hW]; exact (Below.refl _ _).alloc (Nat.le_refl _) _
  have HB := Lib.hid hB
  clear hB
  obtain ⟨x0, x1, x2, x3, x4, x5, x6, x7, x8, x9, x10, x11, x12, x13, x14, x15, x16, x17, x18, x19, x20, x21, x22, x23, x24, x25, x26, x27⟩ := cells28 HA
  go_wp2_with (first
    | (go_at_call 22; (with_reducible refine (TabF.fits_o t _ (TbR.below HT.out HB.out)).mono ?_); rintro e w1 ⟨q, rfl, hp, hb⟩; have HA1 := (hb.block _ LA).trans HA; have HB1 := Lib.hid (HB.out.trans (hb.mono HB.out.size)); clear hW HA LA hb x0 x1 x2 x3 x4 x5 x6 x7 x8 x9 x10 x11 x12 x13 x14 x15 x16 x17 x18 x19 x20 x21 x22 x23 x24 x25 x26 x27; obtain ⟨x0, x1, x2, x3, x4, x5, x6, x7, x8, x9, x10, x11, x12, x13, x14, x15, x16, x17, x18, x19, x20, x21, x22, x23, x24, x25, x26, x27⟩ := cells28 HA1; have HP := Lib.hid hp; clear hp; cases q)
    | (go_at_call 23; (with_reducible refine (right_i t g _ _ (TbR.below HT.out HB1.out) (SamW.wo_below HO.out HB1.out) (HP.out (by simp)).1 (HP.out (by simp)).2).mono ?_); rintro e w2 ⟨rfl, hb⟩; rw [HR.out]; have HB2 := Lib.hid (HB1.out.trans (hb.mono HB1.out.size)); clear hb; cases q2))
  · go_ret
    exact ⟨_, rfl, (fun h => by cases h), HB1.out⟩
  · go_ret
    exact ⟨_, rfl, (fun h => by cases h), HB2.out⟩
  · go_ret
    exact ⟨_, rfl, fun _ => ⟨HR.out, (HP.out (by simp)).2⟩, HB2.out⟩
end Go.Proofs.Ytncdicagadbafaa.ViewU
