/- attr.flagged, Set, Unset; clewref21.with, Set, Unset. Conditions: the world reads; a flag for each thing, from 0 to 65535. -/
import Derived.Test.YtncdicagadbafaaAttrW
import Derived.Test.YtncdicagadbafaaReg
import Derived.Test.YtncdicagadbafaaRgIn
namespace Go.Proofs.Ytncdicagadbafaa.AttrX
open Go Go.RowKit NestP NestW NestX NestY ValP ValW ValX ValR Sq WorldD CopP MoveP LvP MvA AttrP AttrW TabX MixP Awk AwkP

/-- A value reads as a world in whatever world in which the blocks of a set lie as they lay. -/
def Ws (S : Nat → Prop) (w : World) (v : Value) (g : Wd) : Prop := ∀ U : World, w.heap.size ≤ U.heap.size → (∀ k, k < w.heap.size → S k → U.heap[k]? = w.heap[k]?) → Wo U v g
theorem Ws.wo {S : Nat → Prop} {w : World} {v : Value} {g : Wd} (h : Ws S w v g) : Wo w v g := h w (Nat.le_refl _) fun _ _ _ => rfl
theorem Ws.on {S S' : Nat → Prop} {w w' : World} {v : Value} {g : Wd} (h : Ws S w v g) (h1 : w.heap.size ≤ w'.heap.size) (h2 : ∀ k, k < w.heap.size → S k → w'.heap[k]? = w.heap[k]?) (h3 : ∀ k, k < w.heap.size → S k → S' k) : Ws S' w' v g :=
  fun U hU hk => h U (Nat.le_trans h1 hU) fun k hlt hS => (hk k (Nat.lt_of_lt_of_le hlt h1) (h3 k hlt hS)).trans (h2 k hlt hS)
theorem Ws.below {S S' : Nat → Prop} {w w' : World} {v : Value} {g : Wd} (h : Ws S w v g) (hb : Below w.heap.size w w') (h3 : ∀ k, k < w.heap.size → S k → S' k) : Ws S' w' v g := h.on hb.size (fun k hk _ => hb.block k hk) h3
theorem ws_of {w : World} {v : Value} {g : Wd} (h : Wo w v g) : Ws (fun k => k < w.heap.size) w v g := fun _ hU hk => wo_low h ⟨hU, fun k hlt => hk k hlt hlt⟩

/-- The box of a world, and the room for the one to come. -/
structure Bz (w : World) (cs cs2 : Array Value) (T : TypeId) (wr : World) : Prop where
  box : wr.heap[w.heap.size]? = some (.cells cs T (0, 0))
  res : wr.heap[w.heap.size + 1]? = some (.cells cs2 T (0, 0))
  below : Below w.heap.size w wr
  lt : w.heap.size + 2 ≤ wr.heap.size
theorem Bz.new {w : World} {cs cs2 : Array Value} {T : TypeId} {W : World} (h : (w.alloc (.cells cs T)).alloc (.cells cs2 T) = W) : Bz w cs cs2 T W := by
  obtain ⟨s, h0, h1, hB⟩ := MvR.alloc2 h
  exact ⟨h0, h1, hB, by omega⟩
theorem Bz.on {w : World} {cs cs2 : Array Value} {T : TypeId} {wr w' : World} (h : Bz w cs cs2 T wr) (hb : Below wr.heap.size wr w') : Bz w cs cs2 T w' :=
  ⟨(hb.block _ (by have := h.lt; omega)).trans h.box, (hb.block _ (by have := h.lt; omega)).trans h.res, h.below.trans (hb.mono h.below.size), Nat.le_trans h.lt hb.size⟩
theorem Bz.drew {w : World} {cs cs2 : Array Value} {T : TypeId} {wr : World} (h : Bz w cs cs2 T wr) : Bz w cs cs2 T wr.drew := h.on (Below.drew (Below.refl _ _))

theorem close4 {A0 A1 A2 A3 A4 A5 A6 : Option Addr} {n0 c0 n c1 n2 c2 n3 c3 n4 c4 n5 c5 n6 c6 : Nat} {S : Nat → Prop} {g : Wd} {w U : World} {b2 B g4 d4 : Nat} {l4 : List Int} (hW : Ws S w (.agg #[.slice A0 n0 c0, .slice A1 n c1, .slice A2 n2 c2, .slice A3 n3 c3, .slice A4 n4 c4, .slice A5 n5 c5, .slice A6 n6 c6, .int .u64 g.seed, .int .i64 g.sc, .int .i64 g.tu, .int .i64 g.ov, .int .i64 g.it, .int .i64 g.go]) g)
    (o : Sq.Own I 3 U B (.slice (some ⟨g4, 0, none⟩) n4 d4) l4) (hb : Below w.heap.size w U) (h1 : w.heap.size ≤ b2) (h2 : b2 < B) :
    Ws (fun k => S k ∨ w.heap.size ≤ k) (set13w U b2 (.slice A0 n0 c0) (.slice A1 n c1) (.slice A2 n2 c2) (.slice A3 n3 c3) (.slice (some ⟨g4, 0, none⟩) n4 d4) (.slice A5 n5 c5) (.slice A6 n6 c6) (.int .u64 g.seed) (.int .i64 g.sc) (.int .i64 g.tu) (.int .i64 g.ov) (.int .i64 g.it) (.int .i64 g.go)) (.agg #[.slice A0 n0 c0, .slice A1 n c1, .slice A2 n2 c2, .slice A3 n3 c3, .slice (some ⟨g4, 0, none⟩) n4 d4, .slice A5 n5 c5, .slice A6 n6 c6, .int .u64 g.seed, .int .i64 g.sc, .int .i64 g.tu, .int .i64 g.ov, .int .i64 g.it, .int .i64 g.go]) { g with fl := l4 } ∧ Below w.heap.size w (set13w U b2 (.slice A0 n0 c0) (.slice A1 n c1) (.slice A2 n2 c2) (.slice A3 n3 c3) (.slice (some ⟨g4, 0, none⟩) n4 d4) (.slice A5 n5 c5) (.slice A6 n6 c6) (.int .u64 g.seed) (.int .i64 g.sc) (.int .i64 g.tu) (.int .i64 g.ov) (.int .i64 g.it) (.int .i64 g.go)) := by
  have hB := set13_below (g := b2) (a0 := .slice A0 n0 c0) (a1 := .slice A1 n c1) (a2 := .slice A2 n2 c2) (a3 := .slice A3 n3 c3) (a4 := .slice (some ⟨g4, 0, none⟩) n4 d4) (a5 := .slice A5 n5 c5) (a6 := .slice A6 n6 c6) (a7 := .int .u64 g.seed) (a8 := .int .i64 g.sc) (a9 := .int .i64 g.tu) (a10 := .int .i64 g.ov) (a11 := .int .i64 g.it) (a12 := .int .i64 g.go) hb h1 (Nat.zero_le _)
  have o4 : Sq.Own I 3 (set13w U b2 (.slice A0 n0 c0) (.slice A1 n c1) (.slice A2 n2 c2) (.slice A3 n3 c3) (.slice (some ⟨g4, 0, none⟩) n4 d4) (.slice A5 n5 c5) (.slice A6 n6 c6) (.int .u64 g.seed) (.int .i64 g.sc) (.int .i64 g.tu) (.int .i64 g.ov) (.int .i64 g.it) (.int .i64 g.go)) w.heap.size (.slice (some ⟨g4, 0, none⟩) n4 d4) l4 := (own_same o fun i hi => set13_other _ _ (by omega)).lower (by omega)
  refine ⟨fun X hX hk => ?_, hB⟩
  have hw2 := hB.size
  obtain ⟨B0, B1, B2, B3, B4, B5, B6, m0, d0, m1, d1, m2, d2, m3, d3, m4, d4', m5, d5, m6, d6, e, ⟨r0, r1, r2, r3, r4, r5, r6⟩, hu, hw, hs⟩ := hW X (Nat.le_trans hw2 hX) (fun k hlt hS => (hk k (Nat.lt_of_lt_of_le hlt hw2) (.inl hS)).trans (hB.block k hlt))
  simp only [Value.agg.injEq, Array.mk.injEq, List.cons.injEq, Value.slice.injEq, and_true, and_assoc] at e
  obtain ⟨rfl, rfl, rfl, rfl, rfl, rfl, rfl, rfl, rfl, rfl, rfl, rfl, rfl, rfl, rfl, rfl, rfl, rfl, rfl, rfl, rfl⟩ := e
  have hk2 : ∀ k, w.heap.size ≤ k → k < (set13w U b2 (.slice A0 n0 c0) (.slice A1 n c1) (.slice A2 n2 c2) (.slice A3 n3 c3) (.slice (some ⟨g4, 0, none⟩) n4 d4) (.slice A5 n5 c5) (.slice A6 n6 c6) (.int .u64 g.seed) (.int .i64 g.sc) (.int .i64 g.tu) (.int .i64 g.ov) (.int .i64 g.it) (.int .i64 g.go)).heap.size → X.heap[k]? = (set13w U b2 (.slice A0 n0 c0) (.slice A1 n c1) (.slice A2 n2 c2) (.slice A3 n3 c3) (.slice (some ⟨g4, 0, none⟩) n4 d4) (.slice A5 n5 c5) (.slice A6 n6 c6) (.int .u64 g.seed) (.int .i64 g.sc) (.int .i64 g.tu) (.int .i64 g.ov) (.int .i64 g.it) (.int .i64 g.go)).heap[k]? := fun k h1 h2 => hk k h2 (.inr h1)
  exact ⟨_, _, _, _, _, _, _, _, _, _, _, _, _, _, _, _, _, _, _, _, _, rfl, ⟨r0, r1, r2, r3, (own_but o4 hk2).rd, r5, r6⟩, hu, hw, hs⟩

theorem close5 {A0 A1 A2 A3 A4 A5 A6 : Option Addr} {n0 c0 n c1 n2 c2 n3 c3 n4 c4 n5 c5 n6 c6 : Nat} {S : Nat → Prop} {g : Wd} {w U : World} {b2 B g4 d4 : Nat} {l4 : List Int} (hW : Ws S w (.agg #[.slice A0 n0 c0, .slice A1 n c1, .slice A2 n2 c2, .slice A3 n3 c3, .slice A4 n4 c4, .slice A5 n5 c5, .slice A6 n6 c6, .int .u64 g.seed, .int .i64 g.sc, .int .i64 g.tu, .int .i64 g.ov, .int .i64 g.it, .int .i64 g.go]) g)
    (o : Sq.Own I 3 U B (.slice (some ⟨g4, 0, none⟩) n5 d4) l4) (hb : Below w.heap.size w U) (h1 : w.heap.size ≤ b2) (h2 : b2 < B) :
    Ws (fun k => S k ∨ w.heap.size ≤ k) (set13w U b2 (.slice A0 n0 c0) (.slice A1 n c1) (.slice A2 n2 c2) (.slice A3 n3 c3) (.slice A4 n4 c4) (.slice (some ⟨g4, 0, none⟩) n5 d4) (.slice A6 n6 c6) (.int .u64 g.seed) (.int .i64 g.sc) (.int .i64 g.tu) (.int .i64 g.ov) (.int .i64 g.it) (.int .i64 g.go)) (.agg #[.slice A0 n0 c0, .slice A1 n c1, .slice A2 n2 c2, .slice A3 n3 c3, .slice A4 n4 c4, .slice (some ⟨g4, 0, none⟩) n5 d4, .slice A6 n6 c6, .int .u64 g.seed, .int .i64 g.sc, .int .i64 g.tu, .int .i64 g.ov, .int .i64 g.it, .int .i64 g.go]) { g with pr := l4 } ∧ Below w.heap.size w (set13w U b2 (.slice A0 n0 c0) (.slice A1 n c1) (.slice A2 n2 c2) (.slice A3 n3 c3) (.slice A4 n4 c4) (.slice (some ⟨g4, 0, none⟩) n5 d4) (.slice A6 n6 c6) (.int .u64 g.seed) (.int .i64 g.sc) (.int .i64 g.tu) (.int .i64 g.ov) (.int .i64 g.it) (.int .i64 g.go)) := by
  have hB := set13_below (g := b2) (a0 := .slice A0 n0 c0) (a1 := .slice A1 n c1) (a2 := .slice A2 n2 c2) (a3 := .slice A3 n3 c3) (a4 := .slice A4 n4 c4) (a5 := .slice (some ⟨g4, 0, none⟩) n5 d4) (a6 := .slice A6 n6 c6) (a7 := .int .u64 g.seed) (a8 := .int .i64 g.sc) (a9 := .int .i64 g.tu) (a10 := .int .i64 g.ov) (a11 := .int .i64 g.it) (a12 := .int .i64 g.go) hb h1 (Nat.zero_le _)
  have o4 : Sq.Own I 3 (set13w U b2 (.slice A0 n0 c0) (.slice A1 n c1) (.slice A2 n2 c2) (.slice A3 n3 c3) (.slice A4 n4 c4) (.slice (some ⟨g4, 0, none⟩) n5 d4) (.slice A6 n6 c6) (.int .u64 g.seed) (.int .i64 g.sc) (.int .i64 g.tu) (.int .i64 g.ov) (.int .i64 g.it) (.int .i64 g.go)) w.heap.size (.slice (some ⟨g4, 0, none⟩) n5 d4) l4 := (own_same o fun i hi => set13_other _ _ (by omega)).lower (by omega)
  refine ⟨fun X hX hk => ?_, hB⟩
  have hw2 := hB.size
  obtain ⟨B0, B1, B2, B3, B4, B5, B6, m0, d0, m1, d1, m2, d2, m3, d3, m4, d4', m5, d5, m6, d6, e, ⟨r0, r1, r2, r3, r4, r5, r6⟩, hu, hw, hs⟩ := hW X (Nat.le_trans hw2 hX) (fun k hlt hS => (hk k (Nat.lt_of_lt_of_le hlt hw2) (.inl hS)).trans (hB.block k hlt))
  simp only [Value.agg.injEq, Array.mk.injEq, List.cons.injEq, Value.slice.injEq, and_true, and_assoc] at e
  obtain ⟨rfl, rfl, rfl, rfl, rfl, rfl, rfl, rfl, rfl, rfl, rfl, rfl, rfl, rfl, rfl, rfl, rfl, rfl, rfl, rfl, rfl⟩ := e
  have hk2 : ∀ k, w.heap.size ≤ k → k < (set13w U b2 (.slice A0 n0 c0) (.slice A1 n c1) (.slice A2 n2 c2) (.slice A3 n3 c3) (.slice A4 n4 c4) (.slice (some ⟨g4, 0, none⟩) n5 d4) (.slice A6 n6 c6) (.int .u64 g.seed) (.int .i64 g.sc) (.int .i64 g.tu) (.int .i64 g.ov) (.int .i64 g.it) (.int .i64 g.go)).heap.size → X.heap[k]? = (set13w U b2 (.slice A0 n0 c0) (.slice A1 n c1) (.slice A2 n2 c2) (.slice A3 n3 c3) (.slice A4 n4 c4) (.slice (some ⟨g4, 0, none⟩) n5 d4) (.slice A6 n6 c6) (.int .u64 g.seed) (.int .i64 g.sc) (.int .i64 g.tu) (.int .i64 g.ov) (.int .i64 g.it) (.int .i64 g.go)).heap[k]? := fun k h1 h2 => hk k h2 (.inr h1)
  exact ⟨_, _, _, _, _, _, _, _, _, _, _, _, _, _, _, _, _, _, _, _, _, rfl, ⟨r0, r1, r2, r3, r4, (own_but o4 hk2).rd, r6⟩, hu, hw, hs⟩

theorem or_c (a b : Int) (w : World) : Calls Try.prog 101 #[.int .i64 a, .int .i64 b] w fun e w' => e = .returned (.int .i64 (bits .or .i64 a b)) ∧ w = w' := by
  go_enter Try.func101, Try.ntmps101
  go_wp2_with fail
  go_ret
  exact ⟨rfl, rfl⟩
theorem and_c (a b : Int) (w : World) : Calls Try.prog 104 #[.int .i64 a, .int .i64 b] w fun e w' => e = .returned (.int .i64 (bits .andNot .i64 a b)) ∧ w = w' := by
  go_enter Try.func104, Try.ntmps104
  go_wp2_with fail
  go_ret
  exact ⟨rfl, rfl⟩

set_option maxRecDepth 100000 in
set_option maxHeartbeats 2000000 in
theorem flagged_no {v : Value} (g : Wd) (x f : Int) (fv : Value) (S : Nat → Prop) (w : World) (ho : Ws S w v g) (hE : askN g.n x f ≠ 0) :
    Calls Try.prog 100 #[v, .int .i64 x, .int .i64 f, fv] w fun e w' => ∃ v', e = .returned (.tuple #[v', .int .i64 (askN g.n x f)]) ∧ Ws (fun k => S k ∨ w.heap.size ≤ k) w' v' g ∧ Below w.heap.size w w' := by
  have ho2 := ho.wo; have HO := Lib.hid ho; clear ho; obtain ⟨A0, A1, A2, A3, A4, A5, A6, n0, c0, n, c1, n2, c2, n3, c3, n4, c4, n5, c5, n6, c6, rfl, ⟨r0, r1, r2, r3, r4, r5, r6⟩, hu, hw, hb⟩ := ho2
  have hg : g.n = n := r1.len.symm
  rw [hg] at hE ⊢
  obtain ⟨E, hE2⟩ : ∃ E, askN n x f = E := ⟨_, rfl⟩
  have HE := Lib.hid hE2
  rw [hE2] at hE ⊢
  have t0 : (E != (0 : Int)) = true := by simpa using hE
  clear r0 r1 r2 r3 r4 r5 r6 hu hw hb hE hE2 hg
  go_enter Try.func100, Try.ntmps100
  obtain ⟨W2, hW2⟩ : ∃ W2, (w.alloc (.cells #[.slice A0 n0 c0, .slice A1 n c1, .slice A2 n2 c2, .slice A3 n3 c3, .slice A4 n4 c4, .slice A5 n5 c5, .slice A6 n6 c6, .int .u64 g.seed, .int .i64 g.sc, .int .i64 g.tu, .int .i64 g.ov, .int .i64 g.it, .int .i64 g.go] 31)).alloc (.cells #[.slice none 0 0, .slice none 0 0, .slice none 0 0, .slice none 0 0, .slice none 0 0, .slice none 0 0, .slice none 0 0, .int .u64 0, .int .i64 0, .int .i64 0, .int .i64 0, .int .i64 0, .int .i64 0] 31) = W2 := ⟨_, rfl⟩
  have HX := Lib.hid (Bz.new hW2)
  obtain ⟨x0, x1, x2, x3, x4, x5, x6, x7, x8, x9, x10, x11, x12, xf⟩ := cells13 HX.out.box
  obtain ⟨y0, y1, y2, y3, y4, y5, y6, y7, y8, y9, y10, y11, y12, yf⟩ := cells13 HX.out.res
  go_wp2_with (go_at_call 97; refine (asked_i g _ _ _).mono ?_; rintro e w1 ⟨rfl, hb⟩; rw [HE.out]; have HX2 := Lib.hid (HX.out.on hb); clear HX hb; have HX := HX2; clear HX2; clear x0 x1 x2 x3 x4 x5 x6 x7 x8 x9 x10 x11 x12 xf y0 y1 y2 y3 y4 y5 y6 y7 y8 y9 y10 y11 y12 yf; obtain ⟨x0, x1, x2, x3, x4, x5, x6, x7, x8, x9, x10, x11, x12, xf⟩ := cells13 HX.out.box; obtain ⟨y0, y1, y2, y3, y4, y5, y6, y7, y8, y9, y10, y11, y12, yf⟩ := cells13 HX.out.res)
  (try simp only [Exit.inBlock, Exit.then])
  have hB := set13_below (g := w.heap.size + 1) (a0 := .slice A0 n0 c0) (a1 := .slice A1 n c1) (a2 := .slice A2 n2 c2) (a3 := .slice A3 n3 c3) (a4 := .slice A4 n4 c4) (a5 := .slice A5 n5 c5) (a6 := .slice A6 n6 c6) (a7 := .int .u64 g.seed) (a8 := .int .i64 g.sc) (a9 := .int .i64 g.tu) (a10 := .int .i64 g.ov) (a11 := .int .i64 g.it) (a12 := .int .i64 g.go) HX.out.below (by omega) (Nat.zero_le _)
  refine ret_ct (set13 HX.out.res) rfl rfl Try.underlying31 rfl rfl ?_
  exact ⟨_, rfl, HO.out.below hB (fun _ _ h => .inl h), hB⟩

set_option maxRecDepth 100000 in
set_option maxHeartbeats 4000000 in
theorem flagged_on {v : Value} (g : Wd) (x f : Int) (S : Nat → Prop) (w : World) (ho : Ws S w v g) (hF : Fl g) (hE : askN g.n x f = 0) :
    Calls Try.prog 100 #[v, .int .i64 x, .int .i64 f, .func (.func 101) #[] #[]] w fun e w' => ∃ v', e = .returned (.tuple #[v', .int .i64 0]) ∧ Ws (fun k => S k ∨ w.heap.size ≤ k) w' v' (setF g x (up (at' g.fl x) f)) ∧ Below w.heap.size w w' := by
  have ho2 := ho.wo; have HO := Lib.hid ho; clear ho; obtain ⟨A0, A1, A2, A3, A4, A5, A6, n0, c0, n, c1, n2, c2, n3, c3, n4, c4, n5, c5, n6, c6, rfl, ⟨r0, r1, r2, r3, r4, r5, r6⟩, hu, hw, hb⟩ := ho2
  have hg : g.n = n := r1.len.symm
  have hn4 : n4 = n := r4.len.trans (hF.1.trans hg)
  have hmb := hF.at_ x
  obtain rfl : n = n4 := hn4.symm
  have R0 := Lib.hid r0
  have R1 := Lib.hid r1
  have R2 := Lib.hid r2
  have R3 := Lib.hid r3
  have R4 := Lib.hid r4
  have R5 := Lib.hid r5
  have R6 := Lib.hid r6
  rw [hg] at hE
  have HE := Lib.hid hE
  obtain ⟨hx, hf0, hf1⟩ := ask_ok.1 hE
  obtain ⟨k, hk1, hk2, rfl⟩ : ∃ k : Nat, 1 ≤ k ∧ k < n ∧ x = (k : Int) := by
    have h := isT_iff.1 hx
    exact ⟨x.toNat, by omega, by omega, by omega⟩
  obtain ⟨m, hm⟩ : ∃ m, at' g.fl (k : Int) = m := ⟨_, rfl⟩
  have HM := Lib.hid hm
  rw [hm] at hmb ⊢
  obtain ⟨hm0, hm1⟩ := hmb
  have k0 : (0 : Int) ≤ (k : Int) := by omega
  have k1 : (k : Int) < (n : Int) := by omega
  have hbn : n ≤ 17592186043904 := hb.2.1
  have hp := two_f hf0 hf1
  have HV0 := or_i (n := m) (f := f) ⟨hm0, hm1⟩ hf0 hf1
  obtain ⟨p, hp2⟩ : ∃ p, (2 : Int) ^ f.toNat = p := ⟨_, rfl⟩
  obtain ⟨r, hr⟩ : ∃ r, up m f = r := ⟨_, rfl⟩
  rw [hp2] at hp HV0
  rw [hr] at HV0 ⊢
  have HV := Lib.hid HV0
  obtain ⟨hp0, hp1⟩ := hp
  have hfw : IntKind.u64.wrap f = f := IntWalk.u64_in _ (by omega)
  have hmin : min f.toNat 64 = f.toNat := by omega
  have hpw : IntKind.i64.wrap (2 ^ f.toNat) = p := by rw [hp2]; exact IntWalk.i64_in _ (by omega)
  have hpw2 : IntKind.i64.wrap p = p := IntWalk.i64_in _ (by omega)
  clear r0 r1 r2 r3 r4 r5 r6 hu hw hb hE hx hm hF hg
  clear HV0 hr
  go_enter Try.func100, Try.ntmps100
  obtain ⟨W2, hW2⟩ : ∃ W2, (w.alloc (.cells #[.slice A0 n0 c0, .slice A1 n c1, .slice A2 n2 c2, .slice A3 n3 c3, .slice A4 n c4, .slice A5 n5 c5, .slice A6 n6 c6, .int .u64 g.seed, .int .i64 g.sc, .int .i64 g.tu, .int .i64 g.ov, .int .i64 g.it, .int .i64 g.go] 31)).alloc (.cells #[.slice none 0 0, .slice none 0 0, .slice none 0 0, .slice none 0 0, .slice none 0 0, .slice none 0 0, .slice none 0 0, .int .u64 0, .int .i64 0, .int .i64 0, .int .i64 0, .int .i64 0, .int .i64 0] 31) = W2 := ⟨_, rfl⟩
  have HX := Lib.hid (Bz.new hW2)
  obtain ⟨x0, x1, x2, x3, x4, x5, x6, x7, x8, x9, x10, x11, x12, xf⟩ := cells13 HX.out.box
  obtain ⟨y0, y1, y2, y3, y4, y5, y6, y7, y8, y9, y10, y11, y12, yf⟩ := cells13 HX.out.res
  go_wp2_with (first
    | (go_at_call 97; refine (asked_i g _ _ _).mono ?_; rintro e w1 ⟨rfl, hb⟩; rw [HE.out]; have HX2 := Lib.hid (HX.out.on hb); clear HX hb; have HX := HX2; clear HX2; clear x0 x1 x2 x3 x4 x5 x6 x7 x8 x9 x10 x11 x12 xf y0 y1 y2 y3 y4 y5 y6 y7 y8 y9 y10 y11 y12 yf; obtain ⟨x0, x1, x2, x3, x4, x5, x6, x7, x8, x9, x10, x11, x12, xf⟩ := cells13 HX.out.box; obtain ⟨y0, y1, y2, y3, y4, y5, y6, y7, y8, y9, y10, y11, y12, yf⟩ := cells13 HX.out.res)
    | (go_at_call 108; refine (clone_i g.fl _ (R4.out.below HX.out.below) hbn).mono ?_; rintro e w4 ⟨A', d4, rfl, O, hb⟩; have hlt := HX.out.lt; obtain ⟨g4, rfl, hg4, hg4b, _⟩ := O.at_ (show 0 < n by omega); have O0 := Lib.hid O; clear O; have HX2 := Lib.hid (HX.out.on hb); clear HX hb; have HX := HX2; clear HX2; clear x0 x1 x2 x3 x4 x5 x6 x7 x8 x9 x10 x11 x12 xf y0 y1 y2 y3 y4 y5 y6 y7 y8 y9 y10 y11 y12 yf; obtain ⟨x0, x1, x2, x3, x4, x5, x6, x7, x8, x9, x10, x11, x12, xf⟩ := cells13 HX.out.box; obtain ⟨y0, y1, y2, y3, y4, y5, y6, y7, y8, y9, y10, y11, y12, yf⟩ := cells13 HX.out.res))
  obtain ⟨U, hU⟩ : ∃ U, w4.setCell ⟨w.heap.size, 4, none⟩ (.slice (some ⟨g4, 0, none⟩) n d4) = U := ⟨_, rfl⟩
  have u0 : U.heap[w.heap.size]? = some (.cells #[.slice A0 n0 c0, .slice A1 n c1, .slice A2 n2 c2, .slice A3 n3 c3, .slice (some ⟨g4, 0, none⟩) n d4, .slice A5 n5 c5, .slice A6 n6 c6, .int .u64 g.seed, .int .i64 g.sc, .int .i64 g.tu, .int .i64 g.ov, .int .i64 g.it, .int .i64 g.go] 31 (0, 0)) := by rw [← hU]; exact heapSet HX.out.box 4 _
  have u1 : U.heap[w.heap.size + 1]? = some (.cells #[.slice none 0 0, .slice none 0 0, .slice none 0 0, .slice none 0 0, .slice none 0 0, .slice none 0 0, .slice none 0 0, .int .u64 0, .int .i64 0, .int .i64 0, .int .i64 0, .int .i64 0, .int .i64 0] 31 (0, 0)) := by rw [← hU]; exact (Below.heap_setCell _ _ _ _ (by simp)).trans HX.out.res
  have UB := Lib.hid (show Below w.heap.size w U by rw [← hU]; exact HX.out.below.setCell (by simp) _)
  have o1 : Sq.Own I 3 U (w.heap.size + 2) (.slice (some ⟨g4, 0, none⟩) n d4) g.fl := by rw [← hU]; exact own_ne (O0.out.lower hlt) (fun h => by have h2 : g4 = w.heap.size := Option.some.inj h; omega) 4 _
  have q4 := own_cell o1 hk2
  rw [HM.out] at q4
  have z4 := own_frozen o1 (by omega)
  have O1 := Lib.hid o1
  rw [hU]
  clear hU o1 O0 x0 x1 x2 x3 x4 x5 x6 x7 x8 x9 x10 x11 x12 xf y0 y1 y2 y3 y4 y5 y6 y7 y8 y9 y10 y11 y12 yf
  have hS : (fun V => V.heap[w.heap.size]? = some (.cells #[.slice A0 n0 c0, .slice A1 n c1, .slice A2 n2 c2, .slice A3 n3 c3, .slice (some ⟨g4, 0, none⟩) n d4, .slice A5 n5 c5, .slice A6 n6 c6, .int .u64 g.seed, .int .i64 g.sc, .int .i64 g.tu, .int .i64 g.ov, .int .i64 g.it, .int .i64 g.go] 31 (0, 0))) U.drew := u0
  refine wp_region_held_drew (S := (fun V => V.heap[w.heap.size]? = some (.cells #[.slice A0 n0 c0, .slice A1 n c1, .slice A2 n2 c2, .slice A3 n3 c3, .slice (some ⟨g4, 0, none⟩) n d4, .slice A5 n5 c5, .slice A6 n6 c6, .int .u64 g.seed, .int .i64 g.sc, .int .i64 g.tu, .int .i64 g.ov, .int .i64 g.it, .int .i64 g.go] 31 (0, 0)))) (by kernel_rfl) hS (fun hHeld => ?_)
  refine Rg.take (i := 0) (t := 23) rfl rfl (by kernel_rfl) (by kernel_rfl) (by kernel_rfl) (fun _ _ _ h => h) (by rfl) (by intro w0 hSw; first | (go_simp; done) | (go_simp; with_reducible rfl)) (by assumption) ?_
  simp only [List.setIfInBounds_toArray, List.set_cons_zero, List.set_cons_succ]
  refine Rg.take (i := 1) (t := 24) rfl rfl (by kernel_rfl) (by kernel_rfl) (by kernel_rfl) (fun _ _ _ h => h) (by rfl) (by intro w0 hSw; obtain ⟨x0, x1, x2, x3, x4, x5, x6, x7, x8, x9, x10, x11, x12, xf⟩ := cells13 hSw; first | (go_simp; done) | (go_simp; with_reducible rfl)) (by assumption) ?_
  simp only [List.setIfInBounds_toArray, List.set_cons_zero, List.set_cons_succ]
  refine Rg.take (i := 2) (t := 25) rfl rfl (by kernel_rfl) (by kernel_rfl) (by kernel_rfl) (fun _ _ _ h => h) (by rfl) (by intro w0 hSw; first | (go_simp; done) | (go_simp; with_reducible rfl)) (by assumption) ?_
  simp only [List.setIfInBounds_toArray, List.set_cons_zero, List.set_cons_succ]
  refine Rg.take (i := 3) (t := 26) rfl rfl (by kernel_rfl) (by kernel_rfl) (by kernel_rfl) (fun _ _ _ h => h) (by rfl) (by intro w0 hSw; first | (go_simp; done) | (go_simp; with_reducible rfl)) (by assumption) ?_
  simp only [List.setIfInBounds_toArray, List.set_cons_zero, List.set_cons_succ]
  refine Rg.take (i := 4) (t := 27) rfl rfl (by kernel_rfl) (by kernel_rfl) (by kernel_rfl) (fun _ _ _ h => h) (by rfl) (by intro w0 hSw; first | (go_simp; done) | (go_simp; with_reducible rfl)) (by assumption) ?_
  simp only [List.setIfInBounds_toArray, List.set_cons_zero, List.set_cons_succ]
  refine Rg.take (i := 5) (t := 28) rfl rfl (by kernel_rfl) (by kernel_rfl) (by kernel_rfl) (fun _ _ _ h => h) (by rfl) (by intro w0 hSw; obtain ⟨x0, x1, x2, x3, x4, x5, x6, x7, x8, x9, x10, x11, x12, xf⟩ := cells13 hSw; first | (go_simp; done) | (go_simp; with_reducible rfl)) (by assumption) ?_
  simp only [List.setIfInBounds_toArray, List.set_cons_zero, List.set_cons_succ]
  refine Rg.take (i := 6) (t := 29) rfl rfl (by kernel_rfl) (by kernel_rfl) (by kernel_rfl) (fun _ _ _ h => h) (by rfl) (by intro w0 hSw; first | (go_simp; done) | (go_simp; with_reducible rfl)) (by assumption) ?_
  simp only [List.setIfInBounds_toArray, List.set_cons_zero, List.set_cons_succ]
  refine Rg.take (i := 7) (t := 30) rfl rfl (by kernel_rfl) (by kernel_rfl) (by kernel_rfl) (fun _ _ _ h => h) (by rfl) (by intro w0 hSw; first | (go_simp; done) | (go_simp; with_reducible rfl)) (by assumption) ?_
  simp only [List.setIfInBounds_toArray, List.set_cons_zero, List.set_cons_succ]
  refine Rg.take (i := 9) (t := 32) rfl rfl (by kernel_rfl) (by kernel_rfl) (by kernel_rfl) (fun _ _ _ h => h) (by rfl) (by intro w0 hSw; first | (go_simp; done) | (go_simp; with_reducible rfl)) (by assumption) ?_
  simp only [List.setIfInBounds_toArray, List.set_cons_zero, List.set_cons_succ]
  refine Rg.take (i := 10) (t := 33) rfl rfl (by kernel_rfl) (by kernel_rfl) (by kernel_rfl) (fun _ _ _ h => h) (by rfl) (by intro w0 hSw; first | (go_simp; done) | (go_simp; with_reducible rfl)) (by assumption) ?_
  simp only [List.setIfInBounds_toArray, List.set_cons_zero, List.set_cons_succ]
  refine Rg.take (i := 11) (t := 34) (v := .int .i64 p) rfl rfl (by kernel_rfl) (by kernel_rfl) (by kernel_rfl) (fun _ _ _ h => h) (by rfl) (by intro w0 hSw; first | (go_simp; done) | (go_simp; with_reducible rfl)) (by assumption) ?_
  simp only [List.setIfInBounds_toArray, List.set_cons_zero, List.set_cons_succ]
  refine Rg.one (i := 8) (by kernel_rfl) ?_
  have q4' : U.drew.cell? ⟨g4, k, none⟩ = some (.int .i64 m) := q4
  refine Rg.eff (i := 8) (t := 31) (v := .int .i64 m) rfl rfl (by rfl) (by first | (go_simp; done) | (go_simp; with_reducible rfl)) (fun V => V.heap[w.heap.size]? = some (.cells #[.slice A0 n0 c0, .slice A1 n c1, .slice A2 n2 c2, .slice A3 n3 c3, .slice (some ⟨g4, 0, none⟩) n d4, .slice A5 n5 c5, .slice A6 n6 c6, .int .u64 g.seed, .int .i64 g.sc, .int .i64 g.tu, .int .i64 g.ov, .int .i64 g.it, .int .i64 g.go] 31 (0, 0))) (fun _ h => h) hS ?_
  simp only [List.setIfInBounds_toArray, List.set_cons_zero, List.set_cons_succ]
  refine Rg.one (i := 12) (by kernel_rfl) ?_
  refine Rg.call (i := 12) (t := 35) rfl rfl (by rfl) (by go_simp; exact ⟨rfl, rfl⟩) ?_
  refine (or_c _ _ _).mono ?_
  rintro e w1 ⟨rfl, rfl⟩
  rw [HV.out]
  refine ⟨_, rfl, (fun V => V.heap[w.heap.size]? = some (.cells #[.slice A0 n0 c0, .slice A1 n c1, .slice A2 n2 c2, .slice A3 n3 c3, .slice (some ⟨g4, 0, none⟩) n d4, .slice A5 n5 c5, .slice A6 n6 c6, .int .u64 g.seed, .int .i64 g.sc, .int .i64 g.tu, .int .i64 g.ov, .int .i64 g.it, .int .i64 g.go] 31 (0, 0))), fun _ h => h, hS, ?_⟩
  simp only [List.setIfInBounds_toArray, List.set_cons_zero, List.set_cons_succ]
  refine Rg.take (i := 13) (t := 36) rfl rfl (by kernel_rfl) (by kernel_rfl) (by kernel_rfl) (fun _ _ _ h => h) (by rfl) (by intro w0 hSw; first | (go_simp; done) | (go_simp; with_reducible rfl)) (by assumption) ?_
  simp only [List.setIfInBounds_toArray, List.set_cons_zero, List.set_cons_succ]
  refine Rg.one (i := 14) (by kernel_rfl) ?_
  refine RgIn.effN (i := 14) (w1 := U.drew.setCell ⟨g4, k, none⟩ (.int .i64 r)) rfl rfl (by rfl) (by first | (go_simp; done) | (go_simp; with_reducible rfl)) ⟨(Below.heap_setCell _ _ _ _ (by simp; omega)).trans hS, ?_⟩
  refine wpAnyH_done (by kernel_rfl) ?_ _
  obtain ⟨U2, hU2⟩ : ∃ U2, U.drew.setCell ⟨g4, k, none⟩ (.int .i64 r) = U2 := ⟨_, rfl⟩
  rw [hU2]
  have v0 : U2.heap[w.heap.size]? = some (.cells #[.slice A0 n0 c0, .slice A1 n c1, .slice A2 n2 c2, .slice A3 n3 c3, .slice (some ⟨g4, 0, none⟩) n d4, .slice A5 n5 c5, .slice A6 n6 c6, .int .u64 g.seed, .int .i64 g.sc, .int .i64 g.tu, .int .i64 g.ov, .int .i64 g.it, .int .i64 g.go] 31 (0, 0)) := by rw [← hU2]; exact (Below.heap_setCell _ _ _ _ (by simp; omega)).trans u0
  have v1 : U2.heap[w.heap.size + 1]? = some (.cells #[.slice none 0 0, .slice none 0 0, .slice none 0 0, .slice none 0 0, .slice none 0 0, .slice none 0 0, .slice none 0 0, .int .u64 0, .int .i64 0, .int .i64 0, .int .i64 0, .int .i64 0, .int .i64 0] 31 (0, 0)) := by rw [← hU2]; exact (Below.heap_setCell _ _ _ _ (by simp; omega)).trans u1
  have VB := Lib.hid (show Below w.heap.size w U2 by rw [← hU2]; exact (Below.drew UB.out).setCell (by simp; omega) _)
  have O2 := Lib.hid (show Sq.Own I 3 U2 (w.heap.size + 2) (.slice (some ⟨g4, 0, none⟩) n d4) (g.fl.set k r) by rw [← hU2]; exact O1.out.drew.store k r)
  clear hU2 u0 u1 UB O1 hS q4 z4
  obtain ⟨x0, x1, x2, x3, x4, x5, x6, x7, x8, x9, x10, x11, x12, xf⟩ := cells13 v0
  obtain ⟨y0, y1, y2, y3, y4, y5, y6, y7, y8, y9, y10, y11, y12, yf⟩ := cells13 v1
  go_wp2_with fail
  (try simp only [Exit.inBlock, Exit.then])
  refine ret_ct (set13 v1) rfl rfl Try.underlying31 rfl rfl ?_
  obtain ⟨z1, z2⟩ := close4 (g := g) (w := w) (b2 := w.heap.size + 1) HO.out O2.out VB.out (by omega) (by omega)
  exact ⟨_, rfl, z1, z2⟩

set_option maxRecDepth 100000 in
set_option maxHeartbeats 4000000 in
theorem flagged_off {v : Value} (g : Wd) (x f : Int) (S : Nat → Prop) (w : World) (ho : Ws S w v g) (hF : Fl g) (hE : askN g.n x f = 0) :
    Calls Try.prog 100 #[v, .int .i64 x, .int .i64 f, .func (.func 104) #[] #[]] w fun e w' => ∃ v', e = .returned (.tuple #[v', .int .i64 0]) ∧ Ws (fun k => S k ∨ w.heap.size ≤ k) w' v' (setF g x (down (at' g.fl x) f)) ∧ Below w.heap.size w w' := by
  have ho2 := ho.wo; have HO := Lib.hid ho; clear ho; obtain ⟨A0, A1, A2, A3, A4, A5, A6, n0, c0, n, c1, n2, c2, n3, c3, n4, c4, n5, c5, n6, c6, rfl, ⟨r0, r1, r2, r3, r4, r5, r6⟩, hu, hw, hb⟩ := ho2
  have hg : g.n = n := r1.len.symm
  have hn4 : n4 = n := r4.len.trans (hF.1.trans hg)
  have hmb := hF.at_ x
  obtain rfl : n = n4 := hn4.symm
  have R0 := Lib.hid r0
  have R1 := Lib.hid r1
  have R2 := Lib.hid r2
  have R3 := Lib.hid r3
  have R4 := Lib.hid r4
  have R5 := Lib.hid r5
  have R6 := Lib.hid r6
  rw [hg] at hE
  have HE := Lib.hid hE
  obtain ⟨hx, hf0, hf1⟩ := ask_ok.1 hE
  obtain ⟨k, hk1, hk2, rfl⟩ : ∃ k : Nat, 1 ≤ k ∧ k < n ∧ x = (k : Int) := by
    have h := isT_iff.1 hx
    exact ⟨x.toNat, by omega, by omega, by omega⟩
  obtain ⟨m, hm⟩ : ∃ m, at' g.fl (k : Int) = m := ⟨_, rfl⟩
  have HM := Lib.hid hm
  rw [hm] at hmb ⊢
  obtain ⟨hm0, hm1⟩ := hmb
  have k0 : (0 : Int) ≤ (k : Int) := by omega
  have k1 : (k : Int) < (n : Int) := by omega
  have hbn : n ≤ 17592186043904 := hb.2.1
  have hp := two_f hf0 hf1
  have HV0 := andNot_i (n := m) (f := f) ⟨hm0, hm1⟩ hf0 hf1
  obtain ⟨p, hp2⟩ : ∃ p, (2 : Int) ^ f.toNat = p := ⟨_, rfl⟩
  obtain ⟨r, hr⟩ : ∃ r, down m f = r := ⟨_, rfl⟩
  rw [hp2] at hp HV0
  rw [hr] at HV0 ⊢
  have HV := Lib.hid HV0
  obtain ⟨hp0, hp1⟩ := hp
  have hfw : IntKind.u64.wrap f = f := IntWalk.u64_in _ (by omega)
  have hmin : min f.toNat 64 = f.toNat := by omega
  have hpw : IntKind.i64.wrap (2 ^ f.toNat) = p := by rw [hp2]; exact IntWalk.i64_in _ (by omega)
  have hpw2 : IntKind.i64.wrap p = p := IntWalk.i64_in _ (by omega)
  clear r0 r1 r2 r3 r4 r5 r6 hu hw hb hE hx hm hF hg
  clear HV0 hr
  go_enter Try.func100, Try.ntmps100
  obtain ⟨W2, hW2⟩ : ∃ W2, (w.alloc (.cells #[.slice A0 n0 c0, .slice A1 n c1, .slice A2 n2 c2, .slice A3 n3 c3, .slice A4 n c4, .slice A5 n5 c5, .slice A6 n6 c6, .int .u64 g.seed, .int .i64 g.sc, .int .i64 g.tu, .int .i64 g.ov, .int .i64 g.it, .int .i64 g.go] 31)).alloc (.cells #[.slice none 0 0, .slice none 0 0, .slice none 0 0, .slice none 0 0, .slice none 0 0, .slice none 0 0, .slice none 0 0, .int .u64 0, .int .i64 0, .int .i64 0, .int .i64 0, .int .i64 0, .int .i64 0] 31) = W2 := ⟨_, rfl⟩
  have HX := Lib.hid (Bz.new hW2)
  obtain ⟨x0, x1, x2, x3, x4, x5, x6, x7, x8, x9, x10, x11, x12, xf⟩ := cells13 HX.out.box
  obtain ⟨y0, y1, y2, y3, y4, y5, y6, y7, y8, y9, y10, y11, y12, yf⟩ := cells13 HX.out.res
  go_wp2_with (first
    | (go_at_call 97; refine (asked_i g _ _ _).mono ?_; rintro e w1 ⟨rfl, hb⟩; rw [HE.out]; have HX2 := Lib.hid (HX.out.on hb); clear HX hb; have HX := HX2; clear HX2; clear x0 x1 x2 x3 x4 x5 x6 x7 x8 x9 x10 x11 x12 xf y0 y1 y2 y3 y4 y5 y6 y7 y8 y9 y10 y11 y12 yf; obtain ⟨x0, x1, x2, x3, x4, x5, x6, x7, x8, x9, x10, x11, x12, xf⟩ := cells13 HX.out.box; obtain ⟨y0, y1, y2, y3, y4, y5, y6, y7, y8, y9, y10, y11, y12, yf⟩ := cells13 HX.out.res)
    | (go_at_call 108; refine (clone_i g.fl _ (R4.out.below HX.out.below) hbn).mono ?_; rintro e w4 ⟨A', d4, rfl, O, hb⟩; have hlt := HX.out.lt; obtain ⟨g4, rfl, hg4, hg4b, _⟩ := O.at_ (show 0 < n by omega); have O0 := Lib.hid O; clear O; have HX2 := Lib.hid (HX.out.on hb); clear HX hb; have HX := HX2; clear HX2; clear x0 x1 x2 x3 x4 x5 x6 x7 x8 x9 x10 x11 x12 xf y0 y1 y2 y3 y4 y5 y6 y7 y8 y9 y10 y11 y12 yf; obtain ⟨x0, x1, x2, x3, x4, x5, x6, x7, x8, x9, x10, x11, x12, xf⟩ := cells13 HX.out.box; obtain ⟨y0, y1, y2, y3, y4, y5, y6, y7, y8, y9, y10, y11, y12, yf⟩ := cells13 HX.out.res))
  obtain ⟨U, hU⟩ : ∃ U, w4.setCell ⟨w.heap.size, 4, none⟩ (.slice (some ⟨g4, 0, none⟩) n d4) = U := ⟨_, rfl⟩
  have u0 : U.heap[w.heap.size]? = some (.cells #[.slice A0 n0 c0, .slice A1 n c1, .slice A2 n2 c2, .slice A3 n3 c3, .slice (some ⟨g4, 0, none⟩) n d4, .slice A5 n5 c5, .slice A6 n6 c6, .int .u64 g.seed, .int .i64 g.sc, .int .i64 g.tu, .int .i64 g.ov, .int .i64 g.it, .int .i64 g.go] 31 (0, 0)) := by rw [← hU]; exact heapSet HX.out.box 4 _
  have u1 : U.heap[w.heap.size + 1]? = some (.cells #[.slice none 0 0, .slice none 0 0, .slice none 0 0, .slice none 0 0, .slice none 0 0, .slice none 0 0, .slice none 0 0, .int .u64 0, .int .i64 0, .int .i64 0, .int .i64 0, .int .i64 0, .int .i64 0] 31 (0, 0)) := by rw [← hU]; exact (Below.heap_setCell _ _ _ _ (by simp)).trans HX.out.res
  have UB := Lib.hid (show Below w.heap.size w U by rw [← hU]; exact HX.out.below.setCell (by simp) _)
  have o1 : Sq.Own I 3 U (w.heap.size + 2) (.slice (some ⟨g4, 0, none⟩) n d4) g.fl := by rw [← hU]; exact own_ne (O0.out.lower hlt) (fun h => by have h2 : g4 = w.heap.size := Option.some.inj h; omega) 4 _
  have q4 := own_cell o1 hk2
  rw [HM.out] at q4
  have z4 := own_frozen o1 (by omega)
  have O1 := Lib.hid o1
  rw [hU]
  clear hU o1 O0 x0 x1 x2 x3 x4 x5 x6 x7 x8 x9 x10 x11 x12 xf y0 y1 y2 y3 y4 y5 y6 y7 y8 y9 y10 y11 y12 yf
  have hS : (fun V => V.heap[w.heap.size]? = some (.cells #[.slice A0 n0 c0, .slice A1 n c1, .slice A2 n2 c2, .slice A3 n3 c3, .slice (some ⟨g4, 0, none⟩) n d4, .slice A5 n5 c5, .slice A6 n6 c6, .int .u64 g.seed, .int .i64 g.sc, .int .i64 g.tu, .int .i64 g.ov, .int .i64 g.it, .int .i64 g.go] 31 (0, 0))) U.drew := u0
  refine wp_region_held_drew (S := (fun V => V.heap[w.heap.size]? = some (.cells #[.slice A0 n0 c0, .slice A1 n c1, .slice A2 n2 c2, .slice A3 n3 c3, .slice (some ⟨g4, 0, none⟩) n d4, .slice A5 n5 c5, .slice A6 n6 c6, .int .u64 g.seed, .int .i64 g.sc, .int .i64 g.tu, .int .i64 g.ov, .int .i64 g.it, .int .i64 g.go] 31 (0, 0)))) (by kernel_rfl) hS (fun hHeld => ?_)
  refine Rg.take (i := 0) (t := 23) rfl rfl (by kernel_rfl) (by kernel_rfl) (by kernel_rfl) (fun _ _ _ h => h) (by rfl) (by intro w0 hSw; first | (go_simp; done) | (go_simp; with_reducible rfl)) (by assumption) ?_
  simp only [List.setIfInBounds_toArray, List.set_cons_zero, List.set_cons_succ]
  refine Rg.take (i := 1) (t := 24) rfl rfl (by kernel_rfl) (by kernel_rfl) (by kernel_rfl) (fun _ _ _ h => h) (by rfl) (by intro w0 hSw; obtain ⟨x0, x1, x2, x3, x4, x5, x6, x7, x8, x9, x10, x11, x12, xf⟩ := cells13 hSw; first | (go_simp; done) | (go_simp; with_reducible rfl)) (by assumption) ?_
  simp only [List.setIfInBounds_toArray, List.set_cons_zero, List.set_cons_succ]
  refine Rg.take (i := 2) (t := 25) rfl rfl (by kernel_rfl) (by kernel_rfl) (by kernel_rfl) (fun _ _ _ h => h) (by rfl) (by intro w0 hSw; first | (go_simp; done) | (go_simp; with_reducible rfl)) (by assumption) ?_
  simp only [List.setIfInBounds_toArray, List.set_cons_zero, List.set_cons_succ]
  refine Rg.take (i := 3) (t := 26) rfl rfl (by kernel_rfl) (by kernel_rfl) (by kernel_rfl) (fun _ _ _ h => h) (by rfl) (by intro w0 hSw; first | (go_simp; done) | (go_simp; with_reducible rfl)) (by assumption) ?_
  simp only [List.setIfInBounds_toArray, List.set_cons_zero, List.set_cons_succ]
  refine Rg.take (i := 4) (t := 27) rfl rfl (by kernel_rfl) (by kernel_rfl) (by kernel_rfl) (fun _ _ _ h => h) (by rfl) (by intro w0 hSw; first | (go_simp; done) | (go_simp; with_reducible rfl)) (by assumption) ?_
  simp only [List.setIfInBounds_toArray, List.set_cons_zero, List.set_cons_succ]
  refine Rg.take (i := 5) (t := 28) rfl rfl (by kernel_rfl) (by kernel_rfl) (by kernel_rfl) (fun _ _ _ h => h) (by rfl) (by intro w0 hSw; obtain ⟨x0, x1, x2, x3, x4, x5, x6, x7, x8, x9, x10, x11, x12, xf⟩ := cells13 hSw; first | (go_simp; done) | (go_simp; with_reducible rfl)) (by assumption) ?_
  simp only [List.setIfInBounds_toArray, List.set_cons_zero, List.set_cons_succ]
  refine Rg.take (i := 6) (t := 29) rfl rfl (by kernel_rfl) (by kernel_rfl) (by kernel_rfl) (fun _ _ _ h => h) (by rfl) (by intro w0 hSw; first | (go_simp; done) | (go_simp; with_reducible rfl)) (by assumption) ?_
  simp only [List.setIfInBounds_toArray, List.set_cons_zero, List.set_cons_succ]
  refine Rg.take (i := 7) (t := 30) rfl rfl (by kernel_rfl) (by kernel_rfl) (by kernel_rfl) (fun _ _ _ h => h) (by rfl) (by intro w0 hSw; first | (go_simp; done) | (go_simp; with_reducible rfl)) (by assumption) ?_
  simp only [List.setIfInBounds_toArray, List.set_cons_zero, List.set_cons_succ]
  refine Rg.take (i := 9) (t := 32) rfl rfl (by kernel_rfl) (by kernel_rfl) (by kernel_rfl) (fun _ _ _ h => h) (by rfl) (by intro w0 hSw; first | (go_simp; done) | (go_simp; with_reducible rfl)) (by assumption) ?_
  simp only [List.setIfInBounds_toArray, List.set_cons_zero, List.set_cons_succ]
  refine Rg.take (i := 10) (t := 33) rfl rfl (by kernel_rfl) (by kernel_rfl) (by kernel_rfl) (fun _ _ _ h => h) (by rfl) (by intro w0 hSw; first | (go_simp; done) | (go_simp; with_reducible rfl)) (by assumption) ?_
  simp only [List.setIfInBounds_toArray, List.set_cons_zero, List.set_cons_succ]
  refine Rg.take (i := 11) (t := 34) (v := .int .i64 p) rfl rfl (by kernel_rfl) (by kernel_rfl) (by kernel_rfl) (fun _ _ _ h => h) (by rfl) (by intro w0 hSw; first | (go_simp; done) | (go_simp; with_reducible rfl)) (by assumption) ?_
  simp only [List.setIfInBounds_toArray, List.set_cons_zero, List.set_cons_succ]
  refine Rg.one (i := 8) (by kernel_rfl) ?_
  have q4' : U.drew.cell? ⟨g4, k, none⟩ = some (.int .i64 m) := q4
  refine Rg.eff (i := 8) (t := 31) (v := .int .i64 m) rfl rfl (by rfl) (by first | (go_simp; done) | (go_simp; with_reducible rfl)) (fun V => V.heap[w.heap.size]? = some (.cells #[.slice A0 n0 c0, .slice A1 n c1, .slice A2 n2 c2, .slice A3 n3 c3, .slice (some ⟨g4, 0, none⟩) n d4, .slice A5 n5 c5, .slice A6 n6 c6, .int .u64 g.seed, .int .i64 g.sc, .int .i64 g.tu, .int .i64 g.ov, .int .i64 g.it, .int .i64 g.go] 31 (0, 0))) (fun _ h => h) hS ?_
  simp only [List.setIfInBounds_toArray, List.set_cons_zero, List.set_cons_succ]
  refine Rg.one (i := 12) (by kernel_rfl) ?_
  refine Rg.call (i := 12) (t := 35) rfl rfl (by rfl) (by go_simp; exact ⟨rfl, rfl⟩) ?_
  refine (and_c _ _ _).mono ?_
  rintro e w1 ⟨rfl, rfl⟩
  rw [HV.out]
  refine ⟨_, rfl, (fun V => V.heap[w.heap.size]? = some (.cells #[.slice A0 n0 c0, .slice A1 n c1, .slice A2 n2 c2, .slice A3 n3 c3, .slice (some ⟨g4, 0, none⟩) n d4, .slice A5 n5 c5, .slice A6 n6 c6, .int .u64 g.seed, .int .i64 g.sc, .int .i64 g.tu, .int .i64 g.ov, .int .i64 g.it, .int .i64 g.go] 31 (0, 0))), fun _ h => h, hS, ?_⟩
  simp only [List.setIfInBounds_toArray, List.set_cons_zero, List.set_cons_succ]
  refine Rg.take (i := 13) (t := 36) rfl rfl (by kernel_rfl) (by kernel_rfl) (by kernel_rfl) (fun _ _ _ h => h) (by rfl) (by intro w0 hSw; first | (go_simp; done) | (go_simp; with_reducible rfl)) (by assumption) ?_
  simp only [List.setIfInBounds_toArray, List.set_cons_zero, List.set_cons_succ]
  refine Rg.one (i := 14) (by kernel_rfl) ?_
  refine RgIn.effN (i := 14) (w1 := U.drew.setCell ⟨g4, k, none⟩ (.int .i64 r)) rfl rfl (by rfl) (by first | (go_simp; done) | (go_simp; with_reducible rfl)) ⟨(Below.heap_setCell _ _ _ _ (by simp; omega)).trans hS, ?_⟩
  refine wpAnyH_done (by kernel_rfl) ?_ _
  obtain ⟨U2, hU2⟩ : ∃ U2, U.drew.setCell ⟨g4, k, none⟩ (.int .i64 r) = U2 := ⟨_, rfl⟩
  rw [hU2]
  have v0 : U2.heap[w.heap.size]? = some (.cells #[.slice A0 n0 c0, .slice A1 n c1, .slice A2 n2 c2, .slice A3 n3 c3, .slice (some ⟨g4, 0, none⟩) n d4, .slice A5 n5 c5, .slice A6 n6 c6, .int .u64 g.seed, .int .i64 g.sc, .int .i64 g.tu, .int .i64 g.ov, .int .i64 g.it, .int .i64 g.go] 31 (0, 0)) := by rw [← hU2]; exact (Below.heap_setCell _ _ _ _ (by simp; omega)).trans u0
  have v1 : U2.heap[w.heap.size + 1]? = some (.cells #[.slice none 0 0, .slice none 0 0, .slice none 0 0, .slice none 0 0, .slice none 0 0, .slice none 0 0, .slice none 0 0, .int .u64 0, .int .i64 0, .int .i64 0, .int .i64 0, .int .i64 0, .int .i64 0] 31 (0, 0)) := by rw [← hU2]; exact (Below.heap_setCell _ _ _ _ (by simp; omega)).trans u1
  have VB := Lib.hid (show Below w.heap.size w U2 by rw [← hU2]; exact (Below.drew UB.out).setCell (by simp; omega) _)
  have O2 := Lib.hid (show Sq.Own I 3 U2 (w.heap.size + 2) (.slice (some ⟨g4, 0, none⟩) n d4) (g.fl.set k r) by rw [← hU2]; exact O1.out.drew.store k r)
  clear hU2 u0 u1 UB O1 hS q4 z4
  obtain ⟨x0, x1, x2, x3, x4, x5, x6, x7, x8, x9, x10, x11, x12, xf⟩ := cells13 v0
  obtain ⟨y0, y1, y2, y3, y4, y5, y6, y7, y8, y9, y10, y11, y12, yf⟩ := cells13 v1
  go_wp2_with fail
  (try simp only [Exit.inBlock, Exit.then])
  refine ret_ct (set13 v1) rfl rfl Try.underlying31 rfl rfl ?_
  obtain ⟨z1, z2⟩ := close4 (g := g) (w := w) (b2 := w.heap.size + 1) HO.out O2.out VB.out (by omega) (by omega)
  exact ⟨_, rfl, z1, z2⟩

end Go.Proofs.Ytncdicagadbafaa.AttrX
