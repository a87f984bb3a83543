/- world.Copy. Conditions: the world reads. -/
import Derived.Test.YtncdicagadbafaaCopP
namespace Go.Proofs.Ytncdicagadbafaa.CopW
open Go Go.RowKit NestP NestW NestX NestY ValP ValW ValX ValR Sq Rng RngU RngT RgIn WorldD CopP

/-- The slice of field j, where k fields have been copied. -/
def At (w : World) (B j k : Nat) (a v : Value) (l : List Int) : Prop := (j < k → Sq.Own I 3 w B a l ∧ ∃ A n c, a = .slice A n c) ∧ (k ≤ j → a = v)
theorem At.own {w : World} {B j k : Nat} {a v : Value} {l : List Int} (h : At w B j k a v l) (hj : j < k) : Sq.Own I 3 w B a l := (h.1 hj).1
theorem At.old {w : World} {B j k : Nat} {a v : Value} {l : List Int} (h : At w B j k a v l) (hj : k ≤ j) : a = v := h.2 hj
theorem At.keep {w w' : World} {B j k : Nat} {a v : Value} {l : List Int} (h : At w B j k a v l) (hj : j ≠ k) (b i : Nat) (x : Value) (hb : b < B) (hw : Below w.heap.size w w') : At (w'.setCell ⟨b, i, none⟩ x) B j (k + 1) a v l :=
  ⟨fun h1 => ⟨own_same ((h.own (by omega)).below hw) fun i hi => Below.heap_setCell w' _ x i (by simp; omega), (h.1 (by omega)).2⟩, fun h1 => h.old (by omega)⟩
theorem At.new {w w' : World} {B k : Nat} {A : Option Addr} {n c : Nat} {v : Value} {l : List Int} (h : Sq.Own I 3 w' w.heap.size (.slice A n c) l) (hB : B ≤ w.heap.size) (b i : Nat) (x : Value) (hb : b < B) : At (w'.setCell ⟨b, i, none⟩ x) B k (k + 1) (.slice A n c) v l :=
  ⟨fun _ => ⟨own_same (h.lower hB) fun i hi => Below.heap_setCell w' _ x i (by simp; omega), A, n, c, rfl⟩, fun h1 => by omega⟩

set_option maxRecDepth 100000 in
set_option maxHeartbeats 4000000 in
theorem copy_i {A0 A1 A2 A3 A4 A5 A6 : Option Addr} {n0 c0 n c1 n2 c2 n3 c3 n4 c4 n5 c5 n6 c6 : Nat} (g : Wd) (w : World) (r0 : Rd I w A0 n0 g.gl) (r1 : Rd I w A1 n g.pa) (r2 : Rd I w A2 n2 g.ch) (r3 : Rd I w A3 n3 g.ne) (r4 : Rd I w A4 n4 g.fl) (r5 : Rd I w A5 n5 g.pr) (r6 : Rd I w A6 n6 g.ti)
    (hb : n0 ≤ 17592186043904 ∧ n ≤ 17592186043904 ∧ n2 ≤ 17592186043904 ∧ n3 ≤ 17592186043904 ∧ n4 ≤ 17592186043904 ∧ n5 ≤ 17592186043904 ∧ n6 ≤ 17592186043904) :
    Calls Try.prog 160 #[.agg #[.slice A0 n0 c0, .slice A1 n c1, .slice A2 n2 c2, .slice A3 n3 c3, .slice A4 n4 c4, .slice A5 n5 c5, .slice A6 n6 c6, .int .u64 g.seed, .int .i64 g.sc, .int .i64 g.tu, .int .i64 g.ov, .int .i64 g.it, .int .i64 g.go]] w fun e w' => ∃ v, e = .returned v ∧ Ow w' w.heap.size v g ∧ Below w.heap.size w w' := by
  have R0 := Lib.hid r0
  have R1 := Lib.hid r1
  have R2 := Lib.hid r2
  have R3 := Lib.hid r3
  have R4 := Lib.hid r4
  have R5 := Lib.hid r5
  have R6 := Lib.hid r6
  have HB := Lib.hid hb
  clear hb r0 r1 r2 r3 r4 r5 r6
  go_enter Try.func160, Try.ntmps160
  go_wp2_with fail
  obtain ⟨W3, hW3⟩ : ∃ W3, ((w.alloc (.cells #[.slice A0 n0 c0, .slice A1 n c1, .slice A2 n2 c2, .slice A3 n3 c3, .slice A4 n4 c4, .slice A5 n5 c5, .slice A6 n6 c6, .int .u64 g.seed, .int .i64 g.sc, .int .i64 g.tu, .int .i64 g.ov, .int .i64 g.it, .int .i64 g.go] 31)).alloc (.cells #[.slice none 0 0, .slice none 0 0, .slice none 0 0, .slice none 0 0, .slice none 0 0, .slice none 0 0, .slice none 0 0, .int .u64 0, .int .i64 0, .int .i64 0, .int .i64 0, .int .i64 0, .int .i64 0] 31)).alloc (.cells #[.pointer (some ⟨w.heap.size, 0, none⟩), .pointer (some ⟨w.heap.size, 1, none⟩), .pointer (some ⟨w.heap.size, 2, none⟩), .pointer (some ⟨w.heap.size, 3, none⟩), .pointer (some ⟨w.heap.size, 4, none⟩), .pointer (some ⟨w.heap.size, 5, none⟩), .pointer (some ⟨w.heap.size, 6, none⟩)] 139) = W3 := ⟨_, rfl⟩
  obtain ⟨s3, f0, f1, f2, hB3⟩ := alloc3 hW3
  rw [hW3]
  clear hW3
  go_loopw [14] (fun i wr => ∃ (k : Nat) (a0 a1 a2 a3 a4 a5 a6 : Value), k ≤ 7 ∧ i = .int .i64 (k : Int) ∧ wr.heap[w.heap.size]? = some (.cells #[a0, a1, a2, a3, a4, a5, a6, .int .u64 g.seed, .int .i64 g.sc, .int .i64 g.tu, .int .i64 g.ov, .int .i64 g.it, .int .i64 g.go] 31 (0, 0)) ∧ wr.heap[w.heap.size + 1]? = some (.cells #[.slice none 0 0, .slice none 0 0, .slice none 0 0, .slice none 0 0, .slice none 0 0, .slice none 0 0, .slice none 0 0, .int .u64 0, .int .i64 0, .int .i64 0, .int .i64 0, .int .i64 0, .int .i64 0] 31 (0, 0)) ∧ wr.heap[w.heap.size + 1 + 1]? = some (.cells #[.pointer (some ⟨w.heap.size, 0, none⟩), .pointer (some ⟨w.heap.size, 1, none⟩), .pointer (some ⟨w.heap.size, 2, none⟩), .pointer (some ⟨w.heap.size, 3, none⟩), .pointer (some ⟨w.heap.size, 4, none⟩), .pointer (some ⟨w.heap.size, 5, none⟩), .pointer (some ⟨w.heap.size, 6, none⟩)] 139 (0, 0)) ∧
      Below w.heap.size w wr ∧ w.heap.size + 3 ≤ wr.heap.size ∧ (At wr (w.heap.size + 3) 0 k a0 (.slice A0 n0 c0) g.gl ∧ At wr (w.heap.size + 3) 1 k a1 (.slice A1 n c1) g.pa ∧ At wr (w.heap.size + 3) 2 k a2 (.slice A2 n2 c2) g.ch ∧ At wr (w.heap.size + 3) 3 k a3 (.slice A3 n3 c3) g.ne ∧ At wr (w.heap.size + 3) 4 k a4 (.slice A4 n4 c4) g.fl ∧ At wr (w.heap.size + 3) 5 k a5 (.slice A5 n5 c5) g.pr ∧ At wr (w.heap.size + 3) 6 k a6 (.slice A6 n6 c6) g.ti) ∧ ([a0, a1, a2, a3, a4, a5, a6].take k).Pairwise apart) (fun i _ => 7 - (intOf i).toNat)
  case atStart =>
    exact ⟨0, _, _, _, _, _, _, _, by omega, rfl, f0, f1, f2, hB3, by omega, ⟨⟨fun h => absurd h (by omega), fun _ => rfl⟩, ⟨fun h => absurd h (by omega), fun _ => rfl⟩, ⟨fun h => absurd h (by omega), fun _ => rfl⟩, ⟨fun h => absurd h (by omega), fun _ => rfl⟩, ⟨fun h => absurd h (by omega), fun _ => rfl⟩, ⟨fun h => absurd h (by omega), fun _ => rfl⟩, ⟨fun h => absurd h (by omega), fun _ => rfl⟩⟩, List.Pairwise.nil⟩
  case round =>
    obtain ⟨k, a0, a1, a2, a3, a4, a5, a6, hk, rfl, g0, g1, g2, hBw, hs, ⟨q0, q1, q2, q3, q4, q5, q6⟩, p2⟩ := hrel
    clear f0 f1 f2 hB3 s3
    have hBW := Lib.hid hBw
    have P2 := Lib.hid p2
    clear hBw p2
    have X0 := cells13 g0
    have Q0 := Lib.hid q0
    clear q0
    have Q1 := Lib.hid q1
    clear q1
    have Q2 := Lib.hid q2
    clear q2
    have Q3 := Lib.hid q3
    clear q3
    have Q4 := Lib.hid q4
    clear q4
    have Q5 := Lib.hid q5
    clear q5
    have Q6 := Lib.hid q6
    clear q6
    rcases (by omega : k = 0 ∨ k = 1 ∨ k = 2 ∨ k = 3 ∨ k = 4 ∨ k = 5 ∨ k = 6 ∨ k = 7) with rfl | rfl | rfl | rfl | rfl | rfl | rfl | rfl
    · obtain rfl := Q0.out.old (Nat.le_refl _)
      obtain ⟨x0, x1, x2, x3, x4, x5, x6, x7, x8, x9, x10, x11, x12, xf⟩ := X0
      have pk : wr.cell? ⟨w.heap.size + 1 + 1, 0, none⟩ = some (.pointer (some ⟨w.heap.size, 0, none⟩)) := by simp [World.cell?, g2]
      go_wp2_with (go_at_call 108; refine (clone_i g.gl _ (R0.out.below hBW.out) HB.out.1).mono ?_; rintro e w1 ⟨A', c', rfl, ho, hb1⟩; have g0' := (hb1.block _ (by omega)).trans g0; have g1' := (hb1.block _ (by omega)).trans g1; have g2' := (hb1.block _ (by omega)).trans g2; have xk := (cells13 g0').1; have xf' := (cells13 g0').2.2.2.2.2.2.2.2.2.2.2.2.2)
      go_roundw
      case rel => exact ⟨1, _, a1, a2, a3, a4, a5, a6, by omega, by rfl, (heapSet g0' 0 _).trans (by simp), (Below.heap_setCell _ _ _ _ (by simp)).trans g1', (Below.heap_setCell _ _ _ _ (by simp; omega)).trans g2', (hBW.out.trans (hb1.mono (by omega))).setCell (Nat.le_refl _) _, by simpa using Nat.le_trans hs hb1.size, ⟨At.new ho hs _ 0 _ (by omega), Q1.out.keep (by omega) _ 0 _ (by omega) hb1, Q2.out.keep (by omega) _ 0 _ (by omega) hb1, Q3.out.keep (by omega) _ 0 _ (by omega) hb1, Q4.out.keep (by omega) _ 0 _ (by omega) hb1, Q5.out.keep (by omega) _ 0 _ (by omega) hb1, Q6.out.keep (by omega) _ 0 _ (by omega) hb1⟩, pw_snoc (l := []) P2.out (fun a ha => absurd ha List.not_mem_nil)⟩
      case measure => simp [intOf]
    · obtain rfl := Q1.out.old (Nat.le_refl _)
      obtain ⟨x0, x1, x2, x3, x4, x5, x6, x7, x8, x9, x10, x11, x12, xf⟩ := X0
      have pk : wr.cell? ⟨w.heap.size + 1 + 1, 1, none⟩ = some (.pointer (some ⟨w.heap.size, 1, none⟩)) := by simp [World.cell?, g2]
      go_wp2_with (go_at_call 108; refine (clone_i g.pa _ (R1.out.below hBW.out) HB.out.2.1).mono ?_; rintro e w1 ⟨A', c', rfl, ho, hb1⟩; have g0' := (hb1.block _ (by omega)).trans g0; have g1' := (hb1.block _ (by omega)).trans g1; have g2' := (hb1.block _ (by omega)).trans g2; have xk := (cells13 g0').2.1; have xf' := (cells13 g0').2.2.2.2.2.2.2.2.2.2.2.2.2)
      go_roundw
      case rel => exact ⟨2, a0, _, a2, a3, a4, a5, a6, by omega, by rfl, (heapSet g0' 1 _).trans (by simp), (Below.heap_setCell _ _ _ _ (by simp)).trans g1', (Below.heap_setCell _ _ _ _ (by simp; omega)).trans g2', (hBW.out.trans (hb1.mono (by omega))).setCell (Nat.le_refl _) _, by simpa using Nat.le_trans hs hb1.size, ⟨Q0.out.keep (by omega) _ 1 _ (by omega) hb1, At.new ho hs _ 1 _ (by omega), Q2.out.keep (by omega) _ 1 _ (by omega) hb1, Q3.out.keep (by omega) _ 1 _ (by omega) hb1, Q4.out.keep (by omega) _ 1 _ (by omega) hb1, Q5.out.keep (by omega) _ 1 _ (by omega) hb1, Q6.out.keep (by omega) _ 1 _ (by omega) hb1⟩, pw_snoc (l := [a0]) P2.out (fun a ha => by simp only [List.mem_cons, List.not_mem_nil, or_false] at ha; rcases ha with rfl <;> first | exact apart_of (Q0.out.own (by omega)) ho)⟩
      case measure => simp [intOf]
    · obtain rfl := Q2.out.old (Nat.le_refl _)
      obtain ⟨x0, x1, x2, x3, x4, x5, x6, x7, x8, x9, x10, x11, x12, xf⟩ := X0
      have pk : wr.cell? ⟨w.heap.size + 1 + 1, 2, none⟩ = some (.pointer (some ⟨w.heap.size, 2, none⟩)) := by simp [World.cell?, g2]
      go_wp2_with (go_at_call 108; refine (clone_i g.ch _ (R2.out.below hBW.out) HB.out.2.2.1).mono ?_; rintro e w1 ⟨A', c', rfl, ho, hb1⟩; have g0' := (hb1.block _ (by omega)).trans g0; have g1' := (hb1.block _ (by omega)).trans g1; have g2' := (hb1.block _ (by omega)).trans g2; have xk := (cells13 g0').2.2.1; have xf' := (cells13 g0').2.2.2.2.2.2.2.2.2.2.2.2.2)
      go_roundw
      case rel => exact ⟨3, a0, a1, _, a3, a4, a5, a6, by omega, by rfl, (heapSet g0' 2 _).trans (by simp), (Below.heap_setCell _ _ _ _ (by simp)).trans g1', (Below.heap_setCell _ _ _ _ (by simp; omega)).trans g2', (hBW.out.trans (hb1.mono (by omega))).setCell (Nat.le_refl _) _, by simpa using Nat.le_trans hs hb1.size, ⟨Q0.out.keep (by omega) _ 2 _ (by omega) hb1, Q1.out.keep (by omega) _ 2 _ (by omega) hb1, At.new ho hs _ 2 _ (by omega), Q3.out.keep (by omega) _ 2 _ (by omega) hb1, Q4.out.keep (by omega) _ 2 _ (by omega) hb1, Q5.out.keep (by omega) _ 2 _ (by omega) hb1, Q6.out.keep (by omega) _ 2 _ (by omega) hb1⟩, pw_snoc (l := [a0, a1]) P2.out (fun a ha => by simp only [List.mem_cons, List.not_mem_nil, or_false] at ha; rcases ha with rfl | rfl <;> first | exact apart_of (Q0.out.own (by omega)) ho | exact apart_of (Q1.out.own (by omega)) ho)⟩
      case measure => simp [intOf]
    · obtain rfl := Q3.out.old (Nat.le_refl _)
      obtain ⟨x0, x1, x2, x3, x4, x5, x6, x7, x8, x9, x10, x11, x12, xf⟩ := X0
      have pk : wr.cell? ⟨w.heap.size + 1 + 1, 3, none⟩ = some (.pointer (some ⟨w.heap.size, 3, none⟩)) := by simp [World.cell?, g2]
      go_wp2_with (go_at_call 108; refine (clone_i g.ne _ (R3.out.below hBW.out) HB.out.2.2.2.1).mono ?_; rintro e w1 ⟨A', c', rfl, ho, hb1⟩; have g0' := (hb1.block _ (by omega)).trans g0; have g1' := (hb1.block _ (by omega)).trans g1; have g2' := (hb1.block _ (by omega)).trans g2; have xk := (cells13 g0').2.2.2.1; have xf' := (cells13 g0').2.2.2.2.2.2.2.2.2.2.2.2.2)
      go_roundw
      case rel => exact ⟨4, a0, a1, a2, _, a4, a5, a6, by omega, by rfl, (heapSet g0' 3 _).trans (by simp), (Below.heap_setCell _ _ _ _ (by simp)).trans g1', (Below.heap_setCell _ _ _ _ (by simp; omega)).trans g2', (hBW.out.trans (hb1.mono (by omega))).setCell (Nat.le_refl _) _, by simpa using Nat.le_trans hs hb1.size, ⟨Q0.out.keep (by omega) _ 3 _ (by omega) hb1, Q1.out.keep (by omega) _ 3 _ (by omega) hb1, Q2.out.keep (by omega) _ 3 _ (by omega) hb1, At.new ho hs _ 3 _ (by omega), Q4.out.keep (by omega) _ 3 _ (by omega) hb1, Q5.out.keep (by omega) _ 3 _ (by omega) hb1, Q6.out.keep (by omega) _ 3 _ (by omega) hb1⟩, pw_snoc (l := [a0, a1, a2]) P2.out (fun a ha => by simp only [List.mem_cons, List.not_mem_nil, or_false] at ha; rcases ha with rfl | rfl | rfl <;> first | exact apart_of (Q0.out.own (by omega)) ho | exact apart_of (Q1.out.own (by omega)) ho | exact apart_of (Q2.out.own (by omega)) ho)⟩
      case measure => simp [intOf]
    · obtain rfl := Q4.out.old (Nat.le_refl _)
      obtain ⟨x0, x1, x2, x3, x4, x5, x6, x7, x8, x9, x10, x11, x12, xf⟩ := X0
      have pk : wr.cell? ⟨w.heap.size + 1 + 1, 4, none⟩ = some (.pointer (some ⟨w.heap.size, 4, none⟩)) := by simp [World.cell?, g2]
      go_wp2_with (go_at_call 108; refine (clone_i g.fl _ (R4.out.below hBW.out) HB.out.2.2.2.2.1).mono ?_; rintro e w1 ⟨A', c', rfl, ho, hb1⟩; have g0' := (hb1.block _ (by omega)).trans g0; have g1' := (hb1.block _ (by omega)).trans g1; have g2' := (hb1.block _ (by omega)).trans g2; have xk := (cells13 g0').2.2.2.2.1; have xf' := (cells13 g0').2.2.2.2.2.2.2.2.2.2.2.2.2)
      go_roundw
      case rel => exact ⟨5, a0, a1, a2, a3, _, a5, a6, by omega, by rfl, (heapSet g0' 4 _).trans (by simp), (Below.heap_setCell _ _ _ _ (by simp)).trans g1', (Below.heap_setCell _ _ _ _ (by simp; omega)).trans g2', (hBW.out.trans (hb1.mono (by omega))).setCell (Nat.le_refl _) _, by simpa using Nat.le_trans hs hb1.size, ⟨Q0.out.keep (by omega) _ 4 _ (by omega) hb1, Q1.out.keep (by omega) _ 4 _ (by omega) hb1, Q2.out.keep (by omega) _ 4 _ (by omega) hb1, Q3.out.keep (by omega) _ 4 _ (by omega) hb1, At.new ho hs _ 4 _ (by omega), Q5.out.keep (by omega) _ 4 _ (by omega) hb1, Q6.out.keep (by omega) _ 4 _ (by omega) hb1⟩, pw_snoc (l := [a0, a1, a2, a3]) P2.out (fun a ha => by simp only [List.mem_cons, List.not_mem_nil, or_false] at ha; rcases ha with rfl | rfl | rfl | rfl <;> first | exact apart_of (Q0.out.own (by omega)) ho | exact apart_of (Q1.out.own (by omega)) ho | exact apart_of (Q2.out.own (by omega)) ho | exact apart_of (Q3.out.own (by omega)) ho)⟩
      case measure => simp [intOf]
    · obtain rfl := Q5.out.old (Nat.le_refl _)
      obtain ⟨x0, x1, x2, x3, x4, x5, x6, x7, x8, x9, x10, x11, x12, xf⟩ := X0
      have pk : wr.cell? ⟨w.heap.size + 1 + 1, 5, none⟩ = some (.pointer (some ⟨w.heap.size, 5, none⟩)) := by simp [World.cell?, g2]
      go_wp2_with (go_at_call 108; refine (clone_i g.pr _ (R5.out.below hBW.out) HB.out.2.2.2.2.2.1).mono ?_; rintro e w1 ⟨A', c', rfl, ho, hb1⟩; have g0' := (hb1.block _ (by omega)).trans g0; have g1' := (hb1.block _ (by omega)).trans g1; have g2' := (hb1.block _ (by omega)).trans g2; have xk := (cells13 g0').2.2.2.2.2.1; have xf' := (cells13 g0').2.2.2.2.2.2.2.2.2.2.2.2.2)
      go_roundw
      case rel => exact ⟨6, a0, a1, a2, a3, a4, _, a6, by omega, by rfl, (heapSet g0' 5 _).trans (by simp), (Below.heap_setCell _ _ _ _ (by simp)).trans g1', (Below.heap_setCell _ _ _ _ (by simp; omega)).trans g2', (hBW.out.trans (hb1.mono (by omega))).setCell (Nat.le_refl _) _, by simpa using Nat.le_trans hs hb1.size, ⟨Q0.out.keep (by omega) _ 5 _ (by omega) hb1, Q1.out.keep (by omega) _ 5 _ (by omega) hb1, Q2.out.keep (by omega) _ 5 _ (by omega) hb1, Q3.out.keep (by omega) _ 5 _ (by omega) hb1, Q4.out.keep (by omega) _ 5 _ (by omega) hb1, At.new ho hs _ 5 _ (by omega), Q6.out.keep (by omega) _ 5 _ (by omega) hb1⟩, pw_snoc (l := [a0, a1, a2, a3, a4]) P2.out (fun a ha => by simp only [List.mem_cons, List.not_mem_nil, or_false] at ha; rcases ha with rfl | rfl | rfl | rfl | rfl <;> first | exact apart_of (Q0.out.own (by omega)) ho | exact apart_of (Q1.out.own (by omega)) ho | exact apart_of (Q2.out.own (by omega)) ho | exact apart_of (Q3.out.own (by omega)) ho | exact apart_of (Q4.out.own (by omega)) ho)⟩
      case measure => simp [intOf]
    · obtain rfl := Q6.out.old (Nat.le_refl _)
      obtain ⟨x0, x1, x2, x3, x4, x5, x6, x7, x8, x9, x10, x11, x12, xf⟩ := X0
      have pk : wr.cell? ⟨w.heap.size + 1 + 1, 6, none⟩ = some (.pointer (some ⟨w.heap.size, 6, none⟩)) := by simp [World.cell?, g2]
      go_wp2_with (go_at_call 108; refine (clone_i g.ti _ (R6.out.below hBW.out) HB.out.2.2.2.2.2.2).mono ?_; rintro e w1 ⟨A', c', rfl, ho, hb1⟩; have g0' := (hb1.block _ (by omega)).trans g0; have g1' := (hb1.block _ (by omega)).trans g1; have g2' := (hb1.block _ (by omega)).trans g2; have xk := (cells13 g0').2.2.2.2.2.2.1; have xf' := (cells13 g0').2.2.2.2.2.2.2.2.2.2.2.2.2)
      go_roundw
      case rel => exact ⟨7, a0, a1, a2, a3, a4, a5, _, by omega, by rfl, (heapSet g0' 6 _).trans (by simp), (Below.heap_setCell _ _ _ _ (by simp)).trans g1', (Below.heap_setCell _ _ _ _ (by simp; omega)).trans g2', (hBW.out.trans (hb1.mono (by omega))).setCell (Nat.le_refl _) _, by simpa using Nat.le_trans hs hb1.size, ⟨Q0.out.keep (by omega) _ 6 _ (by omega) hb1, Q1.out.keep (by omega) _ 6 _ (by omega) hb1, Q2.out.keep (by omega) _ 6 _ (by omega) hb1, Q3.out.keep (by omega) _ 6 _ (by omega) hb1, Q4.out.keep (by omega) _ 6 _ (by omega) hb1, Q5.out.keep (by omega) _ 6 _ (by omega) hb1, At.new ho hs _ 6 _ (by omega)⟩, pw_snoc (l := [a0, a1, a2, a3, a4, a5]) P2.out (fun a ha => by simp only [List.mem_cons, List.not_mem_nil, or_false] at ha; rcases ha with rfl | rfl | rfl | rfl | rfl | rfl <;> first | exact apart_of (Q0.out.own (by omega)) ho | exact apart_of (Q1.out.own (by omega)) ho | exact apart_of (Q2.out.own (by omega)) ho | exact apart_of (Q3.out.own (by omega)) ho | exact apart_of (Q4.out.own (by omega)) ho | exact apart_of (Q5.out.own (by omega)) ho)⟩
      case measure => simp [intOf]
    ·
      obtain ⟨hq0, B0, m0, d0, rfl⟩ := Q0.out.1 (by omega)
      obtain ⟨hq1, B1, m1, d1, rfl⟩ := Q1.out.1 (by omega)
      obtain ⟨hq2, B2, m2, d2, rfl⟩ := Q2.out.1 (by omega)
      obtain ⟨hq3, B3, m3, d3, rfl⟩ := Q3.out.1 (by omega)
      obtain ⟨hq4, B4, m4, d4, rfl⟩ := Q4.out.1 (by omega)
      obtain ⟨hq5, B5, m5, d5, rfl⟩ := Q5.out.1 (by omega)
      obtain ⟨hq6, B6, m6, d6, rfl⟩ := Q6.out.1 (by omega)
      obtain ⟨x0, x1, x2, x3, x4, x5, x6, x7, x8, x9, x10, x11, x12, xf⟩ := X0
      obtain ⟨y0, y1, y2, y3, y4, y5, y6, y7, y8, y9, y10, y11, y12, yf⟩ := cells13 g1
      go_wp2_with fail
      (try simp only [Exit.inBlock, Exit.then])
      refine ret_c (set13 g1) rfl rfl Try.underlying31 rfl rfl ?_
      obtain ⟨z1, z2⟩ := close hq0 hq1 hq2 hq3 hq4 hq5 hq6 P2.out (show w.heap.size ≤ w.heap.size + 1 by omega) (by omega) hBW.out
      exact ⟨_, rfl, z1, z2⟩
end Go.Proofs.Ytncdicagadbafaa.CopW
