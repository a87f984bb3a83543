/- nothing, ways, ends, room and Line of clewref19: some truth value, without a panic. Conditions: the tables read; for ends: each parent is a thing, or 0. -/
import Derived.Test.YtncdicagadbafaaTabS
import Derived.IntWalk
import Derived.Test.YtncdicagadbafaaCore
namespace Go.Proofs.Ytncdicagadbafaa.TabX
open Go Go.RowKit NestP NestW NestX NestY ValR Sq WorldD TabD TabW TabS MvR

/-- The first box of a call: what it holds; below, all lies as it lay. -/
structure Bx (w : World) (cs : Array Value) (T : TypeId) (wr : World) : Prop where
  box : wr.heap[w.heap.size]? = some (.cells cs T (0, 0))
  below : Below w.heap.size w wr
  lt : w.heap.size < wr.heap.size
theorem Bx.new (w : World) (cs : Array Value) (T : TypeId) : Bx w cs T (w.alloc (.cells cs T)) := ⟨World.alloc_heap_new w _, (Below.refl _ _).alloc (Nat.le_refl _) _, by simp⟩
theorem Bx.on {w : World} {cs : Array Value} {T : TypeId} {wr w' : World} (h : Bx w cs T wr) (hb : Below wr.heap.size wr w') : Bx w cs T w' :=
  ⟨(hb.block _ h.lt).trans h.box, h.below.trans (hb.mono h.below.size), Nat.lt_of_lt_of_le h.lt hb.size⟩
theorem Bx.drewN {w : World} {cs : Array Value} {T : TypeId} {wr : World} (h : Bx w cs T wr) (q : Nat) : Bx w cs T (wr.drewN q) := h.on (belowN (Below.refl _ _) q)
theorem Bx.drew {w : World} {cs : Array Value} {T : TypeId} {wr : World} (h : Bx w cs T wr) : Bx w cs T wr.drew := h.on (Below.drew (Below.refl _ _))

/-- Where a slice that is not empty lies, and all its cells. -/
theorem sk_all {α : Type} {enc : α → List Value} {k : Nat} (hk : ∀ x, (enc x).length = k) {w : World} {A : Option Addr} {n : Nat} {l : List α} (h : Sk.Rd enc w A n l) (hn : 0 < n) :
    ∃ b o, A = some ⟨b, o, none⟩ ∧ b < w.heap.size ∧ Hid (∀ i (hl : i < l.length) j u, (enc l[i])[j]? = some u → w.cell? ⟨b, o + i * k + j, none⟩ = some u) := by
  obtain ⟨b, o, e, hlt, _⟩ := h.2 hn
  refine ⟨b, o, e, hlt, Lib.hid fun i hl j u hu => ?_⟩
  obtain ⟨b', o', e', _, _, hc⟩ := h.at_ hk (show i < n by rw [h.1]; exact hl)
  rw [e] at e'
  injection e' with e'
  injection e' with e1 e2
  subst e1 e2
  exact hc j u hu
theorem sq_all {α : Type} {enc : α → Value} {w : World} {A : Option Addr} {n : Nat} {l : List α} (h : Sq.Rd enc w A n l) (hn : 0 < n) :
    ∃ b o, A = some ⟨b, o, none⟩ ∧ b < w.heap.size ∧ Hid (∀ i (hl : i < l.length), w.cell? ⟨b, o + i, none⟩ = some (enc l[i])) := by
  obtain ⟨b, o, e, hlt, hc⟩ := h.some_ hn
  exact ⟨b, o, e, hlt, Lib.hid hc⟩

set_option maxRecDepth 100000 in
set_option maxHeartbeats 4000000 in
theorem ends_o (t : TbV) (x : Nat) (hx : x < t.th.n) (hpar : ∀ e ∈ t.th.l, 0 ≤ e.pa ∧ e.pa < t.th.n) (w : World) (hr : TbR w t) :
    Calls Try.prog 149 #[.agg #[.int .i64 t.ti, .int .i64 t.au, .int .i64 t.rl, .int .i64 t.mx, .slice t.tx.a t.tx.n t.tx.c, .int .i64 t.fl, .slice t.pr.a t.pr.n t.pr.c, .slice t.gl.a t.gl.n t.gl.c, .slice t.th.a t.th.n t.th.c, .slice t.ac.a t.ac.n t.ac.c, .slice t.de.a t.de.n t.de.c, .slice t.fu.a t.fu.n t.fu.c, .slice t.da.a t.da.n t.da.c, .slice t.pm.a t.pm.n t.pm.c, .slice t.lo.a t.lo.n t.lo.c], .int .i64 (x : Int)] w (SomeG w) := by
  have bth : t.th.n ≤ 9223372036854775807 := by have h1 := hr.2.2.2.1.1; have h2 := hr.2.2.2.1.2.1; unfold maxLen at h2; omega
  have HR := Lib.hid hr.2.2.2.1.2.2.1
  have HP := Lib.hid hpar
  obtain ⟨b, o, hA, hb, HC⟩ := sk_all ThE_len HR.out (by omega)
  have HL := Lib.hid HR.out.1
  rw [hA]
  clear hr hpar hA
  go_enter Try.func149, Try.ntmps149
  have HX := Lib.hid (Bx.new w #[.int .i64 t.ti, .int .i64 t.au, .int .i64 t.rl, .int .i64 t.mx, .slice t.tx.a t.tx.n t.tx.c, .int .i64 t.fl, .slice t.pr.a t.pr.n t.pr.c, .slice t.gl.a t.gl.n t.gl.c, .slice (some ⟨b, o, none⟩) t.th.n t.th.c, .slice t.ac.a t.ac.n t.ac.c, .slice t.de.a t.de.n t.de.c, .slice t.fu.a t.fu.n t.fu.c, .slice t.da.a t.da.n t.da.c, .slice t.pm.a t.pm.n t.pm.c, .slice t.lo.a t.lo.n t.lo.c] 28)
  obtain ⟨W1, hW1⟩ : ∃ W1, w.alloc (.cells #[.int .i64 t.ti, .int .i64 t.au, .int .i64 t.rl, .int .i64 t.mx, .slice t.tx.a t.tx.n t.tx.c, .int .i64 t.fl, .slice t.pr.a t.pr.n t.pr.c, .slice t.gl.a t.gl.n t.gl.c, .slice (some ⟨b, o, none⟩) t.th.n t.th.c, .slice t.ac.a t.ac.n t.ac.c, .slice t.de.a t.de.n t.de.c, .slice t.fu.a t.fu.n t.fu.c, .slice t.da.a t.da.n t.da.c, .slice t.pm.a t.pm.n t.pm.c, .slice t.lo.a t.lo.n t.lo.c] 28) = W1 := ⟨_, rfl⟩
  rw [hW1] at HX
  obtain ⟨x0, x1, x2, x3, x4, x5, x6, x7, x8, x9, x10, x11, x12, x13, x14, xf⟩ := cells15 HX.out.box
  go_wp2_with fail
  go_loop [1, 5] (fun xv i => ∃ k y : Nat, k ≤ t.th.n ∧ y < t.th.n ∧ i = .int .i64 (k : Int) ∧ xv = .int .i64 (y : Int)) (fun _ i => t.th.n - (intOf i).toNat)
  case atStart => exact ⟨0, x, Nat.zero_le _, hx, rfl, rfl⟩
  case round =>
    obtain ⟨k, y, hk, hy, rfl, rfl⟩ := hrel
    by_cases hlt : k < t.th.n
    · by_cases hy0 : y = 0
      · subst hy0
        go_wp2_with fail
        go_ret
        exact ⟨_, rfl, HX.out.below⟩
      · have t0 : ((y : Int) == 0) = false := beq_eq_false_iff_ne.2 (by omega)
        have k0 : (0 : Int) ≤ (k : Int) := by omega
        have k1 : (k : Int) < (t.th.n : Int) := by omega
        have y0 : (0 : Int) ≤ (y : Int) := by omega
        have y1 : (y : Int) < (t.th.n : Int) := by omega
        have hl : y < t.th.l.length := by rw [← HL.out]; exact hy
        have hc2 := (HX.out.below.cell (p := ⟨b, o + y * 9 + 2, none⟩) hb).trans (HC.out y hl 2 _ rfl)
        obtain ⟨hp1, hp2⟩ := HP.out _ (List.getElem_mem hl)
        obtain ⟨p, hp⟩ := Int.eq_ofNat_of_zero_le hp1
        rw [hp] at hc2 hp2
        clear hp hp1 hl hy0
        go_wp2_with fail
        go_round
        case rel => exact ⟨k + 1, p, by omega, by omega, by go_num, rfl⟩
        case measure => simp [intOf]; omega
    · have d0 : decide (k < t.th.n) = false := decide_eq_false hlt
      go_wp2_with fail
      go_ret
      exact ⟨_, rfl, HX.out.below⟩
set_option maxRecDepth 100000 in
set_option maxHeartbeats 4000000 in
theorem room_o (t : TbV) (x : Int) (hn : 0 < t.th.n) (w : World) (hr : TbR w t) :
    Calls Try.prog 150 #[.agg #[.int .i64 t.ti, .int .i64 t.au, .int .i64 t.rl, .int .i64 t.mx, .slice t.tx.a t.tx.n t.tx.c, .int .i64 t.fl, .slice t.pr.a t.pr.n t.pr.c, .slice t.gl.a t.gl.n t.gl.c, .slice t.th.a t.th.n t.th.c, .slice t.ac.a t.ac.n t.ac.c, .slice t.de.a t.de.n t.de.c, .slice t.fu.a t.fu.n t.fu.c, .slice t.da.a t.da.n t.da.c, .slice t.pm.a t.pm.n t.pm.c, .slice t.lo.a t.lo.n t.lo.c], .int .i64 x] w (SomeG w) := by
  have bth : t.th.n ≤ 9223372036854775807 := by have h1 := hr.2.2.2.1.1; have h2 := hr.2.2.2.1.2.1; unfold maxLen at h2; omega
  have hr0 := Lib.hid hr
  have HR := Lib.hid hr.2.2.2.1.2.2.1
  have HA0 := Lib.hid hr.2.2.2.1.2.2.2
  obtain ⟨b, o, hA, hb0, HC⟩ := sk_all ThE_len HR.out hn
  have HL := Lib.hid HR.out.1
  have HAe := Lib.hid hA
  rw [hA]
  clear hr hA
  go_enter Try.func150, Try.ntmps150
  have HX := Lib.hid (Bx.new w #[.int .i64 t.ti, .int .i64 t.au, .int .i64 t.rl, .int .i64 t.mx, .slice t.tx.a t.tx.n t.tx.c, .int .i64 t.fl, .slice t.pr.a t.pr.n t.pr.c, .slice t.gl.a t.gl.n t.gl.c, .slice (some ⟨b, o, none⟩) t.th.n t.th.c, .slice t.ac.a t.ac.n t.ac.c, .slice t.de.a t.de.n t.de.c, .slice t.fu.a t.fu.n t.fu.c, .slice t.da.a t.da.n t.da.c, .slice t.pm.a t.pm.n t.pm.c, .slice t.lo.a t.lo.n t.lo.c] 28)
  obtain ⟨W1, hW1⟩ : ∃ W1, w.alloc (.cells #[.int .i64 t.ti, .int .i64 t.au, .int .i64 t.rl, .int .i64 t.mx, .slice t.tx.a t.tx.n t.tx.c, .int .i64 t.fl, .slice t.pr.a t.pr.n t.pr.c, .slice t.gl.a t.gl.n t.gl.c, .slice (some ⟨b, o, none⟩) t.th.n t.th.c, .slice t.ac.a t.ac.n t.ac.c, .slice t.de.a t.de.n t.de.c, .slice t.fu.a t.fu.n t.fu.c, .slice t.da.a t.da.n t.da.c, .slice t.pm.a t.pm.n t.pm.c, .slice t.lo.a t.lo.n t.lo.c] 28) = W1 := ⟨_, rfl⟩
  rw [hW1] at HX
  obtain ⟨x0, x1, x2, x3, x4, x5, x6, x7, x8, x9, x10, x11, x12, x13, x14, xf⟩ := cells15 HX.out.box
  go_wp2_with fail
  go_loopw [1, 5] (fun xv i wr => ∃ (k : Nat) (y : Int), k ≤ t.th.n ∧ i = .int .i64 (k : Int) ∧ xv = .int .i64 y ∧ Bx w #[.int .i64 t.ti, .int .i64 t.au, .int .i64 t.rl, .int .i64 t.mx, .slice t.tx.a t.tx.n t.tx.c, .int .i64 t.fl, .slice t.pr.a t.pr.n t.pr.c, .slice t.gl.a t.gl.n t.gl.c, .slice (some ⟨b, o, none⟩) t.th.n t.th.c, .slice t.ac.a t.ac.n t.ac.c, .slice t.de.a t.de.n t.de.c, .slice t.fu.a t.fu.n t.fu.c, .slice t.da.a t.da.n t.da.c, .slice t.pm.a t.pm.n t.pm.c, .slice t.lo.a t.lo.n t.lo.c] 28 wr) (fun _ i _ => t.th.n - (intOf i).toNat)
  case atStart => exact ⟨0, x, Nat.zero_le _, rfl, rfl, HX.out⟩
  case round =>
    clear x0 x1 x2 x3 x4 x5 x6 x7 x8 x9 x10 x11 x12 x13 x14 xf HX
    obtain ⟨k, y, hk, rfl, rfl, hX⟩ := hrel
    have HX := Lib.hid hX
    clear hX
    obtain ⟨x0, x1, x2, x3, x4, x5, x6, x7, x8, x9, x10, x11, x12, x13, x14, xf⟩ := cells15 HX.out.box
    by_cases hlt : k < t.th.n
    · have k0 : (0 : Int) ≤ (k : Int) := by omega
      have k1 : (k : Int) < (t.th.n : Int) := by omega
      have t1 : decide (k < t.th.n) = true := decide_eq_true hlt
      obtain ⟨q, hq⟩ : ∃ q, thingB t y = q := ⟨_, rfl⟩
      have HQ := Lib.hid hq
      have CT := Lib.hid (fun W hW => by have h := thing_i t y W hW; rw [HAe.out] at h; exact h)
      cases q with
      | false =>
        clear hq
        go_wp2_with (go_at_call 147; refine (CT.out _ (TbR.below hr0.out HX.out.below)).mono ?_; rintro e w1 ⟨rfl, hb⟩; rw [HQ.out]; have HX2 := Lib.hid (HX.out.on hb); clear HX hb; have HX := HX2; clear HX2; clear x0 x1 x2 x3 x4 x5 x6 x7 x8 x9 x10 x11 x12 x13 x14 xf; obtain ⟨x0, x1, x2, x3, x4, x5, x6, x7, x8, x9, x10, x11, x12, x13, x14, xf⟩ := cells15 HX.out.box)
        go_ret
        exact ⟨_, rfl, HX.out.below⟩
      | true =>
        have hy := fromB_iff.1 hq
        obtain ⟨m, rfl⟩ := Int.eq_ofNat_of_zero_le (show 0 ≤ y by omega)
        have m0 : (0 : Int) ≤ (m : Int) := by omega
        have m1 : (m : Int) < (t.th.n : Int) := by omega
        have hl : m < t.th.l.length := by rw [← HL.out]; omega
        have hc4 := HC.out m hl 4 _ rfl
        have hc2 := HC.out m hl 2 _ rfl
        obtain ⟨rm, hrm⟩ : ∃ rm, t.th.l[m].room = rm := ⟨_, rfl⟩
        obtain ⟨pa, hpa⟩ : ∃ pa, t.th.l[m].pa = pa := ⟨_, rfl⟩
        rw [hrm] at hc4
        rw [hpa] at hc2
        have HC4 := Lib.hid hc4
        have HC2 := Lib.hid hc2
        clear hq hy hl hrm hpa hc4 hc2
        cases rm
        all_goals
          go_wp2_with (go_at_call 147; refine (CT.out _ (TbR.below hr0.out HX.out.below)).mono ?_; rintro e w1 ⟨rfl, hb⟩; rw [HQ.out]; have HX2 := Lib.hid (HX.out.on hb); clear HX hb; have HX := HX2; clear HX2; clear x0 x1 x2 x3 x4 x5 x6 x7 x8 x9 x10 x11 x12 x13 x14 xf; obtain ⟨x0, x1, x2, x3, x4, x5, x6, x7, x8, x9, x10, x11, x12, x13, x14, xf⟩ := cells15 HX.out.box; have hc4 := (HX.out.below.cell (p := ⟨b, o + m * 9 + 4, none⟩) hb0).trans HC4.out; have hc2 := (HX.out.below.cell (p := ⟨b, o + m * 9 + 2, none⟩) hb0).trans HC2.out)
          first
            | (go_roundw
               case rel => exact ⟨k + 1, pa, by omega, by go_num, rfl, HX.out⟩
               case measure => simp [intOf]; omega)
            | (go_ret
               exact ⟨_, rfl, HX.out.below⟩)
    · have d0 : decide (k < t.th.n) = false := decide_eq_false hlt
      go_wp2_with fail
      go_ret
      exact ⟨_, rfl, HX.out.below⟩
end Go.Proofs.Ytncdicagadbafaa.TabX
