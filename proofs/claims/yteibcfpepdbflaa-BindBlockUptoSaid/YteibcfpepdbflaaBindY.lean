/- clewref17.Expr: an expression bound in the reference's way. Conditions: lengths and sizes within the reach. -/
import Derived.Test.YteibcfpepdbflaaBindX
namespace Go.Proofs.Yteibcfpepdbflaa.BindY
open Go Go.RowKit BindP BindD BindO BindW BindN BindG BindX
open Byt (str)

structure Lq (w : World) (rb ob B : Nat) (ecs : Array Value) (o0 o1 o2 o3 v : Value) (l : List Ex) (wr : World) : Prop where
  e : wr.heap[w.heap.size]? = some (.cells ecs 49 (0, 0))
  r : wr.heap[rb]? = some (.cells #[.int .i64 0, .int .i64 0, .int .i64 0, .string ⟨#[]⟩, .slice none 0 0] 49 (0, 0))
  a : wr.heap[ob]? = some (.cells #[o0, o1, o2, o3, v] 49 (0, 0))
  own : Ow exE RdX 5 49 (fun b => B ≤ b) wr B v l
  low : Below w.heap.size w wr
  sz : B ≤ wr.heap.size
  lt : w.heap.size < rb ∧ rb < ob ∧ ob < B
section
variable {w : World} {rb ob B : Nat} {ecs : Array Value} {o0 o1 o2 o3 v : Value} {l : List Ex} {wr : World}
theorem Lq.next (h : Lq w rb ob B ecs o0 o1 o2 o3 v l wr) {w7 : World} (hb : Below B wr w7) {v7 : Value} {l2 : List Ex} (ho : Ow exE RdX 5 49 (fun b => B ≤ b) w7 B v7 l2) : Lq w rb ob B ecs o0 o1 o2 o3 v7 l2 (w7.setCell ⟨ob, 4, none⟩ v7) := by
  obtain ⟨l1, l2', l3⟩ := h.lt
  have h1 := h.sz
  have h2 := hb.size
  refine ⟨?_, ?_, ?_, ho.keep stays_x (keep_set 4 _ (by omega)), ?_, ?_, h.lt⟩
  · rw [Below.heap_setCell _ _ _ _ (by simp; omega), hb.block _ (by omega)]; exact h.e
  · rw [Below.heap_setCell _ _ _ _ (by simp; omega), hb.block _ (by omega)]; exact h.r
  · have := (hb.block ob l3).trans h.a
    simp [World.setCell, Array.getElem?_modify, this]
  · exact (h.low.trans (hb.mono (by omega))).setCell (p := ⟨ob, 4, none⟩) (by simp; omega) _
  · simp [World.setCell]; omega
theorem Lq.below (h : Lq w rb ob B ecs o0 o1 o2 o3 v l wr) {w7 : World} (hb : Below wr.heap.size wr w7) : Lq w rb ob B ecs o0 o1 o2 o3 v l w7 := by
  obtain ⟨l1, l2, l3⟩ := h.lt
  have := h.sz
  exact ⟨(hb.block _ (by omega)).trans h.e, (hb.block _ (by omega)).trans h.r, (hb.block _ (by omega)).trans h.a, h.own.below stays_x hb, h.low.trans (hb.mono h.low.size), Nat.le_trans h.sz hb.size, h.lt⟩
theorem Lq.set0 (h : Lq w rb ob B ecs o0 o1 o2 o3 v l wr) (y : Value) : Lq w rb ob B ecs y o1 o2 o3 v l (wr.setCell ⟨ob, 0, none⟩ y) := by
  obtain ⟨l1, l2, l3⟩ := h.lt
  have hs := h.sz
  refine ⟨?_, ?_, ?_, h.own.keep stays_x (keep_set 0 _ (by omega)), ?_, ?_, h.lt⟩
  · rw [Below.heap_setCell _ _ _ _ (by simp; omega)]; exact h.e
  · rw [Below.heap_setCell _ _ _ _ (by simp; omega)]; exact h.r
  · simp [World.setCell, Array.getElem?_modify, h.a]
  · exact h.low.setCell (p := ⟨ob, 0, none⟩) (by simp; omega) _
  · simp [World.setCell]; omega
theorem Lq.set2 (h : Lq w rb ob B ecs o0 o1 o2 o3 v l wr) (y : Value) : Lq w rb ob B ecs o0 o1 y o3 v l (wr.setCell ⟨ob, 2, none⟩ y) := by
  obtain ⟨l1, l2, l3⟩ := h.lt
  have hs := h.sz
  refine ⟨?_, ?_, ?_, h.own.keep stays_x (keep_set 2 _ (by omega)), ?_, ?_, h.lt⟩
  · rw [Below.heap_setCell _ _ _ _ (by simp; omega)]; exact h.e
  · rw [Below.heap_setCell _ _ _ _ (by simp; omega)]; exact h.r
  · simp [World.setCell, Array.getElem?_modify, h.a]
  · exact h.low.setCell (p := ⟨ob, 2, none⟩) (by simp; omega) _
  · simp [World.setCell]; omega
theorem Lq.fin {A : Option Addr} {n c : Nat} (h : Lq w rb ob B ecs o0 o1 o2 o3 (.slice A n c) l wr) (k o q : Int) (s : S) :
    (putRow wr rb 0 [o0, o1, o2, o3, .slice A n c]).heap[rb]? = some (.cells #[o0, o1, o2, o3, .slice A n c] 49 (0, 0)) ∧ RdX (fun b => w.heap.size ≤ b) (putRow wr rb 0 [o0, o1, o2, o3, .slice A n c]) (.mk k o q s A c l) ∧ Below w.heap.size w (putRow wr rb 0 [o0, o1, o2, o3, .slice A n c]) ∧ n = l.length := by
  obtain ⟨l1, l2, l3⟩ := h.lt
  obtain ⟨A', c', e, hg⟩ := h.own.list stays_x
  injection e with e1 e2 e3
  subst e1 e2 e3
  have hk : Keep (fun b => B ≤ b) (fun b => w.heap.size ≤ b) wr (putRow wr rb 0 [o0, o1, o2, o3, .slice A l.length c]) := (keep_row (K := fun b => B ≤ b) 0 _ (by omega)).trans (Keep.weak fun b hb _ => by omega)
  have hg2 := hg.keep stays_x hk
  exact ⟨put5 _ _ _ _ _ h.r, .mk hg2.1 hg2.2, putRow_below _ _ _ h.low (by omega), rfl⟩
end
theorem other_c {w : World} {g ab o : Nat} {v : Value} (h : g ≠ ab) (p : Nat) : (w.setCell ⟨ab, o, none⟩ v).cell? ⟨g, p, none⟩ = w.cell? ⟨g, p, none⟩ := by
  have e : (w.setCell ⟨ab, o, none⟩ v).heap[g]? = w.heap[g]? := by simp [World.setCell, Array.getElem?_modify, Ne.symm h]
  unfold World.cell?
  rw [e]
set_option maxRecDepth 100000 in
set_option maxHeartbeats 8000000 in
theorem expr_r (t : List Nm) (tx lo : List S) (A1 A2 A3 : Option Addr) (n1 c1 n2 c2 n3 c3 : Nat) : ∀ (e : Ex) (w : World) (_ : Env w A1 n1 t A2 n2 tx A3 n3 lo) (_ : RdX top w e) (_ : nE e.p ≤ 1048576),
    Calls Try.prog 17 #[.slice A1 n1 c1, .slice A2 n2 c2, .slice A3 n3 c3, .agg (exE e).toArray] w (ExV (bindE (exR t tx lo) e.p) w) := by
  intro e
  induction e using Ex.ind with
  | _ k o n s A c ar ih =>
    intro w henv hx hsz
    have HIH := Lib.hid ih
    have HEN := Lib.hid henv
    have HA := Lib.hid hx.open_
    have hsz2 : nEs (exPs ar) + 1 ≤ 1048576 := by unfold Ex.p nE at hsz; omega
    have HSZ := Lib.hid (show ∀ x ∈ ar, nE x.p ≤ 1048576 from fun x hx => by
      have h1 := sum_mem (m := fun x : Ex => nE x.p) ar x hx
      rw [← nEs_sum] at h1
      omega)
    have hlen : ar.length ≤ 1048576 := by
      have h1 := sum_len (m := fun x : Ex => nE x.p) (fun x => nE_pos x.p) ar
      rw [← nEs_sum] at h1
      omega
    clear henv hx hsz
    show Calls Try.prog 17 #[.slice A1 n1 c1, .slice A2 n2 c2, .slice A3 n3 c3, .agg #[.int .i64 k, .int .i64 o, .int .i64 n, .string (str s), .slice A ar.length c]] w _
    go_enter Try.func17, Try.ntmps17
    obtain ⟨m, hm⟩ : ∃ m, ar.length = m := ⟨_, rfl⟩
    rw [hm] at hlen ⊢
    have HM := Lib.hid hm
    clear hm
    obtain ⟨w1, hw1⟩ : ∃ W, w.alloc (.cells #[.int .i64 k, .int .i64 o, .int .i64 n, .string (str s), .slice A m c] 49) = W := ⟨_, rfl⟩
    obtain ⟨w2, hw2⟩ : ∃ W, w1.alloc (.cells #[.int .i64 0, .int .i64 0, .int .i64 0, .string ⟨#[]⟩, .slice none 0 0] 49) = W := ⟨_, rfl⟩
    obtain ⟨m1, s1, b1⟩ := made hw1
    obtain ⟨m2, s2, b2⟩ := made hw2
    obtain ⟨x0, x1, x2, x3, x4, xf⟩ := cells5 ((b2.block _ (by omega)).trans m1)
    have HM1 := Lib.hid m1
    have HM2 := Lib.hid m2
    have HS1 := Lib.hid s1
    have HS2 := Lib.hid s2
    have HB1 := Lib.hid b1
    have HB2 := Lib.hid b2
    clear m1 m2 s1 s2 b1 b2
    go_wp2_with fail
    obtain ⟨w3, hw3⟩ : ∃ W, w2.alloc (.cells #[.int .i64 k, .int .i64 o, .int .i64 n, .string ⟨#[]⟩, .slice none 0 0] 49) = W := ⟨_, rfl⟩
    rw [hw3]
    obtain ⟨m3, s3, b3⟩ := made hw3
    have m1 := HM1.out
    have m2 := HM2.out
    have s1 := HS1.out
    have s2 := HS2.out
    have b1 := HB1.out
    have b2 := HB2.out
    have B3 : Below w.heap.size w w3 := (b1.trans (b2.mono (by omega))).trans (b3.mono (by omega))
    have HL0 := Lib.hid (show Lq w w1.heap.size w2.heap.size w3.heap.size #[.int .i64 k, .int .i64 o, .int .i64 n, .string (str s), .slice A m c] (.int .i64 k) (.int .i64 o) (.int .i64 n) (.string ⟨#[]⟩) (.slice none 0 0) [] w3 from
      ⟨(b3.block _ (by omega)).trans ((b2.block _ (by omega)).trans m1), (b3.block _ (by omega)).trans m2, m3, Ow.nil _ _, B3, Nat.le_refl _, by omega⟩)
    clear m1 m2 m3 s1 s2 s3 b1 b2 b3 B3 HM1 HM2 HS1 HS2 HB1 HB2
    clear hw1 hw2 hw3 x0 x1 x2 x3 x4 xf
    generalize w1.heap.size = rb at HL0
    generalize w2.heap.size = ob at HL0
    generalize w3.heap.size = B at HL0
    go_loopw [10] (fun iv wr => ∃ (j : Nat) (v : Value) (l : List Ex), j ≤ m ∧ iv = .int .i64 (j : Int) ∧ l.length = j ∧ Hid (l.map Ex.p = (ar.take j).map fun x => bindE (exR t tx lo) x.p) ∧ Lq w rb ob B #[.int .i64 k, .int .i64 o, .int .i64 n, .string (str s), .slice A m c] (.int .i64 k) (.int .i64 o) (.int .i64 n) (.string ⟨#[]⟩) v l wr) (fun iv _ => m - (intOf iv).toNat)
    case atStart => exact ⟨0, _, [], Nat.zero_le _, rfl, rfl, Lib.hid rfl, HL0.out⟩
    case round =>
      obtain ⟨j, v, l, hj, rfl, hlj, HP, hlp⟩ := hrel
      have HLP := Lib.hid hlp
      clear hlp
      obtain rfl : l.length = j := hlj
      obtain ⟨Av, cv, rfl, _, _⟩ := HLP.out.own.own.shape
      obtain ⟨u0, u1, u2, u3, u4, uf⟩ := cells5 HLP.out.e
      by_cases hlt : l.length < m
      · have hlt2 : l.length < ar.length := by rw [HM.out]; exact hlt
        obtain ⟨b, o2, rfl, hbb, hc⟩ := Lg.at_ exE_len (Lg.below stays_x HLP.out.low (show Lx top w A c ar from HA.out)) hlt2
        obtain ⟨⟨k2, p2, q2, s2, A4, c4, ar2⟩, hy⟩ : ∃ y, ar[l.length] = y := ⟨_, rfl⟩
        have hmem : ar[l.length] ∈ ar := List.getElem_mem hlt2
        have HNX := Lib.hid (show (ar.take (l.length + 1)).map (fun x => bindE (exR t tx lo) x.p) = (ar.take l.length).map (fun x => bindE (exR t tx lo) x.p) ++ [bindE (exR t tx lo) (Ex.mk k2 p2 q2 s2 A4 c4 ar2).p] by
          rw [List.take_succ_eq_append_getElem hlt2, List.map_append, hy]; rfl)
        rw [hy] at hc hmem
        have HME := Lib.hid hmem
        have hc0 : wr.cell? ⟨b, o2 + l.length * 5, none⟩ = some (.int .i64 k2) ∧ wr.cell? ⟨b, o2 + l.length * 5 + 1, none⟩ = some (.int .i64 p2) ∧ wr.cell? ⟨b, o2 + l.length * 5 + 2, none⟩ = some (.int .i64 q2) ∧ wr.cell? ⟨b, o2 + l.length * 5 + 3, none⟩ = some (.string (str s2)) ∧ wr.cell? ⟨b, o2 + l.length * 5 + 4, none⟩ = some (.slice A4 ar2.length c4) := ⟨hc 0 _ rfl, hc 1 _ rfl, hc 2 _ rfl, hc 3 _ rfl, hc 4 _ rfl⟩
        have k0 : (0 : Int) ≤ (l.length : Int) := by omega
        have k1 : (l.length : Int) < (m : Int) := by omega
        clear hc hy hmem
        go_upto_region 5 with fail
        clear u0 u1 u2 u3 u4 uf
        have lB := HLP.out.lt.2.2
        have lA := HLP.out.lt
        have hsz0 := HLP.out.sz
        obtain ⟨S, hS⟩ : ∃ S : World → Prop, (fun U : World => U.heap[ob]? = some (.cells #[.int .i64 k, .int .i64 o, .int .i64 n, .string ⟨#[]⟩, .slice Av l.length cv] 49 (0, 0)) ∧ U.heap[w.heap.size]? = some (.cells #[.int .i64 k, .int .i64 o, .int .i64 n, .string (str s), .slice (some ⟨b, o2, none⟩) m c] 49 (0, 0)) ∧ (U.cell? ⟨b, o2 + l.length * 5, none⟩ = some (.int .i64 k2) ∧ U.cell? ⟨b, o2 + l.length * 5 + 1, none⟩ = some (.int .i64 p2) ∧ U.cell? ⟨b, o2 + l.length * 5 + 2, none⟩ = some (.int .i64 q2) ∧ U.cell? ⟨b, o2 + l.length * 5 + 3, none⟩ = some (.string (str s2)) ∧ U.cell? ⟨b, o2 + l.length * 5 + 4, none⟩ = some (.slice A4 ar2.length c4))) = S := ⟨_, rfl⟩
        have hbw : b < w.heap.size := by
          obtain ⟨b', o', e, hlt', _⟩ := HA.out.1.rd.2 (by omega : 0 < ar.length)
          injection e with e
          injection e with e1 e2
          omega
        have hSB : ∀ U, Below B wr U → S U := fun U hU => by
          rw [← hS]
          refine ⟨(hU.block _ lB).trans HLP.out.a, (hU.block _ (by omega)).trans HLP.out.e, ?_⟩
          have hcell : ∀ p, U.cell? ⟨b, p, none⟩ = wr.cell? ⟨b, p, none⟩ := fun p => hU.cell (p := ⟨b, p, none⟩) (by show b < B; omega)
          rw [hcell, hcell, hcell, hcell, hcell]
          exact hc0
        have hSa : ∀ U, S U → U.heap[ob]? = some (.cells #[.int .i64 k, .int .i64 o, .int .i64 n, .string ⟨#[]⟩, .slice Av l.length cv] 49 (0, 0)) := fun U h => by rw [← hS] at h; exact h.1
        have hSe : ∀ U, S U → U.heap[w.heap.size]? = some (.cells #[.int .i64 k, .int .i64 o, .int .i64 n, .string (str s), .slice (some ⟨b, o2, none⟩) m c] 49 (0, 0)) := fun U h => by rw [← hS] at h; exact h.2.1
        have hSc : ∀ U, S U → (U.cell? ⟨b, o2 + l.length * 5, none⟩ = some (.int .i64 k2) ∧ U.cell? ⟨b, o2 + l.length * 5 + 1, none⟩ = some (.int .i64 p2) ∧ U.cell? ⟨b, o2 + l.length * 5 + 2, none⟩ = some (.int .i64 q2) ∧ U.cell? ⟨b, o2 + l.length * 5 + 3, none⟩ = some (.string (str s2)) ∧ U.cell? ⟨b, o2 + l.length * 5 + 4, none⟩ = some (.slice A4 ar2.length c4)) := fun U h => by rw [← hS] at h; exact h.2.2
        have HSa := Lib.hid hSa
        have HSe := Lib.hid hSe
        have HSc := Lib.hid hSc
        have HSB := Lib.hid hSB
        have hB0 : Below B wr wr.drew := Below.drew (Below.refl _ _)
        have hO0 := HLP.out.own.below stays_x (Below.drew (Below.refl wr.heap.size wr))
        have hS0 : S wr.drew := HSB.out _ hB0
        have hlo : ∀ g, (Value.slice Av l.length cv).ownBlock = some g → g < wr.heap.size := fun g hg => (HLP.out.own.lt hg).2
        have HD0 := Lib.hid (show l.length ≤ 1048576 by omega)
        clear hSa hSe hSc hSB hS hc0 hlt2
        refine RgD.begin_ [13, 14] S (by kernel_rfl) hS0 (fun hHeld => ?_)
        refine RgD.take (i := 0) (t := 28) (v := .pointer (some ⟨ob, 4, none⟩)) rfl rfl (by kernel_rfl) (by kernel_rfl) (by kernel_rfl) (by kernel_rfl) (fun _ _ _ h => h) (by rfl) (by intro w0 hSw; first | (go_simp; done) | (go_simp; with_reducible rfl) | (go_simp; intro hc; exfalso; omega)) (by assumption) ?_
        simp only [List.setIfInBounds_toArray, List.set_cons_zero, List.set_cons_succ]
        refine RgD.take (i := 1) (t := 29) (v := .slice Av l.length cv) rfl rfl (by kernel_rfl) (by kernel_rfl) (by kernel_rfl) (by kernel_rfl) (fun _ _ _ h => h) (by rfl) (by intro w0 hSw; obtain ⟨z0, z1, z2, z3, z4, zf⟩ := cells5 (HSa.out _ hSw); first | (go_simp; done) | (go_simp; with_reducible rfl) | (go_simp; intro hc; exfalso; omega)) (by assumption) ?_
        simp only [List.setIfInBounds_toArray, List.set_cons_zero, List.set_cons_succ]
        refine RgD.take (i := 2) (t := 30) rfl rfl (by kernel_rfl) (by kernel_rfl) (by kernel_rfl) (by kernel_rfl) (fun _ _ _ h => h) (by rfl) (by intro w0 hSw; first | (go_simp; done) | (go_simp; with_reducible rfl) | (go_simp; intro hc; exfalso; omega)) (by assumption) ?_
        simp only [List.setIfInBounds_toArray, List.set_cons_zero, List.set_cons_succ]
        refine RgD.take (i := 3) (t := 31) rfl rfl (by kernel_rfl) (by kernel_rfl) (by kernel_rfl) (by kernel_rfl) (fun _ _ _ h => h) (by rfl) (by intro w0 hSw; first | (go_simp; done) | (go_simp; with_reducible rfl) | (go_simp; intro hc; exfalso; omega)) (by assumption) ?_
        simp only [List.setIfInBounds_toArray, List.set_cons_zero, List.set_cons_succ]
        refine RgD.take (i := 4) (t := 32) rfl rfl (by kernel_rfl) (by kernel_rfl) (by kernel_rfl) (by kernel_rfl) (fun _ _ _ h => h) (by rfl) (by intro w0 hSw; first | (go_simp; done) | (go_simp; with_reducible rfl) | (go_simp; intro hc; exfalso; omega)) (by assumption) ?_
        simp only [List.setIfInBounds_toArray, List.set_cons_zero, List.set_cons_succ]
        refine RgD.take (i := 5) (t := 33) (v := .pointer (some ⟨w.heap.size, 4, none⟩)) rfl rfl (by kernel_rfl) (by kernel_rfl) (by kernel_rfl) (by kernel_rfl) (fun _ _ _ h => h) (by rfl) (by intro w0 hSw; first | (go_simp; done) | (go_simp; with_reducible rfl) | (go_simp; intro hc; exfalso; omega)) (by assumption) ?_
        simp only [List.setIfInBounds_toArray, List.set_cons_zero, List.set_cons_succ]
        refine RgD.take (i := 6) (t := 34) (v := .slice (some ⟨b, o2, none⟩) m c) rfl rfl (by kernel_rfl) (by kernel_rfl) (by kernel_rfl) (by kernel_rfl) (fun _ _ _ h => h) (by rfl) (by intro w0 hSw; obtain ⟨z0, z1, z2, z3, z4, zf⟩ := cells5 (HSe.out _ hSw); first | (go_simp; done) | (go_simp; with_reducible rfl) | (go_simp; intro hc; exfalso; omega)) (by assumption) ?_
        simp only [List.setIfInBounds_toArray, List.set_cons_zero, List.set_cons_succ]
        refine RgD.take (i := 7) (t := 35) rfl rfl (by kernel_rfl) (by kernel_rfl) (by kernel_rfl) (by kernel_rfl) (fun _ _ _ h => h) (by rfl) (by intro w0 hSw; first | (go_simp; done) | (go_simp; with_reducible rfl) | (go_simp; intro hc; exfalso; omega)) (by assumption) ?_
        simp only [List.setIfInBounds_toArray, List.set_cons_zero, List.set_cons_succ]
        refine RgD.take (i := 8) (t := 36) (v := .pointer (some ⟨b, o2 + l.length * 5, none⟩)) rfl rfl (by kernel_rfl) (by kernel_rfl) (by kernel_rfl) (by kernel_rfl) (fun _ _ _ h => h) (by rfl) (by intro w0 hSw; first | (go_simp; done) | (go_simp; with_reducible rfl) | (go_simp; intro hc; exfalso; omega)) (by assumption) ?_
        simp only [List.setIfInBounds_toArray, List.set_cons_zero, List.set_cons_succ]
        refine RgD.take (i := 9) (t := 37) (v := .agg #[.int .i64 k2, .int .i64 p2, .int .i64 q2, .string (str s2), .slice A4 ar2.length c4]) rfl rfl (by kernel_rfl) (by kernel_rfl) (by kernel_rfl) (by kernel_rfl) (fun _ _ _ h => h) (by rfl) (by intro w0 hSw; obtain ⟨z0, z1, z2, z3, z4⟩ := HSc.out _ hSw; first | (go_simp; done) | (go_simp; with_reducible rfl) | (go_simp; intro hc; exfalso; omega)) (by assumption) ?_
        simp only [List.setIfInBounds_toArray, List.set_cons_zero, List.set_cons_succ]
        refine RgD.one (i := 10) (by kernel_rfl) ?_
        refine RgD.call (i := 10) (t := 38) rfl rfl (by rfl) (by go_simp; exact ⟨rfl, rfl⟩) ?_
        refine (HIH.out _ HME.out wr.drew (HEN.out.below (HLP.out.low.trans (hB0.mono (by omega)))) ((HA.out.2 _ HME.out).keep (Keep.below (HLP.out.low.trans (hB0.mono (by omega))))) (HSZ.out _ HME.out)).mono ?_
        rintro e w5 ⟨x, rfl, hx, hpx, hb⟩
        have hs0 : wr.heap.size ≤ wr.drew.heap.size := Nat.le_refl _
        have hB1 := hB0.trans (hb.mono (by omega))
        have hO1 := hO0.below stays_x hb
        have hS1 := HSB.out _ hB1
        have hz1 := hb.size
        have hx1 : RdX (fun b => B ≤ b ∧ (Value.slice Av l.length cv).ownBlock ≠ some b) w5 x := hx.keep (Keep.weak fun b hb1 _ => ⟨by omega, fun hc => by have := hlo b hc; omega⟩)
        have HPX := Lib.hid hpx
        clear hb hx hpx
        obtain ⟨xk, xo, xn, xs, xA, xc, xr⟩ := x
        refine ⟨.agg #[.int .i64 xk, .int .i64 xo, .int .i64 xn, .string (str xs), .slice xA xr.length xc], rfl, hS1, ?_⟩
        simp only [List.setIfInBounds_toArray, List.set_cons_zero, List.set_cons_succ]
        refine RgD.one (i := 11) (by kernel_rfl) ?_
        obtain ⟨w6, hw⟩ : ∃ W, w5.alloc (.cells #[.int .i64 xk, .int .i64 xo, .int .i64 xn, .string (str xs), .slice xA xr.length xc] 49) = W := ⟨_, rfl⟩
        have hb := (made hw).2.2
        have hB2 := hB1.trans (hb.mono (by omega))
        have hO2 := hO1.below stays_x hb
        have hS2 := HSB.out _ hB2
        have hx2 := hx1.keep (Keep.below hb)
        have hz2 := hb.size
        have hz : Sk.Rd exE w6 (some ⟨w5.heap.size, 0, none⟩) 1 [Ex.mk xk xo xn xs xA xc xr] := by rw [← hw]; exact Sk.rd_lit (enc := exE) _ 49 [Ex.mk xk xo xn xs xA xc xr] _ rfl 1 rfl
        refine RgD.eff (i := 11) (t := 39) (v := .slice (some ⟨w5.heap.size, 0, none⟩) 1 1) (w1 := w6) rfl rfl (by rfl) (by first | (go_simp; done) | (go_simp; with_reducible rfl) | (go_simp; rw [hw]; rfl)) hS2 ?_
        simp only [List.setIfInBounds_toArray, List.set_cons_zero, List.set_cons_succ]
        clear hb hw
        refine RgD.one (i := 12) (by kernel_rfl) ?_
        refine RgD.app elX (i := 12) (t := 40) (.tmp 29) (.tmp 39) rfl rfl (by rfl) rfl rfl hO2.own (some ⟨w5.heap.size, 0, none⟩) 1 1 [Ex.mk xk xo xn xs xA xc xr] rfl hz (by have := HD0.out; unfold maxLen; omega) (by have := HD0.out; omega) (by omega) ?_
        intro v7 w7 ho7 hb7 hg7 hv7
        have hO3 := Ow.append stays_x hO2 ho7 hg7 hv7 (show B ≤ w6.heap.size by omega) (fun y hy => by obtain rfl : y = Ex.mk xk xo xn xs xA xc xr := (by simpa using hy); exact hx2)
        have hB3 := hB2.trans hb7
        have hS3 := HSB.out _ hB3
        refine ⟨hS3, ?_⟩
        simp only [List.setIfInBounds_toArray, List.set_cons_zero, List.set_cons_succ]
        obtain ⟨A7, c7, rfl, _, _⟩ := ho7.shape
        have e7 : (l ++ [Ex.mk xk xo xn xs xA xc xr]).length = l.length + 1 := by simp
        rw [e7] at hO3 ⊢
        have HNL := Lib.hid (HLP.out.next hB3 hO3)
        obtain ⟨a0, a1, a2, a3, a4, af⟩ := cells5 (HSa.out _ hS3)
        refine RgD.take0 (i := 13) (t := 41) (v := .pointer (some ⟨ob, 4, none⟩)) rfl rfl (by kernel_rfl) (by kernel_rfl) (by kernel_rfl) (by kernel_rfl) (fun _ _ _ h => h) (by rfl) (by intro w0; first | (go_simp; done) | (go_simp; with_reducible rfl) | (go_simp; intro hc; exfalso; omega)) ?_
        simp only [List.setIfInBounds_toArray, List.set_cons_zero, List.set_cons_succ]
        refine RgD.one (i := 14) (by kernel_rfl) ?_
        refine RgD.store (i := 14) (w1 := w7.setCell ⟨ob, 4, none⟩ (.slice A7 (l.length + 1) c7)) rfl rfl (by rfl) (by kernel_rfl) (by first | (go_simp; done) | (go_simp; with_reducible rfl)) ?_
        refine RgD.done (by kernel_rfl) ?_ _
        clear a0 a1 a2 a3 a4 af
        go_wp2_with fail
        go_roundw
        case rel => exact ⟨l.length + 1, _, l ++ [Ex.mk xk xo xn xs xA xc xr], by omega, by go_num, by simp, Lib.hid (by rw [List.map_append, HP.out, HNX.out, ← HPX.out]; rfl), HNL.out⟩
        case measure => simp [intOf]; omega
      · obtain rfl : m = l.length := by omega
        have HQ := Lib.hid (show exPs l = bindEs (exR t tx lo) (exPs ar) by
          rw [exPs_map, HP.out, List.take_of_length_le (by rw [HM.out]; exact Nat.le_refl _), bindEs_map, exPs_map, List.map_map]; rfl)
        have HEN5 := Lib.hid (HEN.out.below HLP.out.low)
        obtain ⟨y0, y1, y2, y3, y4, yf⟩ := cells5 HLP.out.r
        obtain ⟨a0, a1, a2, a3, a4, af⟩ := cells5 HLP.out.a
        have k9 : ¬ ((l.length : Int) < (l.length : Int)) := by omega
        by_cases h2 : k = 2
        · subst h2
          obtain ⟨w5, hw5⟩ : ∃ W, wr.setCell ⟨ob, 0, none⟩ (.int .i64 19) = W := ⟨_, rfl⟩
          have HP5 := Lib.hid (hw5 ▸ HLP.out.set0 (.int .i64 19))
          have HEN6 := Lib.hid (HEN.out.below HP5.out.low)
          obtain ⟨e0, e1, e2, e3, e4, ef⟩ := cells5 HP5.out.e
          go_wp2_with (go_at_call 41; refine (place_r tx s _ HEN6.out.x HEN.out.n2).mono ?_; rintro e w6 ⟨rfl, rfl⟩; have HP6 := Lib.hid (HP5.out); obtain ⟨a0, a1, a2, a3, a4, af⟩ := cells5 HP6.out.a; obtain ⟨y0, y1, y2, y3, y4, yf⟩ := cells5 HP6.out.r; obtain ⟨w7, hw7⟩ : ∃ W, w6.setCell ⟨ob, 2, none⟩ (.int .i64 (place tx s)) = W := ⟨_, rfl⟩; have HP7 := Lib.hid (hw7 ▸ HP6.out.set2 (.int .i64 (place tx s))); obtain ⟨b0, b1, b2, b3, b4, bf⟩ := cells5 HP7.out.a; obtain ⟨d0, d1, d2, d3, d4, df⟩ := cells5 HP7.out.r)
          obtain ⟨f1, f2, f3, _⟩ := HP7.out.fin 19 o (place tx s) []
          refine ret_c (d := _) (cs := #[.int .i64 19, .int .i64 o, .int .i64 (place tx s), .string ⟨#[]⟩, .slice Av l.length cv]) (t' := 49) (fr := (0, 0)) f1 rfl rfl Try.underlying49 rfl (by kernel_rfl) rfl ?_
          refine ⟨_, rfl, f2, ?_, f3⟩
          show Pe.mk 19 o (place tx s) [] (exPs l) = bindE _ (Pe.mk 2 o n s (exPs ar))
          rw [HQ.out]
          unfold bindE exR
          rw [if_pos rfl]
        by_cases h7 : k = 7
        · subst h7
          obtain ⟨w5, hw5⟩ : ∃ W, wr.setCell ⟨ob, 0, none⟩ (.int .i64 16) = W := ⟨_, rfl⟩
          have HP5 := Lib.hid (hw5 ▸ HLP.out.set0 (.int .i64 16))
          have HEN6 := Lib.hid (HEN.out.below HP5.out.low)
          obtain ⟨e0, e1, e2, e3, e4, ef⟩ := cells5 HP5.out.e
          go_wp2_with (go_at_call 42; refine (number_r t 1 s _ HEN6.out.t HEN.out.n1).mono ?_; rintro e w6 ⟨rfl, hb⟩; have HP6 := Lib.hid (HP5.out.below hb); obtain ⟨a0, a1, a2, a3, a4, af⟩ := cells5 HP6.out.a; obtain ⟨y0, y1, y2, y3, y4, yf⟩ := cells5 HP6.out.r; obtain ⟨w7, hw7⟩ : ∃ W, w6.setCell ⟨ob, 2, none⟩ (.int .i64 (ofN t 1 s)) = W := ⟨_, rfl⟩; have HP7 := Lib.hid (hw7 ▸ HP6.out.set2 (.int .i64 (ofN t 1 s))); obtain ⟨b0, b1, b2, b3, b4, bf⟩ := cells5 HP7.out.a; obtain ⟨d0, d1, d2, d3, d4, df⟩ := cells5 HP7.out.r)
          obtain ⟨f1, f2, f3, _⟩ := HP7.out.fin 16 o (ofN t 1 s) []
          refine ret_c (d := _) (cs := #[.int .i64 16, .int .i64 o, .int .i64 (ofN t 1 s), .string ⟨#[]⟩, .slice Av l.length cv]) (t' := 49) (fr := (0, 0)) f1 rfl rfl Try.underlying49 rfl (by kernel_rfl) rfl ?_
          refine ⟨_, rfl, f2, ?_, f3⟩
          show Pe.mk 16 o (ofN t 1 s) [] (exPs l) = bindE _ (Pe.mk 7 o n s (exPs ar))
          rw [HQ.out]
          unfold bindE exR
          rw [if_neg (by decide), if_pos rfl]
        by_cases h8 : k = 8
        · subst h8
          obtain ⟨w5, hw5⟩ : ∃ W, wr.setCell ⟨ob, 0, none⟩ (.int .i64 17) = W := ⟨_, rfl⟩
          have HP5 := Lib.hid (hw5 ▸ HLP.out.set0 (.int .i64 17))
          have HEN6 := Lib.hid (HEN.out.below HP5.out.low)
          obtain ⟨e0, e1, e2, e3, e4, ef⟩ := cells5 HP5.out.e
          go_wp2_with (go_at_call 42; refine (number_r t 2 s _ HEN6.out.t HEN.out.n1).mono ?_; rintro e w6 ⟨rfl, hb⟩; have HP6 := Lib.hid (HP5.out.below hb); obtain ⟨a0, a1, a2, a3, a4, af⟩ := cells5 HP6.out.a; obtain ⟨y0, y1, y2, y3, y4, yf⟩ := cells5 HP6.out.r; obtain ⟨w7, hw7⟩ : ∃ W, w6.setCell ⟨ob, 2, none⟩ (.int .i64 (ofN t 2 s)) = W := ⟨_, rfl⟩; have HP7 := Lib.hid (hw7 ▸ HP6.out.set2 (.int .i64 (ofN t 2 s))); obtain ⟨b0, b1, b2, b3, b4, bf⟩ := cells5 HP7.out.a; obtain ⟨d0, d1, d2, d3, d4, df⟩ := cells5 HP7.out.r)
          obtain ⟨f1, f2, f3, _⟩ := HP7.out.fin 17 o (ofN t 2 s) []
          refine ret_c (d := _) (cs := #[.int .i64 17, .int .i64 o, .int .i64 (ofN t 2 s), .string ⟨#[]⟩, .slice Av l.length cv]) (t' := 49) (fr := (0, 0)) f1 rfl rfl Try.underlying49 rfl (by kernel_rfl) rfl ?_
          refine ⟨_, rfl, f2, ?_, f3⟩
          show Pe.mk 17 o (ofN t 2 s) [] (exPs l) = bindE _ (Pe.mk 8 o n s (exPs ar))
          rw [HQ.out]
          unfold bindE exR
          rw [if_neg (by decide), if_neg (by decide), if_pos rfl]
        by_cases h9 : k = 9
        · subst h9
          obtain ⟨w5, hw5⟩ : ∃ W, wr.setCell ⟨ob, 0, none⟩ (.int .i64 18) = W := ⟨_, rfl⟩
          have HP5 := Lib.hid (hw5 ▸ HLP.out.set0 (.int .i64 18))
          have HEN6 := Lib.hid (HEN.out.below HP5.out.low)
          obtain ⟨e0, e1, e2, e3, e4, ef⟩ := cells5 HP5.out.e
          go_wp2_with (go_at_call 42; refine (number_r t 6 s _ HEN6.out.t HEN.out.n1).mono ?_; rintro e w6 ⟨rfl, hb⟩; have HP6 := Lib.hid (HP5.out.below hb); obtain ⟨a0, a1, a2, a3, a4, af⟩ := cells5 HP6.out.a; obtain ⟨y0, y1, y2, y3, y4, yf⟩ := cells5 HP6.out.r; obtain ⟨w7, hw7⟩ : ∃ W, w6.setCell ⟨ob, 2, none⟩ (.int .i64 (ofN t 6 s)) = W := ⟨_, rfl⟩; have HP7 := Lib.hid (hw7 ▸ HP6.out.set2 (.int .i64 (ofN t 6 s))); obtain ⟨b0, b1, b2, b3, b4, bf⟩ := cells5 HP7.out.a; obtain ⟨d0, d1, d2, d3, d4, df⟩ := cells5 HP7.out.r)
          obtain ⟨f1, f2, f3, _⟩ := HP7.out.fin 18 o (ofN t 6 s) []
          refine ret_c (d := _) (cs := #[.int .i64 18, .int .i64 o, .int .i64 (ofN t 6 s), .string ⟨#[]⟩, .slice Av l.length cv]) (t' := 49) (fr := (0, 0)) f1 rfl rfl Try.underlying49 rfl (by kernel_rfl) rfl ?_
          refine ⟨_, rfl, f2, ?_, f3⟩
          show Pe.mk 18 o (ofN t 6 s) [] (exPs l) = bindE _ (Pe.mk 9 o n s (exPs ar))
          rw [HQ.out]
          unfold bindE exR
          rw [if_neg (by decide), if_neg (by decide), if_neg (by decide), if_pos rfl]
        by_cases h3 : k = 3
        · subst h3
          obtain ⟨pl, hpl⟩ : ∃ pl, place lo s = pl := ⟨_, rfl⟩
          have HPL := Lib.hid hpl
          clear hpl
          by_cases hp : 0 ≤ pl
          · have hp2 : decide (0 ≤ pl) = true := decide_eq_true hp
            obtain ⟨w5, hw5⟩ : ∃ W, wr.setCell ⟨ob, 0, none⟩ (.int .i64 15) = W := ⟨_, rfl⟩
            have HP5 := Lib.hid (hw5 ▸ HLP.out.set0 (.int .i64 15))
            obtain ⟨c0, c1', c2', c3', c4', cf⟩ := cells5 HP5.out.a
            obtain ⟨w7, hw7⟩ : ∃ W, w5.setCell ⟨ob, 2, none⟩ (.int .i64 pl) = W := ⟨_, rfl⟩
            have HP7 := Lib.hid (hw7 ▸ HP5.out.set2 (.int .i64 pl))
            obtain ⟨b0, b1, b2, b3, b4, bf⟩ := cells5 HP7.out.a
            obtain ⟨d0, d1, d2, d3, d4, df⟩ := cells5 HP7.out.r
            go_wp2_with (go_at_call 41; refine (place_r lo s _ HEN5.out.l HEN.out.n3).mono ?_; rintro e w6 ⟨rfl, rfl⟩; rw [HPL.out])
            obtain ⟨f1, f2, f3, _⟩ := HP7.out.fin 15 o pl []
            refine ret_c (d := _) (cs := #[.int .i64 15, .int .i64 o, .int .i64 pl, .string ⟨#[]⟩, .slice Av l.length cv]) (t' := 49) (fr := (0, 0)) f1 rfl rfl Try.underlying49 rfl (by kernel_rfl) rfl ?_
            refine ⟨_, rfl, f2, ?_, f3⟩
            show Pe.mk 15 o pl [] (exPs l) = bindE _ (Pe.mk 3 o n s (exPs ar))
            rw [HQ.out]
            unfold bindE exR
            rw [if_neg (by decide), if_neg (by decide), if_neg (by decide), if_neg (by decide), if_pos rfl, HPL.out, if_pos (by omega)]
          · have hp2 : decide (0 ≤ pl) = false := decide_eq_false hp
            obtain ⟨⟨g0, g1, g2⟩, hge⟩ : ∃ y, getN t s = y := ⟨_, rfl⟩
            have HGE := Lib.hid hge
            have HNK := Lib.hid (show nkind t s = g1 by rw [nkind_get, hge])
            have HNN := Lib.hid (show nnum t s = g2 by rw [nnum_get, hge])
            clear hge
            by_cases hg : g1 = 3
            · subst hg
              go_wp2_with (first | (go_at_call 41; refine (place_r lo s _ HEN5.out.l HEN.out.n3).mono ?_; rintro e w6 ⟨rfl, rfl⟩; rw [HPL.out]) | (go_at_call 49; refine (find_r t s _ HEN5.out.t HEN.out.n1).mono ?_; rintro e w6 ⟨rfl, hb⟩; rw [HGE.out]; obtain ⟨w6b, hw6⟩ : ∃ W, w6.alloc (.cells #[.string (str g0), .int .i64 3, .int .i64 g2] 108) = W := ⟨_, rfl⟩; have HP6 := Lib.hid ((HLP.out.below hb).below (made hw6).2.2); obtain ⟨n0, n1', n2', nf⟩ := cells3 (made hw6).1; obtain ⟨a0, a1, a2, a3, a4, af⟩ := cells5 HP6.out.a; obtain ⟨y0, y1, y2, y3, y4, yf⟩ := cells5 HP6.out.r; obtain ⟨w7, hw7⟩ : ∃ W, w6b.setCell ⟨ob, 0, none⟩ (.int .i64 1) = W := ⟨_, rfl⟩; have HP7 := Lib.hid (hw7 ▸ HP6.out.set0 (.int .i64 1)); obtain ⟨b0, b1, b2, b3, b4, bf⟩ := cells5 HP7.out.a; have hne : ob ≠ w6.heap.size := (by have h1 := HLP.out.lt.2.2; have h2 := HLP.out.sz; have h3 := hb.size; omega); have q1 := (other_c (o := 0) (v := .int .i64 1) (w := w6b) (Ne.symm hne) 1).trans n1'; have q2 := (other_c (o := 0) (v := .int .i64 1) (w := w6b) (Ne.symm hne) 2).trans n2'; rw [hw7] at q1 q2; obtain ⟨w8, hw8⟩ : ∃ W, w7.setCell ⟨ob, 2, none⟩ (.int .i64 g2) = W := ⟨_, rfl⟩; have HP8 := Lib.hid (hw8 ▸ HP7.out.set2 (.int .i64 g2)); obtain ⟨l0, l1, l2, l3, l4, lf⟩ := cells5 HP8.out.a; have q3 := (other_c (o := 2) (v := .int .i64 g2) (w := w7) (Ne.symm hne) 1).trans q1; rw [hw8] at q3; obtain ⟨d0, d1, d2, d3, d4, df⟩ := cells5 HP8.out.r; obtain ⟨w9, hw9⟩ : ∃ W, w8.setCell ⟨ob, 0, none⟩ (.int .i64 14) = W := ⟨_, rfl⟩; have HP9 := Lib.hid (hw9 ▸ HP8.out.set0 (.int .i64 14)); obtain ⟨r0, r1, r2, r3, r4, rf⟩ := cells5 HP9.out.a; obtain ⟨p0, p1, p2x, p3, p4, pf⟩ := cells5 HP9.out.r; clear hb))
              obtain ⟨f1, f2, f3, _⟩ := HP9.out.fin 14 o g2 []
              refine ret_c (d := _) (cs := #[.int .i64 14, .int .i64 o, .int .i64 g2, .string ⟨#[]⟩, .slice Av l.length cv]) (t' := 49) (fr := (0, 0)) f1 rfl rfl Try.underlying49 rfl (by kernel_rfl) rfl ?_
              refine ⟨_, rfl, f2, ?_, f3⟩
              show Pe.mk 14 o g2 [] (exPs l) = bindE _ (Pe.mk 3 o n s (exPs ar))
              rw [HQ.out]
              unfold bindE exR
              rw [if_neg (by decide), if_neg (by decide), if_neg (by decide), if_neg (by decide), if_pos rfl, HPL.out, if_neg (by omega), HNK.out, if_pos rfl, HNN.out]
            · have hg2 : (g1 == 3) = false := by simpa using hg
              go_wp2_with (first | (go_at_call 41; refine (place_r lo s _ HEN5.out.l HEN.out.n3).mono ?_; rintro e w6 ⟨rfl, rfl⟩; rw [HPL.out]) | (go_at_call 49; refine (find_r t s _ HEN5.out.t HEN.out.n1).mono ?_; rintro e w6 ⟨rfl, hb⟩; rw [HGE.out]; obtain ⟨w6b, hw6⟩ : ∃ W, w6.alloc (.cells #[.string (str g0), .int .i64 g1, .int .i64 g2] 108) = W := ⟨_, rfl⟩; have HP6 := Lib.hid ((HLP.out.below hb).below (made hw6).2.2); obtain ⟨n0, n1', n2', nf⟩ := cells3 (made hw6).1; obtain ⟨a0, a1, a2, a3, a4, af⟩ := cells5 HP6.out.a; obtain ⟨y0, y1, y2, y3, y4, yf⟩ := cells5 HP6.out.r; obtain ⟨w7, hw7⟩ : ∃ W, w6b.setCell ⟨ob, 0, none⟩ (.int .i64 1) = W := ⟨_, rfl⟩; have HP7 := Lib.hid (hw7 ▸ HP6.out.set0 (.int .i64 1)); obtain ⟨b0, b1, b2, b3, b4, bf⟩ := cells5 HP7.out.a; have hne : ob ≠ w6.heap.size := (by have h1 := HLP.out.lt.2.2; have h2 := HLP.out.sz; have h3 := hb.size; omega); have q1 := (other_c (o := 0) (v := .int .i64 1) (w := w6b) (Ne.symm hne) 1).trans n1'; have q2 := (other_c (o := 0) (v := .int .i64 1) (w := w6b) (Ne.symm hne) 2).trans n2'; rw [hw7] at q1 q2; obtain ⟨w8, hw8⟩ : ∃ W, w7.setCell ⟨ob, 2, none⟩ (.int .i64 g2) = W := ⟨_, rfl⟩; have HP8 := Lib.hid (hw8 ▸ HP7.out.set2 (.int .i64 g2)); obtain ⟨l0, l1, l2, l3, l4, lf⟩ := cells5 HP8.out.a; have q3 := (other_c (o := 2) (v := .int .i64 g2) (w := w7) (Ne.symm hne) 1).trans q1; rw [hw8] at q3; obtain ⟨d0, d1, d2, d3, d4, df⟩ := cells5 HP8.out.r; clear hb))
              obtain ⟨f1, f2, f3, _⟩ := HP8.out.fin 1 o g2 []
              refine ret_c (d := _) (cs := #[.int .i64 1, .int .i64 o, .int .i64 g2, .string ⟨#[]⟩, .slice Av l.length cv]) (t' := 49) (fr := (0, 0)) f1 rfl rfl Try.underlying49 rfl (by kernel_rfl) rfl ?_
              refine ⟨_, rfl, f2, ?_, f3⟩
              show Pe.mk 1 o g2 [] (exPs l) = bindE _ (Pe.mk 3 o n s (exPs ar))
              rw [HQ.out]
              unfold bindE exR
              rw [if_neg (by decide), if_neg (by decide), if_neg (by decide), if_neg (by decide), if_pos rfl, HPL.out, if_neg (by omega), HNK.out, if_neg hg, HNN.out]
        · go_wp2_with fail
          obtain ⟨f1, f2, f3, _⟩ := HLP.out.fin k o n []
          refine ret_c (d := _) (cs := #[.int .i64 k, .int .i64 o, .int .i64 n, .string ⟨#[]⟩, .slice Av l.length cv]) (t' := 49) (fr := (0, 0)) f1 rfl rfl Try.underlying49 rfl (by kernel_rfl) rfl ?_
          refine ⟨_, rfl, f2, ?_, f3⟩
          show Pe.mk k o n [] (exPs l) = bindE _ (Pe.mk k o n s (exPs ar))
          rw [HQ.out]
          unfold bindE exR
          rw [if_neg h2, if_neg h7, if_neg h8, if_neg h9, if_neg h3]
end Go.Proofs.Yteibcfpepdbflaa.BindY
