/- clewref19.New: the world in which a story begins. Conditions: the tables read; 1 to 128 things, of 16 props at most; 64 globals, 16 daemons at most. -/
import Derived.Test.YtncdicagadbafaaVB
import Derived.Test.YtncdicagadbafaaNewP
namespace Go.Proofs.Ytncdicagadbafaa.NewW
open Go Go.RowKit NestP NestW NestX NestY ValP ValW ValX ValR Sq WorldD CopP MoveP LvP MvA AttrP AttrW AttrX TabD TabW TabX TabB MixP Awk AwkP NewP

theorem three {P : Program} {ops : Array Oper} {Q : Exit → Act → World → Prop} {md : Region.Mode} {S : World → Prop} {i j k fuel : Nat} {listed : Array Bool} {a : Act} {w : World} (hr : Region.ready md ops listed = [i, j, k])
    (h1 : wpOp P ops Q i (fun a' w' => S w' ∧ wpAnyH P md ops Q S fuel (listed.setIfInBounds i true) a' w') a w)
    (h2 : wpOp P ops Q j (fun a' w' => S w' ∧ wpAnyH P md ops Q S fuel (listed.setIfInBounds j true) a' w') a w)
    (h3 : wpOp P ops Q k (fun a' w' => S w' ∧ wpAnyH P md ops Q S fuel (listed.setIfInBounds k true) a' w') a w) : wpAnyH P md ops Q S (fuel + 1) listed a w :=
  ⟨fun h0 => (by rw [hr] at h0; cases h0), fun l hl => by
    rw [hr, List.mem_cons, List.mem_cons, List.mem_singleton] at hl
    rcases hl with rfl | rfl | rfl
    · exact h1
    · exact h2
    · exact h3⟩
theorem share {P : Program} {ops : Array Oper} {Q : Exit → Act → World → Prop} {md : Region.Mode} {S : World → Prop} {fuel : Nat} {listed : Array Bool} {ts : Array Value} {ds : List Deferred} {w : World} {f : Nat} {lf : Array Bool} (R : World → Array Value → Prop)
    (h1 : ∀ V ts, R V ts → wpAnyH P md ops Q S f lf ⟨ts, ds⟩ V) (h2 : (∀ V ts, R V ts → wpAnyH P md ops Q S f lf ⟨ts, ds⟩ V) → wpAnyH P md ops Q S fuel listed ⟨ts, ds⟩ w) : wpAnyH P md ops Q S fuel listed ⟨ts, ds⟩ w := h2 h1
theorem use {P : Program} {ops : Array Oper} {Q : Exit → Act → World → Prop} {md : Region.Mode} {S : World → Prop} {listed : Array Bool} {ts : Array Value} {ds : List Deferred} {w : World} {f : Nat} {lf : Array Bool} {R : World → Array Value → Prop}
    (h1 : ∀ V ts, R V ts → wpAnyH P md ops Q S f lf ⟨ts, ds⟩ V) (he : lf = listed) (h : R w ts) : wpAnyH P md ops Q S f listed ⟨ts, ds⟩ w := he ▸ h1 w ts h
theorem exec_append {P : Program} {o : Oper} {a : Act} {v v' : Value} {A : Option Addr} {m c : Nat} {T : TypeId} {w w' : World} (s x : Operand) (ho : o.op = .call { callee := .builtin .append, args := #[s, x], argTypes := #[T, T] })
    (hs : a.eval s = v) (hx : a.eval x = .slice A m c) (hrun : (Builtin.append_ #[T, T] o.type #[v, .slice A m c]).run P w = .ok v' w') : (execOp a.eval o).run P w = .ok (.value v') w' := by
  unfold execOp
  simp only [ho, resolve, invoke, builtin, Sem.run_bind, Sem.run_pure, Result.andThen_ok, List.map_toArray, List.map_cons, List.map_nil, hs, hx, hrun]
theorem run_make (w : World) (B n : Nat) (hn : n ≤ 64) (hB : B ≤ w.heap.size) :
    ∃ w', (Instr.makeSlice 23 (.int .i64 (n : Int)) (.int .i64 (n : Int))).run Try.prog w = .ok (.slice (some ⟨w.heap.size, 0, none⟩) n n) w' ∧ Sq.Own I 3 w' B (.slice (some ⟨w.heap.size, 0, none⟩) n n) (List.replicate n 0) ∧ Below w.heap.size w w' := by
  obtain ⟨i, hi, hz, hs, hby⟩ := elI.parts
  obtain ⟨w', hrun, r1, r2⟩ := run_make_full (P := Try.prog) w B 23 3 i (I 0) 1 elI.und hi hz hs .i64 .i64 n (by rw [hby]; omega) (by simp [maxLen]; omega) hB
  refine ⟨w', hrun, ?_, r2.os, r2.tape, r2.output, r2.size, fun k hk => r2.block k hk (by simp)⟩
  have e : (madeCells (I 0).cells (n * 1)).toList = (List.replicate n (0 : Int)).map I := by
    rw [Nat.mul_one, elI.cells, toList_madeCells_one, List.map_replicate]
  rw [e] at r1
  show w'.ownsRow _ _ _ _ _ _
  simpa using r1
theorem held_res {w wr : World} {cs cs2 : Array Value} {T T2 : TypeId} {b : Nat} {ps : List (Value × List Int)} {s a0 a1 a2 a3 a4 a5 a6 a7 a8 a9 a10 a11 a12 : Value} (h : Nb w cs cs2 T T2 b ps s wr) :
    Held (set13w wr (w.heap.size + 1) a0 a1 a2 a3 a4 a5 a6 a7 a8 a9 a10 a11 a12) w.heap.size b ps :=
  ⟨fun p hp => (own_same (h.na.held.own p hp) fun k hk => set13_other _ _ (by omega)).lower (by omega), h.na.held.apart, h.na.held.off⟩
set_option maxRecDepth 100000 in
set_option maxHeartbeats 100000000 in
theorem new_i (t : TbV) (w : World) (hr : TbR w t) (hn : 0 < t.th.n ∧ t.th.n ≤ 128) (hgl : t.gl.n ≤ 64) (hda : t.da.n ≤ 16) (hpr : ∀ e ∈ t.th.l, e.pr.n ≤ 16) :
    Calls Try.prog 96 #[.agg #[.int .i64 t.ti, .int .i64 t.au, .int .i64 t.rl, .int .i64 t.mx, .slice t.tx.a t.tx.n t.tx.c, .int .i64 t.fl, .slice t.pr.a t.pr.n t.pr.c, .slice t.gl.a t.gl.n t.gl.c, .slice t.th.a t.th.n t.th.c, .slice t.ac.a t.ac.n t.ac.c, .slice t.de.a t.de.n t.de.c, .slice t.fu.a t.fu.n t.fu.c, .slice t.da.a t.da.n t.da.c, .slice t.pm.a t.pm.n t.pm.c, .slice t.lo.a t.lo.n t.lo.c]] w fun e w' => ∃ v0 v1 v2 v3 v4 v5 v6 : Value, e = .returned (.agg #[v0, v1, v2, v3, v4, v5, v6, .int .u64 (fr t.rl), .int .i64 0, .int .i64 0, .int .i64 0, .int .i64 0, .int .i64 0]) ∧ (∃ b, Held w' w.heap.size b [(v0, (newW t).gl), (v1, (newW t).pa), (v2, (newW t).ch), (v3, (newW t).ne), (v4, (newW t).fl), (v5, (newW t).pr), (v6, (newW t).ti)]) ∧ Below w.heap.size w w' := by
  have bth : t.th.n ≤ 9223372036854775807 := by omega
  have HTB := Lib.hid hr
  have HR := Lib.hid hr.2.2.2.1.2.2.1
  have HD := Lib.hid hr.2.2.2.1.2.2.2
  have RG := Lib.hid hr.2.2.1.2.2
  have HP := Lib.hid hpr
  have HPL := Lib.hid (show ∀ e ∈ t.th.l, e.pr.l.length ≤ 16 from fun e he => by rw [← (hr.2.2.2.1.2.2.2 e he).1.2.2.len]; exact hpr e he)
  have hG1 : ([] : List Int).length + t.gl.n ≤ maxLen := by simp [maxLen]; omega
  have hG2 : (([] : List Int).length + t.gl.n) * 8 ≤ 140737488355328 := by simp; omega
  have hD : t.da.n ≤ 64 := by omega
  obtain ⟨bb, oo, hA, hb0, HC⟩ := sk_all ThE_len HR.out hn.1
  have HL := Lib.hid HR.out.1
  have CA := Lib.hid (fun x p W hW => by have h := after_i t x p hn.1 W hW; rw [hA] at h; exact h)
  have hn128 := hn.2
  rw [hA]
  clear hr hA hpr
  go_enter Try.func96, Try.ntmps96
  obtain ⟨W2, hW2⟩ : ∃ W2, (w.alloc (.cells #[.int .i64 t.ti, .int .i64 t.au, .int .i64 t.rl, .int .i64 t.mx, .slice t.tx.a t.tx.n t.tx.c, .int .i64 t.fl, .slice t.pr.a t.pr.n t.pr.c, .slice t.gl.a t.gl.n t.gl.c, .slice (some ⟨bb, oo, none⟩) t.th.n t.th.c, .slice t.ac.a t.ac.n t.ac.c, .slice t.de.a t.de.n t.de.c, .slice t.fu.a t.fu.n t.fu.c, .slice t.da.a t.da.n t.da.c, .slice t.pm.a t.pm.n t.pm.c, .slice t.lo.a t.lo.n t.lo.c] 28)).alloc (.cells #[.slice none 0 0, .slice none 0 0, .slice none 0 0, .slice none 0 0, .slice none 0 0, .slice none 0 0, .slice none 0 0, .int .u64 0, .int .i64 0, .int .i64 0, .int .i64 0, .int .i64 0, .int .i64 0] 31) = W2 := ⟨_, rfl⟩
  have HZ := Lib.hid (Nz.new hW2)
  obtain ⟨t0, t1, t2, t3, t4, t5, t6, t7, t8, t9, t10, t11, t12, t13, t14, tf⟩ := cells15 HZ.out.na.tab
  go_upto_region 1 with (fail)
  go_cut [3] (fun pv wx => ∃ (b : Nat) (A0 A6 : Option Addr) (m0 c0 m6 c6 : Nat), pv = .pointer (some ⟨b, 0, none⟩) ∧ Nb w #[.int .i64 t.ti, .int .i64 t.au, .int .i64 t.rl, .int .i64 t.mx, .slice t.tx.a t.tx.n t.tx.c, .int .i64 t.fl, .slice t.pr.a t.pr.n t.pr.c, .slice t.gl.a t.gl.n t.gl.c, .slice (some ⟨bb, oo, none⟩) t.th.n t.th.c, .slice t.ac.a t.ac.n t.ac.c, .slice t.de.a t.de.n t.de.c, .slice t.fu.a t.fu.n t.fu.c, .slice t.da.a t.da.n t.da.c, .slice t.pm.a t.pm.n t.pm.c, .slice t.lo.a t.lo.n t.lo.c] #[.slice none 0 0, .slice none 0 0, .slice none 0 0, .slice none 0 0, .slice none 0 0, .slice none 0 0, .slice none 0 0, .int .u64 0, .int .i64 0, .int .i64 0, .int .i64 0, .int .i64 0, .int .i64 0] 28 31 b [(.slice A0 m0 c0, t.gl.l), (.slice none 0 0, []), (.slice none 0 0, []), (.slice none 0 0, []), (.slice none 0 0, []), (.slice none 0 0, []), (.slice A6 m6 c6, List.replicate t.da.n 0)] (.int .u64 (fr t.rl)) wx)
  case first =>
    have hS : (fun U => U.heap[w.heap.size]? = some (.cells #[.int .i64 t.ti, .int .i64 t.au, .int .i64 t.rl, .int .i64 t.mx, .slice t.tx.a t.tx.n t.tx.c, .int .i64 t.fl, .slice t.pr.a t.pr.n t.pr.c, .slice t.gl.a t.gl.n t.gl.c, .slice (some ⟨bb, oo, none⟩) t.th.n t.th.c, .slice t.ac.a t.ac.n t.ac.c, .slice t.de.a t.de.n t.de.c, .slice t.fu.a t.fu.n t.fu.c, .slice t.da.a t.da.n t.da.c, .slice t.pm.a t.pm.n t.pm.c, .slice t.lo.a t.lo.n t.lo.c] 28 (0, 0))) W2.drew := HZ.out.drew.na.tab
    have hz := HZ.out.drew
    refine wp_region_held_drew (S := (fun U => U.heap[w.heap.size]? = some (.cells #[.int .i64 t.ti, .int .i64 t.au, .int .i64 t.rl, .int .i64 t.mx, .slice t.tx.a t.tx.n t.tx.c, .int .i64 t.fl, .slice t.pr.a t.pr.n t.pr.c, .slice t.gl.a t.gl.n t.gl.c, .slice (some ⟨bb, oo, none⟩) t.th.n t.th.c, .slice t.ac.a t.ac.n t.ac.c, .slice t.de.a t.de.n t.de.c, .slice t.fu.a t.fu.n t.fu.c, .slice t.da.a t.da.n t.da.c, .slice t.pm.a t.pm.n t.pm.c, .slice t.lo.a t.lo.n t.lo.c] 28 (0, 0)))) (by kernel_rfl) hS (fun hHeld => ?_)
    obtain ⟨V0, hV⟩ : ∃ V0, W2.drew = V0 := ⟨_, rfl⟩
    rw [hV] at hz hS ⊢
    clear hV HZ hHeld
    unfold nil7 at hz
    have HZ := Lib.hid hz
    clear hz t0 t1 t2 t3 t4 t5 t6 t7 t8 t9 t10 t11 t12 t13 t14 tf
    refine Rg.take (i := 1) (t := 9) rfl rfl (by kernel_rfl) (by kernel_rfl) (by kernel_rfl) (fun _ _ _ h => h) (by rfl) (by intro w0 hSw; first | (go_simp; done) | (go_simp; with_reducible rfl)) (by assumption) ?_
    simp only [List.setIfInBounds_toArray, List.set_cons_zero, List.set_cons_succ]
    refine Rg.take (i := 2) (t := 10) rfl rfl (by kernel_rfl) (by kernel_rfl) (by kernel_rfl) (fun _ _ _ h => h) (by rfl) (by intro w0 hSw; obtain ⟨t0, t1, t2, t3, t4, t5, t6, t7, t8, t9, t10, t11, t12, t13, t14, tf⟩ := cells15 hSw; first | (go_simp; done) | (go_simp; with_reducible rfl)) (by assumption) ?_
    simp only [List.setIfInBounds_toArray, List.set_cons_zero, List.set_cons_succ]
    refine Rg.take (i := 4) (t := 12) rfl rfl (by kernel_rfl) (by kernel_rfl) (by kernel_rfl) (fun _ _ _ h => h) (by rfl) (by intro w0 hSw; first | (go_simp; done) | (go_simp; with_reducible rfl)) (by assumption) ?_
    simp only [List.setIfInBounds_toArray, List.set_cons_zero, List.set_cons_succ]
    refine Rg.take (i := 5) (t := 13) rfl rfl (by kernel_rfl) (by kernel_rfl) (by kernel_rfl) (fun _ _ _ h => h) (by rfl) (by intro w0 hSw; obtain ⟨t0, t1, t2, t3, t4, t5, t6, t7, t8, t9, t10, t11, t12, t13, t14, tf⟩ := cells15 hSw; first | (go_simp; done) | (go_simp; with_reducible rfl)) (by assumption) ?_
    simp only [List.setIfInBounds_toArray, List.set_cons_zero, List.set_cons_succ]
    refine Rg.take (i := 6) (t := 14) rfl rfl (by kernel_rfl) (by kernel_rfl) (by kernel_rfl) (fun _ _ _ h => h) (by rfl) (by intro w0 hSw; first | (go_simp; done) | (go_simp; with_reducible rfl)) (by assumption) ?_
    simp only [List.setIfInBounds_toArray, List.set_cons_zero, List.set_cons_succ]
    refine Rg.take (i := 8) (t := 16) rfl rfl (by kernel_rfl) (by kernel_rfl) (by kernel_rfl) (fun _ _ _ h => h) (by rfl) (by intro w0 hSw; first | (go_simp; done) | (go_simp; with_reducible rfl)) (by assumption) ?_
    simp only [List.setIfInBounds_toArray, List.set_cons_zero, List.set_cons_succ]
    refine Rg.take (i := 9) (t := 17) rfl rfl (by kernel_rfl) (by kernel_rfl) (by kernel_rfl) (fun _ _ _ h => h) (by rfl) (by intro w0 hSw; obtain ⟨t0, t1, t2, t3, t4, t5, t6, t7, t8, t9, t10, t11, t12, t13, t14, tf⟩ := cells15 hSw; first | (go_simp; done) | (go_simp; with_reducible rfl)) (by assumption) ?_
    simp only [List.setIfInBounds_toArray, List.set_cons_zero, List.set_cons_succ]
    refine share (f := 1) (lf := #[true, true, true, true, true, true, true, true, true, true, true, true, true, false]) (fun V ts => ∃ (b g0 g6 : Nat) (A0 : Option Addr) (m0 c0 : Nat), ts = #[.agg #[.int .i64 t.ti, .int .i64 t.au, .int .i64 t.rl, .int .i64 t.mx, .slice t.tx.a t.tx.n t.tx.c, .int .i64 t.fl, .slice t.pr.a t.pr.n t.pr.c, .slice t.gl.a t.gl.n t.gl.c, .slice (some ⟨bb, oo, none⟩) t.th.n t.th.c, .slice t.ac.a t.ac.n t.ac.c, .slice t.de.a t.de.n t.de.c, .slice t.fu.a t.fu.n t.fu.c, .slice t.da.a t.da.n t.da.c, .slice t.pm.a t.pm.n t.pm.c, .slice t.lo.a t.lo.n t.lo.c], .pointer (some ⟨w.heap.size, 0, none⟩), .pointer (some ⟨w.heap.size + 1, 0, none⟩), .pointer (some ⟨b, 0, none⟩), undef, undef, undef, undef, .slice (some ⟨g0, 0, none⟩) 0 0, .pointer (some ⟨w.heap.size, 7, none⟩), .slice t.gl.a t.gl.n t.gl.c, .slice A0 m0 c0, .pointer (some ⟨w.heap.size, 12, none⟩), .slice t.da.a t.da.n t.da.c, .int .i64 (t.da.n : Int), .slice (some ⟨g6, 0, none⟩) t.da.n t.da.n, .pointer (some ⟨w.heap.size, 2, none⟩), .int .i64 t.rl, .int .u64 (fr t.rl), .agg #[.slice A0 m0 c0, .slice none 0 0, .slice none 0 0, .slice none 0 0, .slice none 0 0, .slice none 0 0, .slice (some ⟨g6, 0, none⟩) t.da.n t.da.n, .int .u64 (fr t.rl), .int .i64 0, .int .i64 0, .int .i64 0, .int .i64 0, .int .i64 0], undef, undef, undef, undef, undef, undef, undef, undef, undef, undef, undef, undef, undef, undef, undef, undef, undef, undef, undef, undef, undef, undef, undef, undef, undef, undef, undef, undef, undef, undef, undef, undef, undef, undef, undef, undef, undef, undef, undef, undef, undef, undef, undef, undef, undef, undef, undef, undef, undef, undef, undef, undef, undef, undef, undef, undef, undef, undef, undef, undef, undef, undef, undef, undef, undef] ∧ b ≠ w.heap.size + 1 ∧ Nz w #[.int .i64 t.ti, .int .i64 t.au, .int .i64 t.rl, .int .i64 t.mx, .slice t.tx.a t.tx.n t.tx.c, .int .i64 t.fl, .slice t.pr.a t.pr.n t.pr.c, .slice t.gl.a t.gl.n t.gl.c, .slice (some ⟨bb, oo, none⟩) t.th.n t.th.c, .slice t.ac.a t.ac.n t.ac.c, .slice t.de.a t.de.n t.de.c, .slice t.fu.a t.fu.n t.fu.c, .slice t.da.a t.da.n t.da.c, .slice t.pm.a t.pm.n t.pm.c, .slice t.lo.a t.lo.n t.lo.c] #[.slice none 0 0, .slice none 0 0, .slice none 0 0, .slice none 0 0, .slice none 0 0, .slice none 0 0, .slice none 0 0, .int .u64 0, .int .i64 0, .int .i64 0, .int .i64 0, .int .i64 0, .int .i64 0] 28 31 b [(.slice A0 m0 c0, t.gl.l), (.slice none 0 0, []), (.slice none 0 0, []), (.slice none 0 0, []), (.slice none 0 0, []), (.slice none 0 0, []), (.slice (some ⟨g6, 0, none⟩) t.da.n t.da.n, List.replicate t.da.n 0)] V) ?_ fun key311 => ?_
    · clear HZ hS
      rintro V ts ⟨b, g0, g6, A0, m0, c0, rfl, hne, hz⟩
      have HZ := Lib.hid hz
      clear hz
      have hS : (fun U => U.heap[w.heap.size]? = some (.cells #[.int .i64 t.ti, .int .i64 t.au, .int .i64 t.rl, .int .i64 t.mx, .slice t.tx.a t.tx.n t.tx.c, .int .i64 t.fl, .slice t.pr.a t.pr.n t.pr.c, .slice t.gl.a t.gl.n t.gl.c, .slice (some ⟨bb, oo, none⟩) t.th.n t.th.c, .slice t.ac.a t.ac.n t.ac.c, .slice t.de.a t.de.n t.de.c, .slice t.fu.a t.fu.n t.fu.c, .slice t.da.a t.da.n t.da.c, .slice t.pm.a t.pm.n t.pm.c, .slice t.lo.a t.lo.n t.lo.c] 28 (0, 0))) V := HZ.out.na.tab
      obtain ⟨y0, y1, y2, y3, y4, y5, y6, y7, y8, y9, y10, y11, y12, yf⟩ := cells13 HZ.out.box
      have hz := HZ.out.whole (s := .int .u64 (fr t.rl)) hne
      unfold set13w at hz
      refine Rg.one (i := 13) (by kernel_rfl) ?_
      refine RgIn.effN (i := 13) (w1 := (((((((((((((V.setCell ⟨b, 0, none⟩ (.slice A0 m0 c0)).setCell ⟨b, 1, none⟩ (.slice none 0 0)).setCell ⟨b, 2, none⟩ (.slice none 0 0)).setCell ⟨b, 3, none⟩ (.slice none 0 0)).setCell ⟨b, 4, none⟩ (.slice none 0 0)).setCell ⟨b, 5, none⟩ (.slice none 0 0)).setCell ⟨b, 6, none⟩ (.slice (some ⟨g6, 0, none⟩) t.da.n t.da.n)).setCell ⟨b, 7, none⟩ (.int .u64 (fr t.rl))).setCell ⟨b, 8, none⟩ (.int .i64 0)).setCell ⟨b, 9, none⟩ (.int .i64 0)).setCell ⟨b, 10, none⟩ (.int .i64 0)).setCell ⟨b, 11, none⟩ (.int .i64 0)).setCell ⟨b, 12, none⟩ (.int .i64 0))) rfl rfl (by rfl) (by first | (go_simp; done) | (go_simp; with_reducible rfl)) ⟨hz.na.tab, ?_⟩
      refine wpAnyH_done (by kernel_rfl) ?_ _
      obtain ⟨U, hU⟩ : ∃ U, (((((((((((((V.setCell ⟨b, 0, none⟩ (.slice A0 m0 c0)).setCell ⟨b, 1, none⟩ (.slice none 0 0)).setCell ⟨b, 2, none⟩ (.slice none 0 0)).setCell ⟨b, 3, none⟩ (.slice none 0 0)).setCell ⟨b, 4, none⟩ (.slice none 0 0)).setCell ⟨b, 5, none⟩ (.slice none 0 0)).setCell ⟨b, 6, none⟩ (.slice (some ⟨g6, 0, none⟩) t.da.n t.da.n)).setCell ⟨b, 7, none⟩ (.int .u64 (fr t.rl))).setCell ⟨b, 8, none⟩ (.int .i64 0)).setCell ⟨b, 9, none⟩ (.int .i64 0)).setCell ⟨b, 10, none⟩ (.int .i64 0)).setCell ⟨b, 11, none⟩ (.int .i64 0)).setCell ⟨b, 12, none⟩ (.int .i64 0)) = U := ⟨_, rfl⟩
      rw [hU] at hz ⊢
      clear hU y0 y1 y2 y3 y4 y5 y6 y7 y8 y9 y10 y11 y12 yf hS HZ
      go_wp2_with fail
      go_meet
      exact ⟨_, _, _, _, _, _, _, rfl, hz⟩
    refine share (f := 2) (lf := #[true, true, true, true, true, true, true, true, true, true, true, true, false, false]) (fun V ts => ∃ (b g0 g6 : Nat) (A0 : Option Addr) (m0 c0 : Nat), ts = #[.agg #[.int .i64 t.ti, .int .i64 t.au, .int .i64 t.rl, .int .i64 t.mx, .slice t.tx.a t.tx.n t.tx.c, .int .i64 t.fl, .slice t.pr.a t.pr.n t.pr.c, .slice t.gl.a t.gl.n t.gl.c, .slice (some ⟨bb, oo, none⟩) t.th.n t.th.c, .slice t.ac.a t.ac.n t.ac.c, .slice t.de.a t.de.n t.de.c, .slice t.fu.a t.fu.n t.fu.c, .slice t.da.a t.da.n t.da.c, .slice t.pm.a t.pm.n t.pm.c, .slice t.lo.a t.lo.n t.lo.c], .pointer (some ⟨w.heap.size, 0, none⟩), .pointer (some ⟨w.heap.size + 1, 0, none⟩), undef, undef, undef, undef, undef, .slice (some ⟨g0, 0, none⟩) 0 0, .pointer (some ⟨w.heap.size, 7, none⟩), .slice t.gl.a t.gl.n t.gl.c, .slice A0 m0 c0, .pointer (some ⟨w.heap.size, 12, none⟩), .slice t.da.a t.da.n t.da.c, .int .i64 (t.da.n : Int), .slice (some ⟨g6, 0, none⟩) t.da.n t.da.n, .pointer (some ⟨w.heap.size, 2, none⟩), .int .i64 t.rl, .int .u64 (fr t.rl), .agg #[.slice A0 m0 c0, .slice none 0 0, .slice none 0 0, .slice none 0 0, .slice none 0 0, .slice none 0 0, .slice (some ⟨g6, 0, none⟩) t.da.n t.da.n, .int .u64 (fr t.rl), .int .i64 0, .int .i64 0, .int .i64 0, .int .i64 0, .int .i64 0], undef, undef, undef, undef, undef, undef, undef, undef, undef, undef, undef, undef, undef, undef, undef, undef, undef, undef, undef, undef, undef, undef, undef, undef, undef, undef, undef, undef, undef, undef, undef, undef, undef, undef, undef, undef, undef, undef, undef, undef, undef, undef, undef, undef, undef, undef, undef, undef, undef, undef, undef, undef, undef, undef, undef, undef, undef, undef, undef, undef, undef, undef, undef, undef, undef] ∧ True ∧ Nz w #[.int .i64 t.ti, .int .i64 t.au, .int .i64 t.rl, .int .i64 t.mx, .slice t.tx.a t.tx.n t.tx.c, .int .i64 t.fl, .slice t.pr.a t.pr.n t.pr.c, .slice t.gl.a t.gl.n t.gl.c, .slice (some ⟨bb, oo, none⟩) t.th.n t.th.c, .slice t.ac.a t.ac.n t.ac.c, .slice t.de.a t.de.n t.de.c, .slice t.fu.a t.fu.n t.fu.c, .slice t.da.a t.da.n t.da.c, .slice t.pm.a t.pm.n t.pm.c, .slice t.lo.a t.lo.n t.lo.c] #[.slice none 0 0, .slice none 0 0, .slice none 0 0, .slice none 0 0, .slice none 0 0, .slice none 0 0, .slice none 0 0, .int .u64 0, .int .i64 0, .int .i64 0, .int .i64 0, .int .i64 0, .int .i64 0] 28 31 b [(.slice A0 m0 c0, t.gl.l), (.slice none 0 0, []), (.slice none 0 0, []), (.slice none 0 0, []), (.slice none 0 0, []), (.slice none 0 0, []), (.slice (some ⟨g6, 0, none⟩) t.da.n t.da.n, List.replicate t.da.n 0)] V) ?_ fun key310 => ?_
    · clear HZ hS
      rintro V ts ⟨b, g0, g6, A0, m0, c0, rfl, hne, hz⟩
      have HZ := Lib.hid hz
      clear hz
      have hS : (fun U => U.heap[w.heap.size]? = some (.cells #[.int .i64 t.ti, .int .i64 t.au, .int .i64 t.rl, .int .i64 t.mx, .slice t.tx.a t.tx.n t.tx.c, .int .i64 t.fl, .slice t.pr.a t.pr.n t.pr.c, .slice t.gl.a t.gl.n t.gl.c, .slice (some ⟨bb, oo, none⟩) t.th.n t.th.c, .slice t.ac.a t.ac.n t.ac.c, .slice t.de.a t.de.n t.de.c, .slice t.fu.a t.fu.n t.fu.c, .slice t.da.a t.da.n t.da.c, .slice t.pm.a t.pm.n t.pm.c, .slice t.lo.a t.lo.n t.lo.c] 28 (0, 0))) V := HZ.out.na.tab
      refine Rg.one (i := 12) (by kernel_rfl) ?_
      have hz := HZ.out.alloc
      have hne2 : V.heap.size ≠ w.heap.size + 1 := by have h := HZ.out.na.lt; clear hz HZ hS; omega
      refine Rg.eff (i := 12) (t := 3) (v := .pointer (some ⟨V.heap.size, 0, none⟩)) (w1 := V.alloc (.cells #[.slice none 0 0, .slice none 0 0, .slice none 0 0, .slice none 0 0, .slice none 0 0, .slice none 0 0, .slice none 0 0, .int .u64 0, .int .i64 0, .int .i64 0, .int .i64 0, .int .i64 0, .int .i64 0] 31)) rfl rfl (by rfl) (by first | (go_simp; done) | (go_simp; with_reducible rfl)) (fun U => U.heap[w.heap.size]? = some (.cells #[.int .i64 t.ti, .int .i64 t.au, .int .i64 t.rl, .int .i64 t.mx, .slice t.tx.a t.tx.n t.tx.c, .int .i64 t.fl, .slice t.pr.a t.pr.n t.pr.c, .slice t.gl.a t.gl.n t.gl.c, .slice (some ⟨bb, oo, none⟩) t.th.n t.th.c, .slice t.ac.a t.ac.n t.ac.c, .slice t.de.a t.de.n t.de.c, .slice t.fu.a t.fu.n t.fu.c, .slice t.da.a t.da.n t.da.c, .slice t.pm.a t.pm.n t.pm.c, .slice t.lo.a t.lo.n t.lo.c] 28 (0, 0))) (fun _ h => h) hz.na.tab ?_
      simp only [List.setIfInBounds_toArray, List.set_cons_zero, List.set_cons_succ]
      have HZ2 := Lib.hid hz
      clear hz HZ hS
      have HZ := HZ2
      clear HZ2
      have hS := HZ.out.na.tab
      exact use key311 (by kernel_rfl) ⟨_, _, _, _, _, _, rfl, hne2, HZ.out⟩
    refine share (f := 3) (lf := #[true, true, true, true, true, true, true, false, true, true, true, false, true, false]) (fun V ts => ∃ (b g0 g6 : Nat) (A0 : Option Addr) (m0 c0 : Nat), ts = #[.agg #[.int .i64 t.ti, .int .i64 t.au, .int .i64 t.rl, .int .i64 t.mx, .slice t.tx.a t.tx.n t.tx.c, .int .i64 t.fl, .slice t.pr.a t.pr.n t.pr.c, .slice t.gl.a t.gl.n t.gl.c, .slice (some ⟨bb, oo, none⟩) t.th.n t.th.c, .slice t.ac.a t.ac.n t.ac.c, .slice t.de.a t.de.n t.de.c, .slice t.fu.a t.fu.n t.fu.c, .slice t.da.a t.da.n t.da.c, .slice t.pm.a t.pm.n t.pm.c, .slice t.lo.a t.lo.n t.lo.c], .pointer (some ⟨w.heap.size, 0, none⟩), .pointer (some ⟨w.heap.size + 1, 0, none⟩), .pointer (some ⟨b, 0, none⟩), undef, undef, undef, undef, .slice (some ⟨g0, 0, none⟩) 0 0, .pointer (some ⟨w.heap.size, 7, none⟩), .slice t.gl.a t.gl.n t.gl.c, .slice A0 m0 c0, .pointer (some ⟨w.heap.size, 12, none⟩), .slice t.da.a t.da.n t.da.c, .int .i64 (t.da.n : Int), undef, .pointer (some ⟨w.heap.size, 2, none⟩), .int .i64 t.rl, .int .u64 (fr t.rl), undef, undef, undef, undef, undef, undef, undef, undef, undef, undef, undef, undef, undef, undef, undef, undef, undef, undef, undef, undef, undef, undef, undef, undef, undef, undef, undef, undef, undef, undef, undef, undef, undef, undef, undef, undef, undef, undef, undef, undef, undef, undef, undef, undef, undef, undef, undef, undef, undef, undef, undef, undef, undef, undef, undef, undef, undef, undef, undef, undef, undef, undef, undef, undef, undef, undef] ∧ b ≠ w.heap.size + 1 ∧ Nz w #[.int .i64 t.ti, .int .i64 t.au, .int .i64 t.rl, .int .i64 t.mx, .slice t.tx.a t.tx.n t.tx.c, .int .i64 t.fl, .slice t.pr.a t.pr.n t.pr.c, .slice t.gl.a t.gl.n t.gl.c, .slice (some ⟨bb, oo, none⟩) t.th.n t.th.c, .slice t.ac.a t.ac.n t.ac.c, .slice t.de.a t.de.n t.de.c, .slice t.fu.a t.fu.n t.fu.c, .slice t.da.a t.da.n t.da.c, .slice t.pm.a t.pm.n t.pm.c, .slice t.lo.a t.lo.n t.lo.c] #[.slice none 0 0, .slice none 0 0, .slice none 0 0, .slice none 0 0, .slice none 0 0, .slice none 0 0, .slice none 0 0, .int .u64 0, .int .i64 0, .int .i64 0, .int .i64 0, .int .i64 0, .int .i64 0] 28 31 b [(.slice A0 m0 c0, t.gl.l), (.slice none 0 0, []), (.slice none 0 0, []), (.slice none 0 0, []), (.slice none 0 0, []), (.slice none 0 0, []), (.slice none 0 0, [])] V) ?_ fun key301 => ?_
    · clear HZ hS
      rintro V ts ⟨b, g0, g6, A0, m0, c0, rfl, hne, hz⟩
      have HZ := Lib.hid hz
      clear hz
      have hS : (fun U => U.heap[w.heap.size]? = some (.cells #[.int .i64 t.ti, .int .i64 t.au, .int .i64 t.rl, .int .i64 t.mx, .slice t.tx.a t.tx.n t.tx.c, .int .i64 t.fl, .slice t.pr.a t.pr.n t.pr.c, .slice t.gl.a t.gl.n t.gl.c, .slice (some ⟨bb, oo, none⟩) t.th.n t.th.c, .slice t.ac.a t.ac.n t.ac.c, .slice t.de.a t.de.n t.de.c, .slice t.fu.a t.fu.n t.fu.c, .slice t.da.a t.da.n t.da.c, .slice t.pm.a t.pm.n t.pm.c, .slice t.lo.a t.lo.n t.lo.c] 28 (0, 0))) V := HZ.out.na.tab
      refine Rg.one (i := 7) (by kernel_rfl) ?_
      obtain ⟨V2, hrun, O, hB⟩ := run_make V (w.heap.size + 2) t.da.n hD HZ.out.na.lt
      have hz := HZ.out.made (a := [_, _, _, _, _, _]) hB O rfl
      refine Rg.eff (i := 7) (t := 15) (v := (.slice (some ⟨V.heap.size, 0, none⟩) t.da.n t.da.n)) (w1 := V2) rfl rfl (by rfl) (by first | (go_simp; done) | (go_simp; with_reducible rfl)) (fun U => U.heap[w.heap.size]? = some (.cells #[.int .i64 t.ti, .int .i64 t.au, .int .i64 t.rl, .int .i64 t.mx, .slice t.tx.a t.tx.n t.tx.c, .int .i64 t.fl, .slice t.pr.a t.pr.n t.pr.c, .slice t.gl.a t.gl.n t.gl.c, .slice (some ⟨bb, oo, none⟩) t.th.n t.th.c, .slice t.ac.a t.ac.n t.ac.c, .slice t.de.a t.de.n t.de.c, .slice t.fu.a t.fu.n t.fu.c, .slice t.da.a t.da.n t.da.c, .slice t.pm.a t.pm.n t.pm.c, .slice t.lo.a t.lo.n t.lo.c] 28 (0, 0))) (fun _ h => h) hz.na.tab ?_
      simp only [List.setIfInBounds_toArray, List.set_cons_zero, List.set_cons_succ]
      clear hrun O hB
      have HZ2 := Lib.hid hz
      clear hz HZ hS
      have HZ := HZ2
      clear HZ2
      have hS := HZ.out.na.tab
      refine Rg.take (i := 11) (t := 19) rfl rfl (by kernel_rfl) (by kernel_rfl) (by kernel_rfl) (fun _ _ _ h => h) (by rfl) (by intro w0 hSw; first | (go_simp; done) | (go_simp; with_reducible rfl)) (by assumption) ?_
      simp only [List.setIfInBounds_toArray, List.set_cons_zero, List.set_cons_succ]
      exact use key311 (by kernel_rfl) ⟨_, _, _, _, _, _, rfl, hne, HZ.out⟩
    refine share (f := 4) (lf := #[true, true, true, true, true, true, true, false, true, true, true, false, false, false]) (fun V ts => ∃ (b g0 g6 : Nat) (A0 : Option Addr) (m0 c0 : Nat), ts = #[.agg #[.int .i64 t.ti, .int .i64 t.au, .int .i64 t.rl, .int .i64 t.mx, .slice t.tx.a t.tx.n t.tx.c, .int .i64 t.fl, .slice t.pr.a t.pr.n t.pr.c, .slice t.gl.a t.gl.n t.gl.c, .slice (some ⟨bb, oo, none⟩) t.th.n t.th.c, .slice t.ac.a t.ac.n t.ac.c, .slice t.de.a t.de.n t.de.c, .slice t.fu.a t.fu.n t.fu.c, .slice t.da.a t.da.n t.da.c, .slice t.pm.a t.pm.n t.pm.c, .slice t.lo.a t.lo.n t.lo.c], .pointer (some ⟨w.heap.size, 0, none⟩), .pointer (some ⟨w.heap.size + 1, 0, none⟩), undef, undef, undef, undef, undef, .slice (some ⟨g0, 0, none⟩) 0 0, .pointer (some ⟨w.heap.size, 7, none⟩), .slice t.gl.a t.gl.n t.gl.c, .slice A0 m0 c0, .pointer (some ⟨w.heap.size, 12, none⟩), .slice t.da.a t.da.n t.da.c, .int .i64 (t.da.n : Int), undef, .pointer (some ⟨w.heap.size, 2, none⟩), .int .i64 t.rl, .int .u64 (fr t.rl), undef, undef, undef, undef, undef, undef, undef, undef, undef, undef, undef, undef, undef, undef, undef, undef, undef, undef, undef, undef, undef, undef, undef, undef, undef, undef, undef, undef, undef, undef, undef, undef, undef, undef, undef, undef, undef, undef, undef, undef, undef, undef, undef, undef, undef, undef, undef, undef, undef, undef, undef, undef, undef, undef, undef, undef, undef, undef, undef, undef, undef, undef, undef, undef, undef, undef] ∧ True ∧ Nz w #[.int .i64 t.ti, .int .i64 t.au, .int .i64 t.rl, .int .i64 t.mx, .slice t.tx.a t.tx.n t.tx.c, .int .i64 t.fl, .slice t.pr.a t.pr.n t.pr.c, .slice t.gl.a t.gl.n t.gl.c, .slice (some ⟨bb, oo, none⟩) t.th.n t.th.c, .slice t.ac.a t.ac.n t.ac.c, .slice t.de.a t.de.n t.de.c, .slice t.fu.a t.fu.n t.fu.c, .slice t.da.a t.da.n t.da.c, .slice t.pm.a t.pm.n t.pm.c, .slice t.lo.a t.lo.n t.lo.c] #[.slice none 0 0, .slice none 0 0, .slice none 0 0, .slice none 0 0, .slice none 0 0, .slice none 0 0, .slice none 0 0, .int .u64 0, .int .i64 0, .int .i64 0, .int .i64 0, .int .i64 0, .int .i64 0] 28 31 b [(.slice A0 m0 c0, t.gl.l), (.slice none 0 0, []), (.slice none 0 0, []), (.slice none 0 0, []), (.slice none 0 0, []), (.slice none 0 0, []), (.slice none 0 0, [])] V) ?_ fun key300 => ?_
    · clear HZ hS
      rintro V ts ⟨b, g0, g6, A0, m0, c0, rfl, hne, hz⟩
      have HZ := Lib.hid hz
      clear hz
      have hS : (fun U => U.heap[w.heap.size]? = some (.cells #[.int .i64 t.ti, .int .i64 t.au, .int .i64 t.rl, .int .i64 t.mx, .slice t.tx.a t.tx.n t.tx.c, .int .i64 t.fl, .slice t.pr.a t.pr.n t.pr.c, .slice t.gl.a t.gl.n t.gl.c, .slice (some ⟨bb, oo, none⟩) t.th.n t.th.c, .slice t.ac.a t.ac.n t.ac.c, .slice t.de.a t.de.n t.de.c, .slice t.fu.a t.fu.n t.fu.c, .slice t.da.a t.da.n t.da.c, .slice t.pm.a t.pm.n t.pm.c, .slice t.lo.a t.lo.n t.lo.c] 28 (0, 0))) V := HZ.out.na.tab
      refine Rg.two (i := 7) (j := 12) (by kernel_rfl) ?_ ?_
      · obtain ⟨V2, hrun, O, hB⟩ := run_make V (w.heap.size + 2) t.da.n hD HZ.out.na.lt
        have hz := HZ.out.made (a := [_, _, _, _, _, _]) hB O rfl
        refine Rg.eff (i := 7) (t := 15) (v := (.slice (some ⟨V.heap.size, 0, none⟩) t.da.n t.da.n)) (w1 := V2) rfl rfl (by rfl) (by first | (go_simp; done) | (go_simp; with_reducible rfl)) (fun U => U.heap[w.heap.size]? = some (.cells #[.int .i64 t.ti, .int .i64 t.au, .int .i64 t.rl, .int .i64 t.mx, .slice t.tx.a t.tx.n t.tx.c, .int .i64 t.fl, .slice t.pr.a t.pr.n t.pr.c, .slice t.gl.a t.gl.n t.gl.c, .slice (some ⟨bb, oo, none⟩) t.th.n t.th.c, .slice t.ac.a t.ac.n t.ac.c, .slice t.de.a t.de.n t.de.c, .slice t.fu.a t.fu.n t.fu.c, .slice t.da.a t.da.n t.da.c, .slice t.pm.a t.pm.n t.pm.c, .slice t.lo.a t.lo.n t.lo.c] 28 (0, 0))) (fun _ h => h) hz.na.tab ?_
        simp only [List.setIfInBounds_toArray, List.set_cons_zero, List.set_cons_succ]
        clear hrun O hB
        have HZ2 := Lib.hid hz
        clear hz HZ hS
        have HZ := HZ2
        clear HZ2
        have hS := HZ.out.na.tab
        refine Rg.take (i := 11) (t := 19) rfl rfl (by kernel_rfl) (by kernel_rfl) (by kernel_rfl) (fun _ _ _ h => h) (by rfl) (by intro w0 hSw; first | (go_simp; done) | (go_simp; with_reducible rfl)) (by assumption) ?_
        simp only [List.setIfInBounds_toArray, List.set_cons_zero, List.set_cons_succ]
        exact use key310 (by kernel_rfl) ⟨_, _, _, _, _, _, rfl, trivial, HZ.out⟩
      · have hz := HZ.out.alloc
        have hne2 : V.heap.size ≠ w.heap.size + 1 := by have h := HZ.out.na.lt; clear hz HZ hS; omega
        refine Rg.eff (i := 12) (t := 3) (v := .pointer (some ⟨V.heap.size, 0, none⟩)) (w1 := V.alloc (.cells #[.slice none 0 0, .slice none 0 0, .slice none 0 0, .slice none 0 0, .slice none 0 0, .slice none 0 0, .slice none 0 0, .int .u64 0, .int .i64 0, .int .i64 0, .int .i64 0, .int .i64 0, .int .i64 0] 31)) rfl rfl (by rfl) (by first | (go_simp; done) | (go_simp; with_reducible rfl)) (fun U => U.heap[w.heap.size]? = some (.cells #[.int .i64 t.ti, .int .i64 t.au, .int .i64 t.rl, .int .i64 t.mx, .slice t.tx.a t.tx.n t.tx.c, .int .i64 t.fl, .slice t.pr.a t.pr.n t.pr.c, .slice t.gl.a t.gl.n t.gl.c, .slice (some ⟨bb, oo, none⟩) t.th.n t.th.c, .slice t.ac.a t.ac.n t.ac.c, .slice t.de.a t.de.n t.de.c, .slice t.fu.a t.fu.n t.fu.c, .slice t.da.a t.da.n t.da.c, .slice t.pm.a t.pm.n t.pm.c, .slice t.lo.a t.lo.n t.lo.c] 28 (0, 0))) (fun _ h => h) hz.na.tab ?_
        simp only [List.setIfInBounds_toArray, List.set_cons_zero, List.set_cons_succ]
        have HZ2 := Lib.hid hz
        clear hz HZ hS
        have HZ := HZ2
        clear HZ2
        have hS := HZ.out.na.tab
        exact use key301 (by kernel_rfl) ⟨_, _, 0, _, _, _, rfl, hne2, HZ.out⟩
    refine share (f := 3) (lf := #[true, true, true, true, true, true, true, true, true, true, false, false, true, false]) (fun V ts => ∃ (b g0 g6 : Nat) (A0 : Option Addr) (m0 c0 : Nat), ts = #[.agg #[.int .i64 t.ti, .int .i64 t.au, .int .i64 t.rl, .int .i64 t.mx, .slice t.tx.a t.tx.n t.tx.c, .int .i64 t.fl, .slice t.pr.a t.pr.n t.pr.c, .slice t.gl.a t.gl.n t.gl.c, .slice (some ⟨bb, oo, none⟩) t.th.n t.th.c, .slice t.ac.a t.ac.n t.ac.c, .slice t.de.a t.de.n t.de.c, .slice t.fu.a t.fu.n t.fu.c, .slice t.da.a t.da.n t.da.c, .slice t.pm.a t.pm.n t.pm.c, .slice t.lo.a t.lo.n t.lo.c], .pointer (some ⟨w.heap.size, 0, none⟩), .pointer (some ⟨w.heap.size + 1, 0, none⟩), .pointer (some ⟨b, 0, none⟩), undef, undef, undef, undef, .slice (some ⟨g0, 0, none⟩) 0 0, .pointer (some ⟨w.heap.size, 7, none⟩), .slice t.gl.a t.gl.n t.gl.c, .slice A0 m0 c0, .pointer (some ⟨w.heap.size, 12, none⟩), .slice t.da.a t.da.n t.da.c, .int .i64 (t.da.n : Int), .slice (some ⟨g6, 0, none⟩) t.da.n t.da.n, .pointer (some ⟨w.heap.size, 2, none⟩), .int .i64 t.rl, undef, undef, undef, undef, undef, undef, undef, undef, undef, undef, undef, undef, undef, undef, undef, undef, undef, undef, undef, undef, undef, undef, undef, undef, undef, undef, undef, undef, undef, undef, undef, undef, undef, undef, undef, undef, undef, undef, undef, undef, undef, undef, undef, undef, undef, undef, undef, undef, undef, undef, undef, undef, undef, undef, undef, undef, undef, undef, undef, undef, undef, undef, undef, undef, undef, undef, undef] ∧ b ≠ w.heap.size + 1 ∧ Nz w #[.int .i64 t.ti, .int .i64 t.au, .int .i64 t.rl, .int .i64 t.mx, .slice t.tx.a t.tx.n t.tx.c, .int .i64 t.fl, .slice t.pr.a t.pr.n t.pr.c, .slice t.gl.a t.gl.n t.gl.c, .slice (some ⟨bb, oo, none⟩) t.th.n t.th.c, .slice t.ac.a t.ac.n t.ac.c, .slice t.de.a t.de.n t.de.c, .slice t.fu.a t.fu.n t.fu.c, .slice t.da.a t.da.n t.da.c, .slice t.pm.a t.pm.n t.pm.c, .slice t.lo.a t.lo.n t.lo.c] #[.slice none 0 0, .slice none 0 0, .slice none 0 0, .slice none 0 0, .slice none 0 0, .slice none 0 0, .slice none 0 0, .int .u64 0, .int .i64 0, .int .i64 0, .int .i64 0, .int .i64 0, .int .i64 0] 28 31 b [(.slice A0 m0 c0, t.gl.l), (.slice none 0 0, []), (.slice none 0 0, []), (.slice none 0 0, []), (.slice none 0 0, []), (.slice none 0 0, []), (.slice (some ⟨g6, 0, none⟩) t.da.n t.da.n, List.replicate t.da.n 0)] V) ?_ fun key211 => ?_
    · clear HZ hS
      rintro V ts ⟨b, g0, g6, A0, m0, c0, rfl, hne, hz⟩
      have HZ := Lib.hid hz
      clear hz
      have hS : (fun U => U.heap[w.heap.size]? = some (.cells #[.int .i64 t.ti, .int .i64 t.au, .int .i64 t.rl, .int .i64 t.mx, .slice t.tx.a t.tx.n t.tx.c, .int .i64 t.fl, .slice t.pr.a t.pr.n t.pr.c, .slice t.gl.a t.gl.n t.gl.c, .slice (some ⟨bb, oo, none⟩) t.th.n t.th.c, .slice t.ac.a t.ac.n t.ac.c, .slice t.de.a t.de.n t.de.c, .slice t.fu.a t.fu.n t.fu.c, .slice t.da.a t.da.n t.da.c, .slice t.pm.a t.pm.n t.pm.c, .slice t.lo.a t.lo.n t.lo.c] 28 (0, 0))) V := HZ.out.na.tab
      refine Rg.one (i := 10) (by kernel_rfl) ?_
      refine Rg.call (i := 10) (t := 18) rfl rfl (by rfl) (by go_simp; exact ⟨rfl, rfl⟩) ?_
      refine (from_r _ _).mono ?_
      rintro e w1 ⟨rfl, rfl⟩
      refine ⟨_, rfl, (fun U => U.heap[w.heap.size]? = some (.cells #[.int .i64 t.ti, .int .i64 t.au, .int .i64 t.rl, .int .i64 t.mx, .slice t.tx.a t.tx.n t.tx.c, .int .i64 t.fl, .slice t.pr.a t.pr.n t.pr.c, .slice t.gl.a t.gl.n t.gl.c, .slice (some ⟨bb, oo, none⟩) t.th.n t.th.c, .slice t.ac.a t.ac.n t.ac.c, .slice t.de.a t.de.n t.de.c, .slice t.fu.a t.fu.n t.fu.c, .slice t.da.a t.da.n t.da.c, .slice t.pm.a t.pm.n t.pm.c, .slice t.lo.a t.lo.n t.lo.c] 28 (0, 0))), fun _ h => h, hS, ?_⟩
      simp only [List.setIfInBounds_toArray, List.set_cons_zero, List.set_cons_succ]
      refine Rg.take (i := 11) (t := 19) rfl rfl (by kernel_rfl) (by kernel_rfl) (by kernel_rfl) (fun _ _ _ h => h) (by rfl) (by intro w0 hSw; first | (go_simp; done) | (go_simp; with_reducible rfl)) (by assumption) ?_
      simp only [List.setIfInBounds_toArray, List.set_cons_zero, List.set_cons_succ]
      exact use key311 (by kernel_rfl) ⟨_, _, _, _, _, _, rfl, hne, HZ.out⟩
    refine share (f := 4) (lf := #[true, true, true, true, true, true, true, true, true, true, false, false, false, false]) (fun V ts => ∃ (b g0 g6 : Nat) (A0 : Option Addr) (m0 c0 : Nat), ts = #[.agg #[.int .i64 t.ti, .int .i64 t.au, .int .i64 t.rl, .int .i64 t.mx, .slice t.tx.a t.tx.n t.tx.c, .int .i64 t.fl, .slice t.pr.a t.pr.n t.pr.c, .slice t.gl.a t.gl.n t.gl.c, .slice (some ⟨bb, oo, none⟩) t.th.n t.th.c, .slice t.ac.a t.ac.n t.ac.c, .slice t.de.a t.de.n t.de.c, .slice t.fu.a t.fu.n t.fu.c, .slice t.da.a t.da.n t.da.c, .slice t.pm.a t.pm.n t.pm.c, .slice t.lo.a t.lo.n t.lo.c], .pointer (some ⟨w.heap.size, 0, none⟩), .pointer (some ⟨w.heap.size + 1, 0, none⟩), undef, undef, undef, undef, undef, .slice (some ⟨g0, 0, none⟩) 0 0, .pointer (some ⟨w.heap.size, 7, none⟩), .slice t.gl.a t.gl.n t.gl.c, .slice A0 m0 c0, .pointer (some ⟨w.heap.size, 12, none⟩), .slice t.da.a t.da.n t.da.c, .int .i64 (t.da.n : Int), .slice (some ⟨g6, 0, none⟩) t.da.n t.da.n, .pointer (some ⟨w.heap.size, 2, none⟩), .int .i64 t.rl, undef, undef, undef, undef, undef, undef, undef, undef, undef, undef, undef, undef, undef, undef, undef, undef, undef, undef, undef, undef, undef, undef, undef, undef, undef, undef, undef, undef, undef, undef, undef, undef, undef, undef, undef, undef, undef, undef, undef, undef, undef, undef, undef, undef, undef, undef, undef, undef, undef, undef, undef, undef, undef, undef, undef, undef, undef, undef, undef, undef, undef, undef, undef, undef, undef, undef, undef] ∧ True ∧ Nz w #[.int .i64 t.ti, .int .i64 t.au, .int .i64 t.rl, .int .i64 t.mx, .slice t.tx.a t.tx.n t.tx.c, .int .i64 t.fl, .slice t.pr.a t.pr.n t.pr.c, .slice t.gl.a t.gl.n t.gl.c, .slice (some ⟨bb, oo, none⟩) t.th.n t.th.c, .slice t.ac.a t.ac.n t.ac.c, .slice t.de.a t.de.n t.de.c, .slice t.fu.a t.fu.n t.fu.c, .slice t.da.a t.da.n t.da.c, .slice t.pm.a t.pm.n t.pm.c, .slice t.lo.a t.lo.n t.lo.c] #[.slice none 0 0, .slice none 0 0, .slice none 0 0, .slice none 0 0, .slice none 0 0, .slice none 0 0, .slice none 0 0, .int .u64 0, .int .i64 0, .int .i64 0, .int .i64 0, .int .i64 0, .int .i64 0] 28 31 b [(.slice A0 m0 c0, t.gl.l), (.slice none 0 0, []), (.slice none 0 0, []), (.slice none 0 0, []), (.slice none 0 0, []), (.slice none 0 0, []), (.slice (some ⟨g6, 0, none⟩) t.da.n t.da.n, List.replicate t.da.n 0)] V) ?_ fun key210 => ?_
    · clear HZ hS
      rintro V ts ⟨b, g0, g6, A0, m0, c0, rfl, hne, hz⟩
      have HZ := Lib.hid hz
      clear hz
      have hS : (fun U => U.heap[w.heap.size]? = some (.cells #[.int .i64 t.ti, .int .i64 t.au, .int .i64 t.rl, .int .i64 t.mx, .slice t.tx.a t.tx.n t.tx.c, .int .i64 t.fl, .slice t.pr.a t.pr.n t.pr.c, .slice t.gl.a t.gl.n t.gl.c, .slice (some ⟨bb, oo, none⟩) t.th.n t.th.c, .slice t.ac.a t.ac.n t.ac.c, .slice t.de.a t.de.n t.de.c, .slice t.fu.a t.fu.n t.fu.c, .slice t.da.a t.da.n t.da.c, .slice t.pm.a t.pm.n t.pm.c, .slice t.lo.a t.lo.n t.lo.c] 28 (0, 0))) V := HZ.out.na.tab
      refine Rg.two (i := 10) (j := 12) (by kernel_rfl) ?_ ?_
      · refine Rg.call (i := 10) (t := 18) rfl rfl (by rfl) (by go_simp; exact ⟨rfl, rfl⟩) ?_
        refine (from_r _ _).mono ?_
        rintro e w1 ⟨rfl, rfl⟩
        refine ⟨_, rfl, (fun U => U.heap[w.heap.size]? = some (.cells #[.int .i64 t.ti, .int .i64 t.au, .int .i64 t.rl, .int .i64 t.mx, .slice t.tx.a t.tx.n t.tx.c, .int .i64 t.fl, .slice t.pr.a t.pr.n t.pr.c, .slice t.gl.a t.gl.n t.gl.c, .slice (some ⟨bb, oo, none⟩) t.th.n t.th.c, .slice t.ac.a t.ac.n t.ac.c, .slice t.de.a t.de.n t.de.c, .slice t.fu.a t.fu.n t.fu.c, .slice t.da.a t.da.n t.da.c, .slice t.pm.a t.pm.n t.pm.c, .slice t.lo.a t.lo.n t.lo.c] 28 (0, 0))), fun _ h => h, hS, ?_⟩
        simp only [List.setIfInBounds_toArray, List.set_cons_zero, List.set_cons_succ]
        refine Rg.take (i := 11) (t := 19) rfl rfl (by kernel_rfl) (by kernel_rfl) (by kernel_rfl) (fun _ _ _ h => h) (by rfl) (by intro w0 hSw; first | (go_simp; done) | (go_simp; with_reducible rfl)) (by assumption) ?_
        simp only [List.setIfInBounds_toArray, List.set_cons_zero, List.set_cons_succ]
        exact use key310 (by kernel_rfl) ⟨_, _, _, _, _, _, rfl, trivial, HZ.out⟩
      · have hz := HZ.out.alloc
        have hne2 : V.heap.size ≠ w.heap.size + 1 := by have h := HZ.out.na.lt; clear hz HZ hS; omega
        refine Rg.eff (i := 12) (t := 3) (v := .pointer (some ⟨V.heap.size, 0, none⟩)) (w1 := V.alloc (.cells #[.slice none 0 0, .slice none 0 0, .slice none 0 0, .slice none 0 0, .slice none 0 0, .slice none 0 0, .slice none 0 0, .int .u64 0, .int .i64 0, .int .i64 0, .int .i64 0, .int .i64 0, .int .i64 0] 31)) rfl rfl (by rfl) (by first | (go_simp; done) | (go_simp; with_reducible rfl)) (fun U => U.heap[w.heap.size]? = some (.cells #[.int .i64 t.ti, .int .i64 t.au, .int .i64 t.rl, .int .i64 t.mx, .slice t.tx.a t.tx.n t.tx.c, .int .i64 t.fl, .slice t.pr.a t.pr.n t.pr.c, .slice t.gl.a t.gl.n t.gl.c, .slice (some ⟨bb, oo, none⟩) t.th.n t.th.c, .slice t.ac.a t.ac.n t.ac.c, .slice t.de.a t.de.n t.de.c, .slice t.fu.a t.fu.n t.fu.c, .slice t.da.a t.da.n t.da.c, .slice t.pm.a t.pm.n t.pm.c, .slice t.lo.a t.lo.n t.lo.c] 28 (0, 0))) (fun _ h => h) hz.na.tab ?_
        simp only [List.setIfInBounds_toArray, List.set_cons_zero, List.set_cons_succ]
        have HZ2 := Lib.hid hz
        clear hz HZ hS
        have HZ := HZ2
        clear HZ2
        have hS := HZ.out.na.tab
        exact use key211 (by kernel_rfl) ⟨_, _, _, _, _, _, rfl, hne2, HZ.out⟩
    refine share (f := 4) (lf := #[true, true, true, true, true, true, true, false, true, true, false, false, true, false]) (fun V ts => ∃ (b g0 g6 : Nat) (A0 : Option Addr) (m0 c0 : Nat), ts = #[.agg #[.int .i64 t.ti, .int .i64 t.au, .int .i64 t.rl, .int .i64 t.mx, .slice t.tx.a t.tx.n t.tx.c, .int .i64 t.fl, .slice t.pr.a t.pr.n t.pr.c, .slice t.gl.a t.gl.n t.gl.c, .slice (some ⟨bb, oo, none⟩) t.th.n t.th.c, .slice t.ac.a t.ac.n t.ac.c, .slice t.de.a t.de.n t.de.c, .slice t.fu.a t.fu.n t.fu.c, .slice t.da.a t.da.n t.da.c, .slice t.pm.a t.pm.n t.pm.c, .slice t.lo.a t.lo.n t.lo.c], .pointer (some ⟨w.heap.size, 0, none⟩), .pointer (some ⟨w.heap.size + 1, 0, none⟩), .pointer (some ⟨b, 0, none⟩), undef, undef, undef, undef, .slice (some ⟨g0, 0, none⟩) 0 0, .pointer (some ⟨w.heap.size, 7, none⟩), .slice t.gl.a t.gl.n t.gl.c, .slice A0 m0 c0, .pointer (some ⟨w.heap.size, 12, none⟩), .slice t.da.a t.da.n t.da.c, .int .i64 (t.da.n : Int), undef, .pointer (some ⟨w.heap.size, 2, none⟩), .int .i64 t.rl, undef, undef, undef, undef, undef, undef, undef, undef, undef, undef, undef, undef, undef, undef, undef, undef, undef, undef, undef, undef, undef, undef, undef, undef, undef, undef, undef, undef, undef, undef, undef, undef, undef, undef, undef, undef, undef, undef, undef, undef, undef, undef, undef, undef, undef, undef, undef, undef, undef, undef, undef, undef, undef, undef, undef, undef, undef, undef, undef, undef, undef, undef, undef, undef, undef, undef, undef] ∧ b ≠ w.heap.size + 1 ∧ Nz w #[.int .i64 t.ti, .int .i64 t.au, .int .i64 t.rl, .int .i64 t.mx, .slice t.tx.a t.tx.n t.tx.c, .int .i64 t.fl, .slice t.pr.a t.pr.n t.pr.c, .slice t.gl.a t.gl.n t.gl.c, .slice (some ⟨bb, oo, none⟩) t.th.n t.th.c, .slice t.ac.a t.ac.n t.ac.c, .slice t.de.a t.de.n t.de.c, .slice t.fu.a t.fu.n t.fu.c, .slice t.da.a t.da.n t.da.c, .slice t.pm.a t.pm.n t.pm.c, .slice t.lo.a t.lo.n t.lo.c] #[.slice none 0 0, .slice none 0 0, .slice none 0 0, .slice none 0 0, .slice none 0 0, .slice none 0 0, .slice none 0 0, .int .u64 0, .int .i64 0, .int .i64 0, .int .i64 0, .int .i64 0, .int .i64 0] 28 31 b [(.slice A0 m0 c0, t.gl.l), (.slice none 0 0, []), (.slice none 0 0, []), (.slice none 0 0, []), (.slice none 0 0, []), (.slice none 0 0, []), (.slice none 0 0, [])] V) ?_ fun key201 => ?_
    · clear HZ hS
      rintro V ts ⟨b, g0, g6, A0, m0, c0, rfl, hne, hz⟩
      have HZ := Lib.hid hz
      clear hz
      have hS : (fun U => U.heap[w.heap.size]? = some (.cells #[.int .i64 t.ti, .int .i64 t.au, .int .i64 t.rl, .int .i64 t.mx, .slice t.tx.a t.tx.n t.tx.c, .int .i64 t.fl, .slice t.pr.a t.pr.n t.pr.c, .slice t.gl.a t.gl.n t.gl.c, .slice (some ⟨bb, oo, none⟩) t.th.n t.th.c, .slice t.ac.a t.ac.n t.ac.c, .slice t.de.a t.de.n t.de.c, .slice t.fu.a t.fu.n t.fu.c, .slice t.da.a t.da.n t.da.c, .slice t.pm.a t.pm.n t.pm.c, .slice t.lo.a t.lo.n t.lo.c] 28 (0, 0))) V := HZ.out.na.tab
      refine Rg.two (i := 7) (j := 10) (by kernel_rfl) ?_ ?_
      · obtain ⟨V2, hrun, O, hB⟩ := run_make V (w.heap.size + 2) t.da.n hD HZ.out.na.lt
        have hz := HZ.out.made (a := [_, _, _, _, _, _]) hB O rfl
        refine Rg.eff (i := 7) (t := 15) (v := (.slice (some ⟨V.heap.size, 0, none⟩) t.da.n t.da.n)) (w1 := V2) rfl rfl (by rfl) (by first | (go_simp; done) | (go_simp; with_reducible rfl)) (fun U => U.heap[w.heap.size]? = some (.cells #[.int .i64 t.ti, .int .i64 t.au, .int .i64 t.rl, .int .i64 t.mx, .slice t.tx.a t.tx.n t.tx.c, .int .i64 t.fl, .slice t.pr.a t.pr.n t.pr.c, .slice t.gl.a t.gl.n t.gl.c, .slice (some ⟨bb, oo, none⟩) t.th.n t.th.c, .slice t.ac.a t.ac.n t.ac.c, .slice t.de.a t.de.n t.de.c, .slice t.fu.a t.fu.n t.fu.c, .slice t.da.a t.da.n t.da.c, .slice t.pm.a t.pm.n t.pm.c, .slice t.lo.a t.lo.n t.lo.c] 28 (0, 0))) (fun _ h => h) hz.na.tab ?_
        simp only [List.setIfInBounds_toArray, List.set_cons_zero, List.set_cons_succ]
        clear hrun O hB
        have HZ2 := Lib.hid hz
        clear hz HZ hS
        have HZ := HZ2
        clear HZ2
        have hS := HZ.out.na.tab
        exact use key211 (by kernel_rfl) ⟨_, _, _, _, _, _, rfl, hne, HZ.out⟩
      · refine Rg.call (i := 10) (t := 18) rfl rfl (by rfl) (by go_simp; exact ⟨rfl, rfl⟩) ?_
        refine (from_r _ _).mono ?_
        rintro e w1 ⟨rfl, rfl⟩
        refine ⟨_, rfl, (fun U => U.heap[w.heap.size]? = some (.cells #[.int .i64 t.ti, .int .i64 t.au, .int .i64 t.rl, .int .i64 t.mx, .slice t.tx.a t.tx.n t.tx.c, .int .i64 t.fl, .slice t.pr.a t.pr.n t.pr.c, .slice t.gl.a t.gl.n t.gl.c, .slice (some ⟨bb, oo, none⟩) t.th.n t.th.c, .slice t.ac.a t.ac.n t.ac.c, .slice t.de.a t.de.n t.de.c, .slice t.fu.a t.fu.n t.fu.c, .slice t.da.a t.da.n t.da.c, .slice t.pm.a t.pm.n t.pm.c, .slice t.lo.a t.lo.n t.lo.c] 28 (0, 0))), fun _ h => h, hS, ?_⟩
        simp only [List.setIfInBounds_toArray, List.set_cons_zero, List.set_cons_succ]
        exact use key301 (by kernel_rfl) ⟨_, _, 0, _, _, _, rfl, hne, HZ.out⟩
    refine share (f := 5) (lf := #[true, true, true, true, true, true, true, false, true, true, false, false, false, false]) (fun V ts => ∃ (b g0 g6 : Nat) (A0 : Option Addr) (m0 c0 : Nat), ts = #[.agg #[.int .i64 t.ti, .int .i64 t.au, .int .i64 t.rl, .int .i64 t.mx, .slice t.tx.a t.tx.n t.tx.c, .int .i64 t.fl, .slice t.pr.a t.pr.n t.pr.c, .slice t.gl.a t.gl.n t.gl.c, .slice (some ⟨bb, oo, none⟩) t.th.n t.th.c, .slice t.ac.a t.ac.n t.ac.c, .slice t.de.a t.de.n t.de.c, .slice t.fu.a t.fu.n t.fu.c, .slice t.da.a t.da.n t.da.c, .slice t.pm.a t.pm.n t.pm.c, .slice t.lo.a t.lo.n t.lo.c], .pointer (some ⟨w.heap.size, 0, none⟩), .pointer (some ⟨w.heap.size + 1, 0, none⟩), undef, undef, undef, undef, undef, .slice (some ⟨g0, 0, none⟩) 0 0, .pointer (some ⟨w.heap.size, 7, none⟩), .slice t.gl.a t.gl.n t.gl.c, .slice A0 m0 c0, .pointer (some ⟨w.heap.size, 12, none⟩), .slice t.da.a t.da.n t.da.c, .int .i64 (t.da.n : Int), undef, .pointer (some ⟨w.heap.size, 2, none⟩), .int .i64 t.rl, undef, undef, undef, undef, undef, undef, undef, undef, undef, undef, undef, undef, undef, undef, undef, undef, undef, undef, undef, undef, undef, undef, undef, undef, undef, undef, undef, undef, undef, undef, undef, undef, undef, undef, undef, undef, undef, undef, undef, undef, undef, undef, undef, undef, undef, undef, undef, undef, undef, undef, undef, undef, undef, undef, undef, undef, undef, undef, undef, undef, undef, undef, undef, undef, undef, undef, undef] ∧ True ∧ Nz w #[.int .i64 t.ti, .int .i64 t.au, .int .i64 t.rl, .int .i64 t.mx, .slice t.tx.a t.tx.n t.tx.c, .int .i64 t.fl, .slice t.pr.a t.pr.n t.pr.c, .slice t.gl.a t.gl.n t.gl.c, .slice (some ⟨bb, oo, none⟩) t.th.n t.th.c, .slice t.ac.a t.ac.n t.ac.c, .slice t.de.a t.de.n t.de.c, .slice t.fu.a t.fu.n t.fu.c, .slice t.da.a t.da.n t.da.c, .slice t.pm.a t.pm.n t.pm.c, .slice t.lo.a t.lo.n t.lo.c] #[.slice none 0 0, .slice none 0 0, .slice none 0 0, .slice none 0 0, .slice none 0 0, .slice none 0 0, .slice none 0 0, .int .u64 0, .int .i64 0, .int .i64 0, .int .i64 0, .int .i64 0, .int .i64 0] 28 31 b [(.slice A0 m0 c0, t.gl.l), (.slice none 0 0, []), (.slice none 0 0, []), (.slice none 0 0, []), (.slice none 0 0, []), (.slice none 0 0, []), (.slice none 0 0, [])] V) ?_ fun key200 => ?_
    · clear HZ hS
      rintro V ts ⟨b, g0, g6, A0, m0, c0, rfl, hne, hz⟩
      have HZ := Lib.hid hz
      clear hz
      have hS : (fun U => U.heap[w.heap.size]? = some (.cells #[.int .i64 t.ti, .int .i64 t.au, .int .i64 t.rl, .int .i64 t.mx, .slice t.tx.a t.tx.n t.tx.c, .int .i64 t.fl, .slice t.pr.a t.pr.n t.pr.c, .slice t.gl.a t.gl.n t.gl.c, .slice (some ⟨bb, oo, none⟩) t.th.n t.th.c, .slice t.ac.a t.ac.n t.ac.c, .slice t.de.a t.de.n t.de.c, .slice t.fu.a t.fu.n t.fu.c, .slice t.da.a t.da.n t.da.c, .slice t.pm.a t.pm.n t.pm.c, .slice t.lo.a t.lo.n t.lo.c] 28 (0, 0))) V := HZ.out.na.tab
      refine three (i := 7) (j := 10) (k := 12) (by kernel_rfl) ?_ ?_ ?_
      · obtain ⟨V2, hrun, O, hB⟩ := run_make V (w.heap.size + 2) t.da.n hD HZ.out.na.lt
        have hz := HZ.out.made (a := [_, _, _, _, _, _]) hB O rfl
        refine Rg.eff (i := 7) (t := 15) (v := (.slice (some ⟨V.heap.size, 0, none⟩) t.da.n t.da.n)) (w1 := V2) rfl rfl (by rfl) (by first | (go_simp; done) | (go_simp; with_reducible rfl)) (fun U => U.heap[w.heap.size]? = some (.cells #[.int .i64 t.ti, .int .i64 t.au, .int .i64 t.rl, .int .i64 t.mx, .slice t.tx.a t.tx.n t.tx.c, .int .i64 t.fl, .slice t.pr.a t.pr.n t.pr.c, .slice t.gl.a t.gl.n t.gl.c, .slice (some ⟨bb, oo, none⟩) t.th.n t.th.c, .slice t.ac.a t.ac.n t.ac.c, .slice t.de.a t.de.n t.de.c, .slice t.fu.a t.fu.n t.fu.c, .slice t.da.a t.da.n t.da.c, .slice t.pm.a t.pm.n t.pm.c, .slice t.lo.a t.lo.n t.lo.c] 28 (0, 0))) (fun _ h => h) hz.na.tab ?_
        simp only [List.setIfInBounds_toArray, List.set_cons_zero, List.set_cons_succ]
        clear hrun O hB
        have HZ2 := Lib.hid hz
        clear hz HZ hS
        have HZ := HZ2
        clear HZ2
        have hS := HZ.out.na.tab
        exact use key210 (by kernel_rfl) ⟨_, _, _, _, _, _, rfl, trivial, HZ.out⟩
      · refine Rg.call (i := 10) (t := 18) rfl rfl (by rfl) (by go_simp; exact ⟨rfl, rfl⟩) ?_
        refine (from_r _ _).mono ?_
        rintro e w1 ⟨rfl, rfl⟩
        refine ⟨_, rfl, (fun U => U.heap[w.heap.size]? = some (.cells #[.int .i64 t.ti, .int .i64 t.au, .int .i64 t.rl, .int .i64 t.mx, .slice t.tx.a t.tx.n t.tx.c, .int .i64 t.fl, .slice t.pr.a t.pr.n t.pr.c, .slice t.gl.a t.gl.n t.gl.c, .slice (some ⟨bb, oo, none⟩) t.th.n t.th.c, .slice t.ac.a t.ac.n t.ac.c, .slice t.de.a t.de.n t.de.c, .slice t.fu.a t.fu.n t.fu.c, .slice t.da.a t.da.n t.da.c, .slice t.pm.a t.pm.n t.pm.c, .slice t.lo.a t.lo.n t.lo.c] 28 (0, 0))), fun _ h => h, hS, ?_⟩
        simp only [List.setIfInBounds_toArray, List.set_cons_zero, List.set_cons_succ]
        exact use key300 (by kernel_rfl) ⟨_, _, 0, _, _, _, rfl, trivial, HZ.out⟩
      · have hz := HZ.out.alloc
        have hne2 : V.heap.size ≠ w.heap.size + 1 := by have h := HZ.out.na.lt; clear hz HZ hS; omega
        refine Rg.eff (i := 12) (t := 3) (v := .pointer (some ⟨V.heap.size, 0, none⟩)) (w1 := V.alloc (.cells #[.slice none 0 0, .slice none 0 0, .slice none 0 0, .slice none 0 0, .slice none 0 0, .slice none 0 0, .slice none 0 0, .int .u64 0, .int .i64 0, .int .i64 0, .int .i64 0, .int .i64 0, .int .i64 0] 31)) rfl rfl (by rfl) (by first | (go_simp; done) | (go_simp; with_reducible rfl)) (fun U => U.heap[w.heap.size]? = some (.cells #[.int .i64 t.ti, .int .i64 t.au, .int .i64 t.rl, .int .i64 t.mx, .slice t.tx.a t.tx.n t.tx.c, .int .i64 t.fl, .slice t.pr.a t.pr.n t.pr.c, .slice t.gl.a t.gl.n t.gl.c, .slice (some ⟨bb, oo, none⟩) t.th.n t.th.c, .slice t.ac.a t.ac.n t.ac.c, .slice t.de.a t.de.n t.de.c, .slice t.fu.a t.fu.n t.fu.c, .slice t.da.a t.da.n t.da.c, .slice t.pm.a t.pm.n t.pm.c, .slice t.lo.a t.lo.n t.lo.c] 28 (0, 0))) (fun _ h => h) hz.na.tab ?_
        simp only [List.setIfInBounds_toArray, List.set_cons_zero, List.set_cons_succ]
        have HZ2 := Lib.hid hz
        clear hz HZ hS
        have HZ := HZ2
        clear HZ2
        have hS := HZ.out.na.tab
        exact use key201 (by kernel_rfl) ⟨_, _, 0, _, _, _, rfl, hne2, HZ.out⟩
    refine share (f := 4) (lf := #[true, true, true, false, true, true, true, true, true, true, false, false, true, false]) (fun V ts => ∃ (b g0 g6 : Nat) (A0 : Option Addr) (m0 c0 : Nat), ts = #[.agg #[.int .i64 t.ti, .int .i64 t.au, .int .i64 t.rl, .int .i64 t.mx, .slice t.tx.a t.tx.n t.tx.c, .int .i64 t.fl, .slice t.pr.a t.pr.n t.pr.c, .slice t.gl.a t.gl.n t.gl.c, .slice (some ⟨bb, oo, none⟩) t.th.n t.th.c, .slice t.ac.a t.ac.n t.ac.c, .slice t.de.a t.de.n t.de.c, .slice t.fu.a t.fu.n t.fu.c, .slice t.da.a t.da.n t.da.c, .slice t.pm.a t.pm.n t.pm.c, .slice t.lo.a t.lo.n t.lo.c], .pointer (some ⟨w.heap.size, 0, none⟩), .pointer (some ⟨w.heap.size + 1, 0, none⟩), .pointer (some ⟨b, 0, none⟩), undef, undef, undef, undef, .slice (some ⟨g0, 0, none⟩) 0 0, .pointer (some ⟨w.heap.size, 7, none⟩), .slice t.gl.a t.gl.n t.gl.c, undef, .pointer (some ⟨w.heap.size, 12, none⟩), .slice t.da.a t.da.n t.da.c, .int .i64 (t.da.n : Int), .slice (some ⟨g6, 0, none⟩) t.da.n t.da.n, .pointer (some ⟨w.heap.size, 2, none⟩), .int .i64 t.rl, undef, undef, undef, undef, undef, undef, undef, undef, undef, undef, undef, undef, undef, undef, undef, undef, undef, undef, undef, undef, undef, undef, undef, undef, undef, undef, undef, undef, undef, undef, undef, undef, undef, undef, undef, undef, undef, undef, undef, undef, undef, undef, undef, undef, undef, undef, undef, undef, undef, undef, undef, undef, undef, undef, undef, undef, undef, undef, undef, undef, undef, undef, undef, undef, undef, undef, undef] ∧ b ≠ w.heap.size + 1 ∧ Nz w #[.int .i64 t.ti, .int .i64 t.au, .int .i64 t.rl, .int .i64 t.mx, .slice t.tx.a t.tx.n t.tx.c, .int .i64 t.fl, .slice t.pr.a t.pr.n t.pr.c, .slice t.gl.a t.gl.n t.gl.c, .slice (some ⟨bb, oo, none⟩) t.th.n t.th.c, .slice t.ac.a t.ac.n t.ac.c, .slice t.de.a t.de.n t.de.c, .slice t.fu.a t.fu.n t.fu.c, .slice t.da.a t.da.n t.da.c, .slice t.pm.a t.pm.n t.pm.c, .slice t.lo.a t.lo.n t.lo.c] #[.slice none 0 0, .slice none 0 0, .slice none 0 0, .slice none 0 0, .slice none 0 0, .slice none 0 0, .slice none 0 0, .int .u64 0, .int .i64 0, .int .i64 0, .int .i64 0, .int .i64 0, .int .i64 0] 28 31 b [(.slice (some ⟨g0, 0, none⟩) 0 0, []), (.slice none 0 0, []), (.slice none 0 0, []), (.slice none 0 0, []), (.slice none 0 0, []), (.slice none 0 0, []), (.slice (some ⟨g6, 0, none⟩) t.da.n t.da.n, List.replicate t.da.n 0)] V) ?_ fun key111 => ?_
    · clear HZ hS
      rintro V ts ⟨b, g0, g6, A0, m0, c0, rfl, hne, hz⟩
      have HZ := Lib.hid hz
      clear hz
      have hS : (fun U => U.heap[w.heap.size]? = some (.cells #[.int .i64 t.ti, .int .i64 t.au, .int .i64 t.rl, .int .i64 t.mx, .slice t.tx.a t.tx.n t.tx.c, .int .i64 t.fl, .slice t.pr.a t.pr.n t.pr.c, .slice t.gl.a t.gl.n t.gl.c, .slice (some ⟨bb, oo, none⟩) t.th.n t.th.c, .slice t.ac.a t.ac.n t.ac.c, .slice t.de.a t.de.n t.de.c, .slice t.fu.a t.fu.n t.fu.c, .slice t.da.a t.da.n t.da.c, .slice t.pm.a t.pm.n t.pm.c, .slice t.lo.a t.lo.n t.lo.c] 28 (0, 0))) V := HZ.out.na.tab
      refine Rg.one (i := 3) (by kernel_rfl) ?_
      obtain ⟨x0, V2, hrun, O, hB, hg, hv⟩ := Sq.run_append elI 23 (HZ.out.na.held.at_ (a := [])) t.gl.a t.gl.n t.gl.c t.gl.l (RG.out.below HZ.out.na.below) hG1 hG2 HZ.out.na.lt
      obtain ⟨A0, c0, hx0, _, _⟩ := O.shape
      generalize (([] : List Int) ++ t.gl.l).length = m0 at hx0
      subst hx0
      rw [List.nil_append] at O
      have hz := HZ.out.put (a := []) hB hg O hv
      refine Rg.eff (i := 3) (t := 11) (v := .slice A0 m0 c0) (w1 := V2) rfl rfl (by rfl) (exec_append _ _ rfl rfl rfl hrun) (fun U => U.heap[w.heap.size]? = some (.cells #[.int .i64 t.ti, .int .i64 t.au, .int .i64 t.rl, .int .i64 t.mx, .slice t.tx.a t.tx.n t.tx.c, .int .i64 t.fl, .slice t.pr.a t.pr.n t.pr.c, .slice t.gl.a t.gl.n t.gl.c, .slice (some ⟨bb, oo, none⟩) t.th.n t.th.c, .slice t.ac.a t.ac.n t.ac.c, .slice t.de.a t.de.n t.de.c, .slice t.fu.a t.fu.n t.fu.c, .slice t.da.a t.da.n t.da.c, .slice t.pm.a t.pm.n t.pm.c, .slice t.lo.a t.lo.n t.lo.c] 28 (0, 0))) (fun _ h => h) hz.na.tab ?_
      simp only [List.setIfInBounds_toArray, List.set_cons_zero, List.set_cons_succ]
      clear hrun O hB hg hv
      have HZ2 := Lib.hid hz
      clear hz HZ hS
      have HZ := HZ2
      clear HZ2
      have hS := HZ.out.na.tab
      exact use key211 (by kernel_rfl) ⟨_, _, _, _, _, _, rfl, hne, HZ.out⟩
    refine share (f := 5) (lf := #[true, true, true, false, true, true, true, true, true, true, false, false, false, false]) (fun V ts => ∃ (b g0 g6 : Nat) (A0 : Option Addr) (m0 c0 : Nat), ts = #[.agg #[.int .i64 t.ti, .int .i64 t.au, .int .i64 t.rl, .int .i64 t.mx, .slice t.tx.a t.tx.n t.tx.c, .int .i64 t.fl, .slice t.pr.a t.pr.n t.pr.c, .slice t.gl.a t.gl.n t.gl.c, .slice (some ⟨bb, oo, none⟩) t.th.n t.th.c, .slice t.ac.a t.ac.n t.ac.c, .slice t.de.a t.de.n t.de.c, .slice t.fu.a t.fu.n t.fu.c, .slice t.da.a t.da.n t.da.c, .slice t.pm.a t.pm.n t.pm.c, .slice t.lo.a t.lo.n t.lo.c], .pointer (some ⟨w.heap.size, 0, none⟩), .pointer (some ⟨w.heap.size + 1, 0, none⟩), undef, undef, undef, undef, undef, .slice (some ⟨g0, 0, none⟩) 0 0, .pointer (some ⟨w.heap.size, 7, none⟩), .slice t.gl.a t.gl.n t.gl.c, undef, .pointer (some ⟨w.heap.size, 12, none⟩), .slice t.da.a t.da.n t.da.c, .int .i64 (t.da.n : Int), .slice (some ⟨g6, 0, none⟩) t.da.n t.da.n, .pointer (some ⟨w.heap.size, 2, none⟩), .int .i64 t.rl, undef, undef, undef, undef, undef, undef, undef, undef, undef, undef, undef, undef, undef, undef, undef, undef, undef, undef, undef, undef, undef, undef, undef, undef, undef, undef, undef, undef, undef, undef, undef, undef, undef, undef, undef, undef, undef, undef, undef, undef, undef, undef, undef, undef, undef, undef, undef, undef, undef, undef, undef, undef, undef, undef, undef, undef, undef, undef, undef, undef, undef, undef, undef, undef, undef, undef, undef] ∧ True ∧ Nz w #[.int .i64 t.ti, .int .i64 t.au, .int .i64 t.rl, .int .i64 t.mx, .slice t.tx.a t.tx.n t.tx.c, .int .i64 t.fl, .slice t.pr.a t.pr.n t.pr.c, .slice t.gl.a t.gl.n t.gl.c, .slice (some ⟨bb, oo, none⟩) t.th.n t.th.c, .slice t.ac.a t.ac.n t.ac.c, .slice t.de.a t.de.n t.de.c, .slice t.fu.a t.fu.n t.fu.c, .slice t.da.a t.da.n t.da.c, .slice t.pm.a t.pm.n t.pm.c, .slice t.lo.a t.lo.n t.lo.c] #[.slice none 0 0, .slice none 0 0, .slice none 0 0, .slice none 0 0, .slice none 0 0, .slice none 0 0, .slice none 0 0, .int .u64 0, .int .i64 0, .int .i64 0, .int .i64 0, .int .i64 0, .int .i64 0] 28 31 b [(.slice (some ⟨g0, 0, none⟩) 0 0, []), (.slice none 0 0, []), (.slice none 0 0, []), (.slice none 0 0, []), (.slice none 0 0, []), (.slice none 0 0, []), (.slice (some ⟨g6, 0, none⟩) t.da.n t.da.n, List.replicate t.da.n 0)] V) ?_ fun key110 => ?_
    · clear HZ hS
      rintro V ts ⟨b, g0, g6, A0, m0, c0, rfl, hne, hz⟩
      have HZ := Lib.hid hz
      clear hz
      have hS : (fun U => U.heap[w.heap.size]? = some (.cells #[.int .i64 t.ti, .int .i64 t.au, .int .i64 t.rl, .int .i64 t.mx, .slice t.tx.a t.tx.n t.tx.c, .int .i64 t.fl, .slice t.pr.a t.pr.n t.pr.c, .slice t.gl.a t.gl.n t.gl.c, .slice (some ⟨bb, oo, none⟩) t.th.n t.th.c, .slice t.ac.a t.ac.n t.ac.c, .slice t.de.a t.de.n t.de.c, .slice t.fu.a t.fu.n t.fu.c, .slice t.da.a t.da.n t.da.c, .slice t.pm.a t.pm.n t.pm.c, .slice t.lo.a t.lo.n t.lo.c] 28 (0, 0))) V := HZ.out.na.tab
      refine Rg.two (i := 3) (j := 12) (by kernel_rfl) ?_ ?_
      · obtain ⟨x0, V2, hrun, O, hB, hg, hv⟩ := Sq.run_append elI 23 (HZ.out.na.held.at_ (a := [])) t.gl.a t.gl.n t.gl.c t.gl.l (RG.out.below HZ.out.na.below) hG1 hG2 HZ.out.na.lt
        obtain ⟨A0, c0, hx0, _, _⟩ := O.shape
        generalize (([] : List Int) ++ t.gl.l).length = m0 at hx0
        subst hx0
        rw [List.nil_append] at O
        have hz := HZ.out.put (a := []) hB hg O hv
        refine Rg.eff (i := 3) (t := 11) (v := .slice A0 m0 c0) (w1 := V2) rfl rfl (by rfl) (exec_append _ _ rfl rfl rfl hrun) (fun U => U.heap[w.heap.size]? = some (.cells #[.int .i64 t.ti, .int .i64 t.au, .int .i64 t.rl, .int .i64 t.mx, .slice t.tx.a t.tx.n t.tx.c, .int .i64 t.fl, .slice t.pr.a t.pr.n t.pr.c, .slice t.gl.a t.gl.n t.gl.c, .slice (some ⟨bb, oo, none⟩) t.th.n t.th.c, .slice t.ac.a t.ac.n t.ac.c, .slice t.de.a t.de.n t.de.c, .slice t.fu.a t.fu.n t.fu.c, .slice t.da.a t.da.n t.da.c, .slice t.pm.a t.pm.n t.pm.c, .slice t.lo.a t.lo.n t.lo.c] 28 (0, 0))) (fun _ h => h) hz.na.tab ?_
        simp only [List.setIfInBounds_toArray, List.set_cons_zero, List.set_cons_succ]
        clear hrun O hB hg hv
        have HZ2 := Lib.hid hz
        clear hz HZ hS
        have HZ := HZ2
        clear HZ2
        have hS := HZ.out.na.tab
        exact use key210 (by kernel_rfl) ⟨_, _, _, _, _, _, rfl, trivial, HZ.out⟩
      · have hz := HZ.out.alloc
        have hne2 : V.heap.size ≠ w.heap.size + 1 := by have h := HZ.out.na.lt; clear hz HZ hS; omega
        refine Rg.eff (i := 12) (t := 3) (v := .pointer (some ⟨V.heap.size, 0, none⟩)) (w1 := V.alloc (.cells #[.slice none 0 0, .slice none 0 0, .slice none 0 0, .slice none 0 0, .slice none 0 0, .slice none 0 0, .slice none 0 0, .int .u64 0, .int .i64 0, .int .i64 0, .int .i64 0, .int .i64 0, .int .i64 0] 31)) rfl rfl (by rfl) (by first | (go_simp; done) | (go_simp; with_reducible rfl)) (fun U => U.heap[w.heap.size]? = some (.cells #[.int .i64 t.ti, .int .i64 t.au, .int .i64 t.rl, .int .i64 t.mx, .slice t.tx.a t.tx.n t.tx.c, .int .i64 t.fl, .slice t.pr.a t.pr.n t.pr.c, .slice t.gl.a t.gl.n t.gl.c, .slice (some ⟨bb, oo, none⟩) t.th.n t.th.c, .slice t.ac.a t.ac.n t.ac.c, .slice t.de.a t.de.n t.de.c, .slice t.fu.a t.fu.n t.fu.c, .slice t.da.a t.da.n t.da.c, .slice t.pm.a t.pm.n t.pm.c, .slice t.lo.a t.lo.n t.lo.c] 28 (0, 0))) (fun _ h => h) hz.na.tab ?_
        simp only [List.setIfInBounds_toArray, List.set_cons_zero, List.set_cons_succ]
        have HZ2 := Lib.hid hz
        clear hz HZ hS
        have HZ := HZ2
        clear HZ2
        have hS := HZ.out.na.tab
        exact use key111 (by kernel_rfl) ⟨_, _, _, none, 0, 0, rfl, hne2, HZ.out⟩
    refine share (f := 5) (lf := #[true, true, true, false, true, true, true, false, true, true, false, false, true, false]) (fun V ts => ∃ (b g0 g6 : Nat) (A0 : Option Addr) (m0 c0 : Nat), ts = #[.agg #[.int .i64 t.ti, .int .i64 t.au, .int .i64 t.rl, .int .i64 t.mx, .slice t.tx.a t.tx.n t.tx.c, .int .i64 t.fl, .slice t.pr.a t.pr.n t.pr.c, .slice t.gl.a t.gl.n t.gl.c, .slice (some ⟨bb, oo, none⟩) t.th.n t.th.c, .slice t.ac.a t.ac.n t.ac.c, .slice t.de.a t.de.n t.de.c, .slice t.fu.a t.fu.n t.fu.c, .slice t.da.a t.da.n t.da.c, .slice t.pm.a t.pm.n t.pm.c, .slice t.lo.a t.lo.n t.lo.c], .pointer (some ⟨w.heap.size, 0, none⟩), .pointer (some ⟨w.heap.size + 1, 0, none⟩), .pointer (some ⟨b, 0, none⟩), undef, undef, undef, undef, .slice (some ⟨g0, 0, none⟩) 0 0, .pointer (some ⟨w.heap.size, 7, none⟩), .slice t.gl.a t.gl.n t.gl.c, undef, .pointer (some ⟨w.heap.size, 12, none⟩), .slice t.da.a t.da.n t.da.c, .int .i64 (t.da.n : Int), undef, .pointer (some ⟨w.heap.size, 2, none⟩), .int .i64 t.rl, undef, undef, undef, undef, undef, undef, undef, undef, undef, undef, undef, undef, undef, undef, undef, undef, undef, undef, undef, undef, undef, undef, undef, undef, undef, undef, undef, undef, undef, undef, undef, undef, undef, undef, undef, undef, undef, undef, undef, undef, undef, undef, undef, undef, undef, undef, undef, undef, undef, undef, undef, undef, undef, undef, undef, undef, undef, undef, undef, undef, undef, undef, undef, undef, undef, undef, undef] ∧ b ≠ w.heap.size + 1 ∧ Nz w #[.int .i64 t.ti, .int .i64 t.au, .int .i64 t.rl, .int .i64 t.mx, .slice t.tx.a t.tx.n t.tx.c, .int .i64 t.fl, .slice t.pr.a t.pr.n t.pr.c, .slice t.gl.a t.gl.n t.gl.c, .slice (some ⟨bb, oo, none⟩) t.th.n t.th.c, .slice t.ac.a t.ac.n t.ac.c, .slice t.de.a t.de.n t.de.c, .slice t.fu.a t.fu.n t.fu.c, .slice t.da.a t.da.n t.da.c, .slice t.pm.a t.pm.n t.pm.c, .slice t.lo.a t.lo.n t.lo.c] #[.slice none 0 0, .slice none 0 0, .slice none 0 0, .slice none 0 0, .slice none 0 0, .slice none 0 0, .slice none 0 0, .int .u64 0, .int .i64 0, .int .i64 0, .int .i64 0, .int .i64 0, .int .i64 0] 28 31 b [(.slice (some ⟨g0, 0, none⟩) 0 0, []), (.slice none 0 0, []), (.slice none 0 0, []), (.slice none 0 0, []), (.slice none 0 0, []), (.slice none 0 0, []), (.slice none 0 0, [])] V) ?_ fun key101 => ?_
    · clear HZ hS
      rintro V ts ⟨b, g0, g6, A0, m0, c0, rfl, hne, hz⟩
      have HZ := Lib.hid hz
      clear hz
      have hS : (fun U => U.heap[w.heap.size]? = some (.cells #[.int .i64 t.ti, .int .i64 t.au, .int .i64 t.rl, .int .i64 t.mx, .slice t.tx.a t.tx.n t.tx.c, .int .i64 t.fl, .slice t.pr.a t.pr.n t.pr.c, .slice t.gl.a t.gl.n t.gl.c, .slice (some ⟨bb, oo, none⟩) t.th.n t.th.c, .slice t.ac.a t.ac.n t.ac.c, .slice t.de.a t.de.n t.de.c, .slice t.fu.a t.fu.n t.fu.c, .slice t.da.a t.da.n t.da.c, .slice t.pm.a t.pm.n t.pm.c, .slice t.lo.a t.lo.n t.lo.c] 28 (0, 0))) V := HZ.out.na.tab
      refine Rg.two (i := 3) (j := 7) (by kernel_rfl) ?_ ?_
      · obtain ⟨x0, V2, hrun, O, hB, hg, hv⟩ := Sq.run_append elI 23 (HZ.out.na.held.at_ (a := [])) t.gl.a t.gl.n t.gl.c t.gl.l (RG.out.below HZ.out.na.below) hG1 hG2 HZ.out.na.lt
        obtain ⟨A0, c0, hx0, _, _⟩ := O.shape
        generalize (([] : List Int) ++ t.gl.l).length = m0 at hx0
        subst hx0
        rw [List.nil_append] at O
        have hz := HZ.out.put (a := []) hB hg O hv
        refine Rg.eff (i := 3) (t := 11) (v := .slice A0 m0 c0) (w1 := V2) rfl rfl (by rfl) (exec_append _ _ rfl rfl rfl hrun) (fun U => U.heap[w.heap.size]? = some (.cells #[.int .i64 t.ti, .int .i64 t.au, .int .i64 t.rl, .int .i64 t.mx, .slice t.tx.a t.tx.n t.tx.c, .int .i64 t.fl, .slice t.pr.a t.pr.n t.pr.c, .slice t.gl.a t.gl.n t.gl.c, .slice (some ⟨bb, oo, none⟩) t.th.n t.th.c, .slice t.ac.a t.ac.n t.ac.c, .slice t.de.a t.de.n t.de.c, .slice t.fu.a t.fu.n t.fu.c, .slice t.da.a t.da.n t.da.c, .slice t.pm.a t.pm.n t.pm.c, .slice t.lo.a t.lo.n t.lo.c] 28 (0, 0))) (fun _ h => h) hz.na.tab ?_
        simp only [List.setIfInBounds_toArray, List.set_cons_zero, List.set_cons_succ]
        clear hrun O hB hg hv
        have HZ2 := Lib.hid hz
        clear hz HZ hS
        have HZ := HZ2
        clear HZ2
        have hS := HZ.out.na.tab
        exact use key201 (by kernel_rfl) ⟨_, _, 0, _, _, _, rfl, hne, HZ.out⟩
      · obtain ⟨V2, hrun, O, hB⟩ := run_make V (w.heap.size + 2) t.da.n hD HZ.out.na.lt
        have hz := HZ.out.made (a := [_, _, _, _, _, _]) hB O rfl
        refine Rg.eff (i := 7) (t := 15) (v := (.slice (some ⟨V.heap.size, 0, none⟩) t.da.n t.da.n)) (w1 := V2) rfl rfl (by rfl) (by first | (go_simp; done) | (go_simp; with_reducible rfl)) (fun U => U.heap[w.heap.size]? = some (.cells #[.int .i64 t.ti, .int .i64 t.au, .int .i64 t.rl, .int .i64 t.mx, .slice t.tx.a t.tx.n t.tx.c, .int .i64 t.fl, .slice t.pr.a t.pr.n t.pr.c, .slice t.gl.a t.gl.n t.gl.c, .slice (some ⟨bb, oo, none⟩) t.th.n t.th.c, .slice t.ac.a t.ac.n t.ac.c, .slice t.de.a t.de.n t.de.c, .slice t.fu.a t.fu.n t.fu.c, .slice t.da.a t.da.n t.da.c, .slice t.pm.a t.pm.n t.pm.c, .slice t.lo.a t.lo.n t.lo.c] 28 (0, 0))) (fun _ h => h) hz.na.tab ?_
        simp only [List.setIfInBounds_toArray, List.set_cons_zero, List.set_cons_succ]
        clear hrun O hB
        have HZ2 := Lib.hid hz
        clear hz HZ hS
        have HZ := HZ2
        clear HZ2
        have hS := HZ.out.na.tab
        exact use key111 (by kernel_rfl) ⟨_, _, _, none, 0, 0, rfl, hne, HZ.out⟩
    refine share (f := 6) (lf := #[true, true, true, false, true, true, true, false, true, true, false, false, false, false]) (fun V ts => ∃ (b g0 g6 : Nat) (A0 : Option Addr) (m0 c0 : Nat), ts = #[.agg #[.int .i64 t.ti, .int .i64 t.au, .int .i64 t.rl, .int .i64 t.mx, .slice t.tx.a t.tx.n t.tx.c, .int .i64 t.fl, .slice t.pr.a t.pr.n t.pr.c, .slice t.gl.a t.gl.n t.gl.c, .slice (some ⟨bb, oo, none⟩) t.th.n t.th.c, .slice t.ac.a t.ac.n t.ac.c, .slice t.de.a t.de.n t.de.c, .slice t.fu.a t.fu.n t.fu.c, .slice t.da.a t.da.n t.da.c, .slice t.pm.a t.pm.n t.pm.c, .slice t.lo.a t.lo.n t.lo.c], .pointer (some ⟨w.heap.size, 0, none⟩), .pointer (some ⟨w.heap.size + 1, 0, none⟩), undef, undef, undef, undef, undef, .slice (some ⟨g0, 0, none⟩) 0 0, .pointer (some ⟨w.heap.size, 7, none⟩), .slice t.gl.a t.gl.n t.gl.c, undef, .pointer (some ⟨w.heap.size, 12, none⟩), .slice t.da.a t.da.n t.da.c, .int .i64 (t.da.n : Int), undef, .pointer (some ⟨w.heap.size, 2, none⟩), .int .i64 t.rl, undef, undef, undef, undef, undef, undef, undef, undef, undef, undef, undef, undef, undef, undef, undef, undef, undef, undef, undef, undef, undef, undef, undef, undef, undef, undef, undef, undef, undef, undef, undef, undef, undef, undef, undef, undef, undef, undef, undef, undef, undef, undef, undef, undef, undef, undef, undef, undef, undef, undef, undef, undef, undef, undef, undef, undef, undef, undef, undef, undef, undef, undef, undef, undef, undef, undef, undef] ∧ True ∧ Nz w #[.int .i64 t.ti, .int .i64 t.au, .int .i64 t.rl, .int .i64 t.mx, .slice t.tx.a t.tx.n t.tx.c, .int .i64 t.fl, .slice t.pr.a t.pr.n t.pr.c, .slice t.gl.a t.gl.n t.gl.c, .slice (some ⟨bb, oo, none⟩) t.th.n t.th.c, .slice t.ac.a t.ac.n t.ac.c, .slice t.de.a t.de.n t.de.c, .slice t.fu.a t.fu.n t.fu.c, .slice t.da.a t.da.n t.da.c, .slice t.pm.a t.pm.n t.pm.c, .slice t.lo.a t.lo.n t.lo.c] #[.slice none 0 0, .slice none 0 0, .slice none 0 0, .slice none 0 0, .slice none 0 0, .slice none 0 0, .slice none 0 0, .int .u64 0, .int .i64 0, .int .i64 0, .int .i64 0, .int .i64 0, .int .i64 0] 28 31 b [(.slice (some ⟨g0, 0, none⟩) 0 0, []), (.slice none 0 0, []), (.slice none 0 0, []), (.slice none 0 0, []), (.slice none 0 0, []), (.slice none 0 0, []), (.slice none 0 0, [])] V) ?_ fun key100 => ?_
    · clear HZ hS
      rintro V ts ⟨b, g0, g6, A0, m0, c0, rfl, hne, hz⟩
      have HZ := Lib.hid hz
      clear hz
      have hS : (fun U => U.heap[w.heap.size]? = some (.cells #[.int .i64 t.ti, .int .i64 t.au, .int .i64 t.rl, .int .i64 t.mx, .slice t.tx.a t.tx.n t.tx.c, .int .i64 t.fl, .slice t.pr.a t.pr.n t.pr.c, .slice t.gl.a t.gl.n t.gl.c, .slice (some ⟨bb, oo, none⟩) t.th.n t.th.c, .slice t.ac.a t.ac.n t.ac.c, .slice t.de.a t.de.n t.de.c, .slice t.fu.a t.fu.n t.fu.c, .slice t.da.a t.da.n t.da.c, .slice t.pm.a t.pm.n t.pm.c, .slice t.lo.a t.lo.n t.lo.c] 28 (0, 0))) V := HZ.out.na.tab
      refine three (i := 3) (j := 7) (k := 12) (by kernel_rfl) ?_ ?_ ?_
      · obtain ⟨x0, V2, hrun, O, hB, hg, hv⟩ := Sq.run_append elI 23 (HZ.out.na.held.at_ (a := [])) t.gl.a t.gl.n t.gl.c t.gl.l (RG.out.below HZ.out.na.below) hG1 hG2 HZ.out.na.lt
        obtain ⟨A0, c0, hx0, _, _⟩ := O.shape
        generalize (([] : List Int) ++ t.gl.l).length = m0 at hx0
        subst hx0
        rw [List.nil_append] at O
        have hz := HZ.out.put (a := []) hB hg O hv
        refine Rg.eff (i := 3) (t := 11) (v := .slice A0 m0 c0) (w1 := V2) rfl rfl (by rfl) (exec_append _ _ rfl rfl rfl hrun) (fun U => U.heap[w.heap.size]? = some (.cells #[.int .i64 t.ti, .int .i64 t.au, .int .i64 t.rl, .int .i64 t.mx, .slice t.tx.a t.tx.n t.tx.c, .int .i64 t.fl, .slice t.pr.a t.pr.n t.pr.c, .slice t.gl.a t.gl.n t.gl.c, .slice (some ⟨bb, oo, none⟩) t.th.n t.th.c, .slice t.ac.a t.ac.n t.ac.c, .slice t.de.a t.de.n t.de.c, .slice t.fu.a t.fu.n t.fu.c, .slice t.da.a t.da.n t.da.c, .slice t.pm.a t.pm.n t.pm.c, .slice t.lo.a t.lo.n t.lo.c] 28 (0, 0))) (fun _ h => h) hz.na.tab ?_
        simp only [List.setIfInBounds_toArray, List.set_cons_zero, List.set_cons_succ]
        clear hrun O hB hg hv
        have HZ2 := Lib.hid hz
        clear hz HZ hS
        have HZ := HZ2
        clear HZ2
        have hS := HZ.out.na.tab
        exact use key200 (by kernel_rfl) ⟨_, _, 0, _, _, _, rfl, trivial, HZ.out⟩
      · obtain ⟨V2, hrun, O, hB⟩ := run_make V (w.heap.size + 2) t.da.n hD HZ.out.na.lt
        have hz := HZ.out.made (a := [_, _, _, _, _, _]) hB O rfl
        refine Rg.eff (i := 7) (t := 15) (v := (.slice (some ⟨V.heap.size, 0, none⟩) t.da.n t.da.n)) (w1 := V2) rfl rfl (by rfl) (by first | (go_simp; done) | (go_simp; with_reducible rfl)) (fun U => U.heap[w.heap.size]? = some (.cells #[.int .i64 t.ti, .int .i64 t.au, .int .i64 t.rl, .int .i64 t.mx, .slice t.tx.a t.tx.n t.tx.c, .int .i64 t.fl, .slice t.pr.a t.pr.n t.pr.c, .slice t.gl.a t.gl.n t.gl.c, .slice (some ⟨bb, oo, none⟩) t.th.n t.th.c, .slice t.ac.a t.ac.n t.ac.c, .slice t.de.a t.de.n t.de.c, .slice t.fu.a t.fu.n t.fu.c, .slice t.da.a t.da.n t.da.c, .slice t.pm.a t.pm.n t.pm.c, .slice t.lo.a t.lo.n t.lo.c] 28 (0, 0))) (fun _ h => h) hz.na.tab ?_
        simp only [List.setIfInBounds_toArray, List.set_cons_zero, List.set_cons_succ]
        clear hrun O hB
        have HZ2 := Lib.hid hz
        clear hz HZ hS
        have HZ := HZ2
        clear HZ2
        have hS := HZ.out.na.tab
        exact use key110 (by kernel_rfl) ⟨_, _, _, none, 0, 0, rfl, trivial, HZ.out⟩
      · have hz := HZ.out.alloc
        have hne2 : V.heap.size ≠ w.heap.size + 1 := by have h := HZ.out.na.lt; clear hz HZ hS; omega
        refine Rg.eff (i := 12) (t := 3) (v := .pointer (some ⟨V.heap.size, 0, none⟩)) (w1 := V.alloc (.cells #[.slice none 0 0, .slice none 0 0, .slice none 0 0, .slice none 0 0, .slice none 0 0, .slice none 0 0, .slice none 0 0, .int .u64 0, .int .i64 0, .int .i64 0, .int .i64 0, .int .i64 0, .int .i64 0] 31)) rfl rfl (by rfl) (by first | (go_simp; done) | (go_simp; with_reducible rfl)) (fun U => U.heap[w.heap.size]? = some (.cells #[.int .i64 t.ti, .int .i64 t.au, .int .i64 t.rl, .int .i64 t.mx, .slice t.tx.a t.tx.n t.tx.c, .int .i64 t.fl, .slice t.pr.a t.pr.n t.pr.c, .slice t.gl.a t.gl.n t.gl.c, .slice (some ⟨bb, oo, none⟩) t.th.n t.th.c, .slice t.ac.a t.ac.n t.ac.c, .slice t.de.a t.de.n t.de.c, .slice t.fu.a t.fu.n t.fu.c, .slice t.da.a t.da.n t.da.c, .slice t.pm.a t.pm.n t.pm.c, .slice t.lo.a t.lo.n t.lo.c] 28 (0, 0))) (fun _ h => h) hz.na.tab ?_
        simp only [List.setIfInBounds_toArray, List.set_cons_zero, List.set_cons_succ]
        have HZ2 := Lib.hid hz
        clear hz HZ hS
        have HZ := HZ2
        clear HZ2
        have hS := HZ.out.na.tab
        exact use key101 (by kernel_rfl) ⟨_, _, 0, none, 0, 0, rfl, hne2, HZ.out⟩
    refine share (f := 5) (lf := #[false, true, true, false, true, true, true, true, true, true, false, false, true, false]) (fun V ts => ∃ (b g0 g6 : Nat) (A0 : Option Addr) (m0 c0 : Nat), ts = #[.agg #[.int .i64 t.ti, .int .i64 t.au, .int .i64 t.rl, .int .i64 t.mx, .slice t.tx.a t.tx.n t.tx.c, .int .i64 t.fl, .slice t.pr.a t.pr.n t.pr.c, .slice t.gl.a t.gl.n t.gl.c, .slice (some ⟨bb, oo, none⟩) t.th.n t.th.c, .slice t.ac.a t.ac.n t.ac.c, .slice t.de.a t.de.n t.de.c, .slice t.fu.a t.fu.n t.fu.c, .slice t.da.a t.da.n t.da.c, .slice t.pm.a t.pm.n t.pm.c, .slice t.lo.a t.lo.n t.lo.c], .pointer (some ⟨w.heap.size, 0, none⟩), .pointer (some ⟨w.heap.size + 1, 0, none⟩), .pointer (some ⟨b, 0, none⟩), undef, undef, undef, undef, undef, .pointer (some ⟨w.heap.size, 7, none⟩), .slice t.gl.a t.gl.n t.gl.c, undef, .pointer (some ⟨w.heap.size, 12, none⟩), .slice t.da.a t.da.n t.da.c, .int .i64 (t.da.n : Int), .slice (some ⟨g6, 0, none⟩) t.da.n t.da.n, .pointer (some ⟨w.heap.size, 2, none⟩), .int .i64 t.rl, undef, undef, undef, undef, undef, undef, undef, undef, undef, undef, undef, undef, undef, undef, undef, undef, undef, undef, undef, undef, undef, undef, undef, undef, undef, undef, undef, undef, undef, undef, undef, undef, undef, undef, undef, undef, undef, undef, undef, undef, undef, undef, undef, undef, undef, undef, undef, undef, undef, undef, undef, undef, undef, undef, undef, undef, undef, undef, undef, undef, undef, undef, undef, undef, undef, undef, undef] ∧ b ≠ w.heap.size + 1 ∧ Nz w #[.int .i64 t.ti, .int .i64 t.au, .int .i64 t.rl, .int .i64 t.mx, .slice t.tx.a t.tx.n t.tx.c, .int .i64 t.fl, .slice t.pr.a t.pr.n t.pr.c, .slice t.gl.a t.gl.n t.gl.c, .slice (some ⟨bb, oo, none⟩) t.th.n t.th.c, .slice t.ac.a t.ac.n t.ac.c, .slice t.de.a t.de.n t.de.c, .slice t.fu.a t.fu.n t.fu.c, .slice t.da.a t.da.n t.da.c, .slice t.pm.a t.pm.n t.pm.c, .slice t.lo.a t.lo.n t.lo.c] #[.slice none 0 0, .slice none 0 0, .slice none 0 0, .slice none 0 0, .slice none 0 0, .slice none 0 0, .slice none 0 0, .int .u64 0, .int .i64 0, .int .i64 0, .int .i64 0, .int .i64 0, .int .i64 0] 28 31 b [(.slice none 0 0, []), (.slice none 0 0, []), (.slice none 0 0, []), (.slice none 0 0, []), (.slice none 0 0, []), (.slice none 0 0, []), (.slice (some ⟨g6, 0, none⟩) t.da.n t.da.n, List.replicate t.da.n 0)] V) ?_ fun key011 => ?_
    · clear HZ hS
      rintro V ts ⟨b, g0, g6, A0, m0, c0, rfl, hne, hz⟩
      have HZ := Lib.hid hz
      clear hz
      have hS : (fun U => U.heap[w.heap.size]? = some (.cells #[.int .i64 t.ti, .int .i64 t.au, .int .i64 t.rl, .int .i64 t.mx, .slice t.tx.a t.tx.n t.tx.c, .int .i64 t.fl, .slice t.pr.a t.pr.n t.pr.c, .slice t.gl.a t.gl.n t.gl.c, .slice (some ⟨bb, oo, none⟩) t.th.n t.th.c, .slice t.ac.a t.ac.n t.ac.c, .slice t.de.a t.de.n t.de.c, .slice t.fu.a t.fu.n t.fu.c, .slice t.da.a t.da.n t.da.c, .slice t.pm.a t.pm.n t.pm.c, .slice t.lo.a t.lo.n t.lo.c] 28 (0, 0))) V := HZ.out.na.tab
      refine Rg.one (i := 0) (by kernel_rfl) ?_
      have hz := HZ.out.made (a := []) (v' := (.slice (some ⟨V.heap.size, 0, none⟩) 0 0)) (l' := []) ((Below.refl V.heap.size V).alloc (Nat.le_refl _) (.cells #[] 3)) ((MvR.own_e V V.heap.size rfl).lower HZ.out.na.lt) rfl
      refine Rg.eff (i := 0) (t := 8) (v := (.slice (some ⟨V.heap.size, 0, none⟩) 0 0)) (w1 := V.alloc (.cells #[] 3)) rfl rfl (by rfl) (by first | (go_simp; done) | (go_simp; with_reducible rfl)) (fun U => U.heap[w.heap.size]? = some (.cells #[.int .i64 t.ti, .int .i64 t.au, .int .i64 t.rl, .int .i64 t.mx, .slice t.tx.a t.tx.n t.tx.c, .int .i64 t.fl, .slice t.pr.a t.pr.n t.pr.c, .slice t.gl.a t.gl.n t.gl.c, .slice (some ⟨bb, oo, none⟩) t.th.n t.th.c, .slice t.ac.a t.ac.n t.ac.c, .slice t.de.a t.de.n t.de.c, .slice t.fu.a t.fu.n t.fu.c, .slice t.da.a t.da.n t.da.c, .slice t.pm.a t.pm.n t.pm.c, .slice t.lo.a t.lo.n t.lo.c] 28 (0, 0))) (fun _ h => h) hz.na.tab ?_
      simp only [List.setIfInBounds_toArray, List.set_cons_zero, List.set_cons_succ]
      have HZ2 := Lib.hid hz
      clear hz HZ hS
      have HZ := HZ2
      clear HZ2
      have hS := HZ.out.na.tab
      exact use key111 (by kernel_rfl) ⟨_, _, _, none, 0, 0, rfl, hne, HZ.out⟩
    refine share (f := 6) (lf := #[false, true, true, false, true, true, true, true, true, true, false, false, false, false]) (fun V ts => ∃ (b g0 g6 : Nat) (A0 : Option Addr) (m0 c0 : Nat), ts = #[.agg #[.int .i64 t.ti, .int .i64 t.au, .int .i64 t.rl, .int .i64 t.mx, .slice t.tx.a t.tx.n t.tx.c, .int .i64 t.fl, .slice t.pr.a t.pr.n t.pr.c, .slice t.gl.a t.gl.n t.gl.c, .slice (some ⟨bb, oo, none⟩) t.th.n t.th.c, .slice t.ac.a t.ac.n t.ac.c, .slice t.de.a t.de.n t.de.c, .slice t.fu.a t.fu.n t.fu.c, .slice t.da.a t.da.n t.da.c, .slice t.pm.a t.pm.n t.pm.c, .slice t.lo.a t.lo.n t.lo.c], .pointer (some ⟨w.heap.size, 0, none⟩), .pointer (some ⟨w.heap.size + 1, 0, none⟩), undef, undef, undef, undef, undef, undef, .pointer (some ⟨w.heap.size, 7, none⟩), .slice t.gl.a t.gl.n t.gl.c, undef, .pointer (some ⟨w.heap.size, 12, none⟩), .slice t.da.a t.da.n t.da.c, .int .i64 (t.da.n : Int), .slice (some ⟨g6, 0, none⟩) t.da.n t.da.n, .pointer (some ⟨w.heap.size, 2, none⟩), .int .i64 t.rl, undef, undef, undef, undef, undef, undef, undef, undef, undef, undef, undef, undef, undef, undef, undef, undef, undef, undef, undef, undef, undef, undef, undef, undef, undef, undef, undef, undef, undef, undef, undef, undef, undef, undef, undef, undef, undef, undef, undef, undef, undef, undef, undef, undef, undef, undef, undef, undef, undef, undef, undef, undef, undef, undef, undef, undef, undef, undef, undef, undef, undef, undef, undef, undef, undef, undef, undef] ∧ True ∧ Nz w #[.int .i64 t.ti, .int .i64 t.au, .int .i64 t.rl, .int .i64 t.mx, .slice t.tx.a t.tx.n t.tx.c, .int .i64 t.fl, .slice t.pr.a t.pr.n t.pr.c, .slice t.gl.a t.gl.n t.gl.c, .slice (some ⟨bb, oo, none⟩) t.th.n t.th.c, .slice t.ac.a t.ac.n t.ac.c, .slice t.de.a t.de.n t.de.c, .slice t.fu.a t.fu.n t.fu.c, .slice t.da.a t.da.n t.da.c, .slice t.pm.a t.pm.n t.pm.c, .slice t.lo.a t.lo.n t.lo.c] #[.slice none 0 0, .slice none 0 0, .slice none 0 0, .slice none 0 0, .slice none 0 0, .slice none 0 0, .slice none 0 0, .int .u64 0, .int .i64 0, .int .i64 0, .int .i64 0, .int .i64 0, .int .i64 0] 28 31 b [(.slice none 0 0, []), (.slice none 0 0, []), (.slice none 0 0, []), (.slice none 0 0, []), (.slice none 0 0, []), (.slice none 0 0, []), (.slice (some ⟨g6, 0, none⟩) t.da.n t.da.n, List.replicate t.da.n 0)] V) ?_ fun key010 => ?_
    · clear HZ hS
      rintro V ts ⟨b, g0, g6, A0, m0, c0, rfl, hne, hz⟩
      have HZ := Lib.hid hz
      clear hz
      have hS : (fun U => U.heap[w.heap.size]? = some (.cells #[.int .i64 t.ti, .int .i64 t.au, .int .i64 t.rl, .int .i64 t.mx, .slice t.tx.a t.tx.n t.tx.c, .int .i64 t.fl, .slice t.pr.a t.pr.n t.pr.c, .slice t.gl.a t.gl.n t.gl.c, .slice (some ⟨bb, oo, none⟩) t.th.n t.th.c, .slice t.ac.a t.ac.n t.ac.c, .slice t.de.a t.de.n t.de.c, .slice t.fu.a t.fu.n t.fu.c, .slice t.da.a t.da.n t.da.c, .slice t.pm.a t.pm.n t.pm.c, .slice t.lo.a t.lo.n t.lo.c] 28 (0, 0))) V := HZ.out.na.tab
      refine Rg.two (i := 0) (j := 12) (by kernel_rfl) ?_ ?_
      · have hz := HZ.out.made (a := []) (v' := (.slice (some ⟨V.heap.size, 0, none⟩) 0 0)) (l' := []) ((Below.refl V.heap.size V).alloc (Nat.le_refl _) (.cells #[] 3)) ((MvR.own_e V V.heap.size rfl).lower HZ.out.na.lt) rfl
        refine Rg.eff (i := 0) (t := 8) (v := (.slice (some ⟨V.heap.size, 0, none⟩) 0 0)) (w1 := V.alloc (.cells #[] 3)) rfl rfl (by rfl) (by first | (go_simp; done) | (go_simp; with_reducible rfl)) (fun U => U.heap[w.heap.size]? = some (.cells #[.int .i64 t.ti, .int .i64 t.au, .int .i64 t.rl, .int .i64 t.mx, .slice t.tx.a t.tx.n t.tx.c, .int .i64 t.fl, .slice t.pr.a t.pr.n t.pr.c, .slice t.gl.a t.gl.n t.gl.c, .slice (some ⟨bb, oo, none⟩) t.th.n t.th.c, .slice t.ac.a t.ac.n t.ac.c, .slice t.de.a t.de.n t.de.c, .slice t.fu.a t.fu.n t.fu.c, .slice t.da.a t.da.n t.da.c, .slice t.pm.a t.pm.n t.pm.c, .slice t.lo.a t.lo.n t.lo.c] 28 (0, 0))) (fun _ h => h) hz.na.tab ?_
        simp only [List.setIfInBounds_toArray, List.set_cons_zero, List.set_cons_succ]
        have HZ2 := Lib.hid hz
        clear hz HZ hS
        have HZ := HZ2
        clear HZ2
        have hS := HZ.out.na.tab
        exact use key110 (by kernel_rfl) ⟨_, _, _, none, 0, 0, rfl, trivial, HZ.out⟩
      · have hz := HZ.out.alloc
        have hne2 : V.heap.size ≠ w.heap.size + 1 := by have h := HZ.out.na.lt; clear hz HZ hS; omega
        refine Rg.eff (i := 12) (t := 3) (v := .pointer (some ⟨V.heap.size, 0, none⟩)) (w1 := V.alloc (.cells #[.slice none 0 0, .slice none 0 0, .slice none 0 0, .slice none 0 0, .slice none 0 0, .slice none 0 0, .slice none 0 0, .int .u64 0, .int .i64 0, .int .i64 0, .int .i64 0, .int .i64 0, .int .i64 0] 31)) rfl rfl (by rfl) (by first | (go_simp; done) | (go_simp; with_reducible rfl)) (fun U => U.heap[w.heap.size]? = some (.cells #[.int .i64 t.ti, .int .i64 t.au, .int .i64 t.rl, .int .i64 t.mx, .slice t.tx.a t.tx.n t.tx.c, .int .i64 t.fl, .slice t.pr.a t.pr.n t.pr.c, .slice t.gl.a t.gl.n t.gl.c, .slice (some ⟨bb, oo, none⟩) t.th.n t.th.c, .slice t.ac.a t.ac.n t.ac.c, .slice t.de.a t.de.n t.de.c, .slice t.fu.a t.fu.n t.fu.c, .slice t.da.a t.da.n t.da.c, .slice t.pm.a t.pm.n t.pm.c, .slice t.lo.a t.lo.n t.lo.c] 28 (0, 0))) (fun _ h => h) hz.na.tab ?_
        simp only [List.setIfInBounds_toArray, List.set_cons_zero, List.set_cons_succ]
        have HZ2 := Lib.hid hz
        clear hz HZ hS
        have HZ := HZ2
        clear HZ2
        have hS := HZ.out.na.tab
        exact use key011 (by kernel_rfl) ⟨_, 0, _, none, 0, 0, rfl, hne2, HZ.out⟩
    refine share (f := 6) (lf := #[false, true, true, false, true, true, true, false, true, true, false, false, true, false]) (fun V ts => ∃ (b g0 g6 : Nat) (A0 : Option Addr) (m0 c0 : Nat), ts = #[.agg #[.int .i64 t.ti, .int .i64 t.au, .int .i64 t.rl, .int .i64 t.mx, .slice t.tx.a t.tx.n t.tx.c, .int .i64 t.fl, .slice t.pr.a t.pr.n t.pr.c, .slice t.gl.a t.gl.n t.gl.c, .slice (some ⟨bb, oo, none⟩) t.th.n t.th.c, .slice t.ac.a t.ac.n t.ac.c, .slice t.de.a t.de.n t.de.c, .slice t.fu.a t.fu.n t.fu.c, .slice t.da.a t.da.n t.da.c, .slice t.pm.a t.pm.n t.pm.c, .slice t.lo.a t.lo.n t.lo.c], .pointer (some ⟨w.heap.size, 0, none⟩), .pointer (some ⟨w.heap.size + 1, 0, none⟩), .pointer (some ⟨b, 0, none⟩), undef, undef, undef, undef, undef, .pointer (some ⟨w.heap.size, 7, none⟩), .slice t.gl.a t.gl.n t.gl.c, undef, .pointer (some ⟨w.heap.size, 12, none⟩), .slice t.da.a t.da.n t.da.c, .int .i64 (t.da.n : Int), undef, .pointer (some ⟨w.heap.size, 2, none⟩), .int .i64 t.rl, undef, undef, undef, undef, undef, undef, undef, undef, undef, undef, undef, undef, undef, undef, undef, undef, undef, undef, undef, undef, undef, undef, undef, undef, undef, undef, undef, undef, undef, undef, undef, undef, undef, undef, undef, undef, undef, undef, undef, undef, undef, undef, undef, undef, undef, undef, undef, undef, undef, undef, undef, undef, undef, undef, undef, undef, undef, undef, undef, undef, undef, undef, undef, undef, undef, undef, undef] ∧ b ≠ w.heap.size + 1 ∧ Nz w #[.int .i64 t.ti, .int .i64 t.au, .int .i64 t.rl, .int .i64 t.mx, .slice t.tx.a t.tx.n t.tx.c, .int .i64 t.fl, .slice t.pr.a t.pr.n t.pr.c, .slice t.gl.a t.gl.n t.gl.c, .slice (some ⟨bb, oo, none⟩) t.th.n t.th.c, .slice t.ac.a t.ac.n t.ac.c, .slice t.de.a t.de.n t.de.c, .slice t.fu.a t.fu.n t.fu.c, .slice t.da.a t.da.n t.da.c, .slice t.pm.a t.pm.n t.pm.c, .slice t.lo.a t.lo.n t.lo.c] #[.slice none 0 0, .slice none 0 0, .slice none 0 0, .slice none 0 0, .slice none 0 0, .slice none 0 0, .slice none 0 0, .int .u64 0, .int .i64 0, .int .i64 0, .int .i64 0, .int .i64 0, .int .i64 0] 28 31 b [(.slice none 0 0, []), (.slice none 0 0, []), (.slice none 0 0, []), (.slice none 0 0, []), (.slice none 0 0, []), (.slice none 0 0, []), (.slice none 0 0, [])] V) ?_ fun key001 => ?_
    · clear HZ hS
      rintro V ts ⟨b, g0, g6, A0, m0, c0, rfl, hne, hz⟩
      have HZ := Lib.hid hz
      clear hz
      have hS : (fun U => U.heap[w.heap.size]? = some (.cells #[.int .i64 t.ti, .int .i64 t.au, .int .i64 t.rl, .int .i64 t.mx, .slice t.tx.a t.tx.n t.tx.c, .int .i64 t.fl, .slice t.pr.a t.pr.n t.pr.c, .slice t.gl.a t.gl.n t.gl.c, .slice (some ⟨bb, oo, none⟩) t.th.n t.th.c, .slice t.ac.a t.ac.n t.ac.c, .slice t.de.a t.de.n t.de.c, .slice t.fu.a t.fu.n t.fu.c, .slice t.da.a t.da.n t.da.c, .slice t.pm.a t.pm.n t.pm.c, .slice t.lo.a t.lo.n t.lo.c] 28 (0, 0))) V := HZ.out.na.tab
      refine Rg.two (i := 0) (j := 7) (by kernel_rfl) ?_ ?_
      · have hz := HZ.out.made (a := []) (v' := (.slice (some ⟨V.heap.size, 0, none⟩) 0 0)) (l' := []) ((Below.refl V.heap.size V).alloc (Nat.le_refl _) (.cells #[] 3)) ((MvR.own_e V V.heap.size rfl).lower HZ.out.na.lt) rfl
        refine Rg.eff (i := 0) (t := 8) (v := (.slice (some ⟨V.heap.size, 0, none⟩) 0 0)) (w1 := V.alloc (.cells #[] 3)) rfl rfl (by rfl) (by first | (go_simp; done) | (go_simp; with_reducible rfl)) (fun U => U.heap[w.heap.size]? = some (.cells #[.int .i64 t.ti, .int .i64 t.au, .int .i64 t.rl, .int .i64 t.mx, .slice t.tx.a t.tx.n t.tx.c, .int .i64 t.fl, .slice t.pr.a t.pr.n t.pr.c, .slice t.gl.a t.gl.n t.gl.c, .slice (some ⟨bb, oo, none⟩) t.th.n t.th.c, .slice t.ac.a t.ac.n t.ac.c, .slice t.de.a t.de.n t.de.c, .slice t.fu.a t.fu.n t.fu.c, .slice t.da.a t.da.n t.da.c, .slice t.pm.a t.pm.n t.pm.c, .slice t.lo.a t.lo.n t.lo.c] 28 (0, 0))) (fun _ h => h) hz.na.tab ?_
        simp only [List.setIfInBounds_toArray, List.set_cons_zero, List.set_cons_succ]
        have HZ2 := Lib.hid hz
        clear hz HZ hS
        have HZ := HZ2
        clear HZ2
        have hS := HZ.out.na.tab
        exact use key101 (by kernel_rfl) ⟨_, _, 0, none, 0, 0, rfl, hne, HZ.out⟩
      · obtain ⟨V2, hrun, O, hB⟩ := run_make V (w.heap.size + 2) t.da.n hD HZ.out.na.lt
        have hz := HZ.out.made (a := [_, _, _, _, _, _]) hB O rfl
        refine Rg.eff (i := 7) (t := 15) (v := (.slice (some ⟨V.heap.size, 0, none⟩) t.da.n t.da.n)) (w1 := V2) rfl rfl (by rfl) (by first | (go_simp; done) | (go_simp; with_reducible rfl)) (fun U => U.heap[w.heap.size]? = some (.cells #[.int .i64 t.ti, .int .i64 t.au, .int .i64 t.rl, .int .i64 t.mx, .slice t.tx.a t.tx.n t.tx.c, .int .i64 t.fl, .slice t.pr.a t.pr.n t.pr.c, .slice t.gl.a t.gl.n t.gl.c, .slice (some ⟨bb, oo, none⟩) t.th.n t.th.c, .slice t.ac.a t.ac.n t.ac.c, .slice t.de.a t.de.n t.de.c, .slice t.fu.a t.fu.n t.fu.c, .slice t.da.a t.da.n t.da.c, .slice t.pm.a t.pm.n t.pm.c, .slice t.lo.a t.lo.n t.lo.c] 28 (0, 0))) (fun _ h => h) hz.na.tab ?_
        simp only [List.setIfInBounds_toArray, List.set_cons_zero, List.set_cons_succ]
        clear hrun O hB
        have HZ2 := Lib.hid hz
        clear hz HZ hS
        have HZ := HZ2
        clear HZ2
        have hS := HZ.out.na.tab
        exact use key011 (by kernel_rfl) ⟨_, 0, _, none, 0, 0, rfl, hne, HZ.out⟩
    refine share (f := 7) (lf := #[false, true, true, false, true, true, true, false, true, true, false, false, false, false]) (fun V ts => ∃ (b g0 g6 : Nat) (A0 : Option Addr) (m0 c0 : Nat), ts = #[.agg #[.int .i64 t.ti, .int .i64 t.au, .int .i64 t.rl, .int .i64 t.mx, .slice t.tx.a t.tx.n t.tx.c, .int .i64 t.fl, .slice t.pr.a t.pr.n t.pr.c, .slice t.gl.a t.gl.n t.gl.c, .slice (some ⟨bb, oo, none⟩) t.th.n t.th.c, .slice t.ac.a t.ac.n t.ac.c, .slice t.de.a t.de.n t.de.c, .slice t.fu.a t.fu.n t.fu.c, .slice t.da.a t.da.n t.da.c, .slice t.pm.a t.pm.n t.pm.c, .slice t.lo.a t.lo.n t.lo.c], .pointer (some ⟨w.heap.size, 0, none⟩), .pointer (some ⟨w.heap.size + 1, 0, none⟩), undef, undef, undef, undef, undef, undef, .pointer (some ⟨w.heap.size, 7, none⟩), .slice t.gl.a t.gl.n t.gl.c, undef, .pointer (some ⟨w.heap.size, 12, none⟩), .slice t.da.a t.da.n t.da.c, .int .i64 (t.da.n : Int), undef, .pointer (some ⟨w.heap.size, 2, none⟩), .int .i64 t.rl, undef, undef, undef, undef, undef, undef, undef, undef, undef, undef, undef, undef, undef, undef, undef, undef, undef, undef, undef, undef, undef, undef, undef, undef, undef, undef, undef, undef, undef, undef, undef, undef, undef, undef, undef, undef, undef, undef, undef, undef, undef, undef, undef, undef, undef, undef, undef, undef, undef, undef, undef, undef, undef, undef, undef, undef, undef, undef, undef, undef, undef, undef, undef, undef, undef, undef, undef] ∧ True ∧ Nz w #[.int .i64 t.ti, .int .i64 t.au, .int .i64 t.rl, .int .i64 t.mx, .slice t.tx.a t.tx.n t.tx.c, .int .i64 t.fl, .slice t.pr.a t.pr.n t.pr.c, .slice t.gl.a t.gl.n t.gl.c, .slice (some ⟨bb, oo, none⟩) t.th.n t.th.c, .slice t.ac.a t.ac.n t.ac.c, .slice t.de.a t.de.n t.de.c, .slice t.fu.a t.fu.n t.fu.c, .slice t.da.a t.da.n t.da.c, .slice t.pm.a t.pm.n t.pm.c, .slice t.lo.a t.lo.n t.lo.c] #[.slice none 0 0, .slice none 0 0, .slice none 0 0, .slice none 0 0, .slice none 0 0, .slice none 0 0, .slice none 0 0, .int .u64 0, .int .i64 0, .int .i64 0, .int .i64 0, .int .i64 0, .int .i64 0] 28 31 b [(.slice none 0 0, []), (.slice none 0 0, []), (.slice none 0 0, []), (.slice none 0 0, []), (.slice none 0 0, []), (.slice none 0 0, []), (.slice none 0 0, [])] V) ?_ fun key000 => ?_
    · clear HZ hS
      rintro V ts ⟨b, g0, g6, A0, m0, c0, rfl, hne, hz⟩
      have HZ := Lib.hid hz
      clear hz
      have hS : (fun U => U.heap[w.heap.size]? = some (.cells #[.int .i64 t.ti, .int .i64 t.au, .int .i64 t.rl, .int .i64 t.mx, .slice t.tx.a t.tx.n t.tx.c, .int .i64 t.fl, .slice t.pr.a t.pr.n t.pr.c, .slice t.gl.a t.gl.n t.gl.c, .slice (some ⟨bb, oo, none⟩) t.th.n t.th.c, .slice t.ac.a t.ac.n t.ac.c, .slice t.de.a t.de.n t.de.c, .slice t.fu.a t.fu.n t.fu.c, .slice t.da.a t.da.n t.da.c, .slice t.pm.a t.pm.n t.pm.c, .slice t.lo.a t.lo.n t.lo.c] 28 (0, 0))) V := HZ.out.na.tab
      refine three (i := 0) (j := 7) (k := 12) (by kernel_rfl) ?_ ?_ ?_
      · have hz := HZ.out.made (a := []) (v' := (.slice (some ⟨V.heap.size, 0, none⟩) 0 0)) (l' := []) ((Below.refl V.heap.size V).alloc (Nat.le_refl _) (.cells #[] 3)) ((MvR.own_e V V.heap.size rfl).lower HZ.out.na.lt) rfl
        refine Rg.eff (i := 0) (t := 8) (v := (.slice (some ⟨V.heap.size, 0, none⟩) 0 0)) (w1 := V.alloc (.cells #[] 3)) rfl rfl (by rfl) (by first | (go_simp; done) | (go_simp; with_reducible rfl)) (fun U => U.heap[w.heap.size]? = some (.cells #[.int .i64 t.ti, .int .i64 t.au, .int .i64 t.rl, .int .i64 t.mx, .slice t.tx.a t.tx.n t.tx.c, .int .i64 t.fl, .slice t.pr.a t.pr.n t.pr.c, .slice t.gl.a t.gl.n t.gl.c, .slice (some ⟨bb, oo, none⟩) t.th.n t.th.c, .slice t.ac.a t.ac.n t.ac.c, .slice t.de.a t.de.n t.de.c, .slice t.fu.a t.fu.n t.fu.c, .slice t.da.a t.da.n t.da.c, .slice t.pm.a t.pm.n t.pm.c, .slice t.lo.a t.lo.n t.lo.c] 28 (0, 0))) (fun _ h => h) hz.na.tab ?_
        simp only [List.setIfInBounds_toArray, List.set_cons_zero, List.set_cons_succ]
        have HZ2 := Lib.hid hz
        clear hz HZ hS
        have HZ := HZ2
        clear HZ2
        have hS := HZ.out.na.tab
        exact use key100 (by kernel_rfl) ⟨_, _, 0, none, 0, 0, rfl, trivial, HZ.out⟩
      · obtain ⟨V2, hrun, O, hB⟩ := run_make V (w.heap.size + 2) t.da.n hD HZ.out.na.lt
        have hz := HZ.out.made (a := [_, _, _, _, _, _]) hB O rfl
        refine Rg.eff (i := 7) (t := 15) (v := (.slice (some ⟨V.heap.size, 0, none⟩) t.da.n t.da.n)) (w1 := V2) rfl rfl (by rfl) (by first | (go_simp; done) | (go_simp; with_reducible rfl)) (fun U => U.heap[w.heap.size]? = some (.cells #[.int .i64 t.ti, .int .i64 t.au, .int .i64 t.rl, .int .i64 t.mx, .slice t.tx.a t.tx.n t.tx.c, .int .i64 t.fl, .slice t.pr.a t.pr.n t.pr.c, .slice t.gl.a t.gl.n t.gl.c, .slice (some ⟨bb, oo, none⟩) t.th.n t.th.c, .slice t.ac.a t.ac.n t.ac.c, .slice t.de.a t.de.n t.de.c, .slice t.fu.a t.fu.n t.fu.c, .slice t.da.a t.da.n t.da.c, .slice t.pm.a t.pm.n t.pm.c, .slice t.lo.a t.lo.n t.lo.c] 28 (0, 0))) (fun _ h => h) hz.na.tab ?_
        simp only [List.setIfInBounds_toArray, List.set_cons_zero, List.set_cons_succ]
        clear hrun O hB
        have HZ2 := Lib.hid hz
        clear hz HZ hS
        have HZ := HZ2
        clear HZ2
        have hS := HZ.out.na.tab
        exact use key010 (by kernel_rfl) ⟨_, 0, _, none, 0, 0, rfl, trivial, HZ.out⟩
      · have hz := HZ.out.alloc
        have hne2 : V.heap.size ≠ w.heap.size + 1 := by have h := HZ.out.na.lt; clear hz HZ hS; omega
        refine Rg.eff (i := 12) (t := 3) (v := .pointer (some ⟨V.heap.size, 0, none⟩)) (w1 := V.alloc (.cells #[.slice none 0 0, .slice none 0 0, .slice none 0 0, .slice none 0 0, .slice none 0 0, .slice none 0 0, .slice none 0 0, .int .u64 0, .int .i64 0, .int .i64 0, .int .i64 0, .int .i64 0, .int .i64 0] 31)) rfl rfl (by rfl) (by first | (go_simp; done) | (go_simp; with_reducible rfl)) (fun U => U.heap[w.heap.size]? = some (.cells #[.int .i64 t.ti, .int .i64 t.au, .int .i64 t.rl, .int .i64 t.mx, .slice t.tx.a t.tx.n t.tx.c, .int .i64 t.fl, .slice t.pr.a t.pr.n t.pr.c, .slice t.gl.a t.gl.n t.gl.c, .slice (some ⟨bb, oo, none⟩) t.th.n t.th.c, .slice t.ac.a t.ac.n t.ac.c, .slice t.de.a t.de.n t.de.c, .slice t.fu.a t.fu.n t.fu.c, .slice t.da.a t.da.n t.da.c, .slice t.pm.a t.pm.n t.pm.c, .slice t.lo.a t.lo.n t.lo.c] 28 (0, 0))) (fun _ h => h) hz.na.tab ?_
        simp only [List.setIfInBounds_toArray, List.set_cons_zero, List.set_cons_succ]
        have HZ2 := Lib.hid hz
        clear hz HZ hS
        have HZ := HZ2
        clear HZ2
        have hS := HZ.out.na.tab
        exact use key001 (by kernel_rfl) ⟨_, 0, 0, none, 0, 0, rfl, hne2, HZ.out⟩
    exact use key000 (by kernel_rfl) ⟨_, 0, 0, none, 0, 0, rfl, trivial, HZ.out⟩
  case rest =>
    obtain ⟨b, A0, A6, m0, c0, m6, c6, rfl, hB⟩ := hcut
    have HB := Lib.hid hB
    clear hB HZ t0 t1 t2 t3 t4 t5 t6 t7 t8 t9 t10 t11 t12 t13 t14 tf
    obtain ⟨s0, s1, s2, s3, s4, s5, s6, s7, s8, s9, s10, s11, s12, s13, s14, sf⟩ := cells15 HB.out.na.tab; obtain ⟨p0, p1, p2, p3, p4, p5, p6, p7, p8, p9, p10, p11, p12, pf⟩ := cells13 HB.out.box
    go_wp2_with fail
    go_loopw [4] (fun iv wr => ∃ (k : Nat) (A1 A2 A3 A4 A5 : Option Addr) (m1 c1 m2 c2 m3 c3 m4 c4 m5 c5 : Nat), k ≤ t.th.n ∧ iv = .int .i64 (k : Int) ∧ Nb w #[.int .i64 t.ti, .int .i64 t.au, .int .i64 t.rl, .int .i64 t.mx, .slice t.tx.a t.tx.n t.tx.c, .int .i64 t.fl, .slice t.pr.a t.pr.n t.pr.c, .slice t.gl.a t.gl.n t.gl.c, .slice (some ⟨bb, oo, none⟩) t.th.n t.th.c, .slice t.ac.a t.ac.n t.ac.c, .slice t.de.a t.de.n t.de.c, .slice t.fu.a t.fu.n t.fu.c, .slice t.da.a t.da.n t.da.c, .slice t.pm.a t.pm.n t.pm.c, .slice t.lo.a t.lo.n t.lo.c] #[.slice none 0 0, .slice none 0 0, .slice none 0 0, .slice none 0 0, .slice none 0 0, .slice none 0 0, .slice none 0 0, .int .u64 0, .int .i64 0, .int .i64 0, .int .i64 0, .int .i64 0, .int .i64 0] 28 31 b [((.slice A0 m0 c0), t.gl.l), ((.slice A1 m1 c1), (newK t k).pa), ((.slice A2 m2 c2), (newK t k).ch), ((.slice A3 m3 c3), (newK t k).ne), ((.slice A4 m4 c4), (newK t k).fl), ((.slice A5 m5 c5), (newK t k).pr), ((.slice A6 m6 c6), (List.replicate t.da.n 0))] (.int .u64 (fr t.rl)) wr) (fun iv _ => t.th.n - (intOf iv).toNat)
    case atStart => exact ⟨0, none, none, none, none, none, 0, 0, 0, 0, 0, 0, 0, 0, 0, 0, Nat.zero_le _, rfl, HB.out⟩
    case round =>
      clear HB s0 s1 s2 s3 s4 s5 s6 s7 s8 s9 s10 s11 s12 s13 s14 sf p0 p1 p2 p3 p4 p5 p6 p7 p8 p9 p10 p11 p12 pf
      obtain ⟨k, A1, A2, A3, A4, A5, m1, c1, m2, c2, m3, c3, m4, c4, m5, c5, hk, rfl, hB⟩ := hrel
      by_cases hlt : k < t.th.n
      · have t1 : decide (k < t.th.n) = true := decide_eq_true hlt
        have k0 : (0 : Int) ≤ (k : Int) := by omega
        have k1 : (k : Int) < (t.th.n : Int) := by omega
        have hl : k < t.th.l.length := by rw [← HL.out]; exact hlt
        obtain ⟨e1, e2, e3, e4, e5⟩ := newK_succ t hl
        obtain ⟨z1, z2, z3, z4, z5⟩ := newK_len t k HPL.out
        have hpk : at' (pas t) (k : Int) = (t.th.l[k]).pa := (at_lt (show k < (pas t).length by unfold pas; rw [List.length_map]; exact hl)).trans (List.getElem_map ThV.pa)
        have hmem := List.getElem_mem hl
        have hc2 := HC.out k hl 2 _ rfl
        have hc3 := HC.out k hl 3 _ rfl
        have hc5 := HC.out k hl 5 _ rfl
        have hri := (HD.out _ hmem).1
        have hr16 := HP.out _ hmem
        generalize t.th.l[k] = e at e1 e4 e5 hpk hc2 hc3 hc5 hri hr16
        clear hmem
        obtain ⟨ti, tx, pa, fl, rm, ⟨qA, qn, qc, ql⟩, wo, ad, wy⟩ := e
        obtain ⟨C2, hC2⟩ : ∃ c, chN t k = c := ⟨_, rfl⟩
        obtain ⟨C3, hC3⟩ : ∃ c, neN t k = c := ⟨_, rfl⟩
        rw [hC2] at e2
        rw [hC3] at e3
        have hD2 := hC2
        unfold chN at hD2
        have hD3 := hC3
        unfold neN at hD3
        rw [hpk] at hD3
        have H2 := Lib.hid (show w.cell? ⟨bb, oo + k * 9 + 2, none⟩ = some (.int .i64 pa) from hc2)
        have H3 := Lib.hid (show w.cell? ⟨bb, oo + k * 9 + 3, none⟩ = some (.int .i64 fl) from hc3)
        have H5 := Lib.hid (show w.cell? ⟨bb, oo + k * 9 + 5, none⟩ = some (.slice qA qn qc) from hc5)
        have HQL := Lib.hid (show Sq.Rd I w qA qn ql from hri.2.2)
        have hr16 : qn ≤ 16 := hr16
        generalize (newK t k).pa = L1 at e1 z1 hB
        generalize (newK t k).ch = L2 at e2 z2 hB
        generalize (newK t k).ne = L3 at e3 z3 hB
        generalize (newK t k).fl = L4 at e4 z4 hB
        generalize (newK t k).pr = L5 at e5 z5 hB
        have E1 := Lib.hid (show (newK t (k + 1)).pa = L1 ++ [pa] from e1)
        have E2 := Lib.hid e2
        have E3 := Lib.hid e3
        have E4 := Lib.hid (show (newK t (k + 1)).fl = L4 ++ [fl] from e4)
        have E5 := Lib.hid (show (newK t (k + 1)).pr = L5 ++ ql from e5)
        have HB := Lib.hid hB
        have hb1 : L1.length + 1 ≤ maxLen := by unfold maxLen; omega
        have hb2 : L2.length + 1 ≤ maxLen := by unfold maxLen; omega
        have hb3 : L3.length + 1 ≤ maxLen := by unfold maxLen; omega
        have hb4 : L4.length + 1 ≤ maxLen := by unfold maxLen; omega
        have hb5 : L5.length + qn ≤ maxLen := by unfold maxLen; omega
        have hc1 : (L1.length + 1) * 8 ≤ 140737488355328 := by omega
        have hc2 : (L2.length + 1) * 8 ≤ 140737488355328 := by omega
        have hc3 : (L3.length + 1) * 8 ≤ 140737488355328 := by omega
        have hc4 : (L4.length + 1) * 8 ≤ 140737488355328 := by omega
        have hc5 : (L5.length + qn) * 8 ≤ 140737488355328 := by omega
        clear e1 e2 e3 e4 e5 z1 z2 z3 z4 z5 hC2 hC3 hri hl hB
        have HD2 := Lib.hid hD2
        have HD3 := Lib.hid hD3
        clear hD2 hD3 hpk
        obtain ⟨s0, s1, s2, s3, s4, s5, s6, s7, s8, s9, s10, s11, s12, s13, s14, sf⟩ := cells15 HB.out.na.tab; obtain ⟨p0, p1, p2, p3, p4, p5, p6, p7, p8, p9, p10, p11, p12, pf⟩ := cells13 HB.out.box
        have cc2 := (HB.out.na.below.cell (p := ⟨bb, oo + k * 9 + 2, none⟩) hb0).trans H2.out
        go_upto_if 34 with fail
        go_cut [6] (fun cv wr => cv = .int .i64 C2 ∧ Nb w #[.int .i64 t.ti, .int .i64 t.au, .int .i64 t.rl, .int .i64 t.mx, .slice t.tx.a t.tx.n t.tx.c, .int .i64 t.fl, .slice t.pr.a t.pr.n t.pr.c, .slice t.gl.a t.gl.n t.gl.c, .slice (some ⟨bb, oo, none⟩) t.th.n t.th.c, .slice t.ac.a t.ac.n t.ac.c, .slice t.de.a t.de.n t.de.c, .slice t.fu.a t.fu.n t.fu.c, .slice t.da.a t.da.n t.da.c, .slice t.pm.a t.pm.n t.pm.c, .slice t.lo.a t.lo.n t.lo.c] #[.slice none 0 0, .slice none 0 0, .slice none 0 0, .slice none 0 0, .slice none 0 0, .slice none 0 0, .slice none 0 0, .int .u64 0, .int .i64 0, .int .i64 0, .int .i64 0, .int .i64 0, .int .i64 0] 28 31 b [((.slice A0 m0 c0), t.gl.l), ((.slice A1 m1 c1), L1), ((.slice A2 m2 c2), L2), ((.slice A3 m3 c3), L3), ((.slice A4 m4 c4), L4), ((.slice A5 m5 c5), L5), ((.slice A6 m6 c6), (List.replicate t.da.n 0))] (.int .u64 (fr t.rl)) wr)
        case first =>
          by_cases hk0 : k = 0
          · subst hk0
            have HC2 := Lib.hid (show (0 : Int) = C2 by have h := HD2.out; rw [if_neg (by omega)] at h; exact h)
            go_wp2_with fail
            go_meet
            exact ⟨by rw [← HC2.out] <;> rfl, HB.out⟩
          · have hk1 : 0 < k := by omega
            have hk2 : (0 : Int) < (k : Int) := by omega
            have HC2 := Lib.hid (show aft (pas t) 1 (k : Int) = C2 by have h := HD2.out; rw [if_pos hk1] at h; exact h)
            clear hk0
            go_wp2_with (go_at_call 159; refine (CA.out 1 _ _ (TbR.below HTB.out HB.out.na.below)).mono ?_; rintro e w1 ⟨rfl, hb⟩; rw [HC2.out]; have HB2 := Lib.hid (HB.out.on hb); clear HB hb; have HB := HB2; clear HB2)
            go_meet
            exact ⟨rfl, HB.out⟩
        case rest =>
        obtain ⟨rfl, hB⟩ := hcut
        have HB2 := Lib.hid hB
        clear hB HB cc2 s0 s1 s2 s3 s4 s5 s6 s7 s8 s9 s10 s11 s12 s13 s14 sf p0 p1 p2 p3 p4 p5 p6 p7 p8 p9 p10 p11 p12 pf
        have HB := HB2
        clear HB2
        obtain ⟨s0, s1, s2, s3, s4, s5, s6, s7, s8, s9, s10, s11, s12, s13, s14, sf⟩ := cells15 HB.out.na.tab; obtain ⟨p0, p1, p2, p3, p4, p5, p6, p7, p8, p9, p10, p11, p12, pf⟩ := cells13 HB.out.box
        go_upto_if 39 with fail
        go_cut [7] (fun cv wr => cv = .int .i64 C3 ∧ Nb w #[.int .i64 t.ti, .int .i64 t.au, .int .i64 t.rl, .int .i64 t.mx, .slice t.tx.a t.tx.n t.tx.c, .int .i64 t.fl, .slice t.pr.a t.pr.n t.pr.c, .slice t.gl.a t.gl.n t.gl.c, .slice (some ⟨bb, oo, none⟩) t.th.n t.th.c, .slice t.ac.a t.ac.n t.ac.c, .slice t.de.a t.de.n t.de.c, .slice t.fu.a t.fu.n t.fu.c, .slice t.da.a t.da.n t.da.c, .slice t.pm.a t.pm.n t.pm.c, .slice t.lo.a t.lo.n t.lo.c] #[.slice none 0 0, .slice none 0 0, .slice none 0 0, .slice none 0 0, .slice none 0 0, .slice none 0 0, .slice none 0 0, .int .u64 0, .int .i64 0, .int .i64 0, .int .i64 0, .int .i64 0, .int .i64 0] 28 31 b [((.slice A0 m0 c0), t.gl.l), ((.slice A1 m1 c1), L1), ((.slice A2 m2 c2), L2), ((.slice A3 m3 c3), L3), ((.slice A4 m4 c4), L4), ((.slice A5 m5 c5), L5), ((.slice A6 m6 c6), (List.replicate t.da.n 0))] (.int .u64 (fr t.rl)) wr)
        case first =>
          by_cases hp0 : pa = 0
          · subst hp0
            have HC3 := Lib.hid (show (0 : Int) = C3 by have h := HD3.out; rw [if_pos rfl] at h; exact h)
            go_wp2_with fail
            go_meet
            exact ⟨by rw [← HC3.out] <;> rfl, HB.out⟩
          · have hp1 : (pa != (0 : Int)) = true := by simpa using hp0
            have HC3 := Lib.hid (show aft (pas t) (k + 1) pa = C3 by have h := HD3.out; rw [if_neg hp0] at h; exact h)
            clear hp0
            go_wp2_with (go_at_call 159; refine (CA.out (k + 1) _ _ (TbR.below HTB.out HB.out.na.below)).mono ?_; rintro e w1 ⟨rfl, hb⟩; rw [HC3.out]; have HB2 := Lib.hid (HB.out.on hb); clear HB hb; have HB := HB2; clear HB2)
            go_meet
            exact ⟨rfl, HB.out⟩
        case rest =>
        obtain ⟨rfl, hB⟩ := hcut
        have HB2 := Lib.hid hB
        clear hB HB s0 s1 s2 s3 s4 s5 s6 s7 s8 s9 s10 s11 s12 s13 s14 sf p0 p1 p2 p3 p4 p5 p6 p7 p8 p9 p10 p11 p12 pf
        have HB := HB2
        clear HB2
        obtain ⟨s0, s1, s2, s3, s4, s5, s6, s7, s8, s9, s10, s11, s12, s13, s14, sf⟩ := cells15 HB.out.na.tab; obtain ⟨p0, p1, p2, p3, p4, p5, p6, p7, p8, p9, p10, p11, p12, pf⟩ := cells13 HB.out.box
        go_upto_region 14 with (first
          | (at_builtin; refine wpList_append elI (l := L1) rfl _ _ rfl rfl ((HB.out.na.held.at_ (a := [_])).alloc _) _ 1 1 [pa] rfl (rd_lit _ _ [pa] #[.int .i64 pa] rfl 1 rfl) hb1 hc1 (by have h := HB.out.na.lt; simp; omega) ?_; rintro v' w5 O hB hg hv; obtain ⟨B1, d1, hx, _, _⟩ := O.shape; generalize (L1 ++ [pa]).length = h1 at hx; subst hx; obtain ⟨q1, q2⟩ := Nb.mid (a := [_]) (HB.out.on ((Below.refl _ _).alloc (Nat.le_refl _) _)) hB hg O hv; have q3 := Nb.fin (a := [_]) HB.out.hne q1 q2; obtain ⟨U1, hU1⟩ : ∃ U1, w5.setCell ⟨b, 1, none⟩ (.slice B1 h1 d1) = U1 := ⟨_, rfl⟩; have HB2 : Hid (Nb w #[.int .i64 t.ti, .int .i64 t.au, .int .i64 t.rl, .int .i64 t.mx, .slice t.tx.a t.tx.n t.tx.c, .int .i64 t.fl, .slice t.pr.a t.pr.n t.pr.c, .slice t.gl.a t.gl.n t.gl.c, .slice (some ⟨bb, oo, none⟩) t.th.n t.th.c, .slice t.ac.a t.ac.n t.ac.c, .slice t.de.a t.de.n t.de.c, .slice t.fu.a t.fu.n t.fu.c, .slice t.da.a t.da.n t.da.c, .slice t.pm.a t.pm.n t.pm.c, .slice t.lo.a t.lo.n t.lo.c] #[.slice none 0 0, .slice none 0 0, .slice none 0 0, .slice none 0 0, .slice none 0 0, .slice none 0 0, .slice none 0 0, .int .u64 0, .int .i64 0, .int .i64 0, .int .i64 0, .int .i64 0, .int .i64 0] 28 31 b [((.slice A0 m0 c0), t.gl.l), ((.slice B1 h1 d1), (L1 ++ [pa])), ((.slice A2 m2 c2), L2), ((.slice A3 m3 c3), L3), ((.slice A4 m4 c4), L4), ((.slice A5 m5 c5), L5), ((.slice A6 m6 c6), (List.replicate t.da.n 0))] (.int .u64 (fr t.rl)) U1) := Lib.hid (by rw [← hU1]; exact q3); clear s0 s1 s2 s3 s4 s5 s6 s7 s8 s9 s10 s11 s12 s13 s14 sf p0 p1 p2 p3 p4 p5 p6 p7 p8 p9 p10 p11 p12 pf; obtain ⟨a0, a1, a2, a3, a4, a5, a6, a7, a8, a9, a10, a11, a12, a13, a14, af⟩ := cells15 q1.tab; have q2' : w5.heap[b]? = some (.cells #[.slice A0 m0 c0, .slice A1 m1 c1, .slice A2 m2 c2, .slice A3 m3 c3, .slice A4 m4 c4, .slice A5 m5 c5, .slice A6 m6 c6, .int .u64 (fr t.rl), .int .i64 0, .int .i64 0, .int .i64 0, .int .i64 0, .int .i64 0] 31 (0, 0)) := q2; obtain ⟨y0, y1, y2, y3, y4, y5, y6, y7, y8, y9, y10, y11, y12, yf⟩ := cells13 q2'; clear HB q1 q2 q2' q3 O hB hg hv; have HB := HB2; clear HB2; obtain ⟨s0, s1, s2, s3, s4, s5, s6, s7, s8, s9, s10, s11, s12, s13, s14, sf⟩ := cells15 HB.out.na.tab; obtain ⟨p0, p1, p2, p3, p4, p5, p6, p7, p8, p9, p10, p11, p12, pf⟩ := cells13 HB.out.box)
          | (at_builtin; refine wpList_append elI (l := L2) rfl _ _ rfl rfl ((HB.out.na.held.at_ (a := [_, _])).alloc _) _ 1 1 [C2] rfl (rd_lit _ _ [C2] #[.int .i64 C2] rfl 1 rfl) hb2 hc2 (by have h := HB.out.na.lt; simp; omega) ?_; rintro v' w5 O hB hg hv; obtain ⟨B2, d2, hx, _, _⟩ := O.shape; generalize (L2 ++ [C2]).length = h2 at hx; subst hx; obtain ⟨q1, q2⟩ := Nb.mid (a := [_, _]) (HB.out.on ((Below.refl _ _).alloc (Nat.le_refl _) _)) hB hg O hv; have q3 := Nb.fin (a := [_, _]) HB.out.hne q1 q2; obtain ⟨U2, hU2⟩ : ∃ U2, w5.setCell ⟨b, 2, none⟩ (.slice B2 h2 d2) = U2 := ⟨_, rfl⟩; have HB2 : Hid (Nb w #[.int .i64 t.ti, .int .i64 t.au, .int .i64 t.rl, .int .i64 t.mx, .slice t.tx.a t.tx.n t.tx.c, .int .i64 t.fl, .slice t.pr.a t.pr.n t.pr.c, .slice t.gl.a t.gl.n t.gl.c, .slice (some ⟨bb, oo, none⟩) t.th.n t.th.c, .slice t.ac.a t.ac.n t.ac.c, .slice t.de.a t.de.n t.de.c, .slice t.fu.a t.fu.n t.fu.c, .slice t.da.a t.da.n t.da.c, .slice t.pm.a t.pm.n t.pm.c, .slice t.lo.a t.lo.n t.lo.c] #[.slice none 0 0, .slice none 0 0, .slice none 0 0, .slice none 0 0, .slice none 0 0, .slice none 0 0, .slice none 0 0, .int .u64 0, .int .i64 0, .int .i64 0, .int .i64 0, .int .i64 0, .int .i64 0] 28 31 b [((.slice A0 m0 c0), t.gl.l), ((.slice B1 h1 d1), (L1 ++ [pa])), ((.slice B2 h2 d2), (L2 ++ [C2])), ((.slice A3 m3 c3), L3), ((.slice A4 m4 c4), L4), ((.slice A5 m5 c5), L5), ((.slice A6 m6 c6), (List.replicate t.da.n 0))] (.int .u64 (fr t.rl)) U2) := Lib.hid (by rw [← hU2]; exact q3); clear hU1 a0 a1 a2 a3 a4 a5 a6 a7 a8 a9 a10 a11 a12 a13 a14 af y0 y1 y2 y3 y4 y5 y6 y7 y8 y9 y10 y11 y12 yf s0 s1 s2 s3 s4 s5 s6 s7 s8 s9 s10 s11 s12 s13 s14 sf p0 p1 p2 p3 p4 p5 p6 p7 p8 p9 p10 p11 p12 pf; obtain ⟨a0, a1, a2, a3, a4, a5, a6, a7, a8, a9, a10, a11, a12, a13, a14, af⟩ := cells15 q1.tab; have q2' : w5.heap[b]? = some (.cells #[.slice A0 m0 c0, .slice B1 h1 d1, .slice A2 m2 c2, .slice A3 m3 c3, .slice A4 m4 c4, .slice A5 m5 c5, .slice A6 m6 c6, .int .u64 (fr t.rl), .int .i64 0, .int .i64 0, .int .i64 0, .int .i64 0, .int .i64 0] 31 (0, 0)) := q2; obtain ⟨y0, y1, y2, y3, y4, y5, y6, y7, y8, y9, y10, y11, y12, yf⟩ := cells13 q2'; clear HB q1 q2 q2' q3 O hB hg hv; have HB := HB2; clear HB2; obtain ⟨s0, s1, s2, s3, s4, s5, s6, s7, s8, s9, s10, s11, s12, s13, s14, sf⟩ := cells15 HB.out.na.tab; obtain ⟨p0, p1, p2, p3, p4, p5, p6, p7, p8, p9, p10, p11, p12, pf⟩ := cells13 HB.out.box)
          | (at_builtin; refine wpList_append elI (l := L3) rfl _ _ rfl rfl ((HB.out.na.held.at_ (a := [_, _, _])).alloc _) _ 1 1 [C3] rfl (rd_lit _ _ [C3] #[.int .i64 C3] rfl 1 rfl) hb3 hc3 (by have h := HB.out.na.lt; simp; omega) ?_; rintro v' w5 O hB hg hv; obtain ⟨B3, d3, hx, _, _⟩ := O.shape; generalize (L3 ++ [C3]).length = h3 at hx; subst hx; obtain ⟨q1, q2⟩ := Nb.mid (a := [_, _, _]) (HB.out.on ((Below.refl _ _).alloc (Nat.le_refl _) _)) hB hg O hv; have q3 := Nb.fin (a := [_, _, _]) HB.out.hne q1 q2; obtain ⟨U3, hU3⟩ : ∃ U3, w5.setCell ⟨b, 3, none⟩ (.slice B3 h3 d3) = U3 := ⟨_, rfl⟩; have HB2 : Hid (Nb w #[.int .i64 t.ti, .int .i64 t.au, .int .i64 t.rl, .int .i64 t.mx, .slice t.tx.a t.tx.n t.tx.c, .int .i64 t.fl, .slice t.pr.a t.pr.n t.pr.c, .slice t.gl.a t.gl.n t.gl.c, .slice (some ⟨bb, oo, none⟩) t.th.n t.th.c, .slice t.ac.a t.ac.n t.ac.c, .slice t.de.a t.de.n t.de.c, .slice t.fu.a t.fu.n t.fu.c, .slice t.da.a t.da.n t.da.c, .slice t.pm.a t.pm.n t.pm.c, .slice t.lo.a t.lo.n t.lo.c] #[.slice none 0 0, .slice none 0 0, .slice none 0 0, .slice none 0 0, .slice none 0 0, .slice none 0 0, .slice none 0 0, .int .u64 0, .int .i64 0, .int .i64 0, .int .i64 0, .int .i64 0, .int .i64 0] 28 31 b [((.slice A0 m0 c0), t.gl.l), ((.slice B1 h1 d1), (L1 ++ [pa])), ((.slice B2 h2 d2), (L2 ++ [C2])), ((.slice B3 h3 d3), (L3 ++ [C3])), ((.slice A4 m4 c4), L4), ((.slice A5 m5 c5), L5), ((.slice A6 m6 c6), (List.replicate t.da.n 0))] (.int .u64 (fr t.rl)) U3) := Lib.hid (by rw [← hU3]; exact q3); clear hU2 a0 a1 a2 a3 a4 a5 a6 a7 a8 a9 a10 a11 a12 a13 a14 af y0 y1 y2 y3 y4 y5 y6 y7 y8 y9 y10 y11 y12 yf s0 s1 s2 s3 s4 s5 s6 s7 s8 s9 s10 s11 s12 s13 s14 sf p0 p1 p2 p3 p4 p5 p6 p7 p8 p9 p10 p11 p12 pf; obtain ⟨a0, a1, a2, a3, a4, a5, a6, a7, a8, a9, a10, a11, a12, a13, a14, af⟩ := cells15 q1.tab; have q2' : w5.heap[b]? = some (.cells #[.slice A0 m0 c0, .slice B1 h1 d1, .slice B2 h2 d2, .slice A3 m3 c3, .slice A4 m4 c4, .slice A5 m5 c5, .slice A6 m6 c6, .int .u64 (fr t.rl), .int .i64 0, .int .i64 0, .int .i64 0, .int .i64 0, .int .i64 0] 31 (0, 0)) := q2; obtain ⟨y0, y1, y2, y3, y4, y5, y6, y7, y8, y9, y10, y11, y12, yf⟩ := cells13 q2'; clear HB q1 q2 q2' q3 O hB hg hv; have HB := HB2; clear HB2; obtain ⟨s0, s1, s2, s3, s4, s5, s6, s7, s8, s9, s10, s11, s12, s13, s14, sf⟩ := cells15 HB.out.na.tab; obtain ⟨p0, p1, p2, p3, p4, p5, p6, p7, p8, p9, p10, p11, p12, pf⟩ := cells13 HB.out.box))
        go_cut [5] (fun pv wx => pv = .int .i64 pa ∧ ∃ (B4 : Option Addr) (h4 d4 : Nat), Nb w #[.int .i64 t.ti, .int .i64 t.au, .int .i64 t.rl, .int .i64 t.mx, .slice t.tx.a t.tx.n t.tx.c, .int .i64 t.fl, .slice t.pr.a t.pr.n t.pr.c, .slice t.gl.a t.gl.n t.gl.c, .slice (some ⟨bb, oo, none⟩) t.th.n t.th.c, .slice t.ac.a t.ac.n t.ac.c, .slice t.de.a t.de.n t.de.c, .slice t.fu.a t.fu.n t.fu.c, .slice t.da.a t.da.n t.da.c, .slice t.pm.a t.pm.n t.pm.c, .slice t.lo.a t.lo.n t.lo.c] #[.slice none 0 0, .slice none 0 0, .slice none 0 0, .slice none 0 0, .slice none 0 0, .slice none 0 0, .slice none 0 0, .int .u64 0, .int .i64 0, .int .i64 0, .int .i64 0, .int .i64 0, .int .i64 0] 28 31 b [((.slice A0 m0 c0), t.gl.l), ((.slice B1 h1 d1), (L1 ++ [pa])), ((.slice B2 h2 d2), (L2 ++ [C2])), ((.slice B3 h3 d3), (L3 ++ [C3])), ((.slice B4 h4 d4), (L4 ++ [fl])), ((.slice A5 m5 c5), L5), ((.slice A6 m6 c6), (List.replicate t.da.n 0))] (.int .u64 (fr t.rl)) wx)
        case first =>
          have hS : (fun X => X.heap[w.heap.size]? = some (.cells #[.int .i64 t.ti, .int .i64 t.au, .int .i64 t.rl, .int .i64 t.mx, .slice t.tx.a t.tx.n t.tx.c, .int .i64 t.fl, .slice t.pr.a t.pr.n t.pr.c, .slice t.gl.a t.gl.n t.gl.c, .slice (some ⟨bb, oo, none⟩) t.th.n t.th.c, .slice t.ac.a t.ac.n t.ac.c, .slice t.de.a t.de.n t.de.c, .slice t.fu.a t.fu.n t.fu.c, .slice t.da.a t.da.n t.da.c, .slice t.pm.a t.pm.n t.pm.c, .slice t.lo.a t.lo.n t.lo.c] 28 (0, 0)) ∧ X.cell? ⟨bb, oo + k * 9 + 3, none⟩ = some (.int .i64 fl)) U3.drew := ⟨HB.out.drew.na.tab, (HB.out.drew.na.below.cell (p := ⟨bb, oo + k * 9 + 3, none⟩) hb0).trans H3.out⟩
          have hz := HB.out.drew
          refine wp_region_held_drew (S := (fun X => X.heap[w.heap.size]? = some (.cells #[.int .i64 t.ti, .int .i64 t.au, .int .i64 t.rl, .int .i64 t.mx, .slice t.tx.a t.tx.n t.tx.c, .int .i64 t.fl, .slice t.pr.a t.pr.n t.pr.c, .slice t.gl.a t.gl.n t.gl.c, .slice (some ⟨bb, oo, none⟩) t.th.n t.th.c, .slice t.ac.a t.ac.n t.ac.c, .slice t.de.a t.de.n t.de.c, .slice t.fu.a t.fu.n t.fu.c, .slice t.da.a t.da.n t.da.c, .slice t.pm.a t.pm.n t.pm.c, .slice t.lo.a t.lo.n t.lo.c] 28 (0, 0)) ∧ X.cell? ⟨bb, oo + k * 9 + 3, none⟩ = some (.int .i64 fl))) (by kernel_rfl) hS (fun hHeld => ?_)
          obtain ⟨V0, hV⟩ : ∃ V0, U3.drew = V0 := ⟨_, rfl⟩
          rw [hV] at hz hS ⊢
          clear hV hHeld HB hU3 s0 s1 s2 s3 s4 s5 s6 s7 s8 s9 s10 s11 s12 s13 s14 sf p0 p1 p2 p3 p4 p5 p6 p7 p8 p9 p10 p11 p12 pf
          have HB := Lib.hid hz
          clear hz
          refine Rg.take (i := 0) (t := 63) rfl rfl (by kernel_rfl) (by kernel_rfl) (by kernel_rfl) (fun _ _ _ h => h) (by rfl) (by intro w0 hSw; first | (go_simp; done) | (go_simp; with_reducible rfl)) (by assumption) ?_
          simp only [List.setIfInBounds_toArray, List.set_cons_zero, List.set_cons_succ]
          refine Rg.take (i := 2) (t := 65) rfl rfl (by kernel_rfl) (by kernel_rfl) (by kernel_rfl) (fun _ _ _ h => h) (by rfl) (by intro w0 hSw; first | (go_simp; done) | (go_simp; with_reducible rfl)) (by assumption) ?_
          simp only [List.setIfInBounds_toArray, List.set_cons_zero, List.set_cons_succ]
          refine Rg.take (i := 3) (t := 66) rfl rfl (by kernel_rfl) (by kernel_rfl) (by kernel_rfl) (fun _ _ _ h => h) (by rfl) (by intro w0 hSw; obtain ⟨hq, hc⟩ := hSw; obtain ⟨t0, t1, t2, t3, t4, t5, t6, t7, t8, t9, t10, t11, t12, t13, t14, tf⟩ := cells15 hq; first | (go_simp; done) | (go_simp; with_reducible rfl)) (by assumption) ?_
          simp only [List.setIfInBounds_toArray, List.set_cons_zero, List.set_cons_succ]
          refine Rg.take (i := 4) (t := 67) rfl rfl (by kernel_rfl) (by kernel_rfl) (by kernel_rfl) (fun _ _ _ h => h) (by rfl) (by intro w0 hSw; first | (go_simp; done) | (go_simp; with_reducible rfl)) (by assumption) ?_
          simp only [List.setIfInBounds_toArray, List.set_cons_zero, List.set_cons_succ]
          refine Rg.take (i := 5) (t := 68) rfl rfl (by kernel_rfl) (by kernel_rfl) (by kernel_rfl) (fun _ _ _ h => h) (by rfl) (by intro w0 hSw; first | (go_simp; done) | (go_simp; with_reducible rfl)) (by assumption) ?_
          simp only [List.setIfInBounds_toArray, List.set_cons_zero, List.set_cons_succ]
          refine Rg.take (i := 6) (t := 69) rfl rfl (by kernel_rfl) (by kernel_rfl) (by kernel_rfl) (fun _ _ _ h => h) (by rfl) (by intro w0 hSw; first | (go_simp; done) | (go_simp; with_reducible rfl)) (by assumption) ?_
          simp only [List.setIfInBounds_toArray, List.set_cons_zero, List.set_cons_succ]
          refine Rg.take (i := 7) (t := 70) rfl rfl (by kernel_rfl) (by kernel_rfl) (by kernel_rfl) (fun _ _ _ h => h) (by rfl) (by intro w0 hSw; obtain ⟨hq, hc⟩ := hSw; first | (go_simp; done) | (go_simp; with_reducible rfl)) (by assumption) ?_
          simp only [List.setIfInBounds_toArray, List.set_cons_zero, List.set_cons_succ]
          refine Rg.two (i := 1) (j := 8) (by kernel_rfl) ?_ ?_
          · obtain ⟨y0, y1, y2, y3, y4, y5, y6, y7, y8, y9, y10, y11, y12, yf⟩ := cells13 HB.out.box
            refine Rg.eff (i := 1) (t := 64) (v := (.slice A4 m4 c4)) (w1 := V0) rfl rfl (by rfl) (by first | (go_simp; done) | (go_simp; with_reducible rfl)) (fun X => X.heap[w.heap.size]? = some (.cells #[.int .i64 t.ti, .int .i64 t.au, .int .i64 t.rl, .int .i64 t.mx, .slice t.tx.a t.tx.n t.tx.c, .int .i64 t.fl, .slice t.pr.a t.pr.n t.pr.c, .slice t.gl.a t.gl.n t.gl.c, .slice (some ⟨bb, oo, none⟩) t.th.n t.th.c, .slice t.ac.a t.ac.n t.ac.c, .slice t.de.a t.de.n t.de.c, .slice t.fu.a t.fu.n t.fu.c, .slice t.da.a t.da.n t.da.c, .slice t.pm.a t.pm.n t.pm.c, .slice t.lo.a t.lo.n t.lo.c] 28 (0, 0)) ∧ X.cell? ⟨bb, oo + k * 9 + 3, none⟩ = some (.int .i64 fl)) (fun _ h => h) hS ?_
            simp only [List.setIfInBounds_toArray, List.set_cons_zero, List.set_cons_succ]
            clear y0 y1 y2 y3 y4 y5 y6 y7 y8 y9 y10 y11 y12 yf
            refine Rg.one (i := 8) (by kernel_rfl) ?_
            have hr2 := rd_lit V0 3 [fl] #[.int .i64 fl] rfl 1 rfl
            have hz := HB.out.on ((Below.refl V0.heap.size V0).alloc (Nat.le_refl _) (.cells #[.int .i64 fl] 3))
            have hc2 := (hz.na.below.cell (p := ⟨bb, oo + k * 9 + 3, none⟩) hb0).trans H3.out
            refine Rg.eff (i := 8) (t := 71) (v := .slice (some ⟨V0.heap.size, 0, none⟩) 1 1) (w1 := V0.alloc (.cells #[.int .i64 fl] 3)) rfl rfl (by rfl) (by first | (go_simp; done) | (go_simp; with_reducible rfl)) (fun X => X.heap[w.heap.size]? = some (.cells #[.int .i64 t.ti, .int .i64 t.au, .int .i64 t.rl, .int .i64 t.mx, .slice t.tx.a t.tx.n t.tx.c, .int .i64 t.fl, .slice t.pr.a t.pr.n t.pr.c, .slice t.gl.a t.gl.n t.gl.c, .slice (some ⟨bb, oo, none⟩) t.th.n t.th.c, .slice t.ac.a t.ac.n t.ac.c, .slice t.de.a t.de.n t.de.c, .slice t.fu.a t.fu.n t.fu.c, .slice t.da.a t.da.n t.da.c, .slice t.pm.a t.pm.n t.pm.c, .slice t.lo.a t.lo.n t.lo.c] 28 (0, 0)) ∧ X.cell? ⟨bb, oo + k * 9 + 3, none⟩ = some (.int .i64 fl)) (fun _ h => h) ⟨hz.na.tab, hc2⟩ ?_
            simp only [List.setIfInBounds_toArray, List.set_cons_zero, List.set_cons_succ]
            obtain ⟨V1, hV⟩ : ∃ V1, V0.alloc (.cells #[.int .i64 fl] 3) = V1 := ⟨_, rfl⟩
            rw [hV] at hz hc2 hr2 ⊢
            clear hV HB hS
            have HB := Lib.hid hz
            have hS : (fun X => X.heap[w.heap.size]? = some (.cells #[.int .i64 t.ti, .int .i64 t.au, .int .i64 t.rl, .int .i64 t.mx, .slice t.tx.a t.tx.n t.tx.c, .int .i64 t.fl, .slice t.pr.a t.pr.n t.pr.c, .slice t.gl.a t.gl.n t.gl.c, .slice (some ⟨bb, oo, none⟩) t.th.n t.th.c, .slice t.ac.a t.ac.n t.ac.c, .slice t.de.a t.de.n t.de.c, .slice t.fu.a t.fu.n t.fu.c, .slice t.da.a t.da.n t.da.c, .slice t.pm.a t.pm.n t.pm.c, .slice t.lo.a t.lo.n t.lo.c] 28 (0, 0)) ∧ X.cell? ⟨bb, oo + k * 9 + 3, none⟩ = some (.int .i64 fl)) V1 := ⟨hz.na.tab, hc2⟩
            clear hz hc2
            obtain ⟨v', w5, hrun, O, hB, hg, hv⟩ := Sq.run_append elI 23 (HB.out.na.held.at_ (a := [_, _, _, _])) (some ⟨V0.heap.size, 0, none⟩) 1 1 [fl] hr2 hb4 hc4 HB.out.na.lt
            obtain ⟨B4, d4, hx, _, _⟩ := O.shape
            generalize (L4 ++ [fl]).length = h4 at hx
            subst hx
            obtain ⟨q1, q2⟩ := Nb.mid (a := [_, _, _, _]) (HB.out) hB hg O hv
            have q3 := Nb.fin (a := [_, _, _, _]) HB.out.hne q1 q2
            have hc2 := (q1.below.cell (p := ⟨bb, oo + k * 9 + 3, none⟩) hb0).trans H3.out
            refine Rg.one (i := 9) (by kernel_rfl) ?_
            refine Rg.eff (i := 9) (t := 72) (v := (.slice B4 h4 d4)) (w1 := w5) rfl rfl (by rfl) (exec_append _ _ rfl rfl rfl hrun) (fun X => X.heap[w.heap.size]? = some (.cells #[.int .i64 t.ti, .int .i64 t.au, .int .i64 t.rl, .int .i64 t.mx, .slice t.tx.a t.tx.n t.tx.c, .int .i64 t.fl, .slice t.pr.a t.pr.n t.pr.c, .slice t.gl.a t.gl.n t.gl.c, .slice (some ⟨bb, oo, none⟩) t.th.n t.th.c, .slice t.ac.a t.ac.n t.ac.c, .slice t.de.a t.de.n t.de.c, .slice t.fu.a t.fu.n t.fu.c, .slice t.da.a t.da.n t.da.c, .slice t.pm.a t.pm.n t.pm.c, .slice t.lo.a t.lo.n t.lo.c] 28 (0, 0)) ∧ X.cell? ⟨bb, oo + k * 9 + 3, none⟩ = some (.int .i64 fl)) (fun _ h => h) ⟨q1.tab, hc2⟩ ?_
            simp only [List.setIfInBounds_toArray, List.set_cons_zero, List.set_cons_succ]
            clear hS hrun
            have hS : (fun X => X.heap[w.heap.size]? = some (.cells #[.int .i64 t.ti, .int .i64 t.au, .int .i64 t.rl, .int .i64 t.mx, .slice t.tx.a t.tx.n t.tx.c, .int .i64 t.fl, .slice t.pr.a t.pr.n t.pr.c, .slice t.gl.a t.gl.n t.gl.c, .slice (some ⟨bb, oo, none⟩) t.th.n t.th.c, .slice t.ac.a t.ac.n t.ac.c, .slice t.de.a t.de.n t.de.c, .slice t.fu.a t.fu.n t.fu.c, .slice t.da.a t.da.n t.da.c, .slice t.pm.a t.pm.n t.pm.c, .slice t.lo.a t.lo.n t.lo.c] 28 (0, 0)) ∧ X.cell? ⟨bb, oo + k * 9 + 3, none⟩ = some (.int .i64 fl)) w5 := ⟨q1.tab, hc2⟩
            clear hc2 hr2
            refine Rg.take (i := 10) (t := 73) rfl rfl (by kernel_rfl) (by kernel_rfl) (by kernel_rfl) (fun _ _ _ h => h) (by rfl) (by intro w0 hSw; first | (go_simp; done) | (go_simp; with_reducible rfl)) (by assumption) ?_
            simp only [List.setIfInBounds_toArray, List.set_cons_zero, List.set_cons_succ]
            have q2' : w5.heap[b]? = some (.cells #[.slice A0 m0 c0, .slice B1 h1 d1, .slice B2 h2 d2, .slice B3 h3 d3, .slice A4 m4 c4, .slice A5 m5 c5, .slice A6 m6 c6, .int .u64 (fr t.rl), .int .i64 0, .int .i64 0, .int .i64 0, .int .i64 0, .int .i64 0] 31 (0, 0)) := q2
            obtain ⟨y0, y1, y2, y3, y4, y5, y6, y7, y8, y9, y10, y11, y12, yf⟩ := cells13 q2'
            have hc2 : (w5.setCell ⟨b, 4, none⟩ (.slice B4 h4 d4)).cell? ⟨bb, oo + k * 9 + 3, none⟩ = some _ := (q3.na.below.cell (p := ⟨bb, oo + k * 9 + 3, none⟩) hb0).trans H3.out
            have HB2 : Hid (Nb w #[.int .i64 t.ti, .int .i64 t.au, .int .i64 t.rl, .int .i64 t.mx, .slice t.tx.a t.tx.n t.tx.c, .int .i64 t.fl, .slice t.pr.a t.pr.n t.pr.c, .slice t.gl.a t.gl.n t.gl.c, .slice (some ⟨bb, oo, none⟩) t.th.n t.th.c, .slice t.ac.a t.ac.n t.ac.c, .slice t.de.a t.de.n t.de.c, .slice t.fu.a t.fu.n t.fu.c, .slice t.da.a t.da.n t.da.c, .slice t.pm.a t.pm.n t.pm.c, .slice t.lo.a t.lo.n t.lo.c] #[.slice none 0 0, .slice none 0 0, .slice none 0 0, .slice none 0 0, .slice none 0 0, .slice none 0 0, .slice none 0 0, .int .u64 0, .int .i64 0, .int .i64 0, .int .i64 0, .int .i64 0, .int .i64 0] 28 31 b [((.slice A0 m0 c0), t.gl.l), ((.slice B1 h1 d1), (L1 ++ [pa])), ((.slice B2 h2 d2), (L2 ++ [C2])), ((.slice B3 h3 d3), (L3 ++ [C3])), ((.slice B4 h4 d4), (L4 ++ [fl])), ((.slice A5 m5 c5), L5), ((.slice A6 m6 c6), (List.replicate t.da.n 0))] (.int .u64 (fr t.rl)) (w5.setCell ⟨b, 4, none⟩ (.slice B4 h4 d4))) := Lib.hid q3
            refine Rg.one (i := 11) (by kernel_rfl) ?_
            refine RgIn.effN (i := 11) (w1 := w5.setCell ⟨b, 4, none⟩ (.slice B4 h4 d4)) rfl rfl (by rfl) (by first | (go_simp; done) | (go_simp; with_reducible rfl)) ⟨⟨q3.na.tab, hc2⟩, ?_⟩
            refine wpAnyH_done (by kernel_rfl) ?_ _
            clear HB hc2 q1 q2 q2' q3 O hB hg hv hS y0 y1 y2 y3 y4 y5 y6 y7 y8 y9 y10 y11 y12 yf
            obtain ⟨U4, hU4⟩ : ∃ U4, w5.setCell ⟨b, 4, none⟩ (.slice B4 h4 d4) = U4 := ⟨_, rfl⟩
            rw [hU4] at HB2 ⊢
            clear hU4
            have HB := HB2
            clear HB2
            go_wp2_with fail
            go_meet
            exact ⟨rfl, _, _, _, HB.out⟩
          · have hr2 := rd_lit V0 3 [fl] #[.int .i64 fl] rfl 1 rfl
            have hz := HB.out.on ((Below.refl V0.heap.size V0).alloc (Nat.le_refl _) (.cells #[.int .i64 fl] 3))
            have hc2 := (hz.na.below.cell (p := ⟨bb, oo + k * 9 + 3, none⟩) hb0).trans H3.out
            refine Rg.eff (i := 8) (t := 71) (v := .slice (some ⟨V0.heap.size, 0, none⟩) 1 1) (w1 := V0.alloc (.cells #[.int .i64 fl] 3)) rfl rfl (by rfl) (by first | (go_simp; done) | (go_simp; with_reducible rfl)) (fun X => X.heap[w.heap.size]? = some (.cells #[.int .i64 t.ti, .int .i64 t.au, .int .i64 t.rl, .int .i64 t.mx, .slice t.tx.a t.tx.n t.tx.c, .int .i64 t.fl, .slice t.pr.a t.pr.n t.pr.c, .slice t.gl.a t.gl.n t.gl.c, .slice (some ⟨bb, oo, none⟩) t.th.n t.th.c, .slice t.ac.a t.ac.n t.ac.c, .slice t.de.a t.de.n t.de.c, .slice t.fu.a t.fu.n t.fu.c, .slice t.da.a t.da.n t.da.c, .slice t.pm.a t.pm.n t.pm.c, .slice t.lo.a t.lo.n t.lo.c] 28 (0, 0)) ∧ X.cell? ⟨bb, oo + k * 9 + 3, none⟩ = some (.int .i64 fl)) (fun _ h => h) ⟨hz.na.tab, hc2⟩ ?_
            simp only [List.setIfInBounds_toArray, List.set_cons_zero, List.set_cons_succ]
            obtain ⟨V1, hV⟩ : ∃ V1, V0.alloc (.cells #[.int .i64 fl] 3) = V1 := ⟨_, rfl⟩
            rw [hV] at hz hc2 hr2 ⊢
            clear hV HB hS
            have HB := Lib.hid hz
            have hS : (fun X => X.heap[w.heap.size]? = some (.cells #[.int .i64 t.ti, .int .i64 t.au, .int .i64 t.rl, .int .i64 t.mx, .slice t.tx.a t.tx.n t.tx.c, .int .i64 t.fl, .slice t.pr.a t.pr.n t.pr.c, .slice t.gl.a t.gl.n t.gl.c, .slice (some ⟨bb, oo, none⟩) t.th.n t.th.c, .slice t.ac.a t.ac.n t.ac.c, .slice t.de.a t.de.n t.de.c, .slice t.fu.a t.fu.n t.fu.c, .slice t.da.a t.da.n t.da.c, .slice t.pm.a t.pm.n t.pm.c, .slice t.lo.a t.lo.n t.lo.c] 28 (0, 0)) ∧ X.cell? ⟨bb, oo + k * 9 + 3, none⟩ = some (.int .i64 fl)) V1 := ⟨hz.na.tab, hc2⟩
            clear hz hc2
            refine Rg.one (i := 1) (by kernel_rfl) ?_
            obtain ⟨y0, y1, y2, y3, y4, y5, y6, y7, y8, y9, y10, y11, y12, yf⟩ := cells13 HB.out.box
            refine Rg.eff (i := 1) (t := 64) (v := (.slice A4 m4 c4)) (w1 := V1) rfl rfl (by rfl) (by first | (go_simp; done) | (go_simp; with_reducible rfl)) (fun X => X.heap[w.heap.size]? = some (.cells #[.int .i64 t.ti, .int .i64 t.au, .int .i64 t.rl, .int .i64 t.mx, .slice t.tx.a t.tx.n t.tx.c, .int .i64 t.fl, .slice t.pr.a t.pr.n t.pr.c, .slice t.gl.a t.gl.n t.gl.c, .slice (some ⟨bb, oo, none⟩) t.th.n t.th.c, .slice t.ac.a t.ac.n t.ac.c, .slice t.de.a t.de.n t.de.c, .slice t.fu.a t.fu.n t.fu.c, .slice t.da.a t.da.n t.da.c, .slice t.pm.a t.pm.n t.pm.c, .slice t.lo.a t.lo.n t.lo.c] 28 (0, 0)) ∧ X.cell? ⟨bb, oo + k * 9 + 3, none⟩ = some (.int .i64 fl)) (fun _ h => h) hS ?_
            simp only [List.setIfInBounds_toArray, List.set_cons_zero, List.set_cons_succ]
            clear y0 y1 y2 y3 y4 y5 y6 y7 y8 y9 y10 y11 y12 yf
            obtain ⟨v', w5, hrun, O, hB, hg, hv⟩ := Sq.run_append elI 23 (HB.out.na.held.at_ (a := [_, _, _, _])) (some ⟨V0.heap.size, 0, none⟩) 1 1 [fl] hr2 hb4 hc4 HB.out.na.lt
            obtain ⟨B4, d4, hx, _, _⟩ := O.shape
            generalize (L4 ++ [fl]).length = h4 at hx
            subst hx
            obtain ⟨q1, q2⟩ := Nb.mid (a := [_, _, _, _]) (HB.out) hB hg O hv
            have q3 := Nb.fin (a := [_, _, _, _]) HB.out.hne q1 q2
            have hc2 := (q1.below.cell (p := ⟨bb, oo + k * 9 + 3, none⟩) hb0).trans H3.out
            refine Rg.one (i := 9) (by kernel_rfl) ?_
            refine Rg.eff (i := 9) (t := 72) (v := (.slice B4 h4 d4)) (w1 := w5) rfl rfl (by rfl) (exec_append _ _ rfl rfl rfl hrun) (fun X => X.heap[w.heap.size]? = some (.cells #[.int .i64 t.ti, .int .i64 t.au, .int .i64 t.rl, .int .i64 t.mx, .slice t.tx.a t.tx.n t.tx.c, .int .i64 t.fl, .slice t.pr.a t.pr.n t.pr.c, .slice t.gl.a t.gl.n t.gl.c, .slice (some ⟨bb, oo, none⟩) t.th.n t.th.c, .slice t.ac.a t.ac.n t.ac.c, .slice t.de.a t.de.n t.de.c, .slice t.fu.a t.fu.n t.fu.c, .slice t.da.a t.da.n t.da.c, .slice t.pm.a t.pm.n t.pm.c, .slice t.lo.a t.lo.n t.lo.c] 28 (0, 0)) ∧ X.cell? ⟨bb, oo + k * 9 + 3, none⟩ = some (.int .i64 fl)) (fun _ h => h) ⟨q1.tab, hc2⟩ ?_
            simp only [List.setIfInBounds_toArray, List.set_cons_zero, List.set_cons_succ]
            clear hS hrun
            have hS : (fun X => X.heap[w.heap.size]? = some (.cells #[.int .i64 t.ti, .int .i64 t.au, .int .i64 t.rl, .int .i64 t.mx, .slice t.tx.a t.tx.n t.tx.c, .int .i64 t.fl, .slice t.pr.a t.pr.n t.pr.c, .slice t.gl.a t.gl.n t.gl.c, .slice (some ⟨bb, oo, none⟩) t.th.n t.th.c, .slice t.ac.a t.ac.n t.ac.c, .slice t.de.a t.de.n t.de.c, .slice t.fu.a t.fu.n t.fu.c, .slice t.da.a t.da.n t.da.c, .slice t.pm.a t.pm.n t.pm.c, .slice t.lo.a t.lo.n t.lo.c] 28 (0, 0)) ∧ X.cell? ⟨bb, oo + k * 9 + 3, none⟩ = some (.int .i64 fl)) w5 := ⟨q1.tab, hc2⟩
            clear hc2 hr2
            refine Rg.take (i := 10) (t := 73) rfl rfl (by kernel_rfl) (by kernel_rfl) (by kernel_rfl) (fun _ _ _ h => h) (by rfl) (by intro w0 hSw; first | (go_simp; done) | (go_simp; with_reducible rfl)) (by assumption) ?_
            simp only [List.setIfInBounds_toArray, List.set_cons_zero, List.set_cons_succ]
            have q2' : w5.heap[b]? = some (.cells #[.slice A0 m0 c0, .slice B1 h1 d1, .slice B2 h2 d2, .slice B3 h3 d3, .slice A4 m4 c4, .slice A5 m5 c5, .slice A6 m6 c6, .int .u64 (fr t.rl), .int .i64 0, .int .i64 0, .int .i64 0, .int .i64 0, .int .i64 0] 31 (0, 0)) := q2
            obtain ⟨y0, y1, y2, y3, y4, y5, y6, y7, y8, y9, y10, y11, y12, yf⟩ := cells13 q2'
            have hc2 : (w5.setCell ⟨b, 4, none⟩ (.slice B4 h4 d4)).cell? ⟨bb, oo + k * 9 + 3, none⟩ = some _ := (q3.na.below.cell (p := ⟨bb, oo + k * 9 + 3, none⟩) hb0).trans H3.out
            have HB2 : Hid (Nb w #[.int .i64 t.ti, .int .i64 t.au, .int .i64 t.rl, .int .i64 t.mx, .slice t.tx.a t.tx.n t.tx.c, .int .i64 t.fl, .slice t.pr.a t.pr.n t.pr.c, .slice t.gl.a t.gl.n t.gl.c, .slice (some ⟨bb, oo, none⟩) t.th.n t.th.c, .slice t.ac.a t.ac.n t.ac.c, .slice t.de.a t.de.n t.de.c, .slice t.fu.a t.fu.n t.fu.c, .slice t.da.a t.da.n t.da.c, .slice t.pm.a t.pm.n t.pm.c, .slice t.lo.a t.lo.n t.lo.c] #[.slice none 0 0, .slice none 0 0, .slice none 0 0, .slice none 0 0, .slice none 0 0, .slice none 0 0, .slice none 0 0, .int .u64 0, .int .i64 0, .int .i64 0, .int .i64 0, .int .i64 0, .int .i64 0] 28 31 b [((.slice A0 m0 c0), t.gl.l), ((.slice B1 h1 d1), (L1 ++ [pa])), ((.slice B2 h2 d2), (L2 ++ [C2])), ((.slice B3 h3 d3), (L3 ++ [C3])), ((.slice B4 h4 d4), (L4 ++ [fl])), ((.slice A5 m5 c5), L5), ((.slice A6 m6 c6), (List.replicate t.da.n 0))] (.int .u64 (fr t.rl)) (w5.setCell ⟨b, 4, none⟩ (.slice B4 h4 d4))) := Lib.hid q3
            refine Rg.one (i := 11) (by kernel_rfl) ?_
            refine RgIn.effN (i := 11) (w1 := w5.setCell ⟨b, 4, none⟩ (.slice B4 h4 d4)) rfl rfl (by rfl) (by first | (go_simp; done) | (go_simp; with_reducible rfl)) ⟨⟨q3.na.tab, hc2⟩, ?_⟩
            refine wpAnyH_done (by kernel_rfl) ?_ _
            clear HB hc2 q1 q2 q2' q3 O hB hg hv hS y0 y1 y2 y3 y4 y5 y6 y7 y8 y9 y10 y11 y12 yf
            obtain ⟨U4, hU4⟩ : ∃ U4, w5.setCell ⟨b, 4, none⟩ (.slice B4 h4 d4) = U4 := ⟨_, rfl⟩
            rw [hU4] at HB2 ⊢
            clear hU4
            have HB := HB2
            clear HB2
            go_wp2_with fail
            go_meet
            exact ⟨rfl, _, _, _, HB.out⟩
        case rest =>
        obtain ⟨rfl, B4, h4, d4, hB⟩ := hcut
        have HB2 := Lib.hid hB
        clear hB HB hU3 a0 a1 a2 a3 a4 a5 a6 a7 a8 a9 a10 a11 a12 a13 a14 af y0 y1 y2 y3 y4 y5 y6 y7 y8 y9 y10 y11 y12 yf s0 s1 s2 s3 s4 s5 s6 s7 s8 s9 s10 s11 s12 s13 s14 sf p0 p1 p2 p3 p4 p5 p6 p7 p8 p9 p10 p11 p12 pf
        have HB := HB2
        clear HB2
        go_wp2_with fail
        have hS : (fun X => X.heap[w.heap.size]? = some (.cells #[.int .i64 t.ti, .int .i64 t.au, .int .i64 t.rl, .int .i64 t.mx, .slice t.tx.a t.tx.n t.tx.c, .int .i64 t.fl, .slice t.pr.a t.pr.n t.pr.c, .slice t.gl.a t.gl.n t.gl.c, .slice (some ⟨bb, oo, none⟩) t.th.n t.th.c, .slice t.ac.a t.ac.n t.ac.c, .slice t.de.a t.de.n t.de.c, .slice t.fu.a t.fu.n t.fu.c, .slice t.da.a t.da.n t.da.c, .slice t.pm.a t.pm.n t.pm.c, .slice t.lo.a t.lo.n t.lo.c] 28 (0, 0)) ∧ X.cell? ⟨bb, oo + k * 9 + 5, none⟩ = some (.slice qA qn qc)) wc.drew := ⟨HB.out.drew.na.tab, (HB.out.drew.na.below.cell (p := ⟨bb, oo + k * 9 + 5, none⟩) hb0).trans H5.out⟩
        have hz := HB.out.drew
        refine wp_region_held_drew (S := (fun X => X.heap[w.heap.size]? = some (.cells #[.int .i64 t.ti, .int .i64 t.au, .int .i64 t.rl, .int .i64 t.mx, .slice t.tx.a t.tx.n t.tx.c, .int .i64 t.fl, .slice t.pr.a t.pr.n t.pr.c, .slice t.gl.a t.gl.n t.gl.c, .slice (some ⟨bb, oo, none⟩) t.th.n t.th.c, .slice t.ac.a t.ac.n t.ac.c, .slice t.de.a t.de.n t.de.c, .slice t.fu.a t.fu.n t.fu.c, .slice t.da.a t.da.n t.da.c, .slice t.pm.a t.pm.n t.pm.c, .slice t.lo.a t.lo.n t.lo.c] 28 (0, 0)) ∧ X.cell? ⟨bb, oo + k * 9 + 5, none⟩ = some (.slice qA qn qc))) (by kernel_rfl) hS (fun hHeld => ?_)
        obtain ⟨V3, hV⟩ : ∃ V3, wc.drew = V3 := ⟨_, rfl⟩
        rw [hV] at hz hS ⊢
        clear hV hHeld HB 
        have HB := Lib.hid hz
        clear hz
        refine Rg.take (i := 0) (t := 74) rfl rfl (by kernel_rfl) (by kernel_rfl) (by kernel_rfl) (fun _ _ _ h => h) (by rfl) (by intro w0 hSw; first | (go_simp; done) | (go_simp; with_reducible rfl)) (by assumption) ?_
        simp only [List.setIfInBounds_toArray, List.set_cons_zero, List.set_cons_succ]
        refine Rg.take (i := 2) (t := 76) rfl rfl (by kernel_rfl) (by kernel_rfl) (by kernel_rfl) (fun _ _ _ h => h) (by rfl) (by intro w0 hSw; first | (go_simp; done) | (go_simp; with_reducible rfl)) (by assumption) ?_
        simp only [List.setIfInBounds_toArray, List.set_cons_zero, List.set_cons_succ]
        refine Rg.take (i := 3) (t := 77) rfl rfl (by kernel_rfl) (by kernel_rfl) (by kernel_rfl) (fun _ _ _ h => h) (by rfl) (by intro w0 hSw; obtain ⟨hq, hc⟩ := hSw; obtain ⟨t0, t1, t2, t3, t4, t5, t6, t7, t8, t9, t10, t11, t12, t13, t14, tf⟩ := cells15 hq; first | (go_simp; done) | (go_simp; with_reducible rfl)) (by assumption) ?_
        simp only [List.setIfInBounds_toArray, List.set_cons_zero, List.set_cons_succ]
        refine Rg.take (i := 4) (t := 78) rfl rfl (by kernel_rfl) (by kernel_rfl) (by kernel_rfl) (fun _ _ _ h => h) (by rfl) (by intro w0 hSw; first | (go_simp; done) | (go_simp; with_reducible rfl)) (by assumption) ?_
        simp only [List.setIfInBounds_toArray, List.set_cons_zero, List.set_cons_succ]
        refine Rg.take (i := 5) (t := 79) rfl rfl (by kernel_rfl) (by kernel_rfl) (by kernel_rfl) (fun _ _ _ h => h) (by rfl) (by intro w0 hSw; first | (go_simp; done) | (go_simp; with_reducible rfl)) (by assumption) ?_
        simp only [List.setIfInBounds_toArray, List.set_cons_zero, List.set_cons_succ]
        refine Rg.take (i := 6) (t := 80) rfl rfl (by kernel_rfl) (by kernel_rfl) (by kernel_rfl) (fun _ _ _ h => h) (by rfl) (by intro w0 hSw; first | (go_simp; done) | (go_simp; with_reducible rfl)) (by assumption) ?_
        simp only [List.setIfInBounds_toArray, List.set_cons_zero, List.set_cons_succ]
        refine Rg.take (i := 7) (t := 81) rfl rfl (by kernel_rfl) (by kernel_rfl) (by kernel_rfl) (fun _ _ _ h => h) (by rfl) (by intro w0 hSw; obtain ⟨hq, hc⟩ := hSw; first | (go_simp; done) | (go_simp; with_reducible rfl)) (by assumption) ?_
        simp only [List.setIfInBounds_toArray, List.set_cons_zero, List.set_cons_succ]
        refine Rg.one (i := 1) (by kernel_rfl) ?_
        obtain ⟨y0, y1, y2, y3, y4, y5, y6, y7, y8, y9, y10, y11, y12, yf⟩ := cells13 HB.out.box
        refine Rg.eff (i := 1) (t := 75) (v := (.slice A5 m5 c5)) (w1 := V3) rfl rfl (by rfl) (by first | (go_simp; done) | (go_simp; with_reducible rfl)) (fun X => X.heap[w.heap.size]? = some (.cells #[.int .i64 t.ti, .int .i64 t.au, .int .i64 t.rl, .int .i64 t.mx, .slice t.tx.a t.tx.n t.tx.c, .int .i64 t.fl, .slice t.pr.a t.pr.n t.pr.c, .slice t.gl.a t.gl.n t.gl.c, .slice (some ⟨bb, oo, none⟩) t.th.n t.th.c, .slice t.ac.a t.ac.n t.ac.c, .slice t.de.a t.de.n t.de.c, .slice t.fu.a t.fu.n t.fu.c, .slice t.da.a t.da.n t.da.c, .slice t.pm.a t.pm.n t.pm.c, .slice t.lo.a t.lo.n t.lo.c] 28 (0, 0)) ∧ X.cell? ⟨bb, oo + k * 9 + 5, none⟩ = some (.slice qA qn qc)) (fun _ h => h) hS ?_
        simp only [List.setIfInBounds_toArray, List.set_cons_zero, List.set_cons_succ]
        clear y0 y1 y2 y3 y4 y5 y6 y7 y8 y9 y10 y11 y12 yf
        obtain ⟨v', w5, hrun, O, hB, hg, hv⟩ := Sq.run_append elI 23 (HB.out.na.held.at_ (a := [_, _, _, _, _])) qA qn qc ql (HQL.out.below HB.out.na.below) hb5 hc5 HB.out.na.lt
        obtain ⟨B5, d5, hx, _, _⟩ := O.shape
        generalize (L5 ++ ql).length = h5 at hx
        subst hx
        obtain ⟨q1, q2⟩ := Nb.mid (a := [_, _, _, _, _]) (HB.out) hB hg O hv
        have q3 := Nb.fin (a := [_, _, _, _, _]) HB.out.hne q1 q2
        have hc2 := (q1.below.cell (p := ⟨bb, oo + k * 9 + 5, none⟩) hb0).trans H5.out
        refine Rg.one (i := 8) (by kernel_rfl) ?_
        refine Rg.eff (i := 8) (t := 82) (v := (.slice B5 h5 d5)) (w1 := w5) rfl rfl (by rfl) (exec_append _ _ rfl rfl rfl hrun) (fun X => X.heap[w.heap.size]? = some (.cells #[.int .i64 t.ti, .int .i64 t.au, .int .i64 t.rl, .int .i64 t.mx, .slice t.tx.a t.tx.n t.tx.c, .int .i64 t.fl, .slice t.pr.a t.pr.n t.pr.c, .slice t.gl.a t.gl.n t.gl.c, .slice (some ⟨bb, oo, none⟩) t.th.n t.th.c, .slice t.ac.a t.ac.n t.ac.c, .slice t.de.a t.de.n t.de.c, .slice t.fu.a t.fu.n t.fu.c, .slice t.da.a t.da.n t.da.c, .slice t.pm.a t.pm.n t.pm.c, .slice t.lo.a t.lo.n t.lo.c] 28 (0, 0)) ∧ X.cell? ⟨bb, oo + k * 9 + 5, none⟩ = some (.slice qA qn qc)) (fun _ h => h) ⟨q1.tab, hc2⟩ ?_
        simp only [List.setIfInBounds_toArray, List.set_cons_zero, List.set_cons_succ]
        clear hS hrun
        have hS : (fun X => X.heap[w.heap.size]? = some (.cells #[.int .i64 t.ti, .int .i64 t.au, .int .i64 t.rl, .int .i64 t.mx, .slice t.tx.a t.tx.n t.tx.c, .int .i64 t.fl, .slice t.pr.a t.pr.n t.pr.c, .slice t.gl.a t.gl.n t.gl.c, .slice (some ⟨bb, oo, none⟩) t.th.n t.th.c, .slice t.ac.a t.ac.n t.ac.c, .slice t.de.a t.de.n t.de.c, .slice t.fu.a t.fu.n t.fu.c, .slice t.da.a t.da.n t.da.c, .slice t.pm.a t.pm.n t.pm.c, .slice t.lo.a t.lo.n t.lo.c] 28 (0, 0)) ∧ X.cell? ⟨bb, oo + k * 9 + 5, none⟩ = some (.slice qA qn qc)) w5 := ⟨q1.tab, hc2⟩
        clear hc2
        refine Rg.take (i := 9) (t := 83) rfl rfl (by kernel_rfl) (by kernel_rfl) (by kernel_rfl) (fun _ _ _ h => h) (by rfl) (by intro w0 hSw; first | (go_simp; done) | (go_simp; with_reducible rfl)) (by assumption) ?_
        simp only [List.setIfInBounds_toArray, List.set_cons_zero, List.set_cons_succ]
        have q2' : w5.heap[b]? = some (.cells #[.slice A0 m0 c0, .slice B1 h1 d1, .slice B2 h2 d2, .slice B3 h3 d3, .slice B4 h4 d4, .slice A5 m5 c5, .slice A6 m6 c6, .int .u64 (fr t.rl), .int .i64 0, .int .i64 0, .int .i64 0, .int .i64 0, .int .i64 0] 31 (0, 0)) := q2
        obtain ⟨y0, y1, y2, y3, y4, y5, y6, y7, y8, y9, y10, y11, y12, yf⟩ := cells13 q2'
        have hc2 : (w5.setCell ⟨b, 5, none⟩ (.slice B5 h5 d5)).cell? ⟨bb, oo + k * 9 + 5, none⟩ = some _ := (q3.na.below.cell (p := ⟨bb, oo + k * 9 + 5, none⟩) hb0).trans H5.out
        have HB2 : Hid (Nb w #[.int .i64 t.ti, .int .i64 t.au, .int .i64 t.rl, .int .i64 t.mx, .slice t.tx.a t.tx.n t.tx.c, .int .i64 t.fl, .slice t.pr.a t.pr.n t.pr.c, .slice t.gl.a t.gl.n t.gl.c, .slice (some ⟨bb, oo, none⟩) t.th.n t.th.c, .slice t.ac.a t.ac.n t.ac.c, .slice t.de.a t.de.n t.de.c, .slice t.fu.a t.fu.n t.fu.c, .slice t.da.a t.da.n t.da.c, .slice t.pm.a t.pm.n t.pm.c, .slice t.lo.a t.lo.n t.lo.c] #[.slice none 0 0, .slice none 0 0, .slice none 0 0, .slice none 0 0, .slice none 0 0, .slice none 0 0, .slice none 0 0, .int .u64 0, .int .i64 0, .int .i64 0, .int .i64 0, .int .i64 0, .int .i64 0] 28 31 b [((.slice A0 m0 c0), t.gl.l), ((.slice B1 h1 d1), (L1 ++ [pa])), ((.slice B2 h2 d2), (L2 ++ [C2])), ((.slice B3 h3 d3), (L3 ++ [C3])), ((.slice B4 h4 d4), (L4 ++ [fl])), ((.slice B5 h5 d5), (L5 ++ ql)), ((.slice A6 m6 c6), (List.replicate t.da.n 0))] (.int .u64 (fr t.rl)) (w5.setCell ⟨b, 5, none⟩ (.slice B5 h5 d5))) := Lib.hid q3
        refine Rg.one (i := 10) (by kernel_rfl) ?_
        refine RgIn.effN (i := 10) (w1 := w5.setCell ⟨b, 5, none⟩ (.slice B5 h5 d5)) rfl rfl (by rfl) (by first | (go_simp; done) | (go_simp; with_reducible rfl)) ⟨⟨q3.na.tab, hc2⟩, ?_⟩
        refine wpAnyH_done (by kernel_rfl) ?_ _
        clear HB hc2 q1 q2 q2' q3 O hB hg hv hS y0 y1 y2 y3 y4 y5 y6 y7 y8 y9 y10 y11 y12 yf
        obtain ⟨U5, hU5⟩ : ∃ U5, w5.setCell ⟨b, 5, none⟩ (.slice B5 h5 d5) = U5 := ⟨_, rfl⟩
        rw [hU5] at HB2 ⊢
        clear hU5
        have HB := HB2
        clear HB2
        go_wp2_with fail
        go_roundw
        case rel =>
          refine ⟨k + 1, B1, B2, B3, B4, B5, h1, d1, h2, d2, h3, d3, h4, d4, h5, d5, by omega, by go_num, ?_⟩
          rw [E1.out, E2.out, E3.out, E4.out, E5.out]
          exact HB.out
        case measure => simp [intOf]; omega
      · have t1 : decide (k < t.th.n) = false := decide_eq_false hlt
        obtain rfl : t.th.n = k := by omega
        have HB := Lib.hid hB
        clear hB
        obtain ⟨s0, s1, s2, s3, s4, s5, s6, s7, s8, s9, s10, s11, s12, s13, s14, sf⟩ := cells15 HB.out.na.tab; obtain ⟨p0, p1, p2, p3, p4, p5, p6, p7, p8, p9, p10, p11, p12, pf⟩ := cells13 HB.out.box
        obtain ⟨y0, y1, y2, y3, y4, y5, y6, y7, y8, y9, y10, y11, y12, yf⟩ := cells13 HB.out.na.res
        have a0 : w.heap.size + 1 ≠ b := fun h => HB.out.hne h.symm
        go_wp2_with fail
        (try simp only [Exit.inBlock, Exit.then])
        refine ret_c (set13 HB.out.na.res) rfl rfl Try.underlying31 rfl rfl ?_
        refine ⟨_, _, _, _, _, _, _, rfl, ⟨b, ?_⟩, ?_⟩
        · exact held_res HB.out
        · exact set13_below HB.out.na.below (by omega) (Nat.zero_le _)
end Go.Proofs.Ytncdicagadbafaa.NewW
