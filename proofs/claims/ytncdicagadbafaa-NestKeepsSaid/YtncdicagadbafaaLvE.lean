/- nest.leave. Conditions: the world reads, and things are within things as they must be. -/
import Derived.Test.YtncdicagadbafaaLvP
import Derived.RangeFuncWrites
namespace Go.Proofs.Ytncdicagadbafaa.LvE
open Go Go.RowKit NestP NestW NestX NestY ValP ValW ValX ValR Sq Rng RngU RngT RngC RngD RgIn WorldD CopP CopW MoveP LvP
attribute [local go_sem] Oper.semAt_some

def lst (g : Wd) (x : Int) (l : List Int) : List Int := l.foldl (fun a c => if at' g.ne c = x then setI a c (at' g.ne x) else a) g.ne
theorem lst_snoc (g : Wd) (x : Int) (l : List Int) (c : Int) : lst g x (l ++ [c]) = if at' g.ne c = x then setI (lst g x l) c (at' g.ne x) else lst g x l := by simp [lst]
theorem fold_same (p : Int → Prop) [DecidablePred p] (v : Int) (a : List Int) (d : Int) : ∀ L : List Int, (∀ e ∈ L, p e → e = d) → L.foldl (fun a c => if p c then setI a c v else a) (setI a d v) = setI a d v
  | [], _ => rfl
  | e :: L, h => by
    rw [List.foldl_cons]
    by_cases he : p e
    · rw [if_pos he, h e List.mem_cons_self he, show setI (setI a d v) d v = setI a d v by unfold setI; rw [List.set_set]]
      exact fold_same p v a d L fun f hf => h f (List.mem_cons_of_mem _ hf)
    · rw [if_neg he]
      exact fold_same p v a d L fun f hf => h f (List.mem_cons_of_mem _ hf)
theorem fold_find (p : Int → Prop) [DecidablePred p] (v : Int) : ∀ (L : List Int) (a : List Int), (∀ d ∈ L, ∀ e ∈ L, p d → p e → d = e) → L.foldl (fun a c => if p c then setI a c v else a) a = match L.find? fun c => decide (p c) with | none => a | some c => setI a c v
  | [], _, _ => rfl
  | e :: L, a, h => by
    rw [List.foldl_cons, List.find?_cons]
    by_cases he : p e
    · rw [if_pos he]
      simp only [he, decide_true]
      exact fold_same p v a e L fun f hf hp => (h e List.mem_cons_self f (List.mem_cons_of_mem _ hf) he hp).symm
    · rw [if_neg he]
      simp only [he, decide_false]
      exact fold_find p v L a fun d hd f hf => h d (List.mem_cons_of_mem _ hd) f (List.mem_cons_of_mem _ hf)
theorem lst_eq {g : Wd} (hG : NestP.Good g) {x : Int} (hx : isT g.n x = true) (hup : isT g.n (at' g.pa x) = true) : lst g x (kids g (at' g.pa x)) = lvNe g x := by
  unfold lst lvNe MoveP.ahead
  rw [fold_find (fun c => at' g.ne c = x)]
  · rfl
  · intro d hd e he h1 h2
    have hx' := isT_iff.1 hx
    exact path_uniq (by omega) (good_path hG hup) (hG.kids_nodup _) d hd e he h1 h2
theorem alloc2d {w W : World} {o1 o2 : Obj} (h : ((w.alloc o1).alloc o2).drew = W) :
    W.heap.size = w.heap.size + 2 ∧ W.heap[w.heap.size]? = some o1 ∧ W.heap[w.heap.size + 1]? = some o2 ∧ Below w.heap.size w W := by
  subst h
  have n1 := World.alloc_heap_new w o1
  have n2 := World.alloc_heap_new (w.alloc o1) o2
  simp only [World.size_alloc] at n2
  exact ⟨by show ((w.alloc o1).alloc o2).heap.size = _; simp, (Below.heap_alloc _ _ _ (by simp only [World.size_alloc]; omega)).trans n1, n2, Below.drew (((Below.refl _ w).alloc (Nat.le_refl _) _).alloc (by simp only [World.size_alloc]; omega) _)⟩
theorem own_kp {w W : World} {B b : Nat} {v : Value} {l : List Int} (h : Sq.Own I 3 w B v l) (hv : v.ownBlock = some b → False) (hk : Kept b w.heap.size w W) : Sq.Own I 3 W B v l := by
  have hl := fun k hk => (own_at h (k := k) hk).2
  obtain ⟨h0, h⟩ := h
  refine ⟨h0, ?_⟩
  rcases h with h | ⟨g', cap, cur, rfl, hB, hh, hr⟩
  · exact .inl h
  · exact .inr ⟨g', cap, cur, rfl, hB, (hk.2 g' (hl g' rfl) fun e => hv (by rw [← e]; rfl)).trans hh, hr⟩
theorem put_ow {w : World} {B : Nat} {v : Value} {g : Wd} (h : Ow w B v g) {D : Nat} {o o' : Obj} (hD : w.heap[D]? = some o) (ho : o.isCells = false) : Ow (w.putObj D o') B v g := by
  obtain ⟨B0, B1, B2, B3, B4, B5, B6, m0, d0, m1, d1, m2, d2, m3, d3, m4, d4, m5, d5, m6, d6, rfl, ⟨o0, o1, o2, o3, o4, o5, o6⟩, ap⟩ := h
  exact ⟨B0, B1, B2, B3, B4, B5, B6, m0, d0, m1, d1, m2, d2, m3, d3, m4, d4, m5, d5, m6, d6, rfl, ⟨ownsRow_putObj o0 _ hD ho, ownsRow_putObj o1 _ hD ho, ownsRow_putObj o2 _ hD ho, ownsRow_putObj o3 _ hD ho, ownsRow_putObj o4 _ hD ho, ownsRow_putObj o5 _ hD ho, ownsRow_putObj o6 _ hD ho⟩, ap⟩

set_option maxRecDepth 100000 in
set_option maxHeartbeats 8000000 in
theorem leave_else {A0 A1 A2 A3 A4 A5 A6 : Option Addr} {n0 c0 n c1 c2 c3 n4 c4 n5 c5 n6 c6 : Nat} (g : Wd) (hG : NestP.Good g) (hg : g.n = n) (i : Nat) (hi1 : 1 ≤ i) (hi2 : i < n) (j : Nat) (hj1 : 1 ≤ j) (hj2 : j < n) (hup : at' g.pa (i : Int) = (j : Int)) (hf : at' g.ch (j : Int) ≠ (i : Int)) (w : World) (r0 : Rd I w A0 n0 g.gl) (r1 : Rd I w A1 n g.pa) (r2 : Rd I w A2 n g.ch) (r3 : Rd I w A3 n g.ne) (r4 : Rd I w A4 n4 g.fl) (r5 : Rd I w A5 n5 g.pr) (r6 : Rd I w A6 n6 g.ti)
    (hb : n0 ≤ 17592186043904 ∧ n ≤ 17592186043904 ∧ n ≤ 17592186043904 ∧ n ≤ 17592186043904 ∧ n4 ≤ 17592186043904 ∧ n5 ≤ 17592186043904 ∧ n6 ≤ 17592186043904) :
    Calls Try.prog 109 #[.agg #[.slice A0 n0 c0, .slice A1 n c1, .slice A2 n c2, .slice A3 n c3, .slice A4 n4 c4, .slice A5 n5 c5, .slice A6 n6 c6, .int .u64 g.seed, .int .i64 g.sc, .int .i64 g.tu, .int .i64 g.ov, .int .i64 g.it, .int .i64 g.go], .int .i64 (i : Int)] w fun e w' => ∃ v, e = .returned v ∧ Ow w' w.heap.size v (MoveP.leave g (i : Int)) ∧ Below w.heap.size w w' := by
  have R0 := Lib.hid r0
  have R1 := Lib.hid r1
  have R2 := Lib.hid r2
  have R3 := Lib.hid r3
  have R4 := Lib.hid r4
  have R5 := Lib.hid r5
  have R6 := Lib.hid r6
  have HB := Lib.hid hb
  have HG := Lib.hid hG
  clear hb r0 r1 r2 r3 r4 r5 r6 hG
  have hi0 : (0 : Int) ≤ (i : Int) := by omega
  have hi3 : (i : Int) < (n : Int) := by omega
  refine (callsIn_wide (n := 3)).1 ?_
  refine callsIn_of_wp_marks Try.func109 rfl trivial ?_ rfl
  simp only [Try.ntmps109, List.size_toArray, List.length_cons, List.length_nil, Nat.reduceAdd, Nat.reduceSub, Array.replicate_succ, Array.replicate_zero, List.push_toArray, List.append_toArray, List.nil_append, List.cons_append]
  obtain ⟨W3, hW3⟩ : ∃ W3, ((w.alloc (.cells #[.slice A0 n0 c0, .slice A1 n c1, .slice A2 n c2, .slice A3 n c3, .slice A4 n4 c4, .slice A5 n5 c5, .slice A6 n6 c6, .int .u64 g.seed, .int .i64 g.sc, .int .i64 g.tu, .int .i64 g.ov, .int .i64 g.it, .int .i64 g.go] 31)).alloc (.cells #[.int .i64 (i : Int)] 3)).alloc (.cells #[.slice none 0 0, .slice none 0 0, .slice none 0 0, .slice none 0 0, .slice none 0 0, .slice none 0 0, .slice none 0 0, .int .u64 0, .int .i64 0, .int .i64 0, .int .i64 0, .int .i64 0, .int .i64 0] 31) = W3 := ⟨_, rfl⟩
  obtain ⟨s3, f0, f1, f2, hB3⟩ := alloc3 hW3
  have C := copy_i (c0 := c0) (c1 := c1) (c2 := c2) (c3 := c3) (c4 := c4) (c5 := c5) (c6 := c6) g W3 (R0.out.below hB3) (R1.out.below hB3) (R2.out.below hB3) (R3.out.below hB3) (R4.out.below hB3) (R5.out.below hB3) (R6.out.below hB3) HB.out
  have HC := Lib.hid C
  clear C
  obtain ⟨x0, x1, x2, x3, x4, x5, x6, x7, x8, x9, x10, x11, x12, xf⟩ := cells13 f0
  have hj0 : (0 : Int) ≤ (j : Int) := by omega
  have hj3 : (j : Int) < (n : Int) := by omega
  have hj4 : (j : Int) ≠ 0 := by omega
  gi_wp2
  refine ⟨trivial, ?_⟩
  refine (callsIn_wide.2 HC.out).mono ?_
  rintro e W4 ⟨v1, rfl, hO, hb4⟩
  obtain ⟨B0, B1, B2, B3, B4, B5, B6, m0, d0, m1, d1, m2, d2, m3, d3, m4, d4, m5, d5, m6, d6, rfl, ⟨o0, o1, o2, o3, o4, o5, o6⟩, ap⟩ := hO
  clear HC x0 x1 x2 x3 x4 x5 x6 x7 x8 x9 x10 x11 x12 xf
  have hm1 : m1 = n := o1.rd.len.trans hg
  have hm2 : m2 = n := o2.rd.len.trans (HG.out.chl.trans hg)
  have hm3 : m3 = n := o3.rd.len.trans (HG.out.nel.trans hg)
  rw [hm1] at o1 ap ⊢
  rw [hm2] at o2 ap ⊢
  rw [hm3] at o3 ap ⊢
  clear hm1 hm2 hm3 m1 m2 m3
  obtain ⟨g1, rfl, b1a, b1b, _⟩ := o1.at_ (by omega)
  obtain ⟨g2, rfl, b2a, b2b, _⟩ := o2.at_ (by omega)
  obtain ⟨g3, rfl, b3a, b3b, _⟩ := o3.at_ (by omega)
  have n12 : g1 ≠ g2 := fun h => pw_get ap (i := 1) (j := 2) rfl rfl (by omega) (k := g1) rfl (congrArg some h.symm)
  have n13 : g1 ≠ g3 := fun h => pw_get ap (i := 1) (j := 3) rfl rfl (by omega) (k := g1) rfl (congrArg some h.symm)
  have n23 : g2 ≠ g3 := fun h => pw_get ap (i := 2) (j := 3) rfl rfl (by omega) (k := g2) rfl (congrArg some h.symm)
  obtain ⟨W5, hW5⟩ : ∃ W5, W4.alloc (.cells #[.slice B0 m0 d0, .slice (some ⟨g1, 0, none⟩) n d1, .slice (some ⟨g2, 0, none⟩) n d2, .slice (some ⟨g3, 0, none⟩) n d3, .slice B4 m4 d4, .slice B5 m5 d5, .slice B6 m6 d6, .int .u64 g.seed, .int .i64 g.sc, .int .i64 g.tu, .int .i64 g.ov, .int .i64 g.it, .int .i64 g.go] 31) = W5 := ⟨_, rfl⟩
  have hb5 : Below W4.heap.size W4 W5 := by subst hW5; exact (Below.refl _ _).alloc (Nat.le_refl _) _
  have h5 : W5.heap[W4.heap.size]? = some (.cells #[.slice B0 m0 d0, .slice (some ⟨g1, 0, none⟩) n d1, .slice (some ⟨g2, 0, none⟩) n d2, .slice (some ⟨g3, 0, none⟩) n d3, .slice B4 m4 d4, .slice B5 m5 d5, .slice B6 m6 d6, .int .u64 g.seed, .int .i64 g.sc, .int .i64 g.tu, .int .i64 g.ov, .int .i64 g.it, .int .i64 g.go] 31 (0, 0)) := by subst hW5; exact World.alloc_heap_new W4 _
  have s5 : W5.heap.size = W4.heap.size + 1 := by subst hW5; simp
  have s4 := hb4.size
  have hb35 : Below W3.heap.size W3 W5 := hb4.trans (hb5.mono hb4.size)
  have h0 := (hb35.block _ (by omega)).trans f0
  have h1 := (hb35.block _ (by omega)).trans f1
  have h2 := (hb35.block _ (by omega)).trans f2
  have HB5 := Lib.hid (hB3.trans (hb35.mono (by omega)))
  have AP := Lib.hid ap
  have O0 := Lib.hid (o0.below hb5)
  have O1 := Lib.hid (o1.below hb5)
  have O2 := Lib.hid (o2.below hb5)
  have O3 := Lib.hid (o3.below hb5)
  have O4 := Lib.hid (o4.below hb5)
  have O5 := Lib.hid (o5.below hb5)
  have O6 := Lib.hid (o6.below hb5)
  clear f0 f1 f2 o0 o1 o2 o3 o4 o5 o6 ap hb4 hb5 hB3 hb35
  obtain ⟨y0, yf⟩ := cell1 h1
  obtain ⟨u0, u1, u2, u3, u4, u5, u6, u7, u8, u9, u10, u11, u12, uf⟩ := cells13 h5
  obtain ⟨r0, r1, r2, r3, r4, r5, r6, r7, r8, r9, r10, r11, r12, rf⟩ := cells13 h2
  have e1 : w.heap.size + 1 + 1 ≠ g1 := by omega
  have e2 : w.heap.size + 1 + 1 ≠ g2 := by omega
  have e3 : w.heap.size + 1 + 1 ≠ g3 := by omega
  have k1 := own_cell O1.out hi2
  have k2 := own_cell O2.out hi2
  have k3 := own_cell O3.out hi2
  have z1 := own_frozen O1.out (by omega)
  have z2 := own_frozen O2.out (by omega)
  have z3 := own_frozen O3.out (by omega)
  have k2j := own_cell O2.out hj2
  rw [hup] at k1
  obtain ⟨a0, a1, a2, a3, a4, a5, a6, a7, a8, a9, a10, a11, a12, af⟩ := cells13 h0
  gi_wp2
  refine region_heldW (S := fun U => U.heap[W4.heap.size]? = some (.cells #[.slice B0 m0 d0, .slice (some ⟨g1, 0, none⟩) n d1, .slice (some ⟨g2, 0, none⟩) n d2, .slice (some ⟨g3, 0, none⟩) n d3, .slice B4 m4 d4, .slice B5 m5 d5, .slice B6 m6 d6, .int .u64 g.seed, .int .i64 g.sc, .int .i64 g.tu, .int .i64 g.ov, .int .i64 g.it, .int .i64 g.go] 31 (0, 0)) ∧ U.heap[w.heap.size + 1]? = some (.cells #[.int .i64 (i : Int)] 3 (0, 0)) ∧ U.cell? ⟨g2, j, none⟩ = some (.int .i64 (at' g.ch (j : Int)))) (by kernel_rfl) ⟨h5, h1, k2j⟩ (fun hHeld => ?_)
  refine Rg.take (i := 0) (t := 39) (v := .pointer (some ⟨W4.heap.size, 2, none⟩)) rfl rfl (by kernel_rfl) (by kernel_rfl) (by kernel_rfl) (fun _ _ _ h => h) (by rfl) (by intro w0 hSw; first | (go_simp; done) | (go_simp; with_reducible rfl)) (by assumption) ?_
  simp only [List.setIfInBounds_toArray, List.set_cons_zero, List.set_cons_succ]
  refine Rg.take (i := 1) (t := 40) (v := .slice (some ⟨g2, 0, none⟩) n d2) rfl rfl (by kernel_rfl) (by kernel_rfl) (by kernel_rfl) (fun _ _ _ h => h) (by rfl) (by intro w0 hSw; obtain ⟨x0, x1, x2, x3, x4, x5, x6, x7, x8, x9, x10, x11, x12, xf⟩ := cells13 hSw.1; first | (go_simp; done) | (go_simp; with_reducible rfl)) (by assumption) ?_
  simp only [List.setIfInBounds_toArray, List.set_cons_zero, List.set_cons_succ]
  refine Rg.take (i := 2) (t := 41) (v := .int .i64 ((j : Int))) rfl rfl (by kernel_rfl) (by kernel_rfl) (by kernel_rfl) (fun _ _ _ h => h) (by rfl) (by intro w0 hSw; first | (go_simp; done) | (go_simp; with_reducible rfl)) (by assumption) ?_
  simp only [List.setIfInBounds_toArray, List.set_cons_zero, List.set_cons_succ]
  refine Rg.take (i := 3) (t := 42) (v := .pointer (some ⟨g2, j, none⟩)) rfl rfl (by kernel_rfl) (by kernel_rfl) (by kernel_rfl) (fun _ _ _ h => h) (by rfl) (by intro w0 hSw; first | (go_simp; done) | (go_simp; with_reducible rfl)) (by assumption) ?_
  simp only [List.setIfInBounds_toArray, List.set_cons_zero, List.set_cons_succ]
  refine Rg.take (i := 4) (t := 43) (v := .int .i64 (at' g.ch (j : Int))) rfl rfl (by kernel_rfl) (by kernel_rfl) (by kernel_rfl) (fun _ _ _ h => h) (by rfl) (by intro w0 hSw; have z := hSw.2.2; first | (go_simp; done) | (go_simp; with_reducible rfl)) (by assumption) ?_
  simp only [List.setIfInBounds_toArray, List.set_cons_zero, List.set_cons_succ]
  refine Rg.take (i := 5) (t := 44) (v := .int .i64 ((i : Int))) rfl rfl (by kernel_rfl) (by kernel_rfl) (by kernel_rfl) (fun _ _ _ h => h) (by rfl) (by intro w0 hSw; have z := (cell1 hSw.2.1).1; first | (go_simp; done) | (go_simp; with_reducible rfl)) (by assumption) ?_
  simp only [List.setIfInBounds_toArray, List.set_cons_zero, List.set_cons_succ]
  refine Rg.take (i := 6) (t := 45) (v := .bool false) rfl rfl (by kernel_rfl) (by kernel_rfl) (by kernel_rfl) (fun _ _ _ h => h) (by rfl) (by intro w0 hSw; first | (go_simp; done) | (go_simp; with_reducible rfl)) (by assumption) ?_
  simp only [List.setIfInBounds_toArray, List.set_cons_zero, List.set_cons_succ]
  refine Rg.take (i := 7) (t := 38) (v := .bool false) rfl rfl (by kernel_rfl) (by kernel_rfl) (by kernel_rfl) (fun _ _ _ h => h) (by rfl) (by intro w0 hSw; first | (go_simp; done) | (go_simp; with_reducible rfl)) (by assumption) ?_
  simp only [List.setIfInBounds_toArray, List.set_cons_zero, List.set_cons_succ]
  refine wpAnyH_done (by kernel_rfl) (only_n ?_) _
  gi_wp2_with (refine ⟨trivial, ?_⟩; gi_at_call 112; refine (callsIn_wide.2 (children_i (j : Int) _)).mono ?_; rintro e w' ⟨rfl, rfl⟩)
  obtain ⟨W7, hW7⟩ : ∃ W7, ((W5.alloc (.cells #[.slice A0 n0 c0, .slice A1 n c1, .slice A2 n c2, .slice A3 n c3, .slice A4 n4 c4, .slice A5 n5 c5, .slice A6 n6 c6, .int .u64 g.seed, .int .i64 g.sc, .int .i64 g.tu, .int .i64 g.ov, .int .i64 g.it, .int .i64 g.go] 31)).alloc (.cells #[.int .i64 (j : Int)] 3)).drew = W7 := ⟨_, rfl⟩
  obtain ⟨s7, f7a, f7b, hB7⟩ := alloc2d hW7
  rw [hW7]
  clear hW7
  rw [s5] at s7 f7a f7b
  have hxT : isT g.n (i : Int) = true := isT_iff.2 ⟨by omega, by rw [hg]; omega⟩
  have hjT : isT g.n (at' g.pa (i : Int)) = true := by rw [hup]; exact isT_iff.2 ⟨by omega, by rw [hg]; omega⟩
  have HB7 := Lib.hid (HB5.out.trans (hB7.mono (by omega)))
  have p0 := (hB7.block _ (by omega)).trans h0
  have p1 := (hB7.block _ (by omega)).trans h1
  have p2 := (hB7.block _ (by omega)).trans h2
  have p5 := (hB7.block _ (by omega)).trans h5
  have U0 := Lib.hid (O0.out.below hB7)
  have U1 := Lib.hid (O1.out.below hB7)
  have U2 := Lib.hid (O2.out.below hB7)
  have U3 := Lib.hid (O3.out.below hB7)
  have U4 := Lib.hid (O4.out.below hB7)
  have U5 := Lib.hid (O5.out.below hB7)
  have U6 := Lib.hid (O6.out.below hB7)
  obtain ⟨b3, o3, hA3, hb3, hc3⟩ := R3.out.some_ (by omega)
  have HC3 := Lib.hid (show ∀ (V : World), V.heap[b3]? = w.heap[b3]? → ∀ k : Nat, k < n → V.cell? ⟨b3, o3 + k, none⟩ = some (.int .i64 (at' g.ne (k : Int))) from fun V hV k hk => by
    have hl : k < g.ne.length := by have := R3.out.len; omega
    rw [World.cell?_of_block hV, hc3 k hl]
    unfold at' I
    rw [if_pos (by omega), List.getD_eq_getElem?_getD, Int.toNat_natCast, List.getElem?_eq_getElem hl]
    rfl)
  have HB73 := Lib.hid (HB7.out.block b3 hb3)
  clear h0 h1 h2 h5 hB7 O0 O1 O2 O3 O4 O5 O6 a0 a1 a2 a3 a4 a5 a6 a7 a8 a9 a10 a11 a12 af y0 yf u0 u1 u2 u3 u4 u5 u6 u7 u8 u9 u10 u11 u12 uf r0 r1 r2 r3 r4 r5 r6 r7 r8 r9 r10 r11 r12 rf k1 k2 k3 k2j z1 z2 z3 hc3 HB5
  subst hA3
  refine wpIn_rangeFunc_ownG rfl (by omega) (gf := 162) (lb := #[.pointer (some ⟨W4.heap.size + 1, 0, none⟩), .pointer (some ⟨W4.heap.size + 1 + 1, 0, none⟩)]) rfl trivial (enters_of Try.func162 (by kernel_rfl) rfl)
    (children_stopsK g (j : Int) w W7 (W4.heap.size + 1) (W4.heap.size + 1 + 1) g3 W7.heap.size hg R2.out R3.out HB.out.2.1 f7a f7b ⟨HB7.out.size, HB7.out.block⟩ (by omega) (by omega) (by omega) (by omega) (by omega) (Nat.le_refl _) HB7.out.size)
    Kept.t (fun W l o o' h1 h2 h3 _ => Kept.b (Nat.le_refl _) W l o o' h1 h2 h3) (Below.refl _ _) (fun _ => rfl)
    (fun (pre : List (Kid g (j : Int))) W => Sq.Own I 3 W W3.heap.size (.slice (some ⟨g3, 0, none⟩) n d3) (lst g (i : Int) (pre.map Subtype.val)) ∧ (Kept g3 W7.heap.size W7 W ∧ Below w.heap.size w W))
    (fun _ _ _ => False)
    (OwnFrom.and (fun (s : List (Kid g (j : Int))) A B row hs hg hr => hs.kept hg (.inr (fun e => by have h := (hr g3 e.symm).1; omega))) (OwnFrom.and (fun s A B row hs hg hr => ⟨Nat.le_trans hs.1 hg.size, fun k hk ho => (hg.block k (Nat.lt_of_lt_of_le hk hs.1) (fun e => by have h := (hr k e.symm).1; omega)).trans (hs.2 k hk ho)⟩) (ownFrom_below (Nat.le_refl _) HB7.out.size)))
    (fun _ _ _ _ _ hs _ _ => hs)
    ⟨U3.out, ⟨Nat.le_refl _, fun _ _ _ => rfl⟩, HB7.out⟩
    (fun c => { tmps := #[.agg #[.slice A0 n0 c0, .slice A1 n c1, .slice A2 n c2, .slice (some ⟨b3, o3, none⟩) n c3, .slice A4 n4 c4, .slice A5 n5 c5, .slice A6 n6 c6, .int .u64 g.seed, .int .i64 g.sc, .int .i64 g.tu, .int .i64 g.ov, .int .i64 g.it, .int .i64 g.go], .int .i64 (i : Int), .pointer (some ⟨w.heap.size, 0, none⟩), .pointer (some ⟨w.heap.size + 1, 0, none⟩), .pointer (some ⟨w.heap.size + 1 + 1, 0, none⟩), .pointer (some ⟨W4.heap.size, 0, none⟩), .int .i64 (j : Int), .int .i64 c.1, .agg #[.slice A0 n0 c0, .slice A1 n c1, .slice A2 n c2, .slice (some ⟨b3, o3, none⟩) n c3, .slice A4 n4 c4, .slice A5 n5 c5, .slice A6 n6 c6, .int .u64 g.seed, .int .i64 g.sc, .int .i64 g.tu, .int .i64 g.ov, .int .i64 g.it, .int .i64 g.go], .agg #[.slice B0 m0 d0, .slice (some ⟨g1, 0, none⟩) n d1, .slice (some ⟨g2, 0, none⟩) n d2, .slice (some ⟨g3, 0, none⟩) n d3, .slice B4 m4 d4, .slice B5 m5 d5, .slice B6 m6 d6, .int .u64 g.seed, .int .i64 g.sc, .int .i64 g.tu, .int .i64 g.ov, .int .i64 g.it, .int .i64 g.go], .pointer (some ⟨W4.heap.size, 1, none⟩), .slice (some ⟨g1, 0, none⟩) n d1, .int .i64 (i : Int), .pointer (some ⟨g1, i, none⟩), .int .i64 (j : Int), .agg #[.slice A0 n0 c0, .slice A1 n c1, .slice A2 n c2, .slice (some ⟨b3, o3, none⟩) n c3, .slice A4 n4 c4, .slice A5 n5 c5, .slice A6 n6 c6, .int .u64 g.seed, .int .i64 g.sc, .int .i64 g.tu, .int .i64 g.ov, .int .i64 g.it, .int .i64 g.go], .int .i64 (j : Int), .func (.func 162) #[] #[.pointer (some ⟨W4.heap.size + 1, 0, none⟩), .pointer (some ⟨W4.heap.size + 1 + 1, 0, none⟩)], .int .i64 c.1, undef, undef, undef, undef, undef, undef, undef, undef, undef, undef, undef, undef, undef, undef, undef, undef, .bool false, .int .i64 (j : Int), .bool false, .bool false, .pointer (some ⟨W4.heap.size, 2, none⟩), .slice (some ⟨g2, 0, none⟩) n d2, .int .i64 (j : Int), .pointer (some ⟨g2, j, none⟩), .int .i64 (at' g.ch (j : Int)), .int .i64 (i : Int), .bool false, undef, undef, undef, undef, undef, undef, undef, undef, undef, undef, undef, undef, undef, undef, undef, undef, undef, undef], defers := [] }) ?assign ?body ?done ?stop
  case assign =>
    intro l c W K hK
    gi_wp2
    exact hK
  case body =>
    rintro l pre ⟨c, hcm⟩ W ⟨hOw, hKp, hBW⟩ hlt
    have hcT := kids_isT hcm
    rw [hg] at hcT
    obtain ⟨k, rfl, hk⟩ : ∃ k : Nat, c = (k : Int) ∧ k < n := ⟨c.toNat, by have := isT_iff.1 hcT; omega, by have := isT_iff.1 hcT; omega⟩
    have hk0 : (0 : Int) ≤ (k : Int) := by omega
    have hk1 : (k : Int) < (n : Int) := by omega
    have q0 := (hKp.2 _ (by omega) (by omega)).trans p0
    have q1 := (hKp.2 _ (by omega) (by omega)).trans p1
    have q5 := (hKp.2 _ (by omega) (by omega)).trans p5
    have qb := (hKp.2 b3 (by omega) (by omega)).trans HB73.out
    have qk := HC3.out W qb k hk
    have qi := HC3.out W qb i hi2
    have wk := own_cell hOw hk
    have zk := own_frozen hOw (by omega)
    have HO := Lib.hid hOw
    have HK := Lib.hid hKp
    have HBW := Lib.hid hBW
    clear hOw hKp hBW
    by_cases hcx : at' g.ne (k : Int) = (i : Int)
    · have HS := Lib.hid (show lst g (i : Int) ((pre ++ [(⟨(k : Int), hcm⟩ : Kid g (j : Int))]).map Subtype.val) = (lst g (i : Int) (pre.map Subtype.val)).set k (at' g.ne (i : Int)) by rw [List.map_append, List.map_singleton, lst_snoc, if_pos hcx]; rfl)
      gi_wp2
      refine region_held (S := fun U => U.heap[w.heap.size]? = some (.cells #[.slice A0 n0 c0, .slice A1 n c1, .slice A2 n c2, .slice (some ⟨b3, o3, none⟩) n c3, .slice A4 n4 c4, .slice A5 n5 c5, .slice A6 n6 c6, .int .u64 g.seed, .int .i64 g.sc, .int .i64 g.tu, .int .i64 g.ov, .int .i64 g.it, .int .i64 g.go] 31 (0, 0)) ∧ U.heap[w.heap.size + 1]? = some (.cells #[.int .i64 (i : Int)] 3 (0, 0)) ∧ U.cell? ⟨b3, o3 + k, none⟩ = some (.int .i64 (at' g.ne (k : Int)))) (by kernel_rfl) (by kernel_rfl) (fun ⟨_, _, h⟩ => h) ⟨q0, q1, qk⟩ (fun hHeld => ?_)
      refine Rg.take (i := 0) (t := 19) (v := .pointer (some ⟨w.heap.size, 3, none⟩)) rfl rfl (by kernel_rfl) (by kernel_rfl) (by kernel_rfl) (fun _ _ _ h => h) (by rfl) (by intro w0 hSw; first | (go_simp; done) | (go_simp; with_reducible rfl)) (by assumption) ?_
      simp only [List.setIfInBounds_toArray, List.set_cons_zero, List.set_cons_succ]
      refine Rg.take (i := 1) (t := 20) (v := .slice (some ⟨b3, o3, none⟩) n c3) rfl rfl (by kernel_rfl) (by kernel_rfl) (by kernel_rfl) (fun _ _ _ h => h) (by rfl) (by intro w0 hSw; obtain ⟨x0, x1, x2, x3, x4, x5, x6, x7, x8, x9, x10, x11, x12, xf⟩ := cells13 hSw.1; first | (go_simp; done) | (go_simp; with_reducible rfl)) (by assumption) ?_
      simp only [List.setIfInBounds_toArray, List.set_cons_zero, List.set_cons_succ]
      refine Rg.take (i := 2) (t := 21) (v := .int .i64 ((k : Int))) rfl rfl (by kernel_rfl) (by kernel_rfl) (by kernel_rfl) (fun _ _ _ h => h) (by rfl) (by intro w0 hSw; first | (go_simp; done) | (go_simp; with_reducible rfl)) (by assumption) ?_
      simp only [List.setIfInBounds_toArray, List.set_cons_zero, List.set_cons_succ]
      refine Rg.take (i := 3) (t := 22) (v := .pointer (some ⟨b3, o3 + k, none⟩)) rfl rfl (by kernel_rfl) (by kernel_rfl) (by kernel_rfl) (fun _ _ _ h => h) (by rfl) (by intro w0 hSw; first | (go_simp; done) | (go_simp; with_reducible rfl)) (by assumption) ?_
      simp only [List.setIfInBounds_toArray, List.set_cons_zero, List.set_cons_succ]
      refine Rg.take (i := 4) (t := 23) (v := .int .i64 (at' g.ne (k : Int))) rfl rfl (by kernel_rfl) (by kernel_rfl) (by kernel_rfl) (fun _ _ _ h => h) (by rfl) (by intro w0 hSw; have z := hSw.2.2; first | (go_simp; done) | (go_simp; with_reducible rfl)) (by assumption) ?_
      simp only [List.setIfInBounds_toArray, List.set_cons_zero, List.set_cons_succ]
      refine Rg.take (i := 5) (t := 24) (v := .int .i64 ((i : Int))) rfl rfl (by kernel_rfl) (by kernel_rfl) (by kernel_rfl) (fun _ _ _ h => h) (by rfl) (by intro w0 hSw; have z := (cell1 hSw.2.1).1; first | (go_simp; done) | (go_simp; with_reducible rfl)) (by assumption) ?_
      simp only [List.setIfInBounds_toArray, List.set_cons_zero, List.set_cons_succ]
      refine Rg.take (i := 6) (t := 25) (v := .bool true) rfl rfl (by kernel_rfl) (by kernel_rfl) (by kernel_rfl) (fun _ _ _ h => h) (by rfl) (by intro w0 hSw; first | (go_simp; done) | (go_simp; with_reducible rfl)) (by assumption) ?_
      simp only [List.setIfInBounds_toArray, List.set_cons_zero, List.set_cons_succ]
      refine wpAnyH_done (by kernel_rfl) ?_ _
      gi_wp2
      have q0' : (W.drew.drew.setCell ⟨g3, k, none⟩ (.int .i64 (at' g.ne (i : Int)))).heap[w.heap.size]? = some (.cells #[.slice A0 n0 c0, .slice A1 n c1, .slice A2 n c2, .slice (some ⟨b3, o3, none⟩) n c3, .slice A4 n4 c4, .slice A5 n5 c5, .slice A6 n6 c6, .int .u64 g.seed, .int .i64 g.sc, .int .i64 g.tu, .int .i64 g.ov, .int .i64 g.it, .int .i64 g.go] 31 (0, 0)) := (Below.heap_setCell _ _ _ _ (by simp; omega)).trans q0
      have q1' : (W.drew.drew.setCell ⟨g3, k, none⟩ (.int .i64 (at' g.ne (i : Int)))).heap[w.heap.size + 1]? = some (.cells #[.int .i64 (i : Int)] 3 (0, 0)) := (Below.heap_setCell _ _ _ _ (by simp; omega)).trans q1
      have q5' : (W.drew.drew.setCell ⟨g3, k, none⟩ (.int .i64 (at' g.ne (i : Int)))).heap[W4.heap.size]? = some (.cells #[.slice B0 m0 d0, .slice (some ⟨g1, 0, none⟩) n d1, .slice (some ⟨g2, 0, none⟩) n d2, .slice (some ⟨g3, 0, none⟩) n d3, .slice B4 m4 d4, .slice B5 m5 d5, .slice B6 m6 d6, .int .u64 g.seed, .int .i64 g.sc, .int .i64 g.tu, .int .i64 g.ov, .int .i64 g.it, .int .i64 g.go] 31 (0, 0)) := (Below.heap_setCell _ _ _ _ (by simp; omega)).trans q5
      have qi' : ((W.drew.drew.setCell ⟨g3, k, none⟩ (.int .i64 (at' g.ne (i : Int))))).cell? ⟨b3, o3 + i, none⟩ = some (.int .i64 (at' g.ne (i : Int))) := (World.cell?_of_block (Below.heap_setCell W _ _ _ (by simp; omega))).trans qi
      refine region_held (S := fun U => U.heap[w.heap.size]? = some (.cells #[.slice A0 n0 c0, .slice A1 n c1, .slice A2 n c2, .slice (some ⟨b3, o3, none⟩) n c3, .slice A4 n4 c4, .slice A5 n5 c5, .slice A6 n6 c6, .int .u64 g.seed, .int .i64 g.sc, .int .i64 g.tu, .int .i64 g.ov, .int .i64 g.it, .int .i64 g.go] 31 (0, 0)) ∧ U.heap[w.heap.size + 1]? = some (.cells #[.int .i64 (i : Int)] 3 (0, 0)) ∧ U.heap[W4.heap.size]? = some (.cells #[.slice B0 m0 d0, .slice (some ⟨g1, 0, none⟩) n d1, .slice (some ⟨g2, 0, none⟩) n d2, .slice (some ⟨g3, 0, none⟩) n d3, .slice B4 m4 d4, .slice B5 m5 d5, .slice B6 m6 d6, .int .u64 g.seed, .int .i64 g.sc, .int .i64 g.tu, .int .i64 g.ov, .int .i64 g.it, .int .i64 g.go] 31 (0, 0)) ∧ U.cell? ⟨b3, o3 + i, none⟩ = some (.int .i64 (at' g.ne (i : Int)))) (by kernel_rfl) (by kernel_rfl) (fun ⟨_, _, h⟩ => h) ⟨q0, q1, q5, qi⟩ (fun hHeld => ?_)
      refine Rg.take (i := 0) (t := 26) (v := .pointer (some ⟨W4.heap.size, 3, none⟩)) rfl rfl (by kernel_rfl) (by kernel_rfl) (by kernel_rfl) (fun _ _ _ h => h) (by rfl) (by intro w0 hSw; first | (go_simp; done) | (go_simp; with_reducible rfl)) (by assumption) ?_
      simp only [List.setIfInBounds_toArray, List.set_cons_zero, List.set_cons_succ]
      refine Rg.take (i := 1) (t := 27) (v := .slice (some ⟨g3, 0, none⟩) n d3) rfl rfl (by kernel_rfl) (by kernel_rfl) (by kernel_rfl) (fun _ _ _ h => h) (by rfl) (by intro w0 hSw; obtain ⟨x0, x1, x2, x3, x4, x5, x6, x7, x8, x9, x10, x11, x12, xf⟩ := cells13 hSw.2.2.1; first | (go_simp; done) | (go_simp; with_reducible rfl)) (by assumption) ?_
      simp only [List.setIfInBounds_toArray, List.set_cons_zero, List.set_cons_succ]
      refine Rg.take (i := 2) (t := 28) (v := .int .i64 ((k : Int))) rfl rfl (by kernel_rfl) (by kernel_rfl) (by kernel_rfl) (fun _ _ _ h => h) (by rfl) (by intro w0 hSw; first | (go_simp; done) | (go_simp; with_reducible rfl)) (by assumption) ?_
      simp only [List.setIfInBounds_toArray, List.set_cons_zero, List.set_cons_succ]
      refine Rg.take (i := 3) (t := 29) (v := .pointer (some ⟨w.heap.size, 3, none⟩)) rfl rfl (by kernel_rfl) (by kernel_rfl) (by kernel_rfl) (fun _ _ _ h => h) (by rfl) (by intro w0 hSw; first | (go_simp; done) | (go_simp; with_reducible rfl)) (by assumption) ?_
      simp only [List.setIfInBounds_toArray, List.set_cons_zero, List.set_cons_succ]
      refine Rg.take (i := 4) (t := 30) (v := .slice (some ⟨b3, o3, none⟩) n c3) rfl rfl (by kernel_rfl) (by kernel_rfl) (by kernel_rfl) (fun _ _ _ h => h) (by rfl) (by intro w0 hSw; obtain ⟨x0, x1, x2, x3, x4, x5, x6, x7, x8, x9, x10, x11, x12, xf⟩ := cells13 hSw.1; first | (go_simp; done) | (go_simp; with_reducible rfl)) (by assumption) ?_
      simp only [List.setIfInBounds_toArray, List.set_cons_zero, List.set_cons_succ]
      refine Rg.take (i := 5) (t := 31) (v := .int .i64 ((i : Int))) rfl rfl (by kernel_rfl) (by kernel_rfl) (by kernel_rfl) (fun _ _ _ h => h) (by rfl) (by intro w0 hSw; have z := (cell1 hSw.2.1).1; first | (go_simp; done) | (go_simp; with_reducible rfl)) (by assumption) ?_
      simp only [List.setIfInBounds_toArray, List.set_cons_zero, List.set_cons_succ]
      refine Rg.take (i := 6) (t := 32) (v := .pointer (some ⟨b3, o3 + i, none⟩)) rfl rfl (by kernel_rfl) (by kernel_rfl) (by kernel_rfl) (fun _ _ _ h => h) (by rfl) (by intro w0 hSw; first | (go_simp; done) | (go_simp; with_reducible rfl)) (by assumption) ?_
      simp only [List.setIfInBounds_toArray, List.set_cons_zero, List.set_cons_succ]
      refine Rg.take (i := 7) (t := 33) (v := .int .i64 (at' g.ne (i : Int))) rfl rfl (by kernel_rfl) (by kernel_rfl) (by kernel_rfl) (fun _ _ _ h => h) (by rfl) (by intro w0 hSw; have z := hSw.2.2.2; first | (go_simp; done) | (go_simp; with_reducible rfl)) (by assumption) ?_
      simp only [List.setIfInBounds_toArray, List.set_cons_zero, List.set_cons_succ]
      refine Rg.take (i := 8) (t := 34) (v := .pointer (some ⟨g3, k, none⟩)) rfl rfl (by kernel_rfl) (by kernel_rfl) (by kernel_rfl) (fun _ _ _ h => h) (by rfl) (by intro w0 hSw; first | (go_simp; done) | (go_simp; with_reducible rfl)) (by assumption) ?_
      simp only [List.setIfInBounds_toArray, List.set_cons_zero, List.set_cons_succ]
      refine Rg.one (i := 9) (by kernel_rfl) ?_
      refine effN (i := 9) (w1 := (W.drew.drew.setCell ⟨g3, k, none⟩ (.int .i64 (at' g.ne (i : Int))))) rfl rfl (by rfl) (by first | (go_simp; done) | (go_simp; with_reducible rfl)) ⟨⟨q0', q1', q5', qi'⟩, ?_⟩
      refine wpAnyH_done (by kernel_rfl) ?_ _
      gi_wp2
      have hT := HO.out.store k (at' g.ne (i : Int))
      exact ⟨(((KeepsOthers.setCell _ _ _).trans (KeepsOthers.drew _)).trans (KeepsOthers.drew _)).from _, ⟨by show W.heap.size ≤ (W.setCell _ _).heap.size; simp, fun m hm ho => Below.heap_setCell _ _ _ _ (by simp; omega)⟩, by rw [HS.out]; exact hT, ⟨by show W7.heap.size ≤ (W.setCell _ _).heap.size; simpa using HK.out.1, fun m hm ho => (Below.heap_setCell _ _ _ _ (by simp; omega)).trans (HK.out.2 m hm ho)⟩, Below.drew (Below.drew (HBW.out.setCell (by simp; omega) _))⟩
    · have HS := Lib.hid (show lst g (i : Int) ((pre ++ [(⟨(k : Int), hcm⟩ : Kid g (j : Int))]).map Subtype.val) = lst g (i : Int) (pre.map Subtype.val) by rw [List.map_append, List.map_singleton, lst_snoc, if_neg hcx])
      gi_wp2
      refine region_held (S := fun U => U.heap[w.heap.size]? = some (.cells #[.slice A0 n0 c0, .slice A1 n c1, .slice A2 n c2, .slice (some ⟨b3, o3, none⟩) n c3, .slice A4 n4 c4, .slice A5 n5 c5, .slice A6 n6 c6, .int .u64 g.seed, .int .i64 g.sc, .int .i64 g.tu, .int .i64 g.ov, .int .i64 g.it, .int .i64 g.go] 31 (0, 0)) ∧ U.heap[w.heap.size + 1]? = some (.cells #[.int .i64 (i : Int)] 3 (0, 0)) ∧ U.cell? ⟨b3, o3 + k, none⟩ = some (.int .i64 (at' g.ne (k : Int)))) (by kernel_rfl) (by kernel_rfl) (fun ⟨_, _, h⟩ => h) ⟨q0, q1, qk⟩ (fun hHeld => ?_)
      refine Rg.take (i := 0) (t := 19) (v := .pointer (some ⟨w.heap.size, 3, none⟩)) rfl rfl (by kernel_rfl) (by kernel_rfl) (by kernel_rfl) (fun _ _ _ h => h) (by rfl) (by intro w0 hSw; first | (go_simp; done) | (go_simp; with_reducible rfl)) (by assumption) ?_
      simp only [List.setIfInBounds_toArray, List.set_cons_zero, List.set_cons_succ]
      refine Rg.take (i := 1) (t := 20) (v := .slice (some ⟨b3, o3, none⟩) n c3) rfl rfl (by kernel_rfl) (by kernel_rfl) (by kernel_rfl) (fun _ _ _ h => h) (by rfl) (by intro w0 hSw; obtain ⟨x0, x1, x2, x3, x4, x5, x6, x7, x8, x9, x10, x11, x12, xf⟩ := cells13 hSw.1; first | (go_simp; done) | (go_simp; with_reducible rfl)) (by assumption) ?_
      simp only [List.setIfInBounds_toArray, List.set_cons_zero, List.set_cons_succ]
      refine Rg.take (i := 2) (t := 21) (v := .int .i64 ((k : Int))) rfl rfl (by kernel_rfl) (by kernel_rfl) (by kernel_rfl) (fun _ _ _ h => h) (by rfl) (by intro w0 hSw; first | (go_simp; done) | (go_simp; with_reducible rfl)) (by assumption) ?_
      simp only [List.setIfInBounds_toArray, List.set_cons_zero, List.set_cons_succ]
      refine Rg.take (i := 3) (t := 22) (v := .pointer (some ⟨b3, o3 + k, none⟩)) rfl rfl (by kernel_rfl) (by kernel_rfl) (by kernel_rfl) (fun _ _ _ h => h) (by rfl) (by intro w0 hSw; first | (go_simp; done) | (go_simp; with_reducible rfl)) (by assumption) ?_
      simp only [List.setIfInBounds_toArray, List.set_cons_zero, List.set_cons_succ]
      refine Rg.take (i := 4) (t := 23) (v := .int .i64 (at' g.ne (k : Int))) rfl rfl (by kernel_rfl) (by kernel_rfl) (by kernel_rfl) (fun _ _ _ h => h) (by rfl) (by intro w0 hSw; have z := hSw.2.2; first | (go_simp; done) | (go_simp; with_reducible rfl)) (by assumption) ?_
      simp only [List.setIfInBounds_toArray, List.set_cons_zero, List.set_cons_succ]
      refine Rg.take (i := 5) (t := 24) (v := .int .i64 ((i : Int))) rfl rfl (by kernel_rfl) (by kernel_rfl) (by kernel_rfl) (fun _ _ _ h => h) (by rfl) (by intro w0 hSw; have z := (cell1 hSw.2.1).1; first | (go_simp; done) | (go_simp; with_reducible rfl)) (by assumption) ?_
      simp only [List.setIfInBounds_toArray, List.set_cons_zero, List.set_cons_succ]
      refine Rg.take (i := 6) (t := 25) (v := .bool false) rfl rfl (by kernel_rfl) (by kernel_rfl) (by kernel_rfl) (fun _ _ _ h => h) (by rfl) (by intro w0 hSw; first | (go_simp; done) | (go_simp; with_reducible rfl)) (by assumption) ?_
      simp only [List.setIfInBounds_toArray, List.set_cons_zero, List.set_cons_succ]
      refine wpAnyH_done (by kernel_rfl) ?_ _
      gi_wp2
      exact ⟨(KeepsOthers.drew _).from _, ⟨Nat.le_refl _, fun _ _ _ => rfl⟩, by rw [HS.out]; exact HO.out, HK.out, Below.drew HBW.out⟩
  case done =>
    rintro D ys W hD hys ⟨hOw, hKp, hBW⟩ hK
    have hys' : ys.map Subtype.val = kids g (j : Int) := hys
    rw [hys', ← hup, lst_eq HG.out hxT hjT] at hOw
    have h1 := (hKp.2 _ (by omega) (by omega)).trans p1
    have h2 := (hKp.2 _ (by omega) (by omega)).trans p2
    have h5 := (hKp.2 _ (by omega) (by omega)).trans p5
    have O0 := Lib.hid (own_kp U0.out (fun h => pw_get AP.out (i := 0) (j := 3) rfl rfl (by omega) h rfl) hKp)
    have O1 := Lib.hid (own_kp U1.out (fun h => pw_get AP.out (i := 1) (j := 3) rfl rfl (by omega) h rfl) hKp)
    have O2 := Lib.hid (own_kp U2.out (fun h => pw_get AP.out (i := 2) (j := 3) rfl rfl (by omega) h rfl) hKp)
    have O3 := Lib.hid hOw
    have O4 := Lib.hid (own_kp U4.out (fun h => pw_get AP.out (i := 4) (j := 3) rfl rfl (by omega) h rfl) hKp)
    have O5 := Lib.hid (own_kp U5.out (fun h => pw_get AP.out (i := 5) (j := 3) rfl rfl (by omega) h rfl) hKp)
    have O6 := Lib.hid (own_kp U6.out (fun h => pw_get AP.out (i := 6) (j := 3) rfl rfl (by omega) h rfl) hKp)
    have HB5 := Lib.hid hBW
    clear hOw hKp hBW
    obtain ⟨r0, r1, r2, r3, r4, r5, r6, r7, r8, r9, r10, r11, r12, rf⟩ := cells13 h2
    obtain ⟨u0, u1, u2, u3, u4, u5, u6, u7, u8, u9, u10, u11, u12, uf⟩ := cells13 h5
    have k1 := own_cell O1.out hi2
    have k3 := own_cell O3.out hi2
    have z1 := own_frozen O1.out (by omega)
    have z3 := own_frozen O3.out (by omega)
    gi_wp2
    have hoA : (W.drew.setCell ⟨g1, i, none⟩ (.int .i64 0)).heap[W4.heap.size]? = some (.cells #[.slice B0 m0 d0, .slice (some ⟨g1, 0, none⟩) n d1, .slice (some ⟨g2, 0, none⟩) n d2, .slice (some ⟨g3, 0, none⟩) n d3, .slice B4 m4 d4, .slice B5 m5 d5, .slice B6 m6 d6, .int .u64 g.seed, .int .i64 g.sc, .int .i64 g.tu, .int .i64 g.ov, .int .i64 g.it, .int .i64 g.go] 31 (0, 0)) := (Below.heap_setCell _ _ _ _ (by simp; omega)).trans h5
    have hxA : (W.drew.setCell ⟨g1, i, none⟩ (.int .i64 0)).heap[w.heap.size + 1]? = some (.cells #[.int .i64 (i : Int)] 3 (0, 0)) := (Below.heap_setCell _ _ _ _ (by simp; omega)).trans h1
    have hSA := And.intro hoA hxA
    have hoB : ((W.drew.setCell ⟨g1, i, none⟩ (.int .i64 0)).setCell ⟨g3, i, none⟩ (.int .i64 0)).heap[W4.heap.size]? = some (.cells #[.slice B0 m0 d0, .slice (some ⟨g1, 0, none⟩) n d1, .slice (some ⟨g2, 0, none⟩) n d2, .slice (some ⟨g3, 0, none⟩) n d3, .slice B4 m4 d4, .slice B5 m5 d5, .slice B6 m6 d6, .int .u64 g.seed, .int .i64 g.sc, .int .i64 g.tu, .int .i64 g.ov, .int .i64 g.it, .int .i64 g.go] 31 (0, 0)) := (Below.heap_setCell _ _ _ _ (by simp; omega)).trans hoA
    have hxB : ((W.drew.setCell ⟨g1, i, none⟩ (.int .i64 0)).setCell ⟨g3, i, none⟩ (.int .i64 0)).heap[w.heap.size + 1]? = some (.cells #[.int .i64 (i : Int)] 3 (0, 0)) := (Below.heap_setCell _ _ _ _ (by simp; omega)).trans hxA
    refine region_heldW (S := fun U => U.heap[W4.heap.size]? = some (.cells #[.slice B0 m0 d0, .slice (some ⟨g1, 0, none⟩) n d1, .slice (some ⟨g2, 0, none⟩) n d2, .slice (some ⟨g3, 0, none⟩) n d3, .slice B4 m4 d4, .slice B5 m5 d5, .slice B6 m6 d6, .int .u64 g.seed, .int .i64 g.sc, .int .i64 g.tu, .int .i64 g.ov, .int .i64 g.it, .int .i64 g.go] 31 (0, 0)) ∧ U.heap[w.heap.size + 1]? = some (.cells #[.int .i64 (i : Int)] 3 (0, 0))) (by kernel_rfl) ⟨h5, h1⟩ (fun hHeld => ?_)
    refine Rg.take (i := 0) (t := 55) (v := .pointer (some ⟨W4.heap.size, 1, none⟩)) rfl rfl (by kernel_rfl) (by kernel_rfl) (by kernel_rfl) (fun _ _ _ h => h) (by rfl) (by intro w0 hSw; first | (go_simp; done) | (go_simp; with_reducible rfl)) (by assumption) ?_
    simp only [List.setIfInBounds_toArray, List.set_cons_zero, List.set_cons_succ]
    refine Rg.take (i := 1) (t := 56) (v := .slice (some ⟨g1, 0, none⟩) n d1) rfl rfl (by kernel_rfl) (by kernel_rfl) (by kernel_rfl) (fun _ _ _ h => h) (by rfl) (by intro w0 hSw; obtain ⟨x0, x1, x2, x3, x4, x5, x6, x7, x8, x9, x10, x11, x12, xf⟩ := cells13 hSw.1; first | (go_simp; done) | (go_simp; with_reducible rfl)) (by assumption) ?_
    simp only [List.setIfInBounds_toArray, List.set_cons_zero, List.set_cons_succ]
    refine Rg.take (i := 2) (t := 57) (v := .int .i64 ((i : Int))) rfl rfl (by kernel_rfl) (by kernel_rfl) (by kernel_rfl) (fun _ _ _ h => h) (by rfl) (by intro w0 hSw; have z := (cell1 hSw.2).1; first | (go_simp; done) | (go_simp; with_reducible rfl)) (by assumption) ?_
    simp only [List.setIfInBounds_toArray, List.set_cons_zero, List.set_cons_succ]
    refine Rg.take (i := 3) (t := 58) (v := .pointer (some ⟨W4.heap.size, 3, none⟩)) rfl rfl (by kernel_rfl) (by kernel_rfl) (by kernel_rfl) (fun _ _ _ h => h) (by rfl) (by intro w0 hSw; first | (go_simp; done) | (go_simp; with_reducible rfl)) (by assumption) ?_
    simp only [List.setIfInBounds_toArray, List.set_cons_zero, List.set_cons_succ]
    refine Rg.take (i := 4) (t := 59) (v := .slice (some ⟨g3, 0, none⟩) n d3) rfl rfl (by kernel_rfl) (by kernel_rfl) (by kernel_rfl) (fun _ _ _ h => h) (by rfl) (by intro w0 hSw; obtain ⟨x0, x1, x2, x3, x4, x5, x6, x7, x8, x9, x10, x11, x12, xf⟩ := cells13 hSw.1; first | (go_simp; done) | (go_simp; with_reducible rfl)) (by assumption) ?_
    simp only [List.setIfInBounds_toArray, List.set_cons_zero, List.set_cons_succ]
    refine Rg.take (i := 5) (t := 60) (v := .int .i64 ((i : Int))) rfl rfl (by kernel_rfl) (by kernel_rfl) (by kernel_rfl) (fun _ _ _ h => h) (by rfl) (by intro w0 hSw; have z := (cell1 hSw.2).1; first | (go_simp; done) | (go_simp; with_reducible rfl)) (by assumption) ?_
    simp only [List.setIfInBounds_toArray, List.set_cons_zero, List.set_cons_succ]
    refine Rg.take (i := 6) (t := 61) (v := .pointer (some ⟨g1, i, none⟩)) rfl rfl (by kernel_rfl) (by kernel_rfl) (by kernel_rfl) (fun _ _ _ h => h) (by rfl) (by intro w0 hSw; first | (go_simp; done) | (go_simp; with_reducible rfl)) (by assumption) ?_
    simp only [List.setIfInBounds_toArray, List.set_cons_zero, List.set_cons_succ]
    refine Rg.one (i := 7) (by kernel_rfl) ?_
    refine effN (i := 7) (w1 := (W.drew.setCell ⟨g1, i, none⟩ (.int .i64 0))) rfl rfl (by rfl) (by first | (go_simp; done) | (go_simp; with_reducible rfl)) ⟨hSA, ?_⟩
    refine Rg.take (i := 8) (t := 62) (v := .pointer (some ⟨g3, i, none⟩)) rfl rfl (by kernel_rfl) (by kernel_rfl) (by kernel_rfl) (fun _ _ _ h => h) (by rfl) (by intro w0 hSw; first | (go_simp; done) | (go_simp; with_reducible rfl)) (by assumption) ?_
    simp only [List.setIfInBounds_toArray, List.set_cons_zero, List.set_cons_succ]
    refine Rg.one (i := 9) (by kernel_rfl) ?_
    refine effN (i := 9) (w1 := ((W.drew.setCell ⟨g1, i, none⟩ (.int .i64 0)).setCell ⟨g3, i, none⟩ (.int .i64 0))) rfl rfl (by rfl) (by first | (go_simp; done) | (go_simp; with_reducible rfl)) ⟨⟨hoB, hxB⟩, ?_⟩
    refine wpAnyH_done (by kernel_rfl) (only_n ?_) _
    gi_wp2
    have ec : (MoveP.leave g (i : Int)).ch = g.ch := by
      show lvCh g (i : Int) = _
      unfold lvCh
      rw [hup, if_neg hf]
    have en : (MoveP.leave g (i : Int)).ne = (lvNe g (i : Int)).set i 0 := rfl
    have HV : (((W.setCell ⟨g1, i, none⟩ (.int .i64 0)).setCell ⟨g3, i, none⟩ (.int .i64 0))).heap[w.heap.size + 1 + 1]? = some (.cells #[.slice none 0 0, .slice none 0 0, .slice none 0 0, .slice none 0 0, .slice none 0 0, .slice none 0 0, .slice none 0 0, .int .u64 0, .int .i64 0, .int .i64 0, .int .i64 0, .int .i64 0, .int .i64 0] 31 (0, 0)) := ((Below.heap_setCell _ _ _ _ (by simp; omega)).trans ((Below.heap_setCell _ _ _ _ (by simp; omega)).trans h2))
    have HD : (((W.setCell ⟨g1, i, none⟩ (.int .i64 0)).setCell ⟨g3, i, none⟩ (.int .i64 0))).heap[D]? = some (.deferred (some [])) := (Below.heap_setCell _ _ _ _ (by simp; omega)).trans ((Below.heap_setCell _ _ _ _ (by simp; omega)).trans hK)
    have HKD := drewHeap ((set13_other (g := w.heap.size + 1 + 1) (a0 := .slice B0 m0 d0) (a1 := .slice (some ⟨g1, 0, none⟩) n d1) (a2 := .slice (some ⟨g2, 0, none⟩) n d2) (a3 := .slice (some ⟨g3, 0, none⟩) n d3) (a4 := .slice B4 m4 d4) (a5 := .slice B5 m5 d5) (a6 := .slice B6 m6 d6) (a7 := .int .u64 g.seed) (a8 := .int .i64 g.sc) (a9 := .int .i64 g.tu) (a10 := .int .i64 g.ov) (a11 := .int .i64 g.it) (a12 := .int .i64 g.go) _ (by omega)).trans HD)
    obtain ⟨w1, w2⟩ := close (w := w) (V := ((W.setCell ⟨g1, i, none⟩ (.int .i64 0)).setCell ⟨g3, i, none⟩ (.int .i64 0))) (g := MoveP.leave g (i : Int)) (own_ne (own_ne O0.out (fun h => pw_get AP.out (i := 0) (j := 1) rfl rfl (by omega) h rfl) i _) (fun h => pw_get AP.out (i := 0) (j := 3) rfl rfl (by omega) h rfl) i _) (own_ne ((O1.out).store i 0) (fun h => pw_get AP.out (i := 1) (j := 3) rfl rfl (by omega) h rfl) i _) (by rw [ec]; exact (own_ne (own_ne O2.out (fun h => pw_get AP.out (i := 2) (j := 1) rfl rfl (by omega) h rfl) i _) (fun h => pw_get AP.out (i := 2) (j := 3) rfl rfl (by omega) h rfl) i _)) (by rw [en]; exact (((own_ne O3.out (fun h => pw_get AP.out (i := 3) (j := 1) rfl rfl (by omega) h rfl) i _)).store i 0)) (own_ne (own_ne O4.out (fun h => pw_get AP.out (i := 4) (j := 1) rfl rfl (by omega) h rfl) i _) (fun h => pw_get AP.out (i := 4) (j := 3) rfl rfl (by omega) h rfl) i _) (own_ne (own_ne O5.out (fun h => pw_get AP.out (i := 5) (j := 1) rfl rfl (by omega) h rfl) i _) (fun h => pw_get AP.out (i := 5) (j := 3) rfl rfl (by omega) h rfl) i _) (own_ne (own_ne O6.out (fun h => pw_get AP.out (i := 6) (j := 1) rfl rfl (by omega) h rfl) i _) (fun h => pw_get AP.out (i := 6) (j := 3) rfl rfl (by omega) h rfl) i _) AP.out (b2 := w.heap.size + 1 + 1) (by omega) (by omega) ((HB5.out.setCell (by simp; omega) _).setCell (by simp; omega) _)
    refine ⟨by simp, .inl ⟨_, _, rfl, run_takeDeferred HKD, ?_⟩⟩
    exact ⟨_, results_c rfl _ _ (w.heap.size + 1 + 1) _ _ _ _ rfl ((World.putObj_heap_other (by omega)).trans (drewHeap (set13 HV))) Try.underlying31 rfl, _, rfl, put_ow w1.drew HKD rfl, (Below.drew w2).trans (belowK_b (w := w) (Nat.le_refl _) _ D _ _ (by omega) HKD rfl rfl)⟩
  case stop =>
    rintro D c pre W _ _ h _
    exact h.elim
end Go.Proofs.Ytncdicagadbafaa.LvE
