/- attr.Set, Unset; clewref21.with, Set, Unset. Conditions: the world reads; a flag for each thing, from 0 to 65535. -/
import Derived.Test.YtncdicagadbafaaAttrX
namespace Go.Proofs.Ytncdicagadbafaa.AttrY
open Go Go.RowKit NestP NestW NestX NestY ValP ValW ValX ValR Sq WorldD CopP MoveP LvP MvA AttrP AttrW AttrX TabX MixP Awk AwkP

theorem flagged_on_i {v : Value} (g : Wd) (x f : Int) (S : Nat → Prop) (w : World) (ho : Ws S w v g) (hF : Fl g) :
    Calls Try.prog 100 #[v, .int .i64 x, .int .i64 f, .func (.func 101) #[] #[]] w fun e w' => ∃ v', e = .returned (.tuple #[v', .int .i64 (askN g.n x f)]) ∧ Ws (fun k => S k ∨ w.heap.size ≤ k) w' v' (onG g x f) ∧ Below w.heap.size w w' := by
  unfold onG
  by_cases hE : askN g.n x f = 0
  · rw [if_pos hE, hE]
    exact flagged_on g x f S w ho hF hE
  · rw [if_neg hE]
    exact flagged_no g x f _ S w ho hE
set_option maxRecDepth 100000 in
set_option maxHeartbeats 2000000 in
theorem on_i {v : Value} (g : Wd) (x f : Int) (S : Nat → Prop) (w : World) (ho : Ws S w v g) (hF : Fl g) :
    Calls Try.prog 27 #[v, .int .i64 x, .int .i64 f] w fun e w' => ∃ v', e = .returned (.tuple #[v', .int .i64 (askN g.n x f)]) ∧ Ws (fun k => S k ∨ w.heap.size ≤ k) w' v' (onG g x f) ∧ Below w.heap.size w w' := by
  have HF := Lib.hid hF
  obtain ⟨E, hE2⟩ : ∃ E, askN g.n x f = E := ⟨_, rfl⟩
  obtain ⟨g', hg'⟩ : ∃ g', onG g x f = g' := ⟨_, rfl⟩
  have HC := Lib.hid (fun (u : Value) (S : Nat → Prop) (W : World) (hW : Ws S W u g) => (by have h := flagged_on_i g x f S W hW hF; rw [hE2, hg'] at h; exact h))
  rw [hE2, hg']
  have ho2 := ho.wo; have HO := Lib.hid ho; clear ho; obtain ⟨A0, A1, A2, A3, A4, A5, A6, n0, c0, n, c1, n2, c2, n3, c3, n4, c4, n5, c5, n6, c6, rfl, ⟨r0, r1, r2, r3, r4, r5, r6⟩, hu, hw, hb⟩ := ho2
  clear r0 r1 r2 r3 r4 r5 r6 hu hw hb hE2 hF hg'
  go_enter Try.func27, Try.ntmps27
  obtain ⟨W2, hW2⟩ : ∃ W2, (w.alloc (.cells #[.slice A0 n0 c0, .slice A1 n c1, .slice A2 n2 c2, .slice A3 n3 c3, .slice A4 n4 c4, .slice A5 n5 c5, .slice A6 n6 c6, .int .u64 g.seed, .int .i64 g.sc, .int .i64 g.tu, .int .i64 g.ov, .int .i64 g.it, .int .i64 g.go] 31)).alloc (.cells #[.slice none 0 0, .slice none 0 0, .slice none 0 0, .slice none 0 0, .slice none 0 0, .slice none 0 0, .slice none 0 0, .int .u64 0, .int .i64 0, .int .i64 0, .int .i64 0, .int .i64 0, .int .i64 0] 31) = W2 := ⟨_, rfl⟩
  have HX := Lib.hid (Bz.new hW2)
  obtain ⟨x0, x1, x2, x3, x4, x5, x6, x7, x8, x9, x10, x11, x12, xf⟩ := cells13 HX.out.box
  obtain ⟨y0, y1, y2, y3, y4, y5, y6, y7, y8, y9, y10, y11, y12, yf⟩ := cells13 HX.out.res
  go_wp2_with (go_at_call 100; refine (HC.out _ _ _ (HO.out.below (S' := fun k => S k ∧ k < w.heap.size) HX.out.below (fun _ h1 h2 => ⟨h2, h1⟩))).mono ?_; rintro e w1 ⟨v', rfl, hO, hb⟩; have hlt2 := HX.out.lt; have HO2 := Lib.hid hO; obtain ⟨B0, B1, B2, B3, B4, B5, B6, m0, d0, m1, d1, m2, d2, m3, d3, m4, d4, m5, d5, m6, d6, rfl, _, _, _, _⟩ := hO.wo; clear hO; have HX2 := Lib.hid (HX.out.on hb); clear HX hb; have HX := HX2; clear HX2; clear x0 x1 x2 x3 x4 x5 x6 x7 x8 x9 x10 x11 x12 xf y0 y1 y2 y3 y4 y5 y6 y7 y8 y9 y10 y11 y12 yf; obtain ⟨x0, x1, x2, x3, x4, x5, x6, x7, x8, x9, x10, x11, x12, xf⟩ := cells13 HX.out.box; obtain ⟨y0, y1, y2, y3, y4, y5, y6, y7, y8, y9, y10, y11, y12, yf⟩ := cells13 HX.out.res)
  (try simp only [Exit.inBlock, Exit.then])
  refine ret_ct (set13 HX.out.res) rfl rfl Try.underlying31 rfl rfl ?_
  have KB := set13_below (g := w.heap.size + 1) (a0 := .slice B0 m0 d0) (a1 := .slice B1 m1 d1) (a2 := .slice B2 m2 d2) (a3 := .slice B3 m3 d3) (a4 := .slice B4 m4 d4) (a5 := .slice B5 m5 d5) (a6 := .slice B6 m6 d6) (a7 := .int .u64 g'.seed) (a8 := .int .i64 g'.sc) (a9 := .int .i64 g'.tu) (a10 := .int .i64 g'.ov) (a11 := .int .i64 g'.it) (a12 := .int .i64 g'.go) HX.out.below (by omega) (Nat.zero_le _)
  exact ⟨_, rfl, HO2.out.on (by simp) (fun k _ hS => set13_other _ _ (by omega)) (fun k _ hS => by rcases hS with h | h; exact .inl h.1; exact .inr (by omega)), KB⟩

theorem flagged_off_i {v : Value} (g : Wd) (x f : Int) (S : Nat → Prop) (w : World) (ho : Ws S w v g) (hF : Fl g) :
    Calls Try.prog 100 #[v, .int .i64 x, .int .i64 f, .func (.func 104) #[] #[]] w fun e w' => ∃ v', e = .returned (.tuple #[v', .int .i64 (askN g.n x f)]) ∧ Ws (fun k => S k ∨ w.heap.size ≤ k) w' v' (offG g x f) ∧ Below w.heap.size w w' := by
  unfold offG
  by_cases hE : askN g.n x f = 0
  · rw [if_pos hE, hE]
    exact flagged_off g x f S w ho hF hE
  · rw [if_neg hE]
    exact flagged_no g x f _ S w ho hE
set_option maxRecDepth 100000 in
set_option maxHeartbeats 2000000 in
theorem off_i {v : Value} (g : Wd) (x f : Int) (S : Nat → Prop) (w : World) (ho : Ws S w v g) (hF : Fl g) :
    Calls Try.prog 29 #[v, .int .i64 x, .int .i64 f] w fun e w' => ∃ v', e = .returned (.tuple #[v', .int .i64 (askN g.n x f)]) ∧ Ws (fun k => S k ∨ w.heap.size ≤ k) w' v' (offG g x f) ∧ Below w.heap.size w w' := by
  have HF := Lib.hid hF
  obtain ⟨E, hE2⟩ : ∃ E, askN g.n x f = E := ⟨_, rfl⟩
  obtain ⟨g', hg'⟩ : ∃ g', offG g x f = g' := ⟨_, rfl⟩
  have HC := Lib.hid (fun (u : Value) (S : Nat → Prop) (W : World) (hW : Ws S W u g) => (by have h := flagged_off_i g x f S W hW hF; rw [hE2, hg'] at h; exact h))
  rw [hE2, hg']
  have ho2 := ho.wo; have HO := Lib.hid ho; clear ho; obtain ⟨A0, A1, A2, A3, A4, A5, A6, n0, c0, n, c1, n2, c2, n3, c3, n4, c4, n5, c5, n6, c6, rfl, ⟨r0, r1, r2, r3, r4, r5, r6⟩, hu, hw, hb⟩ := ho2
  clear r0 r1 r2 r3 r4 r5 r6 hu hw hb hE2 hF hg'
  go_enter Try.func29, Try.ntmps29
  obtain ⟨W2, hW2⟩ : ∃ W2, (w.alloc (.cells #[.slice A0 n0 c0, .slice A1 n c1, .slice A2 n2 c2, .slice A3 n3 c3, .slice A4 n4 c4, .slice A5 n5 c5, .slice A6 n6 c6, .int .u64 g.seed, .int .i64 g.sc, .int .i64 g.tu, .int .i64 g.ov, .int .i64 g.it, .int .i64 g.go] 31)).alloc (.cells #[.slice none 0 0, .slice none 0 0, .slice none 0 0, .slice none 0 0, .slice none 0 0, .slice none 0 0, .slice none 0 0, .int .u64 0, .int .i64 0, .int .i64 0, .int .i64 0, .int .i64 0, .int .i64 0] 31) = W2 := ⟨_, rfl⟩
  have HX := Lib.hid (Bz.new hW2)
  obtain ⟨x0, x1, x2, x3, x4, x5, x6, x7, x8, x9, x10, x11, x12, xf⟩ := cells13 HX.out.box
  obtain ⟨y0, y1, y2, y3, y4, y5, y6, y7, y8, y9, y10, y11, y12, yf⟩ := cells13 HX.out.res
  go_wp2_with (go_at_call 100; refine (HC.out _ _ _ (HO.out.below (S' := fun k => S k ∧ k < w.heap.size) HX.out.below (fun _ h1 h2 => ⟨h2, h1⟩))).mono ?_; rintro e w1 ⟨v', rfl, hO, hb⟩; have hlt2 := HX.out.lt; have HO2 := Lib.hid hO; obtain ⟨B0, B1, B2, B3, B4, B5, B6, m0, d0, m1, d1, m2, d2, m3, d3, m4, d4, m5, d5, m6, d6, rfl, _, _, _, _⟩ := hO.wo; clear hO; have HX2 := Lib.hid (HX.out.on hb); clear HX hb; have HX := HX2; clear HX2; clear x0 x1 x2 x3 x4 x5 x6 x7 x8 x9 x10 x11 x12 xf y0 y1 y2 y3 y4 y5 y6 y7 y8 y9 y10 y11 y12 yf; obtain ⟨x0, x1, x2, x3, x4, x5, x6, x7, x8, x9, x10, x11, x12, xf⟩ := cells13 HX.out.box; obtain ⟨y0, y1, y2, y3, y4, y5, y6, y7, y8, y9, y10, y11, y12, yf⟩ := cells13 HX.out.res)
  (try simp only [Exit.inBlock, Exit.then])
  refine ret_ct (set13 HX.out.res) rfl rfl Try.underlying31 rfl rfl ?_
  have KB := set13_below (g := w.heap.size + 1) (a0 := .slice B0 m0 d0) (a1 := .slice B1 m1 d1) (a2 := .slice B2 m2 d2) (a3 := .slice B3 m3 d3) (a4 := .slice B4 m4 d4) (a5 := .slice B5 m5 d5) (a6 := .slice B6 m6 d6) (a7 := .int .u64 g'.seed) (a8 := .int .i64 g'.sc) (a9 := .int .i64 g'.tu) (a10 := .int .i64 g'.ov) (a11 := .int .i64 g'.it) (a12 := .int .i64 g'.go) HX.out.below (by omega) (Nat.zero_le _)
  exact ⟨_, rfl, HO2.out.on (by simp) (fun k _ hS => set13_other _ _ (by omega)) (fun k _ hS => by rcases hS with h | h; exact .inl h.1; exact .inr (by omega)), KB⟩

set_option maxRecDepth 100000 in
set_option maxHeartbeats 4000000 in
theorem with_i {v : Value} (g : Wd) (k : Nat) (val : Int) (S : Nat → Prop) (w : World) (ho : Ws S w v g) (hF : Fl g) (hk2 : k < g.n) :
    Calls Try.prog 102 #[v, .int .i64 (k : Int), .int .i64 val] w fun e w' => ∃ v', e = .returned v' ∧ Ws (fun k => S k ∨ w.heap.size ≤ k) w' v' (setF g (k : Int) val) ∧ Below w.heap.size w w' := by
  have ho2 := ho.wo; have HO := Lib.hid ho; clear ho; obtain ⟨A0, A1, A2, A3, A4, A5, A6, n0, c0, n, c1, n2, c2, n3, c3, n4, c4, n5, c5, n6, c6, rfl, ⟨r0, r1, r2, r3, r4, r5, r6⟩, hu, hw, hb⟩ := ho2
  have hg : g.n = n := r1.len.symm
  have hn4 : n4 = n := r4.len.trans (hF.1.trans hg)
  obtain rfl : n = n4 := hn4.symm
  have HLN := Lib.hid (show g.fl.length = n from r4.len.symm)
  have R4 := Lib.hid r4
  rw [hg] at hk2
  have k0 : (0 : Int) ≤ (k : Int) := by omega
  have k1 : (k : Int) < (n : Int) := by omega
  have hbn : n ≤ 17592186043904 := hb.2.1
  clear r0 r1 r2 r3 r4 r5 r6 hu hw hb hF hg hn4
  go_enter Try.func102, Try.ntmps102
  obtain ⟨W2, hW2⟩ : ∃ W2, (w.alloc (.cells #[.slice A0 n0 c0, .slice A1 n c1, .slice A2 n2 c2, .slice A3 n3 c3, .slice A4 n c4, .slice A5 n5 c5, .slice A6 n6 c6, .int .u64 g.seed, .int .i64 g.sc, .int .i64 g.tu, .int .i64 g.ov, .int .i64 g.it, .int .i64 g.go] 31)).alloc (.cells #[.slice none 0 0, .slice none 0 0, .slice none 0 0, .slice none 0 0, .slice none 0 0, .slice none 0 0, .slice none 0 0, .int .u64 0, .int .i64 0, .int .i64 0, .int .i64 0, .int .i64 0, .int .i64 0] 31) = W2 := ⟨_, rfl⟩
  have HX := Lib.hid (Bz.new hW2)
  have hls := HX.out.lt
  obtain ⟨x0, x1, x2, x3, x4, x5, x6, x7, x8, x9, x10, x11, x12, xf⟩ := cells13 ((Below.heap_alloc _ (.cells #[] 3) _ (by omega)).trans HX.out.box)
  obtain ⟨y0, y1, y2, y3, y4, y5, y6, y7, y8, y9, y10, y11, y12, yf⟩ := cells13 HX.out.res
  go_wp2_with (at_builtin; refine wpList_append elI (l := []) rfl _ _ rfl rfl (MvR.own_e W2 W2.heap.size (by simp)) A4 n c4 g.fl rfl ((R4.out.below HX.out.below).alloc _) (by simp [maxLen]; omega) (by simp; omega) (by first | omega | simp) ?_; rintro v1 w1 O b _ _; rw [List.nil_append] at O; obtain ⟨A', d4, rfl, _, _⟩ := O.shape; rw [HLN.out] at O ⊢; obtain ⟨g4, rfl, hg4, hg4b, _⟩ := O.at_ (show 0 < n by omega); have hb : Below W2.heap.size W2 w1 := ((Below.refl _ _).alloc (Nat.le_refl _) _).trans b; have O0 := Lib.hid O; clear O b; have HX2 := Lib.hid (HX.out.on hb); clear HX hb; have HX := HX2; clear HX2; clear x0 x1 x2 x3 x4 x5 x6 x7 x8 x9 x10 x11 x12 xf y0 y1 y2 y3 y4 y5 y6 y7 y8 y9 y10 y11 y12 yf; obtain ⟨x0, x1, x2, x3, x4, x5, x6, x7, x8, x9, x10, x11, x12, xf⟩ := cells13 HX.out.box; obtain ⟨y0, y1, y2, y3, y4, y5, y6, y7, y8, y9, y10, y11, y12, yf⟩ := cells13 HX.out.res; obtain ⟨U, hU⟩ : ∃ U, w1.setCell ⟨w.heap.size, 4, none⟩ (.slice (some ⟨g4, 0, none⟩) n d4) = U := ⟨_, rfl⟩; have u0 : U.heap[w.heap.size]? = some (.cells #[.slice A0 n0 c0, .slice A1 n c1, .slice A2 n2 c2, .slice A3 n3 c3, .slice (some ⟨g4, 0, none⟩) n d4, .slice A5 n5 c5, .slice A6 n6 c6, .int .u64 g.seed, .int .i64 g.sc, .int .i64 g.tu, .int .i64 g.ov, .int .i64 g.it, .int .i64 g.go] 31 (0, 0)) := (by rw [← hU]; exact heapSet HX.out.box 4 _); have u1 : U.heap[w.heap.size + 1]? = some (.cells #[.slice none 0 0, .slice none 0 0, .slice none 0 0, .slice none 0 0, .slice none 0 0, .slice none 0 0, .slice none 0 0, .int .u64 0, .int .i64 0, .int .i64 0, .int .i64 0, .int .i64 0, .int .i64 0] 31 (0, 0)) := (by rw [← hU]; exact (Below.heap_setCell _ _ _ _ (by simp)).trans HX.out.res); have UB := Lib.hid (show Below w.heap.size w U by rw [← hU]; exact HX.out.below.setCell (by simp) _); have o1 : Sq.Own I 3 U (w.heap.size + 2) (.slice (some ⟨g4, 0, none⟩) n d4) g.fl := (by rw [← hU]; exact own_ne (O0.out.lower hls) (fun h => by have h2 : g4 = w.heap.size := Option.some.inj h; omega) 4 _); have z4 := own_frozen o1 (by omega); have q4 := own_cell o1 hk2; have O1 := Lib.hid o1; clear o1 O0; have a1 : w.heap.size ≠ g4 := (by omega); have a2 : w.heap.size + 1 ≠ g4 := (by omega); obtain ⟨p0, p1, p2, p3, p4, p5, p6, p7, p8, p9, p10, p11, p12, pf⟩ := cells13 u0; obtain ⟨q0, q1, q2, q3, q4, q5, q6, q7, q8, q9, q10, q11, q12, qf⟩ := cells13 u1)
  (try simp only [Exit.inBlock, Exit.then])
  have v1 : (U.setCell ⟨g4, k, none⟩ (.int .i64 val)).heap[w.heap.size + 1]? = some (.cells #[.slice none 0 0, .slice none 0 0, .slice none 0 0, .slice none 0 0, .slice none 0 0, .slice none 0 0, .slice none 0 0, .int .u64 0, .int .i64 0, .int .i64 0, .int .i64 0, .int .i64 0, .int .i64 0] 31 (0, 0)) := (Below.heap_setCell _ _ _ _ (by simp; omega)).trans u1
  refine ret_c (set13 v1) rfl rfl Try.underlying31 rfl rfl ?_
  obtain ⟨z1, z2⟩ := close4 (g := g) (w := w) (b2 := w.heap.size + 1) HO.out (O1.out.store k val) (UB.out.setCell (show w.heap.size ≤ g4 by omega) _) (by omega) (by omega)
  exact ⟨_, rfl, z1, z2⟩

set_option maxRecDepth 100000 in
set_option maxHeartbeats 2000000 in
theorem onr_no {v : Value} (g : Wd) (x f : Int) (S : Nat → Prop) (w : World) (ho : Ws S w v g) (hE : askN g.n x f ≠ 0) :
    Calls Try.prog 28 #[v, .int .i64 x, .int .i64 f] w fun e w' => ∃ v', e = .returned (.tuple #[v', .int .i64 (askN g.n x f)]) ∧ Ws (fun k => S k ∨ w.heap.size ≤ k) w' v' g ∧ Below w.heap.size w w' := by
  have ho2 := ho.wo; have HO := Lib.hid ho; clear ho; obtain ⟨A0, A1, A2, A3, A4, A5, A6, n0, c0, n, c1, n2, c2, n3, c3, n4, c4, n5, c5, n6, c6, rfl, ⟨r0, r1, r2, r3, r4, r5, r6⟩, hu, hw, hb⟩ := ho2
  have hg : g.n = n := r1.len.symm
  rw [hg] at hE ⊢
  obtain ⟨E, hE2⟩ : ∃ E, askN n x f = E := ⟨_, rfl⟩
  have HE := Lib.hid hE2
  rw [hE2] at hE ⊢
  have t0 : (E != (0 : Int)) = true := by simpa using hE
  clear r0 r1 r2 r3 r4 r5 r6 hu hw hb hE hE2 hg
  go_enter Try.func28, Try.ntmps28
  obtain ⟨W2, hW2⟩ : ∃ W2, (w.alloc (.cells #[.slice A0 n0 c0, .slice A1 n c1, .slice A2 n2 c2, .slice A3 n3 c3, .slice A4 n4 c4, .slice A5 n5 c5, .slice A6 n6 c6, .int .u64 g.seed, .int .i64 g.sc, .int .i64 g.tu, .int .i64 g.ov, .int .i64 g.it, .int .i64 g.go] 31)).alloc (.cells #[.slice none 0 0, .slice none 0 0, .slice none 0 0, .slice none 0 0, .slice none 0 0, .slice none 0 0, .slice none 0 0, .int .u64 0, .int .i64 0, .int .i64 0, .int .i64 0, .int .i64 0, .int .i64 0] 31) = W2 := ⟨_, rfl⟩
  have HX := Lib.hid (Bz.new hW2)
  obtain ⟨x0, x1, x2, x3, x4, x5, x6, x7, x8, x9, x10, x11, x12, xf⟩ := cells13 HX.out.box
  obtain ⟨y0, y1, y2, y3, y4, y5, y6, y7, y8, y9, y10, y11, y12, yf⟩ := cells13 HX.out.res
  go_wp2_with (go_at_call 98; refine (flag_i g _ _ _).mono ?_; rintro e w1 ⟨rfl, hb⟩; rw [HE.out]; have HX2 := Lib.hid (HX.out.on hb); clear HX hb; have HX := HX2; clear HX2; clear x0 x1 x2 x3 x4 x5 x6 x7 x8 x9 x10 x11 x12 xf y0 y1 y2 y3 y4 y5 y6 y7 y8 y9 y10 y11 y12 yf; obtain ⟨x0, x1, x2, x3, x4, x5, x6, x7, x8, x9, x10, x11, x12, xf⟩ := cells13 HX.out.box; obtain ⟨y0, y1, y2, y3, y4, y5, y6, y7, y8, y9, y10, y11, y12, yf⟩ := cells13 HX.out.res)
  (try simp only [Exit.inBlock, Exit.then])
  have hB := set13_below (g := w.heap.size + 1) (a0 := .slice A0 n0 c0) (a1 := .slice A1 n c1) (a2 := .slice A2 n2 c2) (a3 := .slice A3 n3 c3) (a4 := .slice A4 n4 c4) (a5 := .slice A5 n5 c5) (a6 := .slice A6 n6 c6) (a7 := .int .u64 g.seed) (a8 := .int .i64 g.sc) (a9 := .int .i64 g.tu) (a10 := .int .i64 g.ov) (a11 := .int .i64 g.it) (a12 := .int .i64 g.go) HX.out.below (by omega) (Nat.zero_le _)
  refine ret_ct (set13 HX.out.res) rfl rfl Try.underlying31 rfl rfl ?_
  exact ⟨_, rfl, HO.out.below hB (fun _ _ h => .inl h), hB⟩

set_option maxRecDepth 100000 in
set_option maxHeartbeats 2000000 in
theorem offr_no {v : Value} (g : Wd) (x f : Int) (S : Nat → Prop) (w : World) (ho : Ws S w v g) (hE : askN g.n x f ≠ 0) :
    Calls Try.prog 30 #[v, .int .i64 x, .int .i64 f] w fun e w' => ∃ v', e = .returned (.tuple #[v', .int .i64 (askN g.n x f)]) ∧ Ws (fun k => S k ∨ w.heap.size ≤ k) w' v' g ∧ Below w.heap.size w w' := by
  have ho2 := ho.wo; have HO := Lib.hid ho; clear ho; obtain ⟨A0, A1, A2, A3, A4, A5, A6, n0, c0, n, c1, n2, c2, n3, c3, n4, c4, n5, c5, n6, c6, rfl, ⟨r0, r1, r2, r3, r4, r5, r6⟩, hu, hw, hb⟩ := ho2
  have hg : g.n = n := r1.len.symm
  rw [hg] at hE ⊢
  obtain ⟨E, hE2⟩ : ∃ E, askN n x f = E := ⟨_, rfl⟩
  have HE := Lib.hid hE2
  rw [hE2] at hE ⊢
  have t0 : (E != (0 : Int)) = true := by simpa using hE
  clear r0 r1 r2 r3 r4 r5 r6 hu hw hb hE hE2 hg
  go_enter Try.func30, Try.ntmps30
  obtain ⟨W2, hW2⟩ : ∃ W2, (w.alloc (.cells #[.slice A0 n0 c0, .slice A1 n c1, .slice A2 n2 c2, .slice A3 n3 c3, .slice A4 n4 c4, .slice A5 n5 c5, .slice A6 n6 c6, .int .u64 g.seed, .int .i64 g.sc, .int .i64 g.tu, .int .i64 g.ov, .int .i64 g.it, .int .i64 g.go] 31)).alloc (.cells #[.slice none 0 0, .slice none 0 0, .slice none 0 0, .slice none 0 0, .slice none 0 0, .slice none 0 0, .slice none 0 0, .int .u64 0, .int .i64 0, .int .i64 0, .int .i64 0, .int .i64 0, .int .i64 0] 31) = W2 := ⟨_, rfl⟩
  have HX := Lib.hid (Bz.new hW2)
  obtain ⟨x0, x1, x2, x3, x4, x5, x6, x7, x8, x9, x10, x11, x12, xf⟩ := cells13 HX.out.box
  obtain ⟨y0, y1, y2, y3, y4, y5, y6, y7, y8, y9, y10, y11, y12, yf⟩ := cells13 HX.out.res
  go_wp2_with (go_at_call 98; refine (flag_i g _ _ _).mono ?_; rintro e w1 ⟨rfl, hb⟩; rw [HE.out]; have HX2 := Lib.hid (HX.out.on hb); clear HX hb; have HX := HX2; clear HX2; clear x0 x1 x2 x3 x4 x5 x6 x7 x8 x9 x10 x11 x12 xf y0 y1 y2 y3 y4 y5 y6 y7 y8 y9 y10 y11 y12 yf; obtain ⟨x0, x1, x2, x3, x4, x5, x6, x7, x8, x9, x10, x11, x12, xf⟩ := cells13 HX.out.box; obtain ⟨y0, y1, y2, y3, y4, y5, y6, y7, y8, y9, y10, y11, y12, yf⟩ := cells13 HX.out.res)
  (try simp only [Exit.inBlock, Exit.then])
  have hB := set13_below (g := w.heap.size + 1) (a0 := .slice A0 n0 c0) (a1 := .slice A1 n c1) (a2 := .slice A2 n2 c2) (a3 := .slice A3 n3 c3) (a4 := .slice A4 n4 c4) (a5 := .slice A5 n5 c5) (a6 := .slice A6 n6 c6) (a7 := .int .u64 g.seed) (a8 := .int .i64 g.sc) (a9 := .int .i64 g.tu) (a10 := .int .i64 g.ov) (a11 := .int .i64 g.it) (a12 := .int .i64 g.go) HX.out.below (by omega) (Nat.zero_le _)
  refine ret_ct (set13 HX.out.res) rfl rfl Try.underlying31 rfl rfl ?_
  exact ⟨_, rfl, HO.out.below hB (fun _ _ h => .inl h), hB⟩

end Go.Proofs.Ytncdicagadbafaa.AttrY
