/- clewref21.Set, Unset. Conditions: the world reads; a flag for each thing, from 0 to 65535. -/
import Derived.Test.YtncdicagadbafaaAttrY
namespace Go.Proofs.Ytncdicagadbafaa.AttrZ
open Go Go.RowKit NestP NestW NestX NestY ValP ValW ValX ValR Sq WorldD CopP MoveP LvP MvA AttrP AttrW AttrX AttrY TabX MixP Awk AwkP

theorem setF_same (g : Wd) {x : Int} (hx : 0 ≤ x) : setF g x (at' g.fl x) = g := by
  unfold setF
  rw [set_same g.fl x hx]

set_option maxRecDepth 100000 in
set_option maxHeartbeats 4000000 in
theorem onr_i {v : Value} (g : Wd) (x f : Int) (S : Nat → Prop) (w : World) (ho : Ws S w v g) (hF : Fl g) :
    Calls Try.prog 28 #[v, .int .i64 x, .int .i64 f] w fun e w' => ∃ v', e = .returned (.tuple #[v', .int .i64 (askN g.n x f)]) ∧ Ws (fun k => S k ∨ w.heap.size ≤ k) w' v' (onG g x f) ∧ Below w.heap.size w w' := by
  by_cases hE : askN g.n x f = 0
  case neg =>
    rw [show onG g x f = g by unfold onG; rw [if_neg hE]]
    exact onr_no g x f S w ho hE
  rw [hE, show onG g x f = setF g x (up (at' g.fl x) f) by unfold onG; rw [if_pos hE]]
  have HFF := Lib.hid hF
  have ho2 := ho.wo; have HO := Lib.hid ho; clear ho; obtain ⟨A0, A1, A2, A3, A4, A5, A6, n0, c0, n, c1, n2, c2, n3, c3, n4, c4, n5, c5, n6, c6, rfl, ⟨r0, r1, r2, r3, r4, r5, r6⟩, hu, hw, hb⟩ := ho2
  have hg : g.n = n := r1.len.symm
  have hn4 : n4 = n := r4.len.trans (hF.1.trans hg)
  have hmb := hF.at_ x
  obtain rfl : n = n4 := hn4.symm
  have R4 := Lib.hid r4
  have hkg := hg
  rw [hg] at hE
  have HE := Lib.hid hE
  obtain ⟨hx, hf0, hf1⟩ := ask_ok.1 hE
  obtain ⟨k, b, o, rfl, hk1, hk2, rfl, hbb, hcell⟩ := at_cell R4.out hx
  have HSM := Lib.hid (setF_same g (show (0 : Int) ≤ (k : Int) by omega))
  obtain ⟨m, hm⟩ : ∃ m, at' g.fl (k : Int) = m := ⟨_, rfl⟩
  rw [hm] at hmb hcell HSM ⊢
  obtain ⟨hm0, hm1⟩ := hmb
  have HC := Lib.hid hcell
  have k0 : (0 : Int) ≤ (k : Int) := by omega
  have k1 : (k : Int) < (n : Int) := by omega
  have hbn : n ≤ 17592186043904 := hb.2.1
  have hp := two_f hf0 hf1
  have HPW0 := power_i f.toNat (by omega)
  rw [show ((f.toNat : Nat) : Int) = f by omega] at HPW0
  obtain ⟨p, hp2⟩ : ∃ p, (2 : Int) ^ f.toNat = p := ⟨_, rfl⟩
  obtain ⟨r, hr⟩ : ∃ r, m + p = r := ⟨_, rfl⟩
  rw [hp2] at hp HPW0
  obtain ⟨hp0, hp1⟩ := hp
  have HPW := Lib.hid HPW0
  have hrw : IntKind.i64.wrap (m + p) = r := by rw [hr]; exact IntWalk.i64_in _ (by omega)
  have hrw2 : IntKind.i64.wrap r = r := IntWalk.i64_in _ (by omega)
  have HWI := Lib.hid (fun (u : Value) (S : Nat → Prop) (W : World) (hW : Ws S W u g) => with_i g k r S W hW HFF.out (by rw [hkg]; exact hk2))
  obtain ⟨q, hq⟩ : ∃ q, flB m f = q := ⟨_, rfl⟩
  have HQ := Lib.hid hq
  have HVV := Lib.hid (show up m f = if q = true then m else r by unfold up; rw [hq, hp2, hr])
  clear r0 r1 r2 r3 r4 r5 r6 hu hw hb hF hE hx hm hcell HPW0 hq hg hkg hp2
  cases q with
  | true =>
    rw [show up m f = m by rw [HVV.out]; rfl, HSM.out]
    go_enter Try.func28, Try.ntmps28
    obtain ⟨W2, hW2⟩ : ∃ W2, (w.alloc (.cells #[.slice A0 n0 c0, .slice A1 n c1, .slice A2 n2 c2, .slice A3 n3 c3, .slice (some ⟨b, o, none⟩) n c4, .slice A5 n5 c5, .slice A6 n6 c6, .int .u64 g.seed, .int .i64 g.sc, .int .i64 g.tu, .int .i64 g.ov, .int .i64 g.it, .int .i64 g.go] 31)).alloc (.cells #[.slice none 0 0, .slice none 0 0, .slice none 0 0, .slice none 0 0, .slice none 0 0, .slice none 0 0, .slice none 0 0, .int .u64 0, .int .i64 0, .int .i64 0, .int .i64 0, .int .i64 0, .int .i64 0] 31) = W2 := ⟨_, rfl⟩
    have HX := Lib.hid (Bz.new hW2)
    obtain ⟨x0, x1, x2, x3, x4, x5, x6, x7, x8, x9, x10, x11, x12, xf⟩ := cells13 HX.out.box
    obtain ⟨y0, y1, y2, y3, y4, y5, y6, y7, y8, y9, y10, y11, y12, yf⟩ := cells13 HX.out.res
    go_wp2_with (first
      | (go_at_call 98; refine (flag_i g _ _ _).mono ?_; rintro e w1 ⟨rfl, hb⟩; rw [HE.out]; have HX2 := Lib.hid (HX.out.on hb); clear HX hb; have HX := HX2; clear HX2; clear x0 x1 x2 x3 x4 x5 x6 x7 x8 x9 x10 x11 x12 xf y0 y1 y2 y3 y4 y5 y6 y7 y8 y9 y10 y11 y12 yf; obtain ⟨x0, x1, x2, x3, x4, x5, x6, x7, x8, x9, x10, x11, x12, xf⟩ := cells13 HX.out.box; obtain ⟨y0, y1, y2, y3, y4, y5, y6, y7, y8, y9, y10, y11, y12, yf⟩ := cells13 HX.out.res; have hc := (HX.out.below.cell (p := ⟨b, o + k, none⟩) hbb).trans HC.out)
      | (go_at_call 99; refine (bit_i _ _ ⟨hm0, hm1⟩ ⟨hf0, hf1⟩ _).mono ?_; rintro e w1 ⟨rfl, rfl⟩; rw [HQ.out]))
    (try simp only [Exit.inBlock, Exit.then])
    have hB := set13_below (g := w.heap.size + 1) (a0 := .slice A0 n0 c0) (a1 := .slice A1 n c1) (a2 := .slice A2 n2 c2) (a3 := .slice A3 n3 c3) (a4 := .slice (some ⟨b, o, none⟩) n c4) (a5 := .slice A5 n5 c5) (a6 := .slice A6 n6 c6) (a7 := .int .u64 g.seed) (a8 := .int .i64 g.sc) (a9 := .int .i64 g.tu) (a10 := .int .i64 g.ov) (a11 := .int .i64 g.it) (a12 := .int .i64 g.go) HX.out.below (by omega) (Nat.zero_le _)
    refine ret_ct (set13 HX.out.res) rfl rfl Try.underlying31 rfl rfl ?_
    exact ⟨_, rfl, HO.out.below hB (fun _ _ h => .inl h), hB⟩
  | false =>
    rw [show up m f = r by rw [HVV.out]; rfl]
    obtain ⟨g', hg'⟩ : ∃ g', setF g (k : Int) r = g' := ⟨_, rfl⟩
    rw [hg'] at HWI ⊢
    go_enter Try.func28, Try.ntmps28
    obtain ⟨W2, hW2⟩ : ∃ W2, (w.alloc (.cells #[.slice A0 n0 c0, .slice A1 n c1, .slice A2 n2 c2, .slice A3 n3 c3, .slice (some ⟨b, o, none⟩) n c4, .slice A5 n5 c5, .slice A6 n6 c6, .int .u64 g.seed, .int .i64 g.sc, .int .i64 g.tu, .int .i64 g.ov, .int .i64 g.it, .int .i64 g.go] 31)).alloc (.cells #[.slice none 0 0, .slice none 0 0, .slice none 0 0, .slice none 0 0, .slice none 0 0, .slice none 0 0, .slice none 0 0, .int .u64 0, .int .i64 0, .int .i64 0, .int .i64 0, .int .i64 0, .int .i64 0] 31) = W2 := ⟨_, rfl⟩
    have HX := Lib.hid (Bz.new hW2)
    obtain ⟨x0, x1, x2, x3, x4, x5, x6, x7, x8, x9, x10, x11, x12, xf⟩ := cells13 HX.out.box
    obtain ⟨y0, y1, y2, y3, y4, y5, y6, y7, y8, y9, y10, y11, y12, yf⟩ := cells13 HX.out.res
    go_wp2_with (first
      | (go_at_call 98; refine (flag_i g _ _ _).mono ?_; rintro e w1 ⟨rfl, hb⟩; rw [HE.out]; have HX2 := Lib.hid (HX.out.on hb); clear HX hb; have HX := HX2; clear HX2; clear x0 x1 x2 x3 x4 x5 x6 x7 x8 x9 x10 x11 x12 xf y0 y1 y2 y3 y4 y5 y6 y7 y8 y9 y10 y11 y12 yf; obtain ⟨x0, x1, x2, x3, x4, x5, x6, x7, x8, x9, x10, x11, x12, xf⟩ := cells13 HX.out.box; obtain ⟨y0, y1, y2, y3, y4, y5, y6, y7, y8, y9, y10, y11, y12, yf⟩ := cells13 HX.out.res; have hc := (HX.out.below.cell (p := ⟨b, o + k, none⟩) hbb).trans HC.out)
      | (go_at_call 99; refine (bit_i _ _ ⟨hm0, hm1⟩ ⟨hf0, hf1⟩ _).mono ?_; rintro e w1 ⟨rfl, rfl⟩; rw [HQ.out]))
    have HZ := Lib.hid HX.out.drew
    have hS : (fun V => V.heap[w.heap.size]? = some (.cells #[.slice A0 n0 c0, .slice A1 n c1, .slice A2 n2 c2, .slice A3 n3 c3, .slice (some ⟨b, o, none⟩) n c4, .slice A5 n5 c5, .slice A6 n6 c6, .int .u64 g.seed, .int .i64 g.sc, .int .i64 g.tu, .int .i64 g.ov, .int .i64 g.it, .int .i64 g.go] 31 (0, 0)) ∧ Below w.heap.size w V) _ := ⟨HZ.out.box, HZ.out.below⟩
    clear x0 x1 x2 x3 x4 x5 x6 x7 x8 x9 x10 x11 x12 xf y0 y1 y2 y3 y4 y5 y6 y7 y8 y9 y10 y11 y12 yf HX
    refine wp_region_held_drew (S := (fun V => V.heap[w.heap.size]? = some (.cells #[.slice A0 n0 c0, .slice A1 n c1, .slice A2 n2 c2, .slice A3 n3 c3, .slice (some ⟨b, o, none⟩) n c4, .slice A5 n5 c5, .slice A6 n6 c6, .int .u64 g.seed, .int .i64 g.sc, .int .i64 g.tu, .int .i64 g.ov, .int .i64 g.it, .int .i64 g.go] 31 (0, 0)) ∧ Below w.heap.size w V)) (by kernel_rfl) hS (fun hHeld => ?_)
    refine Rg.take (i := 0) (t := 25) rfl rfl (by kernel_rfl) (by kernel_rfl) (by kernel_rfl) (fun _ _ _ h => h) (by rfl) (by intro w0 hSw; obtain ⟨x0, x1, x2, x3, x4, x5, x6, x7, x8, x9, x10, x11, x12, xf⟩ := cells13 hSw.1; first | (go_simp; done) | (go_simp; with_reducible rfl)) (by assumption) ?_
    simp only [List.setIfInBounds_toArray, List.set_cons_zero, List.set_cons_succ]
    refine Rg.take (i := 1) (t := 26) rfl rfl (by kernel_rfl) (by kernel_rfl) (by kernel_rfl) (fun _ _ _ h => h) (by rfl) (by intro w0 hSw; first | (go_simp; done) | (go_simp; with_reducible rfl)) (by assumption) ?_
    simp only [List.setIfInBounds_toArray, List.set_cons_zero, List.set_cons_succ]
    refine Rg.take (i := 2) (t := 27) rfl rfl (by kernel_rfl) (by kernel_rfl) (by kernel_rfl) (fun _ _ _ h => h) (by rfl) (by intro w0 hSw; first | (go_simp; done) | (go_simp; with_reducible rfl)) (by assumption) ?_
    simp only [List.setIfInBounds_toArray, List.set_cons_zero, List.set_cons_succ]
    refine Rg.take (i := 3) (t := 28) rfl rfl (by kernel_rfl) (by kernel_rfl) (by kernel_rfl) (fun _ _ _ h => h) (by rfl) (by intro w0 hSw; obtain ⟨x0, x1, x2, x3, x4, x5, x6, x7, x8, x9, x10, x11, x12, xf⟩ := cells13 hSw.1; first | (go_simp; done) | (go_simp; with_reducible rfl)) (by assumption) ?_
    simp only [List.setIfInBounds_toArray, List.set_cons_zero, List.set_cons_succ]
    refine Rg.take (i := 4) (t := 29) rfl rfl (by kernel_rfl) (by kernel_rfl) (by kernel_rfl) (fun _ _ _ h => h) (by rfl) (by intro w0 hSw; first | (go_simp; done) | (go_simp; with_reducible rfl)) (by assumption) ?_
    simp only [List.setIfInBounds_toArray, List.set_cons_zero, List.set_cons_succ]
    refine Rg.take (i := 5) (t := 30) rfl rfl (by kernel_rfl) (by kernel_rfl) (by kernel_rfl) (fun _ _ _ h => h) (by rfl) (by intro w0 hSw; first | (go_simp; done) | (go_simp; with_reducible rfl)) (by assumption) ?_
    simp only [List.setIfInBounds_toArray, List.set_cons_zero, List.set_cons_succ]
    refine Rg.take (i := 6) (t := 31) (v := .int .i64 m) rfl rfl (by kernel_rfl) (by kernel_rfl) (by kernel_rfl) (fun _ _ _ h => h) (by rfl) (by intro w0 hSw; have hc := (hSw.2.cell (p := ⟨b, o + k, none⟩) hbb).trans HC.out; first | (go_simp; done) | (go_simp; with_reducible rfl)) (by assumption) ?_
    simp only [List.setIfInBounds_toArray, List.set_cons_zero, List.set_cons_succ]
    refine Rg.take (i := 7) (t := 32) rfl rfl (by kernel_rfl) (by kernel_rfl) (by kernel_rfl) (fun _ _ _ h => h) (by rfl) (by intro w0 hSw; first | (go_simp; done) | (go_simp; with_reducible rfl)) (by assumption) ?_
    simp only [List.setIfInBounds_toArray, List.set_cons_zero, List.set_cons_succ]
    refine Rg.one (i := 8) (by kernel_rfl) ?_
    refine Rg.call (i := 8) (t := 33) rfl rfl (by rfl) (by go_simp; exact ⟨rfl, rfl⟩) ?_
    refine (HPW.out _).mono ?_
    rintro e w3 ⟨rfl, rfl⟩
    refine ⟨_, rfl, (fun V => V.heap[w.heap.size]? = some (.cells #[.slice A0 n0 c0, .slice A1 n c1, .slice A2 n2 c2, .slice A3 n3 c3, .slice (some ⟨b, o, none⟩) n c4, .slice A5 n5 c5, .slice A6 n6 c6, .int .u64 g.seed, .int .i64 g.sc, .int .i64 g.tu, .int .i64 g.ov, .int .i64 g.it, .int .i64 g.go] 31 (0, 0)) ∧ Below w.heap.size w V), fun _ h => h, hS, ?_⟩
    simp only [List.setIfInBounds_toArray, List.set_cons_zero, List.set_cons_succ]
    refine Rg.take (i := 9) (t := 34) (v := .int .i64 r) rfl rfl (by kernel_rfl) (by kernel_rfl) (by kernel_rfl) (fun _ _ _ h => h) (by rfl) (by intro w0 hSw; first | (go_simp; done) | (go_simp; with_reducible rfl)) (by assumption) ?_
    simp only [List.setIfInBounds_toArray, List.set_cons_zero, List.set_cons_succ]
    refine Rg.one (i := 10) (by kernel_rfl) ?_
    refine Rg.call (i := 10) (t := 35) rfl rfl (by rfl) (by go_simp; exact ⟨rfl, rfl⟩) ?_
    refine (HWI.out _ _ _ (HO.out.below (S' := fun k => S k ∧ k < w.heap.size) hS.2 (fun _ h1 h2 => ⟨h2, h1⟩))).mono ?_
    rintro e w4 ⟨v', rfl, hO, hb⟩
    have HO2 := Lib.hid hO
    obtain ⟨B0, B1, B2, B3, B4, B5, B6, m0, d0, m1, d1, m2, d2, m3, d3, m4, d4, m5, d5, m6, d6, rfl, _, _, _, _⟩ := hO.wo
    clear hO
    have hZ : Bz w #[.slice A0 n0 c0, .slice A1 n c1, .slice A2 n2 c2, .slice A3 n3 c3, .slice (some ⟨b, o, none⟩) n c4, .slice A5 n5 c5, .slice A6 n6 c6, .int .u64 g.seed, .int .i64 g.sc, .int .i64 g.tu, .int .i64 g.ov, .int .i64 g.it, .int .i64 g.go] #[.slice none 0 0, .slice none 0 0, .slice none 0 0, .slice none 0 0, .slice none 0 0, .slice none 0 0, .slice none 0 0, .int .u64 0, .int .i64 0, .int .i64 0, .int .i64 0, .int .i64 0, .int .i64 0] 31 w4 := HZ.out.on hb
    have hlt2 := HZ.out.lt
    have hS2 : (fun V => V.heap[w.heap.size]? = some (.cells #[.slice A0 n0 c0, .slice A1 n c1, .slice A2 n2 c2, .slice A3 n3 c3, .slice (some ⟨b, o, none⟩) n c4, .slice A5 n5 c5, .slice A6 n6 c6, .int .u64 g.seed, .int .i64 g.sc, .int .i64 g.tu, .int .i64 g.ov, .int .i64 g.it, .int .i64 g.go] 31 (0, 0)) ∧ Below w.heap.size w V) w4 := ⟨hZ.box, hZ.below⟩
    clear hS hb
    have hS := hS2
    clear hS2
    refine ⟨_, rfl, (fun V => V.heap[w.heap.size]? = some (.cells #[.slice A0 n0 c0, .slice A1 n c1, .slice A2 n2 c2, .slice A3 n3 c3, .slice (some ⟨b, o, none⟩) n c4, .slice A5 n5 c5, .slice A6 n6 c6, .int .u64 g.seed, .int .i64 g.sc, .int .i64 g.tu, .int .i64 g.ov, .int .i64 g.it, .int .i64 g.go] 31 (0, 0)) ∧ Below w.heap.size w V), fun _ h => h, hS, ?_⟩
    simp only [List.setIfInBounds_toArray, List.set_cons_zero, List.set_cons_succ]
    refine Rg.one (i := 11) (by kernel_rfl) ?_
    obtain ⟨y0, y1, y2, y3, y4, y5, y6, y7, y8, y9, y10, y11, y12, yf⟩ := cells13 hZ.res
    have KB0 := set13_below (g := w.heap.size + 1) (a0 := (.slice B0 m0 d0)) (a1 := (.slice B1 m1 d1)) (a2 := (.slice B2 m2 d2)) (a3 := (.slice B3 m3 d3)) (a4 := (.slice B4 m4 d4)) (a5 := (.slice B5 m5 d5)) (a6 := (.slice B6 m6 d6)) (a7 := (.int .u64 g'.seed)) (a8 := (.int .i64 g'.sc)) (a9 := (.int .i64 g'.tu)) (a10 := (.int .i64 g'.ov)) (a11 := (.int .i64 g'.it)) (a12 := (.int .i64 g'.go)) hS.2 (by omega) (Nat.zero_le _)
    obtain ⟨V, hV⟩ : ∃ V, set13w w4 (w.heap.size + 1) (.slice B0 m0 d0) (.slice B1 m1 d1) (.slice B2 m2 d2) (.slice B3 m3 d3) (.slice B4 m4 d4) (.slice B5 m5 d5) (.slice B6 m6 d6) (.int .u64 g'.seed) (.int .i64 g'.sc) (.int .i64 g'.tu) (.int .i64 g'.ov) (.int .i64 g'.it) (.int .i64 g'.go) = V := ⟨_, rfl⟩
    have KB : Below w.heap.size w V := by rw [← hV]; exact KB0
    have hS3 : (fun V => V.heap[w.heap.size]? = some (.cells #[.slice A0 n0 c0, .slice A1 n c1, .slice A2 n2 c2, .slice A3 n3 c3, .slice (some ⟨b, o, none⟩) n c4, .slice A5 n5 c5, .slice A6 n6 c6, .int .u64 g.seed, .int .i64 g.sc, .int .i64 g.tu, .int .i64 g.ov, .int .i64 g.it, .int .i64 g.go] 31 (0, 0)) ∧ Below w.heap.size w V) V := ⟨by rw [← hV]; exact (set13_other _ _ (by omega)).trans hS.1, KB⟩
    refine RgIn.effN (i := 11) (w1 := V) rfl rfl (by rfl) (by rw [← hV]; unfold set13w; go_simp) ⟨hS3, ?_⟩
    clear hS KB0 y0 y1 y2 y3 y4 y5 y6 y7 y8 y9 y10 y11 y12 yf
    have hS := hS3
    clear hS3
    refine Rg.take (i := 12) (t := 7) rfl rfl (by kernel_rfl) (by kernel_rfl) (by kernel_rfl) (fun _ _ _ h => h) (by rfl) (by intro w0 hSw; first | (go_simp; done) | (go_simp; with_reducible rfl)) (by assumption) ?_
    simp only [List.setIfInBounds_toArray, List.set_cons_zero, List.set_cons_succ]
    refine wpAnyH_done (by kernel_rfl) ?_ _
    go_wp2_with fail
    (try simp only [Exit.inBlock, Exit.then])
    have hV2 : V.heap[w.heap.size + 1]? = some (.cells #[.slice B0 m0 d0, .slice B1 m1 d1, .slice B2 m2 d2, .slice B3 m3 d3, .slice B4 m4 d4, .slice B5 m5 d5, .slice B6 m6 d6, .int .u64 g'.seed, .int .i64 g'.sc, .int .i64 g'.tu, .int .i64 g'.ov, .int .i64 g'.it, .int .i64 g'.go] 31 (0, 0)) := by rw [← hV]; unfold set13w; exact set13 hZ.res
    refine ret_ct hV2 rfl rfl Try.underlying31 rfl rfl ?_
    exact ⟨_, rfl, HO2.out.on (by rw [← hV]; unfold set13w; simp) (fun k _ hS => by rw [← hV]; exact set13_other _ _ (by omega)) (fun k _ hS => by rcases hS with h | h; exact .inl h.1; exact .inr (by omega)), KB⟩

set_option maxRecDepth 100000 in
set_option maxHeartbeats 4000000 in
theorem offr_i {v : Value} (g : Wd) (x f : Int) (S : Nat → Prop) (w : World) (ho : Ws S w v g) (hF : Fl g) :
    Calls Try.prog 30 #[v, .int .i64 x, .int .i64 f] w fun e w' => ∃ v', e = .returned (.tuple #[v', .int .i64 (askN g.n x f)]) ∧ Ws (fun k => S k ∨ w.heap.size ≤ k) w' v' (offG g x f) ∧ Below w.heap.size w w' := by
  by_cases hE : askN g.n x f = 0
  case neg =>
    rw [show offG g x f = g by unfold offG; rw [if_neg hE]]
    exact offr_no g x f S w ho hE
  rw [hE, show offG g x f = setF g x (down (at' g.fl x) f) by unfold offG; rw [if_pos hE]]
  have HFF := Lib.hid hF
  have ho2 := ho.wo; have HO := Lib.hid ho; clear ho; obtain ⟨A0, A1, A2, A3, A4, A5, A6, n0, c0, n, c1, n2, c2, n3, c3, n4, c4, n5, c5, n6, c6, rfl, ⟨r0, r1, r2, r3, r4, r5, r6⟩, hu, hw, hb⟩ := ho2
  have hg : g.n = n := r1.len.symm
  have hn4 : n4 = n := r4.len.trans (hF.1.trans hg)
  have hmb := hF.at_ x
  obtain rfl : n = n4 := hn4.symm
  have R4 := Lib.hid r4
  have hkg := hg
  rw [hg] at hE
  have HE := Lib.hid hE
  obtain ⟨hx, hf0, hf1⟩ := ask_ok.1 hE
  obtain ⟨k, b, o, rfl, hk1, hk2, rfl, hbb, hcell⟩ := at_cell R4.out hx
  have HSM := Lib.hid (setF_same g (show (0 : Int) ≤ (k : Int) by omega))
  obtain ⟨m, hm⟩ : ∃ m, at' g.fl (k : Int) = m := ⟨_, rfl⟩
  rw [hm] at hmb hcell HSM ⊢
  obtain ⟨hm0, hm1⟩ := hmb
  have HC := Lib.hid hcell
  have k0 : (0 : Int) ≤ (k : Int) := by omega
  have k1 : (k : Int) < (n : Int) := by omega
  have hbn : n ≤ 17592186043904 := hb.2.1
  have hp := two_f hf0 hf1
  have HPW0 := power_i f.toNat (by omega)
  rw [show ((f.toNat : Nat) : Int) = f by omega] at HPW0
  obtain ⟨p, hp2⟩ : ∃ p, (2 : Int) ^ f.toNat = p := ⟨_, rfl⟩
  obtain ⟨r, hr⟩ : ∃ r, m - p = r := ⟨_, rfl⟩
  rw [hp2] at hp HPW0
  obtain ⟨hp0, hp1⟩ := hp
  have HPW := Lib.hid HPW0
  have hrw : IntKind.i64.wrap (m - p) = r := by rw [hr]; exact IntWalk.i64_in _ (by omega)
  have hrw2 : IntKind.i64.wrap r = r := IntWalk.i64_in _ (by omega)
  have HWI := Lib.hid (fun (u : Value) (S : Nat → Prop) (W : World) (hW : Ws S W u g) => with_i g k r S W hW HFF.out (by rw [hkg]; exact hk2))
  obtain ⟨q, hq⟩ : ∃ q, flB m f = q := ⟨_, rfl⟩
  have HQ := Lib.hid hq
  have HVV := Lib.hid (show down m f = if q = true then r else m by unfold down; rw [hq, hp2, hr])
  clear r0 r1 r2 r3 r4 r5 r6 hu hw hb hF hE hx hm hcell HPW0 hq hg hkg hp2
  cases q with
  | false =>
    rw [show down m f = m by rw [HVV.out]; rfl, HSM.out]
    go_enter Try.func30, Try.ntmps30
    obtain ⟨W2, hW2⟩ : ∃ W2, (w.alloc (.cells #[.slice A0 n0 c0, .slice A1 n c1, .slice A2 n2 c2, .slice A3 n3 c3, .slice (some ⟨b, o, none⟩) n c4, .slice A5 n5 c5, .slice A6 n6 c6, .int .u64 g.seed, .int .i64 g.sc, .int .i64 g.tu, .int .i64 g.ov, .int .i64 g.it, .int .i64 g.go] 31)).alloc (.cells #[.slice none 0 0, .slice none 0 0, .slice none 0 0, .slice none 0 0, .slice none 0 0, .slice none 0 0, .slice none 0 0, .int .u64 0, .int .i64 0, .int .i64 0, .int .i64 0, .int .i64 0, .int .i64 0] 31) = W2 := ⟨_, rfl⟩
    have HX := Lib.hid (Bz.new hW2)
    obtain ⟨x0, x1, x2, x3, x4, x5, x6, x7, x8, x9, x10, x11, x12, xf⟩ := cells13 HX.out.box
    obtain ⟨y0, y1, y2, y3, y4, y5, y6, y7, y8, y9, y10, y11, y12, yf⟩ := cells13 HX.out.res
    go_wp2_with (first
      | (go_at_call 98; refine (flag_i g _ _ _).mono ?_; rintro e w1 ⟨rfl, hb⟩; rw [HE.out]; have HX2 := Lib.hid (HX.out.on hb); clear HX hb; have HX := HX2; clear HX2; clear x0 x1 x2 x3 x4 x5 x6 x7 x8 x9 x10 x11 x12 xf y0 y1 y2 y3 y4 y5 y6 y7 y8 y9 y10 y11 y12 yf; obtain ⟨x0, x1, x2, x3, x4, x5, x6, x7, x8, x9, x10, x11, x12, xf⟩ := cells13 HX.out.box; obtain ⟨y0, y1, y2, y3, y4, y5, y6, y7, y8, y9, y10, y11, y12, yf⟩ := cells13 HX.out.res; have hc := (HX.out.below.cell (p := ⟨b, o + k, none⟩) hbb).trans HC.out)
      | (go_at_call 99; refine (bit_i _ _ ⟨hm0, hm1⟩ ⟨hf0, hf1⟩ _).mono ?_; rintro e w1 ⟨rfl, rfl⟩; rw [HQ.out]))
    (try simp only [Exit.inBlock, Exit.then])
    have hB := set13_below (g := w.heap.size + 1) (a0 := .slice A0 n0 c0) (a1 := .slice A1 n c1) (a2 := .slice A2 n2 c2) (a3 := .slice A3 n3 c3) (a4 := .slice (some ⟨b, o, none⟩) n c4) (a5 := .slice A5 n5 c5) (a6 := .slice A6 n6 c6) (a7 := .int .u64 g.seed) (a8 := .int .i64 g.sc) (a9 := .int .i64 g.tu) (a10 := .int .i64 g.ov) (a11 := .int .i64 g.it) (a12 := .int .i64 g.go) HX.out.below (by omega) (Nat.zero_le _)
    refine ret_ct (set13 HX.out.res) rfl rfl Try.underlying31 rfl rfl ?_
    exact ⟨_, rfl, HO.out.below hB (fun _ _ h => .inl h), hB⟩
  | true =>
    rw [show down m f = r by rw [HVV.out]; rfl]
    obtain ⟨g', hg'⟩ : ∃ g', setF g (k : Int) r = g' := ⟨_, rfl⟩
    rw [hg'] at HWI ⊢
    go_enter Try.func30, Try.ntmps30
    obtain ⟨W2, hW2⟩ : ∃ W2, (w.alloc (.cells #[.slice A0 n0 c0, .slice A1 n c1, .slice A2 n2 c2, .slice A3 n3 c3, .slice (some ⟨b, o, none⟩) n c4, .slice A5 n5 c5, .slice A6 n6 c6, .int .u64 g.seed, .int .i64 g.sc, .int .i64 g.tu, .int .i64 g.ov, .int .i64 g.it, .int .i64 g.go] 31)).alloc (.cells #[.slice none 0 0, .slice none 0 0, .slice none 0 0, .slice none 0 0, .slice none 0 0, .slice none 0 0, .slice none 0 0, .int .u64 0, .int .i64 0, .int .i64 0, .int .i64 0, .int .i64 0, .int .i64 0] 31) = W2 := ⟨_, rfl⟩
    have HX := Lib.hid (Bz.new hW2)
    obtain ⟨x0, x1, x2, x3, x4, x5, x6, x7, x8, x9, x10, x11, x12, xf⟩ := cells13 HX.out.box
    obtain ⟨y0, y1, y2, y3, y4, y5, y6, y7, y8, y9, y10, y11, y12, yf⟩ := cells13 HX.out.res
    go_wp2_with (first
      | (go_at_call 98; refine (flag_i g _ _ _).mono ?_; rintro e w1 ⟨rfl, hb⟩; rw [HE.out]; have HX2 := Lib.hid (HX.out.on hb); clear HX hb; have HX := HX2; clear HX2; clear x0 x1 x2 x3 x4 x5 x6 x7 x8 x9 x10 x11 x12 xf y0 y1 y2 y3 y4 y5 y6 y7 y8 y9 y10 y11 y12 yf; obtain ⟨x0, x1, x2, x3, x4, x5, x6, x7, x8, x9, x10, x11, x12, xf⟩ := cells13 HX.out.box; obtain ⟨y0, y1, y2, y3, y4, y5, y6, y7, y8, y9, y10, y11, y12, yf⟩ := cells13 HX.out.res; have hc := (HX.out.below.cell (p := ⟨b, o + k, none⟩) hbb).trans HC.out)
      | (go_at_call 99; refine (bit_i _ _ ⟨hm0, hm1⟩ ⟨hf0, hf1⟩ _).mono ?_; rintro e w1 ⟨rfl, rfl⟩; rw [HQ.out]))
    have HZ := Lib.hid HX.out.drew
    have hS : (fun V => V.heap[w.heap.size]? = some (.cells #[.slice A0 n0 c0, .slice A1 n c1, .slice A2 n2 c2, .slice A3 n3 c3, .slice (some ⟨b, o, none⟩) n c4, .slice A5 n5 c5, .slice A6 n6 c6, .int .u64 g.seed, .int .i64 g.sc, .int .i64 g.tu, .int .i64 g.ov, .int .i64 g.it, .int .i64 g.go] 31 (0, 0)) ∧ Below w.heap.size w V) _ := ⟨HZ.out.box, HZ.out.below⟩
    clear x0 x1 x2 x3 x4 x5 x6 x7 x8 x9 x10 x11 x12 xf y0 y1 y2 y3 y4 y5 y6 y7 y8 y9 y10 y11 y12 yf HX
    refine wp_region_held_drew (S := (fun V => V.heap[w.heap.size]? = some (.cells #[.slice A0 n0 c0, .slice A1 n c1, .slice A2 n2 c2, .slice A3 n3 c3, .slice (some ⟨b, o, none⟩) n c4, .slice A5 n5 c5, .slice A6 n6 c6, .int .u64 g.seed, .int .i64 g.sc, .int .i64 g.tu, .int .i64 g.ov, .int .i64 g.it, .int .i64 g.go] 31 (0, 0)) ∧ Below w.heap.size w V)) (by kernel_rfl) hS (fun hHeld => ?_)
    refine Rg.take (i := 0) (t := 26) rfl rfl (by kernel_rfl) (by kernel_rfl) (by kernel_rfl) (fun _ _ _ h => h) (by rfl) (by intro w0 hSw; obtain ⟨x0, x1, x2, x3, x4, x5, x6, x7, x8, x9, x10, x11, x12, xf⟩ := cells13 hSw.1; first | (go_simp; done) | (go_simp; with_reducible rfl)) (by assumption) ?_
    simp only [List.setIfInBounds_toArray, List.set_cons_zero, List.set_cons_succ]
    refine Rg.take (i := 1) (t := 27) rfl rfl (by kernel_rfl) (by kernel_rfl) (by kernel_rfl) (fun _ _ _ h => h) (by rfl) (by intro w0 hSw; first | (go_simp; done) | (go_simp; with_reducible rfl)) (by assumption) ?_
    simp only [List.setIfInBounds_toArray, List.set_cons_zero, List.set_cons_succ]
    refine Rg.take (i := 2) (t := 28) rfl rfl (by kernel_rfl) (by kernel_rfl) (by kernel_rfl) (fun _ _ _ h => h) (by rfl) (by intro w0 hSw; first | (go_simp; done) | (go_simp; with_reducible rfl)) (by assumption) ?_
    simp only [List.setIfInBounds_toArray, List.set_cons_zero, List.set_cons_succ]
    refine Rg.take (i := 3) (t := 29) rfl rfl (by kernel_rfl) (by kernel_rfl) (by kernel_rfl) (fun _ _ _ h => h) (by rfl) (by intro w0 hSw; obtain ⟨x0, x1, x2, x3, x4, x5, x6, x7, x8, x9, x10, x11, x12, xf⟩ := cells13 hSw.1; first | (go_simp; done) | (go_simp; with_reducible rfl)) (by assumption) ?_
    simp only [List.setIfInBounds_toArray, List.set_cons_zero, List.set_cons_succ]
    refine Rg.take (i := 4) (t := 30) rfl rfl (by kernel_rfl) (by kernel_rfl) (by kernel_rfl) (fun _ _ _ h => h) (by rfl) (by intro w0 hSw; first | (go_simp; done) | (go_simp; with_reducible rfl)) (by assumption) ?_
    simp only [List.setIfInBounds_toArray, List.set_cons_zero, List.set_cons_succ]
    refine Rg.take (i := 5) (t := 31) rfl rfl (by kernel_rfl) (by kernel_rfl) (by kernel_rfl) (fun _ _ _ h => h) (by rfl) (by intro w0 hSw; first | (go_simp; done) | (go_simp; with_reducible rfl)) (by assumption) ?_
    simp only [List.setIfInBounds_toArray, List.set_cons_zero, List.set_cons_succ]
    refine Rg.take (i := 6) (t := 32) (v := .int .i64 m) rfl rfl (by kernel_rfl) (by kernel_rfl) (by kernel_rfl) (fun _ _ _ h => h) (by rfl) (by intro w0 hSw; have hc := (hSw.2.cell (p := ⟨b, o + k, none⟩) hbb).trans HC.out; first | (go_simp; done) | (go_simp; with_reducible rfl)) (by assumption) ?_
    simp only [List.setIfInBounds_toArray, List.set_cons_zero, List.set_cons_succ]
    refine Rg.take (i := 7) (t := 33) rfl rfl (by kernel_rfl) (by kernel_rfl) (by kernel_rfl) (fun _ _ _ h => h) (by rfl) (by intro w0 hSw; first | (go_simp; done) | (go_simp; with_reducible rfl)) (by assumption) ?_
    simp only [List.setIfInBounds_toArray, List.set_cons_zero, List.set_cons_succ]
    refine Rg.one (i := 8) (by kernel_rfl) ?_
    refine Rg.call (i := 8) (t := 34) rfl rfl (by rfl) (by go_simp; exact ⟨rfl, rfl⟩) ?_
    refine (HPW.out _).mono ?_
    rintro e w3 ⟨rfl, rfl⟩
    refine ⟨_, rfl, (fun V => V.heap[w.heap.size]? = some (.cells #[.slice A0 n0 c0, .slice A1 n c1, .slice A2 n2 c2, .slice A3 n3 c3, .slice (some ⟨b, o, none⟩) n c4, .slice A5 n5 c5, .slice A6 n6 c6, .int .u64 g.seed, .int .i64 g.sc, .int .i64 g.tu, .int .i64 g.ov, .int .i64 g.it, .int .i64 g.go] 31 (0, 0)) ∧ Below w.heap.size w V), fun _ h => h, hS, ?_⟩
    simp only [List.setIfInBounds_toArray, List.set_cons_zero, List.set_cons_succ]
    refine Rg.take (i := 9) (t := 35) (v := .int .i64 r) rfl rfl (by kernel_rfl) (by kernel_rfl) (by kernel_rfl) (fun _ _ _ h => h) (by rfl) (by intro w0 hSw; first | (go_simp; done) | (go_simp; with_reducible rfl)) (by assumption) ?_
    simp only [List.setIfInBounds_toArray, List.set_cons_zero, List.set_cons_succ]
    refine Rg.one (i := 10) (by kernel_rfl) ?_
    refine Rg.call (i := 10) (t := 36) rfl rfl (by rfl) (by go_simp; exact ⟨rfl, rfl⟩) ?_
    refine (HWI.out _ _ _ (HO.out.below (S' := fun k => S k ∧ k < w.heap.size) hS.2 (fun _ h1 h2 => ⟨h2, h1⟩))).mono ?_
    rintro e w4 ⟨v', rfl, hO, hb⟩
    have HO2 := Lib.hid hO
    obtain ⟨B0, B1, B2, B3, B4, B5, B6, m0, d0, m1, d1, m2, d2, m3, d3, m4, d4, m5, d5, m6, d6, rfl, _, _, _, _⟩ := hO.wo
    clear hO
    have hZ : Bz w #[.slice A0 n0 c0, .slice A1 n c1, .slice A2 n2 c2, .slice A3 n3 c3, .slice (some ⟨b, o, none⟩) n c4, .slice A5 n5 c5, .slice A6 n6 c6, .int .u64 g.seed, .int .i64 g.sc, .int .i64 g.tu, .int .i64 g.ov, .int .i64 g.it, .int .i64 g.go] #[.slice none 0 0, .slice none 0 0, .slice none 0 0, .slice none 0 0, .slice none 0 0, .slice none 0 0, .slice none 0 0, .int .u64 0, .int .i64 0, .int .i64 0, .int .i64 0, .int .i64 0, .int .i64 0] 31 w4 := HZ.out.on hb
    have hlt2 := HZ.out.lt
    have hS2 : (fun V => V.heap[w.heap.size]? = some (.cells #[.slice A0 n0 c0, .slice A1 n c1, .slice A2 n2 c2, .slice A3 n3 c3, .slice (some ⟨b, o, none⟩) n c4, .slice A5 n5 c5, .slice A6 n6 c6, .int .u64 g.seed, .int .i64 g.sc, .int .i64 g.tu, .int .i64 g.ov, .int .i64 g.it, .int .i64 g.go] 31 (0, 0)) ∧ Below w.heap.size w V) w4 := ⟨hZ.box, hZ.below⟩
    clear hS hb
    have hS := hS2
    clear hS2
    refine ⟨_, rfl, (fun V => V.heap[w.heap.size]? = some (.cells #[.slice A0 n0 c0, .slice A1 n c1, .slice A2 n2 c2, .slice A3 n3 c3, .slice (some ⟨b, o, none⟩) n c4, .slice A5 n5 c5, .slice A6 n6 c6, .int .u64 g.seed, .int .i64 g.sc, .int .i64 g.tu, .int .i64 g.ov, .int .i64 g.it, .int .i64 g.go] 31 (0, 0)) ∧ Below w.heap.size w V), fun _ h => h, hS, ?_⟩
    simp only [List.setIfInBounds_toArray, List.set_cons_zero, List.set_cons_succ]
    refine Rg.one (i := 11) (by kernel_rfl) ?_
    obtain ⟨y0, y1, y2, y3, y4, y5, y6, y7, y8, y9, y10, y11, y12, yf⟩ := cells13 hZ.res
    have KB0 := set13_below (g := w.heap.size + 1) (a0 := (.slice B0 m0 d0)) (a1 := (.slice B1 m1 d1)) (a2 := (.slice B2 m2 d2)) (a3 := (.slice B3 m3 d3)) (a4 := (.slice B4 m4 d4)) (a5 := (.slice B5 m5 d5)) (a6 := (.slice B6 m6 d6)) (a7 := (.int .u64 g'.seed)) (a8 := (.int .i64 g'.sc)) (a9 := (.int .i64 g'.tu)) (a10 := (.int .i64 g'.ov)) (a11 := (.int .i64 g'.it)) (a12 := (.int .i64 g'.go)) hS.2 (by omega) (Nat.zero_le _)
    obtain ⟨V, hV⟩ : ∃ V, set13w w4 (w.heap.size + 1) (.slice B0 m0 d0) (.slice B1 m1 d1) (.slice B2 m2 d2) (.slice B3 m3 d3) (.slice B4 m4 d4) (.slice B5 m5 d5) (.slice B6 m6 d6) (.int .u64 g'.seed) (.int .i64 g'.sc) (.int .i64 g'.tu) (.int .i64 g'.ov) (.int .i64 g'.it) (.int .i64 g'.go) = V := ⟨_, rfl⟩
    have KB : Below w.heap.size w V := by rw [← hV]; exact KB0
    have hS3 : (fun V => V.heap[w.heap.size]? = some (.cells #[.slice A0 n0 c0, .slice A1 n c1, .slice A2 n2 c2, .slice A3 n3 c3, .slice (some ⟨b, o, none⟩) n c4, .slice A5 n5 c5, .slice A6 n6 c6, .int .u64 g.seed, .int .i64 g.sc, .int .i64 g.tu, .int .i64 g.ov, .int .i64 g.it, .int .i64 g.go] 31 (0, 0)) ∧ Below w.heap.size w V) V := ⟨by rw [← hV]; exact (set13_other _ _ (by omega)).trans hS.1, KB⟩
    refine RgIn.effN (i := 11) (w1 := V) rfl rfl (by rfl) (by rw [← hV]; unfold set13w; go_simp) ⟨hS3, ?_⟩
    clear hS KB0 y0 y1 y2 y3 y4 y5 y6 y7 y8 y9 y10 y11 y12 yf
    have hS := hS3
    clear hS3
    refine Rg.take (i := 12) (t := 7) rfl rfl (by kernel_rfl) (by kernel_rfl) (by kernel_rfl) (fun _ _ _ h => h) (by rfl) (by intro w0 hSw; first | (go_simp; done) | (go_simp; with_reducible rfl)) (by assumption) ?_
    simp only [List.setIfInBounds_toArray, List.set_cons_zero, List.set_cons_succ]
    refine wpAnyH_done (by kernel_rfl) ?_ _
    go_wp2_with fail
    (try simp only [Exit.inBlock, Exit.then])
    have hV2 : V.heap[w.heap.size + 1]? = some (.cells #[.slice B0 m0 d0, .slice B1 m1 d1, .slice B2 m2 d2, .slice B3 m3 d3, .slice B4 m4 d4, .slice B5 m5 d5, .slice B6 m6 d6, .int .u64 g'.seed, .int .i64 g'.sc, .int .i64 g'.tu, .int .i64 g'.ov, .int .i64 g'.it, .int .i64 g'.go] 31 (0, 0)) := by rw [← hV]; unfold set13w; exact set13 hZ.res
    refine ret_ct hV2 rfl rfl Try.underlying31 rfl rfl ?_
    exact ⟨_, rfl, HO2.out.on (by rw [← hV]; unfold set13w; simp) (fun k _ hS => by rw [← hV]; exact set13_other _ _ (by omega)) (fun k _ hS => by rcases hS with h | h; exact .inl h.1; exact .inr (by omega)), KB⟩

end Go.Proofs.Ytncdicagadbafaa.AttrZ
