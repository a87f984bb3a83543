/- clewref20.Remove, Move. Conditions: the world reads, and things are within things as they must be. -/
import Derived.Test.YtncdicagadbafaaMvR
namespace Go.Proofs.Ytncdicagadbafaa.MvS
open Go Go.RowKit NestP NestW NestX NestY ValP ValW ValX ValR Sq WorldD CopP MoveP LvP MvA RngT MvR

theorem children_oo {v0 v4 v5 v6 v7 v8 v9 v10 v11 v12 : Value} {A1 A2 A3 : Option Addr} {n c1 n2 c2 n3 c3 : Nat} (d : Wd) (x : Int) (w : World) (hp : n = d.n) (hc : Rd I w A2 n2 d.ch) (hne : Rd I w A3 n3 d.ne) (hn : n ≤ 17592186043904) :
    Calls Try.prog 49 #[.agg #[v0, .slice A1 n c1, .slice A2 n2 c2, .slice A3 n3 c3, v4, v5, v6, v7, v8, v9, v10, v11, v12], .int .i64 x] w fun e w' => ∃ A c, e = .returned (.slice A (kids d x).length c) ∧ Sq.Own I 3 w' w.heap.size (.slice A (kids d x).length c) (kids d x) ∧ Below w.heap.size w w' := by
  have HC := Lib.hid hc
  have HN := Lib.hid hne
  have HM := Lib.hid hn
  have HK := Lib.hid (show (if isT n x = true then chain n d.ne n (at' d.ch x) else []) = kids d x by unfold kids; rw [hp])
  clear hp hc hne hn
  go_enter Try.func49, Try.ntmps49
  go_wp2_with (go_at_call 113; refine (children_r d.ch d.ne x _ (HC.out.alloc _) (HN.out.alloc _) HM.out).mono ?_; rintro e w1 ⟨v, rfl, hown, hb⟩)
  go_ret
  rw [HK.out] at hown
  obtain ⟨A, c, rfl, _, _⟩ := hown.shape
  exact ⟨A, c, rfl, hown.lower (by simp), ((Below.refl _ _).alloc (Nat.le_refl _) _).trans (hb.mono (by simp))⟩


theorem ahead_eq {g : Wd} (hG : NestP.Good g) {x d : Int} (hx : isT g.n x = true) (hup : isT g.n (at' g.pa x) = true) (hd : d ∈ kids g (at' g.pa x)) (hn : at' g.ne d = x) : MoveP.ahead g x = some d := by
  have hx' := isT_iff.1 hx
  unfold MoveP.ahead
  cases h : (kids g (at' g.pa x)).find? fun c => at' g.ne c == x with
  | none =>
    rw [List.find?_eq_none] at h
    exact absurd (by simpa using hn) (h d hd)
  | some e =>
    have h1 := List.mem_of_find?_eq_some h
    have h2 := List.find?_some h
    rw [path_uniq (by omega) (good_path hG hup) (hG.kids_nodup _) d hd e h1 hn (by simpa using h2)]
def chj (g : Wd) (x : Int) (L : List Int) (j : Nat) : List Int := if x ∈ L.take j then lvCh g x else g.ch
def nej (g : Wd) (x : Int) (L : List Int) (j : Nat) : List Int := if x ∈ L.take j then lvNe g x else g.ne
theorem chj0 {g : Wd} {x : Int} {L : List Int} : chj g x L 0 = g.ch := by unfold chj; simp
theorem nej0 {g : Wd} {x : Int} {L : List Int} : nej g x L 0 = g.ne := by unfold nej; simp
theorem chj_len {g : Wd} {x : Int} {L : List Int} {j : Nat} : (chj g x L j).length = g.ch.length := by unfold chj; split; exact lvCh_len _ _; rfl
theorem nej_len {g : Wd} {x : Int} {L : List Int} {j : Nat} : (nej g x L j).length = g.ne.length := by unfold nej; split; exact lvNe_len _ _; rfl
theorem end_j {g : Wd} (hG : NestP.Good g) {x : Int} (hx : isT g.n x = true) {j : Nat} (hj : (kids g (at' g.pa x)).length ≤ j) : chj g x (kids g (at' g.pa x)) j = lvCh g x ∧ nej g x (kids g (at' g.pa x)) j = lvNe g x := by
  have hx' := isT_iff.1 hx
  unfold chj nej
  rw [List.take_of_length_le hj]
  by_cases h0 : at' g.pa x = 0
  · have hk : kids g (at' g.pa x) = [] := by rw [h0]; unfold kids; rw [if_neg (by unfold isT; simp)]
    rw [hk]
    simp only [List.not_mem_nil, if_false]
    refine ⟨?_, ?_⟩
    · unfold lvCh; rw [h0, hG.ch0, if_neg (by omega)]
    · unfold lvNe; rw [top_none h0]
  · have := hG.mem x hx'.1 hx'.2 h0
    rw [if_pos this, if_pos this]
    exact ⟨rfl, rfl⟩
theorem skip_j {g : Wd} {x : Int} {L : List Int} {j : Nat} (hj : j < L.length) (h : L[j] ≠ x) : chj g x L (j + 1) = chj g x L j ∧ nej g x L (j + 1) = nej g x L j := by
  have : (x ∈ L.take (j + 1)) ↔ x ∈ L.take j := by
    rw [List.take_succ_eq_append_getElem hj, List.mem_append, List.mem_singleton]
    exact ⟨fun h' => h'.resolve_right fun e => h e.symm, .inl⟩
  unfold chj nej
  simp only [this]
  exact ⟨trivial, trivial⟩
theorem hit_j {g : Wd} (hG : NestP.Good g) {x : Int} (hx : isT g.n x = true) {j : Nat} (hj : j < (kids g (at' g.pa x)).length) (h : (kids g (at' g.pa x))[j] = x) :
    chj g x (kids g (at' g.pa x)) j = g.ch ∧ nej g x (kids g (at' g.pa x)) j = g.ne ∧ isT g.n (at' g.pa x) = true ∧
    (j = 0 → chj g x (kids g (at' g.pa x)) (j + 1) = setI g.ch (at' g.pa x) (at' g.ne x) ∧ nej g x (kids g (at' g.pa x)) (j + 1) = g.ne) ∧
    (∀ k, j = k + 1 → ∀ (hk : k < (kids g (at' g.pa x)).length), (kids g (at' g.pa x))[k] ≠ x ∧ isT g.n (kids g (at' g.pa x))[k] = true ∧ chj g x (kids g (at' g.pa x)) (j + 1) = g.ch ∧ nej g x (kids g (at' g.pa x)) (j + 1) = setI g.ne (kids g (at' g.pa x))[k] (at' g.ne x)) := by
  have hx' := isT_iff.1 hx
  have hnd := hG.kids_nodup (at' g.pa x)
  have hT : isT g.n (at' g.pa x) = true := (hG.kid_isT (List.getElem_mem hj)).1
  have hn1 : x ∉ (kids g (at' g.pa x)).take j := fun hm => by
    obtain ⟨i, hi, he⟩ := List.mem_take_iff_getElem.1 hm
    have := (List.getElem_inj hnd).1 (he.trans h.symm)
    omega
  have hy1 : x ∈ (kids g (at' g.pa x)).take (j + 1) := by
    rw [List.take_succ_eq_append_getElem hj, h]; simp
  have h0 : at' g.ch (at' g.pa x) = (kids g (at' g.pa x))[0]'(by omega) := by
    rw [ValK.kid_first hG hT, List.getD_eq_getElem?_getD, List.getElem?_eq_getElem (by omega)]; rfl
  unfold chj nej
  rw [if_neg hn1, if_neg hn1, if_pos hy1, if_pos hy1]
  refine ⟨rfl, rfl, hT, fun hj0 => ?_, fun k hk hkl => ?_⟩
  · subst hj0
    have hf : at' g.ch (at' g.pa x) = x := h0.trans h
    refine ⟨by unfold lvCh; rw [if_pos hf], by unfold lvNe; rw [first_none hG hx hf]⟩
  · subst hk
    have hne : (kids g (at' g.pa x))[k] ≠ x := fun e => by
      have := (List.getElem_inj hnd).1 (e.trans h.symm)
      omega
    have hnx : at' g.ne (kids g (at' g.pa x))[k] = x := by
      have := ValK.kid_next hG hT hkl
      rw [List.getD_eq_getElem?_getD, List.getElem?_eq_getElem hkl, List.getD_eq_getElem?_getD, List.getElem?_eq_getElem hj] at this
      exact this.trans h
    have hcf : at' g.ch (at' g.pa x) ≠ x := fun e => by
      have := (List.getElem_inj hnd).1 ((h0.symm.trans e).trans h.symm)
      omega
    refine ⟨hne, (hG.kid_isT (List.getElem_mem hkl)).2.1, by unfold lvCh; rw [if_neg hcf], ?_⟩
    unfold lvNe
    rw [ahead_eq hG hx hT (List.getElem_mem hkl) hnx]

set_option maxRecDepth 100000 in
set_option maxHeartbeats 8000000 in
theorem remove_o {A0 A1 A2 A3 A4 A5 A6 : Option Addr} {n0 c0 n c1 c2 c3 n4 c4 n5 c5 n6 c6 : Nat} (g : Wd) (hG : NestP.Good g) (hg : g.n = n) (i : Nat) (hi1 : 1 ≤ i) (hi2 : i < n) (w : World) (r1 : Rd I w A1 n g.pa) (r2 : Rd I w A2 n g.ch) (r3 : Rd I w A3 n g.ne) (hb : n ≤ 17592186043904) :
    Calls Try.prog 42 #[.agg #[.slice A0 n0 c0, .slice A1 n c1, .slice A2 n c2, .slice A3 n c3, .slice A4 n4 c4, .slice A5 n5 c5, .slice A6 n6 c6, .int .u64 g.seed, .int .i64 g.sc, .int .i64 g.tu, .int .i64 g.ov, .int .i64 g.it, .int .i64 g.go], .int .i64 (i : Int)] w fun e w' => ∃ (g1 g2 g3 d1 d2 d3 : Nat), e = .returned (.tuple #[.agg #[.slice A0 n0 c0, .slice (some ⟨g1, 0, none⟩) n d1, .slice (some ⟨g2, 0, none⟩) n d2, .slice (some ⟨g3, 0, none⟩) n d3, .slice A4 n4 c4, .slice A5 n5 c5, .slice A6 n6 c6, .int .u64 g.seed, .int .i64 g.sc, .int .i64 g.tu, .int .i64 g.ov, .int .i64 g.it, .int .i64 g.go], .int .i64 0]) ∧ Sq.Own I 3 w' w.heap.size (.slice (some ⟨g1, 0, none⟩) n d1) (MoveP.leave g (i : Int)).pa ∧ Sq.Own I 3 w' w.heap.size (.slice (some ⟨g2, 0, none⟩) n d2) (MoveP.leave g (i : Int)).ch ∧ Sq.Own I 3 w' w.heap.size (.slice (some ⟨g3, 0, none⟩) n d3) (MoveP.leave g (i : Int)).ne ∧ g1 ≠ g2 ∧ g1 ≠ g3 ∧ g2 ≠ g3 ∧ Below w.heap.size w w' := by
  have R1 := Lib.hid r1
  have R2 := Lib.hid r2
  have R3 := Lib.hid r3
  have HB := Lib.hid hb
  have HG := Lib.hid hG
  have HX := Lib.hid (show isT n (i : Int) = true from isT_iff.2 (by omega))
  have hi0 : (0 : Int) ≤ (i : Int) := by omega
  have hi3 : (i : Int) < (n : Int) := by omega
  obtain ⟨pb, po, rfl, hpb, hpl, hpc⟩ := r1.at_ hi2
  have HPL := Lib.hid hpl
  obtain ⟨p, hp⟩ : ∃ p, at' g.pa (i : Int) = p := ⟨_, rfl⟩
  have hpc2 : w.cell? ⟨pb, po + i, none⟩ = some (.int .i64 p) := by rw [hpc, ← hp, at_lt hpl]
  have HPP := Lib.hid hp
  obtain ⟨L, hL⟩ : ∃ L, kids g p = L := ⟨_, rfl⟩
  obtain ⟨m, hm⟩ : ∃ m, L.length = m := ⟨_, rfl⟩
  have HL := Lib.hid hL
  have HM := Lib.hid hm
  have hmn : m ≤ n := by have := kids_short g p; rw [hL, hm] at this; omega
  clear hb r1 r2 r3 hG hpc hp hL hm hpl
  go_enter Try.func42, Try.ntmps42
  obtain ⟨W2, hW2⟩ : ∃ W2, (w.alloc (.cells #[.slice A0 n0 c0, .slice (some ⟨pb, po, none⟩) n c1, .slice A2 n c2, .slice A3 n c3, .slice A4 n4 c4, .slice A5 n5 c5, .slice A6 n6 c6, .int .u64 g.seed, .int .i64 g.sc, .int .i64 g.tu, .int .i64 g.ov, .int .i64 g.it, .int .i64 g.go] 31)).alloc (.cells #[.slice none 0 0, .slice none 0 0, .slice none 0 0, .slice none 0 0, .slice none 0 0, .slice none 0 0, .slice none 0 0, .int .u64 0, .int .i64 0, .int .i64 0, .int .i64 0, .int .i64 0, .int .i64 0] 31) = W2 := ⟨_, rfl⟩
  obtain ⟨s2', h0, h1, hB2⟩ := alloc2 hW2
  have HBW := Lib.hid hB2
  have s2 : w.heap.size + 2 ≤ W2.heap.size := by omega
  clear hB2 s2'
  obtain ⟨x0, x1, x2, x3, x4, x5, x6, x7, x8, x9, x10, x11, x12, xf⟩ := cells13 h0
  go_wp2_with (first
    | (go_at_call 45; refine (is_o (i : Int) _).mono ?_; rintro e w3 ⟨rfl, hb⟩; rw [HX.out]; have t0 := (hb.block _ (by omega)).trans h0; have t1 := (hb.block _ (by omega)).trans h1; have tB := Lib.hid (HBW.out.trans (hb.mono HBW.out.size)); have ts := Nat.le_trans s2 hb.size; clear h0 h1 HBW s2 x0 x1 x2 x3 x4 x5 x6 x7 x8 x9 x10 x11 x12 xf; have h0 := t0; have h1 := t1; have HBW := tB; have s2 := ts; clear t0 t1 tB ts; obtain ⟨x0, x1, x2, x3, x4, x5, x6, x7, x8, x9, x10, x11, x12, xf⟩ := cells13 h0; have hpc3 := ((HBW.out).cell (p := ⟨pb, po + i, none⟩) hpb).trans hpc2; clear hb)
    | (go_at_call 49; refine (children_oo g p _ hg.symm (R2.out.below HBW.out) (R3.out.below HBW.out) HB.out).mono ?_; rintro e w4 ⟨Ak, ck, rfl, ho, hb⟩; rw [HL.out, HM.out] at ho; rw [HL.out, HM.out]; have HK := Lib.hid (ho.lower s2); have t0 := (hb.block _ (by omega)).trans h0; have t1 := (hb.block _ (by omega)).trans h1; have tB := Lib.hid (HBW.out.trans (hb.mono HBW.out.size)); have ts := Nat.le_trans s2 hb.size; clear h0 h1 HBW s2 x0 x1 x2 x3 x4 x5 x6 x7 x8 x9 x10 x11 x12 xf; have h0 := t0; have h1 := t1; have HBW := tB; have s2 := ts; clear t0 t1 tB ts; obtain ⟨x0, x1, x2, x3, x4, x5, x6, x7, x8, x9, x10, x11, x12, xf⟩ := cells13 h0; clear hb ho)
    | (go_at_call 110; refine (copied_o g _ (R1.out.below HBW.out) (R2.out.below HBW.out) (R3.out.below HBW.out) ⟨HB.out, HB.out, HB.out⟩).mono ?_; rintro e w5 ⟨B1, B2, B3, m1, d1, m2, d2, m3, d3, rfl, o1, o2, o3, p12, p13, p23, hb⟩; have hm1 : m1 = n := o1.rd.len.trans hg; have hm2 : m2 = n := o2.rd.len.trans (HG.out.chl.trans hg); have hm3 : m3 = n := o3.rd.len.trans (HG.out.nel.trans hg); rw [hm1] at o1 p12 p13 ⊢; rw [hm2] at o2 p12 p23 ⊢; rw [hm3] at o3 p13 p23 ⊢; clear hm1 hm2 hm3 m1 m2 m3; obtain ⟨g1, rfl, b1a, b1b, _⟩ := o1.at_ (by omega); obtain ⟨g2, rfl, b2a, b2b, _⟩ := o2.at_ (by omega); obtain ⟨g3, rfl, b3a, b3b, _⟩ := o3.at_ (by omega); have n12 : g1 ≠ g2 := (fun h => p12 g1 rfl (congrArg some h.symm)); have n13 : g1 ≠ g3 := (fun h => p13 g1 rfl (congrArg some h.symm)); have n23 : g2 ≠ g3 := (fun h => p23 g2 rfl (congrArg some h.symm)); have k1 := HK.out.below hb; have ka1 := apart_of HK.out (o1.lower (by omega)); have ka2 := apart_of HK.out (o2.lower (by omega)); have ka3 := apart_of HK.out (o3.lower (by omega)); have O1 := Lib.hid (o1.lower (show w.heap.size + 2 ≤ _ by omega)); have O2 := Lib.hid (o2.lower (show w.heap.size + 2 ≤ _ by omega)); have O3 := Lib.hid (o3.lower (show w.heap.size + 2 ≤ _ by omega)); clear HK; have HK := Lib.hid k1; have t0 := (hb.block _ (by omega)).trans h0; have t1 := (hb.block _ (by omega)).trans h1; have tB := Lib.hid (HBW.out.trans (hb.mono HBW.out.size)); have ts := Nat.le_trans s2 hb.size; clear h0 h1 HBW s2 x0 x1 x2 x3 x4 x5 x6 x7 x8 x9 x10 x11 x12 xf; have h0 := t0; have h1 := t1; have HBW := tB; have s2 := ts; clear t0 t1 tB ts; obtain ⟨x0, x1, x2, x3, x4, x5, x6, x7, x8, x9, x10, x11, x12, xf⟩ := cells13 h0; clear hb k1 o1 o2 o3 p12 p13 p23))
  have q0 : (set13w w5 w.heap.size (.slice A0 n0 c0) (.slice (some ⟨g1, 0, none⟩) n d1) (.slice (some ⟨g2, 0, none⟩) n d2) (.slice (some ⟨g3, 0, none⟩) n d3) (.slice A4 n4 c4) (.slice A5 n5 c5) (.slice A6 n6 c6) (.int .u64 g.seed) (.int .i64 g.sc) (.int .i64 g.tu) (.int .i64 g.ov) (.int .i64 g.it) (.int .i64 g.go)).heap[w.heap.size]? = some (.cells #[.slice A0 n0 c0, .slice (some ⟨g1, 0, none⟩) n d1, .slice (some ⟨g2, 0, none⟩) n d2, .slice (some ⟨g3, 0, none⟩) n d3, .slice A4 n4 c4, .slice A5 n5 c5, .slice A6 n6 c6, .int .u64 g.seed, .int .i64 g.sc, .int .i64 g.tu, .int .i64 g.ov, .int .i64 g.it, .int .i64 g.go] 31 (0, 0)) := set13 h0
  have qo : ∀ k, k ≠ w.heap.size → (set13w w5 w.heap.size (.slice A0 n0 c0) (.slice (some ⟨g1, 0, none⟩) n d1) (.slice (some ⟨g2, 0, none⟩) n d2) (.slice (some ⟨g3, 0, none⟩) n d3) (.slice A4 n4 c4) (.slice A5 n5 c5) (.slice A6 n6 c6) (.int .u64 g.seed) (.int .i64 g.sc) (.int .i64 g.tu) (.int .i64 g.ov) (.int .i64 g.it) (.int .i64 g.go)).heap[k]? = w5.heap[k]? := fun k hk => set13_other _ _ hk
  have q1 := (qo (w.heap.size + 1) (by omega)).trans h1
  have qB : Below w.heap.size w (set13w w5 w.heap.size (.slice A0 n0 c0) (.slice (some ⟨g1, 0, none⟩) n d1) (.slice (some ⟨g2, 0, none⟩) n d2) (.slice (some ⟨g3, 0, none⟩) n d3) (.slice A4 n4 c4) (.slice A5 n5 c5) (.slice A6 n6 c6) (.int .u64 g.seed) (.int .i64 g.sc) (.int .i64 g.tu) (.int .i64 g.ov) (.int .i64 g.it) (.int .i64 g.go)) := set13_below HBW.out (Nat.le_refl _) (Nat.zero_le _)
  have qs : (set13w w5 w.heap.size (.slice A0 n0 c0) (.slice (some ⟨g1, 0, none⟩) n d1) (.slice (some ⟨g2, 0, none⟩) n d2) (.slice (some ⟨g3, 0, none⟩) n d3) (.slice A4 n4 c4) (.slice A5 n5 c5) (.slice A6 n6 c6) (.int .u64 g.seed) (.int .i64 g.sc) (.int .i64 g.tu) (.int .i64 g.ov) (.int .i64 g.it) (.int .i64 g.go)).heap.size = w5.heap.size := by unfold set13w; simp
  have HXT := Lib.hid (show isT g.n (i : Int) = true by rw [hg]; exact HX.out)
  go_loopw [8] (fun iv wr => ∃ j : Nat, j ≤ m ∧ iv = .int .i64 (j : Int) ∧ Sq.Own I 3 wr (w.heap.size + 2) (.slice Ak m ck) L ∧ Sq.Own I 3 wr (w.heap.size + 2) (.slice (some ⟨g1, 0, none⟩) n d1) g.pa ∧ Sq.Own I 3 wr (w.heap.size + 2) (.slice (some ⟨g2, 0, none⟩) n d2) (chj g (i : Int) L j) ∧ Sq.Own I 3 wr (w.heap.size + 2) (.slice (some ⟨g3, 0, none⟩) n d3) (nej g (i : Int) L j) ∧ wr.heap[w.heap.size]? = some (.cells #[.slice A0 n0 c0, .slice (some ⟨g1, 0, none⟩) n d1, .slice (some ⟨g2, 0, none⟩) n d2, .slice (some ⟨g3, 0, none⟩) n d3, .slice A4 n4 c4, .slice A5 n5 c5, .slice A6 n6 c6, .int .u64 g.seed, .int .i64 g.sc, .int .i64 g.tu, .int .i64 g.ov, .int .i64 g.it, .int .i64 g.go] 31 (0, 0)) ∧ wr.heap[w.heap.size + 1]? = some (.cells #[.slice none 0 0, .slice none 0 0, .slice none 0 0, .slice none 0 0, .slice none 0 0, .slice none 0 0, .slice none 0 0, .int .u64 0, .int .i64 0, .int .i64 0, .int .i64 0, .int .i64 0, .int .i64 0] 31 (0, 0)) ∧ Below w.heap.size w wr ∧ w.heap.size + 2 ≤ wr.heap.size) (fun iv _ => m - (intOf iv).toNat)
  case atStart => exact ⟨0, Nat.zero_le _, rfl, own_same HK.out fun k hk => qo k (by omega), own_same O1.out fun k hk => qo k (by omega), (by rw [chj0]; exact own_same O2.out fun k hk => qo k (by omega)), (by rw [nej0]; exact own_same O3.out fun k hk => qo k (by omega)), q0, q1, qB, Nat.le_trans s2 (Nat.le_of_eq qs.symm)⟩
  case round =>
    clear h0 h1 HBW s2 HK O1 O2 O3 q0 q1 qB qs qo x0 x1 x2 x3 x4 x5 x6 x7 x8 x9 x10 x11 x12 xf
    obtain ⟨j, hj, rfl, ok, o1, o2, o3, h0, h1, hB, s2⟩ := hrel
    have HK := Lib.hid ok
    have O1 := Lib.hid o1
    have O2 := Lib.hid o2
    have O3 := Lib.hid o3
    have HBW := Lib.hid hB
    obtain ⟨x0, x1, x2, x3, x4, x5, x6, x7, x8, x9, x10, x11, x12, xf⟩ := cells13 h0
    have hnb := HB.out
    have f1 := own_frozen o1 (by omega)
    have f2 := own_frozen o2 (by omega)
    have f3 := own_frozen o3 (by omega)
    have hw2 := (o2.at_ (by omega))
    have hw3 := (o3.at_ (by omega))
    have hw1 := (o1.at_ (by omega))
    obtain ⟨_, e1, b1, _⟩ := hw1
    injection e1 with e1; injection e1 with e1; subst e1
    obtain ⟨_, e2, b2, _⟩ := hw2
    injection e2 with e2; injection e2 with e2; subst e2
    obtain ⟨_, e3, b3, _⟩ := hw3
    injection e3 with e3; injection e3 with e3; subst e3
    by_cases hlt : j < m
    · obtain ⟨kb, rfl, bk, _, hkc, _⟩ := ok.at_ (by omega)
      have hjL : j < L.length := by rw [HM.out]; exact hlt
      obtain ⟨c, hc⟩ : ∃ c, L[j] = c := ⟨_, rfl⟩
      have hcell := hkc j hjL
      rw [hc] at hcell
      unfold I at hcell
      have k0 : (0 : Int) ≤ (j : Int) := by omega
      have k1 : (j : Int) < (m : Int) := by omega
      have nk1 : kb ≠ g1 := fun e => ka1 kb rfl (congrArg some e.symm)
      have nk2 : kb ≠ g2 := fun e => ka2 kb rfl (congrArg some e.symm)
      have nk3 : kb ≠ g3 := fun e => ka3 kb rfl (congrArg some e.symm)
      by_cases hci : c = (i : Int)
      · have HH := Lib.hid (show _ from hit_j HG.out HXT.out (j := j) (by rw [HPP.out, HL.out]; exact hjL) (by have : (kids g (at' g.pa (i : Int)))[j]'(by rw [HPP.out, HL.out]; exact hjL) = L[j] := (by congr 1; rw [HPP.out, HL.out]); rw [this, hc, hci]))
        rw [HPP.out, HL.out] at HH
        rw [HH.out.1] at o2
        rw [HH.out.2.1] at o3
        obtain ⟨q, rfl, hq1, hq2⟩ : ∃ q : Nat, p = (q : Int) ∧ 1 ≤ q ∧ q < n := by
          have := isT_iff.1 HH.out.2.2.1
          exact ⟨p.toNat, by omega, by omega, by omega⟩
        have kc2 := own_cell o2 hq2
        have kc3 := own_cell o3 hi2
        have hq0 : (0 : Int) ≤ (q : Int) := by omega
        have hq3 : (q : Int) < (n : Int) := by omega
        subst hci
        clear O2 O3 hc
        have O2 := Lib.hid o2
        have O3 := Lib.hid o3
        have HKC := Lib.hid hkc
        clear ok o1 o2 o3 hB hkc
        by_cases hj0 : j = 0
        · subst hj0
          have HT := Lib.hid (HH.out.2.2.2.1 rfl)
          obtain ⟨v, hv⟩ : ∃ v, at' g.ne (i : Int) = v := ⟨_, rfl⟩
          rw [hv] at kc3 HT
          go_wp2_with fail
          refine wp_region_held_drew (S := (fun U => U.heap[w.heap.size]? = some (.cells #[.slice A0 n0 c0, .slice (some ⟨g1, 0, none⟩) n d1, .slice (some ⟨g2, 0, none⟩) n d2, .slice (some ⟨g3, 0, none⟩) n d3, .slice A4 n4 c4, .slice A5 n5 c5, .slice A6 n6 c6, .int .u64 g.seed, .int .i64 g.sc, .int .i64 g.tu, .int .i64 g.ov, .int .i64 g.it, .int .i64 g.go] 31 (0, 0)) ∧ U.cell? ⟨g3, i, none⟩ = some (.int .i64 v))) (by kernel_rfl) ⟨h0, kc3⟩ (fun hHeld => ?_)
          refine Rg.take (i := 0) (t := 40) (v := .pointer (some ⟨w.heap.size, 2, none⟩)) rfl rfl (by kernel_rfl) (by kernel_rfl) (by kernel_rfl) (fun _ _ _ h => h) (by rfl) (by intro w0 hSw; first | (go_simp; done) | (go_simp; with_reducible rfl)) (by assumption) ?_
          simp only [List.setIfInBounds_toArray, List.set_cons_zero, List.set_cons_succ]
          refine Rg.take (i := 1) (t := 41) (v := .slice (some ⟨g2, 0, none⟩) n d2) rfl rfl (by kernel_rfl) (by kernel_rfl) (by kernel_rfl) (fun _ _ _ h => h) (by rfl) (by intro w0 hSw; obtain ⟨x0, x1, x2, x3, x4, x5, x6, x7, x8, x9, x10, x11, x12, xf⟩ := cells13 hSw.1; first | (go_simp; done) | (go_simp; with_reducible rfl)) (by assumption) ?_
          simp only [List.setIfInBounds_toArray, List.set_cons_zero, List.set_cons_succ]
          refine Rg.take (i := 2) (t := 42) (v := .int .i64 (q : Int)) rfl rfl (by kernel_rfl) (by kernel_rfl) (by kernel_rfl) (fun _ _ _ h => h) (by rfl) (by intro w0 hSw; first | (go_simp; done) | (go_simp; with_reducible rfl)) (by assumption) ?_
          simp only [List.setIfInBounds_toArray, List.set_cons_zero, List.set_cons_succ]
          refine Rg.take (i := 3) (t := 43) (v := .pointer (some ⟨w.heap.size, 3, none⟩)) rfl rfl (by kernel_rfl) (by kernel_rfl) (by kernel_rfl) (fun _ _ _ h => h) (by rfl) (by intro w0 hSw; first | (go_simp; done) | (go_simp; with_reducible rfl)) (by assumption) ?_
          simp only [List.setIfInBounds_toArray, List.set_cons_zero, List.set_cons_succ]
          refine Rg.take (i := 4) (t := 44) (v := .slice (some ⟨g3, 0, none⟩) n d3) rfl rfl (by kernel_rfl) (by kernel_rfl) (by kernel_rfl) (fun _ _ _ h => h) (by rfl) (by intro w0 hSw; obtain ⟨x0, x1, x2, x3, x4, x5, x6, x7, x8, x9, x10, x11, x12, xf⟩ := cells13 hSw.1; first | (go_simp; done) | (go_simp; with_reducible rfl)) (by assumption) ?_
          simp only [List.setIfInBounds_toArray, List.set_cons_zero, List.set_cons_succ]
          refine Rg.take (i := 5) (t := 45) (v := .int .i64 (i : Int)) rfl rfl (by kernel_rfl) (by kernel_rfl) (by kernel_rfl) (fun _ _ _ h => h) (by rfl) (by intro w0 hSw; first | (go_simp; done) | (go_simp; with_reducible rfl)) (by assumption) ?_
          simp only [List.setIfInBounds_toArray, List.set_cons_zero, List.set_cons_succ]
          refine Rg.take (i := 6) (t := 46) (v := .pointer (some ⟨g3, i, none⟩)) rfl rfl (by kernel_rfl) (by kernel_rfl) (by kernel_rfl) (fun _ _ _ h => h) (by rfl) (by intro w0 hSw; first | (go_simp; done) | (go_simp; with_reducible rfl)) (by assumption) ?_
          simp only [List.setIfInBounds_toArray, List.set_cons_zero, List.set_cons_succ]
          refine Rg.take (i := 7) (t := 47) (v := .int .i64 v) rfl rfl (by kernel_rfl) (by kernel_rfl) (by kernel_rfl) (fun _ _ _ h => h) (by rfl) (by intro w0 hSw; have z := hSw.2; first | (go_simp; done) | (go_simp; with_reducible rfl)) (by assumption) ?_
          simp only [List.setIfInBounds_toArray, List.set_cons_zero, List.set_cons_succ]
          refine Rg.take (i := 8) (t := 48) (v := .pointer (some ⟨g2, q, none⟩)) rfl rfl (by kernel_rfl) (by kernel_rfl) (by kernel_rfl) (fun _ _ _ h => h) (by rfl) (by intro w0 hSw; first | (go_simp; done) | (go_simp; with_reducible rfl)) (by assumption) ?_
          simp only [List.setIfInBounds_toArray, List.set_cons_zero, List.set_cons_succ]
          refine Rg.one (i := 9) (by kernel_rfl) ?_
          refine RgIn.effN (i := 9) (w1 := wr.drew.setCell ⟨g2, q, none⟩ (.int .i64 v)) rfl rfl (by rfl) (by first | (go_simp; done) | (go_simp; with_reducible rfl)) ⟨⟨(Below.heap_setCell _ _ _ _ (by simp; omega)).trans h0, (World.cell?_of_block (Below.heap_setCell wr.drew _ _ _ (by simp; omega))).trans kc3⟩, ?_⟩
          refine wpAnyH_done (by kernel_rfl) ?_ _
          go_wp2_with fail
          go_roundw
          case rel => exact ⟨1, by omega, by rfl, own_ne HK.out.drew (fun h => nk2 (Option.some.inj h)) q _, own_ne O1.out.drew (fun h => n12 (Option.some.inj h)) q _, by rw [HT.out.1]; exact O2.out.drew.store q v, by rw [HT.out.2]; exact own_ne O3.out.drew (fun h => n23 (Option.some.inj h).symm) q _, (Below.heap_setCell _ _ _ _ (by simp; omega)).trans h0, (Below.heap_setCell _ _ _ _ (by simp; omega)).trans h1, (Below.drew HBW.out).setCell (by simp; omega) _, by simpa using s2⟩
          case measure => simp [intOf]; omega
        · obtain ⟨k, hkj⟩ : ∃ k, j = k + 1 := ⟨j - 1, by omega⟩
          have hkL : k < L.length := by omega
          have HT := Lib.hid (HH.out.2.2.2.2 k hkj hkL)
          obtain ⟨c, hc⟩ : ∃ c, L[k] = c := ⟨_, rfl⟩
          have hck := HKC.out k hkL
          rw [hc] at hck HT
          unfold I at hck
          obtain ⟨r, rfl, hr1, hr2⟩ : ∃ r : Nat, c = (r : Int) ∧ 1 ≤ r ∧ r < n := by
            have := isT_iff.1 HT.out.2.1
            exact ⟨c.toNat, by omega, by omega, by omega⟩
          have hri : r ≠ i := fun e => HT.out.1 (by rw [e])
          obtain ⟨v, hv⟩ : ∃ v, at' g.ne (i : Int) = v := ⟨_, rfl⟩
          have kr3 := own_cell O3.out hr2
          have ks3 : (wr.drew.setCell ⟨g3, r, none⟩ (.int .i64 v)).cell? ⟨g3, i, none⟩ = some (.int .i64 v) := by
            have h := own_cell (O3.out.drew.store r v) hi2
            rw [show at' (g.ne.set r v) (i : Int) = v from by
              have := at_set (l := g.ne) (i := (r : Int)) v (by omega) (by have := HG.out.nel; omega) (i : Int)
              rw [if_neg (by omega), hv] at this
              exact this] at h
            exact h
          rw [hv] at kc3 HT
          have hr0 : (0 : Int) ≤ (r : Int) := by omega
          have hr3 : (r : Int) < (n : Int) := by omega
          have jz : ((j : Int) == 0) = false := beq_eq_false_iff_ne.2 (by omega)
          have kk0 : (0 : Int) ≤ (k : Int) := by omega
          have kk1 : (k : Int) < (m : Int) := by omega
          clear hc
          have KS := Lib.hid ks3
          have KR := Lib.hid kr3
          clear ks3 kr3
          have HKJ := Lib.hid hkj
          clear hkj hkL
          go_wp2_with fail
          have ks3 := KS.out
          have kr3 := KR.out
          have hwk : IntKind.i64.wrap ((j : Int) - 1) = (k : Int) := by rw [show (j : Int) - 1 = (k : Int) by have := HKJ.out; omega]; exact IntWalk.i64_in _ (by omega)
          refine wp_region_held_drew (S := (fun U => U.heap[w.heap.size]? = some (.cells #[.slice A0 n0 c0, .slice (some ⟨g1, 0, none⟩) n d1, .slice (some ⟨g2, 0, none⟩) n d2, .slice (some ⟨g3, 0, none⟩) n d3, .slice A4 n4 c4, .slice A5 n5 c5, .slice A6 n6 c6, .int .u64 g.seed, .int .i64 g.sc, .int .i64 g.tu, .int .i64 g.ov, .int .i64 g.it, .int .i64 g.go] 31 (0, 0)) ∧ U.cell? ⟨g3, i, none⟩ = some (.int .i64 v) ∧ U.cell? ⟨kb, k, none⟩ = some (.int .i64 (r : Int)))) (by kernel_rfl) ⟨h0, kc3, hck⟩ (fun hHeld => ?_)
          refine Rg.take (i := 0) (t := 55) (v := .pointer (some ⟨w.heap.size, 3, none⟩)) rfl rfl (by kernel_rfl) (by kernel_rfl) (by kernel_rfl) (fun _ _ _ h => h) (by rfl) (by intro w0 hSw; first | (go_simp; done) | (go_simp; with_reducible rfl)) (by assumption) ?_
          simp only [List.setIfInBounds_toArray, List.set_cons_zero, List.set_cons_succ]
          refine Rg.take (i := 1) (t := 56) (v := .slice (some ⟨g3, 0, none⟩) n d3) rfl rfl (by kernel_rfl) (by kernel_rfl) (by kernel_rfl) (fun _ _ _ h => h) (by rfl) (by intro w0 hSw; obtain ⟨x0, x1, x2, x3, x4, x5, x6, x7, x8, x9, x10, x11, x12, xf⟩ := cells13 hSw.1; first | (go_simp; done) | (go_simp; with_reducible rfl)) (by assumption) ?_
          simp only [List.setIfInBounds_toArray, List.set_cons_zero, List.set_cons_succ]
          refine Rg.take (i := 2) (t := 57) (v := .slice (some ⟨kb, 0, none⟩) m ck) rfl rfl (by kernel_rfl) (by kernel_rfl) (by kernel_rfl) (fun _ _ _ h => h) (by rfl) (by intro w0 hSw; first | (go_simp; done) | (go_simp; with_reducible rfl)) (by assumption) ?_
          simp only [List.setIfInBounds_toArray, List.set_cons_zero, List.set_cons_succ]
          refine Rg.take (i := 3) (t := 58) (v := .int .i64 (j : Int)) rfl rfl (by kernel_rfl) (by kernel_rfl) (by kernel_rfl) (fun _ _ _ h => h) (by rfl) (by intro w0 hSw; first | (go_simp; done) | (go_simp; with_reducible rfl)) (by assumption) ?_
          simp only [List.setIfInBounds_toArray, List.set_cons_zero, List.set_cons_succ]
          refine Rg.take (i := 4) (t := 59) (v := .int .i64 (k : Int)) rfl rfl (by kernel_rfl) (by kernel_rfl) (by kernel_rfl) (fun _ _ _ h => h) (by rfl) (by intro w0 hSw; first | (go_simp; done) | (go_simp; exact hwk)) (by assumption) ?_
          simp only [List.setIfInBounds_toArray, List.set_cons_zero, List.set_cons_succ]
          refine Rg.take (i := 5) (t := 60) (v := .pointer (some ⟨kb, k, none⟩)) rfl rfl (by kernel_rfl) (by kernel_rfl) (by kernel_rfl) (fun _ _ _ h => h) (by rfl) (by intro w0 hSw; first | (go_simp; done) | (go_simp; with_reducible rfl)) (by assumption) ?_
          simp only [List.setIfInBounds_toArray, List.set_cons_zero, List.set_cons_succ]
          refine Rg.take (i := 6) (t := 61) (v := .int .i64 (r : Int)) rfl rfl (by kernel_rfl) (by kernel_rfl) (by kernel_rfl) (fun _ _ _ h => h) (by rfl) (by intro w0 hSw; have z := hSw.2.2; first | (go_simp; done) | (go_simp; with_reducible rfl)) (by assumption) ?_
          simp only [List.setIfInBounds_toArray, List.set_cons_zero, List.set_cons_succ]
          refine Rg.take (i := 7) (t := 62) (v := .pointer (some ⟨w.heap.size, 3, none⟩)) rfl rfl (by kernel_rfl) (by kernel_rfl) (by kernel_rfl) (fun _ _ _ h => h) (by rfl) (by intro w0 hSw; first | (go_simp; done) | (go_simp; with_reducible rfl)) (by assumption) ?_
          simp only [List.setIfInBounds_toArray, List.set_cons_zero, List.set_cons_succ]
          refine Rg.take (i := 8) (t := 63) (v := .slice (some ⟨g3, 0, none⟩) n d3) rfl rfl (by kernel_rfl) (by kernel_rfl) (by kernel_rfl) (fun _ _ _ h => h) (by rfl) (by intro w0 hSw; obtain ⟨x0, x1, x2, x3, x4, x5, x6, x7, x8, x9, x10, x11, x12, xf⟩ := cells13 hSw.1; first | (go_simp; done) | (go_simp; with_reducible rfl)) (by assumption) ?_
          simp only [List.setIfInBounds_toArray, List.set_cons_zero, List.set_cons_succ]
          refine Rg.take (i := 9) (t := 64) (v := .int .i64 (i : Int)) rfl rfl (by kernel_rfl) (by kernel_rfl) (by kernel_rfl) (fun _ _ _ h => h) (by rfl) (by intro w0 hSw; first | (go_simp; done) | (go_simp; with_reducible rfl)) (by assumption) ?_
          simp only [List.setIfInBounds_toArray, List.set_cons_zero, List.set_cons_succ]
          refine Rg.take (i := 10) (t := 65) (v := .pointer (some ⟨g3, i, none⟩)) rfl rfl (by kernel_rfl) (by kernel_rfl) (by kernel_rfl) (fun _ _ _ h => h) (by rfl) (by intro w0 hSw; first | (go_simp; done) | (go_simp; with_reducible rfl)) (by assumption) ?_
          simp only [List.setIfInBounds_toArray, List.set_cons_zero, List.set_cons_succ]
          refine Rg.take (i := 11) (t := 66) (v := .int .i64 v) rfl rfl (by kernel_rfl) (by kernel_rfl) (by kernel_rfl) (fun _ _ _ h => h) (by rfl) (by intro w0 hSw; have z := hSw.2.1; first | (go_simp; done) | (go_simp; with_reducible rfl)) (by assumption) ?_
          simp only [List.setIfInBounds_toArray, List.set_cons_zero, List.set_cons_succ]
          refine Rg.take (i := 12) (t := 67) (v := .pointer (some ⟨g3, r, none⟩)) rfl rfl (by kernel_rfl) (by kernel_rfl) (by kernel_rfl) (fun _ _ _ h => h) (by rfl) (by intro w0 hSw; first | (go_simp; done) | (go_simp; with_reducible rfl)) (by assumption) ?_
          simp only [List.setIfInBounds_toArray, List.set_cons_zero, List.set_cons_succ]
          refine Rg.one (i := 13) (by kernel_rfl) ?_
          refine RgIn.effN (i := 13) (w1 := wr.drew.setCell ⟨g3, r, none⟩ (.int .i64 v)) rfl rfl (by rfl) (by first | (go_simp; done) | (go_simp; with_reducible rfl)) ⟨⟨(Below.heap_setCell _ _ _ _ (by simp; omega)).trans h0, ks3, (World.cell?_of_block (Below.heap_setCell wr.drew _ _ _ (by simp; omega))).trans hck⟩, ?_⟩
          refine wpAnyH_done (by kernel_rfl) ?_ _
          go_wp2_with fail
          go_roundw
          case rel => exact ⟨j + 1, by omega, by go_num, own_ne HK.out.drew (fun h => nk3 (Option.some.inj h)) r _, own_ne O1.out.drew (fun h => n13 (Option.some.inj h)) r _, by rw [HT.out.2.2.1]; exact own_ne O2.out.drew (fun h => n23 (Option.some.inj h)) r _, by rw [HT.out.2.2.2]; exact O3.out.drew.store r v, (Below.heap_setCell _ _ _ _ (by simp; omega)).trans h0, (Below.heap_setCell _ _ _ _ (by simp; omega)).trans h1, (Below.drew HBW.out).setCell (by simp; omega) _, by simpa using s2⟩
          case measure => simp [intOf]; omega
      · have HS := Lib.hid (skip_j (g := g) hjL (show L[j] ≠ (i : Int) by rw [hc]; exact hci))
        have hcb : (c == (i : Int)) = false := beq_eq_false_iff_ne.2 hci
        clear hc hkc ok o1 o2 o3 hB
        go_wp2_with fail
        go_roundw
        case rel => exact ⟨j + 1, by omega, by go_num, HK.out, O1.out, by rw [HS.out.1]; exact O2.out, by rw [HS.out.2]; exact O3.out, h0, h1, HBW.out, s2⟩
        case measure => simp [intOf]; omega
    · have hjm : m = j := by omega
      subst hjm
      have HE := Lib.hid (end_j HG.out HXT.out (j := m) (by rw [HPP.out, HL.out, HM.out]; exact Nat.le_refl _))
      rw [HPP.out, HL.out] at HE
      rw [HE.out.1] at o2
      rw [HE.out.2] at o3
      clear O2 O3
      have O2 := Lib.hid o2
      have O3 := Lib.hid o3
      clear ok o1 o2 o3 hB
      obtain ⟨r0, r1, r2, r3, r4, r5, r6, r7, r8, r9, r10, r11, r12, rf⟩ := cells13 h1
      have k1 := own_cell O1.out hi2
      have k3 := own_cell O3.out hi2
      have e1 : w.heap.size + 1 ≠ g1 := by omega
      have e2 : w.heap.size + 1 ≠ g2 := by omega
      have e3 : w.heap.size + 1 ≠ g3 := by omega
      go_wp2_with fail
      (try simp only [Exit.inBlock, Exit.then])
      obtain ⟨U, hU⟩ : ∃ U, ((wr.setCell ⟨g1, i, none⟩ (.int .i64 0)).setCell ⟨g3, i, none⟩ (.int .i64 0)) = U := ⟨_, rfl⟩
      have u1 : U.heap[w.heap.size + 1]? = some (.cells #[.slice none 0 0, .slice none 0 0, .slice none 0 0, .slice none 0 0, .slice none 0 0, .slice none 0 0, .slice none 0 0, .int .u64 0, .int .i64 0, .int .i64 0, .int .i64 0, .int .i64 0, .int .i64 0] 31 (0, 0)) := by subst hU; exact (Below.heap_setCell _ _ _ _ (by simp; omega)).trans ((Below.heap_setCell _ _ _ _ (by simp; omega)).trans h1)
      have uB : Below w.heap.size w U := by subst hU; exact (HBW.out.setCell (by simp; omega) _).setCell (by simp; omega) _
      have v1 : Sq.Own I 3 U (w.heap.size + 2) (.slice (some ⟨g1, 0, none⟩) n d1) (MoveP.leave g (i : Int)).pa := by subst hU; exact own_ne (O1.out.store i 0) (fun h => n13 (Option.some.inj h)) i _
      have v2 : Sq.Own I 3 U (w.heap.size + 2) (.slice (some ⟨g2, 0, none⟩) n d2) (MoveP.leave g (i : Int)).ch := by subst hU; exact own_ne (own_ne O2.out (fun h => n12 (Option.some.inj h).symm) i _) (fun h => n23 (Option.some.inj h)) i _
      have v3 : Sq.Own I 3 U (w.heap.size + 2) (.slice (some ⟨g3, 0, none⟩) n d3) (MoveP.leave g (i : Int)).ne := by subst hU; exact (own_ne O3.out (fun h => n13 (Option.some.inj h).symm) i _).store i 0
      rw [hU]
      refine ret_ct (set13 u1) rfl rfl Try.underlying31 rfl rfl ?_
      have fs : ∀ k, w.heap.size + 2 ≤ k → (set13w U (w.heap.size + 1) (.slice A0 n0 c0) (.slice (some ⟨g1, 0, none⟩) n d1) (.slice (some ⟨g2, 0, none⟩) n d2) (.slice (some ⟨g3, 0, none⟩) n d3) (.slice A4 n4 c4) (.slice A5 n5 c5) (.slice A6 n6 c6) (.int .u64 g.seed) (.int .i64 g.sc) (.int .i64 g.tu) (.int .i64 g.ov) (.int .i64 g.it) (.int .i64 g.go)).heap[k]? = U.heap[k]? := fun k hk => set13_other _ _ (by omega)
      exact ⟨g1, g2, g3, d1, d2, d3, rfl, (own_same v1 fs).lower (by omega), (own_same v2 fs).lower (by omega), (own_same v3 fs).lower (by omega), n12, n13, n23, set13_below uB (by omega) (Nat.zero_le _)⟩
end Go.Proofs.Ytncdicagadbafaa.MvS
