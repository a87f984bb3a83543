/- view.has, shows, Here; clewref23.has, shows, Here. Conditions: the world reads; a flag for each thing, from 0 to 65535. -/
import Derived.Test.YtncdicagadbafaaVB
import Derived.Test.YtncdicagadbafaaVPQ
import Derived.Test.YtncdicagadbafaaSamW
namespace Go.Proofs.Ytncdicagadbafaa.ViewW
open Go Go.RowKit NestP NestW NestX NestY ValP ValW ValX ValR Sq WorldD CopP MoveP LvP MvA AttrP AttrW AttrX AttrY AttrZ AttrU AttrV AttrQ TabD TabW TabX TabB TabR MixP AwkP WoC ViewP

set_option maxRecDepth 100000 in
set_option maxHeartbeats 4000000 in
theorem has_v {v : Value} (g : Wd) (x f : Int) (w : World) (ho : Wo w v g) (hF : Fl g) :
    Calls Try.prog 131 #[v, .int .i64 x, .int .i64 f] w fun e w' => e = .returned (.bool (hasB g x f)) ∧ Below w.heap.size w w' := by
  have hx := ho
  obtain ⟨A0, A1, A2, A3, A4, A5, A6, n0, c0, n, c1, n2, c2, n3, c3, n4, c4, n5, c5, n6, c6, rfl, _⟩ := hx
  go_enter Try.func131, Try.ntmps131
  obtain ⟨w0, hW⟩ : ∃ w0, w.alloc (.cells #[.slice A0 n0 c0, .slice A1 n c1, .slice A2 n2 c2, .slice A3 n3 c3, .slice A4 n4 c4, .slice A5 n5 c5, .slice A6 n6 c6, .int .u64 g.seed, .int .i64 g.sc, .int .i64 g.tu, .int .i64 g.ov, .int .i64 g.it, .int .i64 g.go] 31) = w0 := ⟨_, rfl⟩
  have HA : w0.heap[w.heap.size]? = some (.cells #[.slice A0 n0 c0, .slice A1 n c1, .slice A2 n2 c2, .slice A3 n3 c3, .slice A4 n4 c4, .slice A5 n5 c5, .slice A6 n6 c6, .int .u64 g.seed, .int .i64 g.sc, .int .i64 g.tu, .int .i64 g.ov, .int .i64 g.it, .int .i64 g.go] 31 (0, 0)) := by rw [← hW]; exact World.alloc_heap_new w _
  have LA : w.heap.size < w0.heap.size := by rw [← hW]; simp
  have hB : Below w.heap.size w w0 := by rw [← hW]; exact (Below.refl _ _).alloc (Nat.le_refl _) _
  have HB := Lib.hid hB
  have HOv := Lib.hid (SamW.wo_below ho hB)
  clear hB ho
  obtain ⟨x0, x1, x2, x3, x4, x5, x6, x7, x8, x9, x10, x11, x12, xf⟩ := cells13 HA
  go_wp2_with (go_at_call 25; (with_reducible refine (has_i g x f _ HOv.out hF).mono ?_); rintro e w1 ⟨rfl, hb⟩; clear hW x0 x1 x2 x3 x4 x5 x6 x7 x8 x9 x10 x11 x12 xf; have hc : Below w0.heap.size w0 w1 := hb; have H2 := (hc.block _ LA).trans HA; have L2 := Nat.lt_of_lt_of_le LA hc.size; clear HA LA; have HA := H2; have LA := L2; clear H2 L2; have H2 := Lib.hid (SamW.wo_below HOv.out hc); clear HOv; have HOv := H2; clear H2; have H2 := Lib.hid (HB.out.trans (hc.mono HB.out.size)); clear HB; have HB := H2; clear H2; clear hc hb)
  go_ret
  exact ⟨rfl, HB.out⟩
set_option maxRecDepth 100000 in
set_option maxHeartbeats 4000000 in
theorem shows_v {v : Value} (g : Wd) (x : Int) (w : World) (ho : Wo w v g) (hF : Fl g) :
    Calls Try.prog 177 #[v, .int .i64 x] w fun e w' => e = .returned (.bool (showsB g x)) ∧ Below w.heap.size w w' := by
  obtain ⟨q1, h1⟩ : ∃ q, hasB g x 2 = q := ⟨_, rfl⟩
  obtain ⟨q2, h2⟩ : ∃ q, hasB g x 1 = q := ⟨_, rfl⟩
  have HS := Lib.hid (show showsB g x = (!q1 || q2) by unfold showsB; rw [h1, h2])
  have H1 := Lib.hid h1
  have H2 := Lib.hid h2
  have HF := Lib.hid hF
  clear h1 h2 hF
  cases q1 <;> cases q2
  all_goals
    have hx := ho
    obtain ⟨A0, A1, A2, A3, A4, A5, A6, n0, c0, n, c1, n2, c2, n3, c3, n4, c4, n5, c5, n6, c6, rfl, _⟩ := hx
    go_enter Try.func177, Try.ntmps177
    obtain ⟨w0, hW⟩ : ∃ w0, w.alloc (.cells #[.slice A0 n0 c0, .slice A1 n c1, .slice A2 n2 c2, .slice A3 n3 c3, .slice A4 n4 c4, .slice A5 n5 c5, .slice A6 n6 c6, .int .u64 g.seed, .int .i64 g.sc, .int .i64 g.tu, .int .i64 g.ov, .int .i64 g.it, .int .i64 g.go] 31) = w0 := ⟨_, rfl⟩
    have HA : w0.heap[w.heap.size]? = some (.cells #[.slice A0 n0 c0, .slice A1 n c1, .slice A2 n2 c2, .slice A3 n3 c3, .slice A4 n4 c4, .slice A5 n5 c5, .slice A6 n6 c6, .int .u64 g.seed, .int .i64 g.sc, .int .i64 g.tu, .int .i64 g.ov, .int .i64 g.it, .int .i64 g.go] 31 (0, 0)) := by rw [← hW]; exact World.alloc_heap_new w _
    have LA : w.heap.size < w0.heap.size := by rw [← hW]; simp
    have hB : Below w.heap.size w w0 := by rw [← hW]; exact (Below.refl _ _).alloc (Nat.le_refl _) _
    have HB := Lib.hid hB
    have HOv := Lib.hid (SamW.wo_below ho hB)
    clear hB ho
    obtain ⟨x0, x1, x2, x3, x4, x5, x6, x7, x8, x9, x10, x11, x12, xf⟩ := cells13 HA
    go_wp2_with (first
      | (go_at_call 131; (with_reducible refine (has_v g x 2 _ HOv.out HF.out).mono ?_); rintro e w1 ⟨rfl, hb⟩; rw [H1.out]; clear hW x0 x1 x2 x3 x4 x5 x6 x7 x8 x9 x10 x11 x12 xf; have hc : Below w0.heap.size w0 w1 := hb; have H2 := (hc.block _ LA).trans HA; have L2 := Nat.lt_of_lt_of_le LA hc.size; clear HA LA; have HA := H2; have LA := L2; clear H2 L2; have H2 := Lib.hid (SamW.wo_below HOv.out hc); clear HOv; have HOv := H2; clear H2; have H2 := Lib.hid (HB.out.trans (hc.mono HB.out.size)); clear HB; have HB := H2; clear H2; clear hc hb; obtain ⟨x0, x1, x2, x3, x4, x5, x6, x7, x8, x9, x10, x11, x12, xf⟩ := cells13 HA)
      | (go_at_call 131; (with_reducible refine (has_v g x 1 _ HOv.out HF.out).mono ?_); rintro e w2 ⟨rfl, hb⟩; rw [H2.out]; clear x0 x1 x2 x3 x4 x5 x6 x7 x8 x9 x10 x11 x12 xf; have hc : Below w1.heap.size w1 w2 := hb; have H2 := (hc.block _ LA).trans HA; have L2 := Nat.lt_of_lt_of_le LA hc.size; clear HA LA; have HA := H2; have LA := L2; clear H2 L2; have H2 := Lib.hid (SamW.wo_below HOv.out hc); clear HOv; have HOv := H2; clear H2; have H2 := Lib.hid (HB.out.trans (hc.mono HB.out.size)); clear HB; have HB := H2; clear H2; clear hc hb))
    go_ret
    exact ⟨by rw [HS.out] <;> rfl, HB.out⟩
set_option maxRecDepth 100000 in
set_option maxHeartbeats 4000000 in
theorem here_v {v : Value} (g : Wd) (w : World) (ho : Wo w v g) :
    Calls Try.prog 68 #[v] w fun e w' => e = .returned (.int .i64 (here g)) ∧ Below w.heap.size w w' := by
  have hx := ho
  obtain ⟨A0, A1, A2, A3, A4, A5, A6, n0, c0, n, c1, n2, c2, n3, c3, n4, c4, n5, c5, n6, c6, rfl, _⟩ := hx
  go_enter Try.func68, Try.ntmps68
  obtain ⟨w0, hW⟩ : ∃ w0, w.alloc (.cells #[.slice A0 n0 c0, .slice A1 n c1, .slice A2 n2 c2, .slice A3 n3 c3, .slice A4 n4 c4, .slice A5 n5 c5, .slice A6 n6 c6, .int .u64 g.seed, .int .i64 g.sc, .int .i64 g.tu, .int .i64 g.ov, .int .i64 g.it, .int .i64 g.go] 31) = w0 := ⟨_, rfl⟩
  have HA : w0.heap[w.heap.size]? = some (.cells #[.slice A0 n0 c0, .slice A1 n c1, .slice A2 n2 c2, .slice A3 n3 c3, .slice A4 n4 c4, .slice A5 n5 c5, .slice A6 n6 c6, .int .u64 g.seed, .int .i64 g.sc, .int .i64 g.tu, .int .i64 g.ov, .int .i64 g.it, .int .i64 g.go] 31 (0, 0)) := by rw [← hW]; exact World.alloc_heap_new w _
  have LA : w.heap.size < w0.heap.size := by rw [← hW]; simp
  have hB : Below w.heap.size w w0 := by rw [← hW]; exact (Below.refl _ _).alloc (Nat.le_refl _) _
  have HB := Lib.hid hB
  have HOv := Lib.hid (SamW.wo_below ho hB)
  clear hB ho
  obtain ⟨x0, x1, x2, x3, x4, x5, x6, x7, x8, x9, x10, x11, x12, xf⟩ := cells13 HA
  go_wp2_with (go_at_call 54; (with_reducible refine (top_w g 1 HOv.out).mono ?_); rintro e w1 ⟨rfl, hb⟩; clear hW x0 x1 x2 x3 x4 x5 x6 x7 x8 x9 x10 x11 x12 xf; have hc : Below w0.heap.size w0 w1 := hb; have H2 := (hc.block _ LA).trans HA; have L2 := Nat.lt_of_lt_of_le LA hc.size; clear HA LA; have HA := H2; have LA := L2; clear H2 L2; have H2 := Lib.hid (SamW.wo_below HOv.out hc); clear HOv; have HOv := H2; clear H2; have H2 := Lib.hid (HB.out.trans (hc.mono HB.out.size)); clear HB; have HB := H2; clear H2; clear hc hb)
  go_ret
  exact ⟨rfl, HB.out⟩
set_option maxRecDepth 100000 in
set_option maxHeartbeats 4000000 in
theorem here_r {v : Value} (g : Wd) (w : World) (ho : Wo w v g) :
    Calls Try.prog 69 #[v] w fun e w' => e = .returned (.int .i64 (here g)) ∧ Below w.heap.size w w' := by
  have hx := ho
  obtain ⟨A0, A1, A2, A3, A4, A5, A6, n0, c0, n, c1, n2, c2, n3, c3, n4, c4, n5, c5, n6, c6, rfl, _⟩ := hx
  go_enter Try.func69, Try.ntmps69
  obtain ⟨w0, hW⟩ : ∃ w0, w.alloc (.cells #[.slice A0 n0 c0, .slice A1 n c1, .slice A2 n2 c2, .slice A3 n3 c3, .slice A4 n4 c4, .slice A5 n5 c5, .slice A6 n6 c6, .int .u64 g.seed, .int .i64 g.sc, .int .i64 g.tu, .int .i64 g.ov, .int .i64 g.it, .int .i64 g.go] 31) = w0 := ⟨_, rfl⟩
  have HA : w0.heap[w.heap.size]? = some (.cells #[.slice A0 n0 c0, .slice A1 n c1, .slice A2 n2 c2, .slice A3 n3 c3, .slice A4 n4 c4, .slice A5 n5 c5, .slice A6 n6 c6, .int .u64 g.seed, .int .i64 g.sc, .int .i64 g.tu, .int .i64 g.ov, .int .i64 g.it, .int .i64 g.go] 31 (0, 0)) := by rw [← hW]; exact World.alloc_heap_new w _
  have LA : w.heap.size < w0.heap.size := by rw [← hW]; simp
  have hB : Below w.heap.size w w0 := by rw [← hW]; exact (Below.refl _ _).alloc (Nat.le_refl _) _
  have HB := Lib.hid hB
  have HOv := Lib.hid (SamW.wo_below ho hB)
  clear hB ho
  obtain ⟨x0, x1, x2, x3, x4, x5, x6, x7, x8, x9, x10, x11, x12, xf⟩ := cells13 HA
  go_wp2_with (go_at_call 55; (with_reducible refine (NstR.top_ow g 1 HOv.out).mono ?_); rintro e w1 ⟨rfl, hb⟩; clear hW x0 x1 x2 x3 x4 x5 x6 x7 x8 x9 x10 x11 x12 xf; have hc : Below w0.heap.size w0 w1 := hb; have H2 := (hc.block _ LA).trans HA; have L2 := Nat.lt_of_lt_of_le LA hc.size; clear HA LA; have HA := H2; have LA := L2; clear H2 L2; have H2 := Lib.hid (SamW.wo_below HOv.out hc); clear HOv; have HOv := H2; clear H2; have H2 := Lib.hid (HB.out.trans (hc.mono HB.out.size)); clear HB; have HB := H2; clear H2; clear hc hb)
  go_ret
  exact ⟨rfl, HB.out⟩
set_option maxRecDepth 100000 in
set_option maxHeartbeats 4000000 in
theorem hasr_v {v : Value} (g : Wd) (x f : Int) (w : World) (ho : Wo w v g) (hF : Fl g) (hf : 0 ≤ f ∧ f ≤ 15) :
    Calls Try.prog 133 #[v, .int .i64 x, .int .i64 f] w fun e w' => e = .returned (.bool (hasB g x f)) ∧ Below w.heap.size w w' := by
  obtain ⟨hf0, hf1⟩ := hf
  obtain ⟨A0, A1, A2, A3, A4, A5, A6, n0, c0, n, c1, n2, c2, n3, c3, n4, c4, n5, c5, n6, c6, rfl, ⟨r0, r1, r2, r3, r4, r5, r6⟩, hu, hw, hb⟩ := ho
  have hg : g.n = n := r1.len.symm
  have hn4 : n4 = n := by rw [r4.len, hF.1, hg]
  have hb4 : n4 ≤ 17592186043904 := hb.2.2.2.2.1
  obtain ⟨w0, hW⟩ : ∃ w0, w.alloc (.cells #[.slice A0 n0 c0, .slice A1 n c1, .slice A2 n2 c2, .slice A3 n3 c3, .slice A4 n4 c4, .slice A5 n5 c5, .slice A6 n6 c6, .int .u64 g.seed, .int .i64 g.sc, .int .i64 g.tu, .int .i64 g.ov, .int .i64 g.it, .int .i64 g.go] 31) = w0 := ⟨_, rfl⟩
  have HA : w0.heap[w.heap.size]? = some (.cells #[.slice A0 n0 c0, .slice A1 n c1, .slice A2 n2 c2, .slice A3 n3 c3, .slice A4 n4 c4, .slice A5 n5 c5, .slice A6 n6 c6, .int .u64 g.seed, .int .i64 g.sc, .int .i64 g.tu, .int .i64 g.ov, .int .i64 g.it, .int .i64 g.go] 31 (0, 0)) := by rw [← hW]; exact World.alloc_heap_new w _
  have hB : Below w.heap.size w w0 := by rw [← hW]; exact (Below.refl _ _).alloc (Nat.le_refl _) _
  have HB := Lib.hid hB
  obtain ⟨q, hq⟩ : ∃ q, isT n x = q := ⟨_, rfl⟩
  cases q with
  | false =>
    have HH := Lib.hid (show hasB g x f = false by unfold hasB; rw [show askN g.n x f = 11 by unfold askN; rw [hg, hq]; simp]; simp)
    have hq2 : ¬ (1 ≤ x ∧ x < n) := fun h => by rw [isT_iff.2 h] at hq; cases hq
    clear r0 r1 r2 r3 r4 r5 r6 hu hw hb hB hg hq
    obtain ⟨x0, x1, x2, x3, x4, x5, x6, x7, x8, x9, x10, x11, x12, xf⟩ := cells13 HA
    by_cases h1 : 1 ≤ x
    · have h2 : ¬ (x < (n4 : Int)) := by omega
      have h3 : decide (x < (n4 : Int)) = false := decide_eq_false h2
      clear hq2 hn4
      go_enter Try.func133, Try.ntmps133
      go_wp2_with fail
      go_ret
      exact ⟨by rw [HH.out] <;> rfl, HB.out⟩
    · have h3 : decide (1 ≤ x) = false := decide_eq_false h1
      clear hq2 hn4
      go_enter Try.func133, Try.ntmps133
      go_wp2_with fail
      go_ret
      exact ⟨by rw [HH.out] <;> rfl, HB.out⟩
  | true =>
    have hx := isT_iff.1 hq
    obtain ⟨k, rfl⟩ := Int.eq_ofNat_of_zero_le (show 0 ≤ x by omega)
    obtain ⟨b, o, rfl, hbb, hl, hcell⟩ := r4.at_ (show k < n4 by omega)
    have hfl := hF.2 _ (List.getElem_mem hl)
    have hat : at' g.fl (k : Int) = g.fl[k] := at_lt hl
    have hh : hasB g (k : Int) f = flB g.fl[k] f := by unfold hasB; rw [ask_ok.2 ⟨by rw [hg]; exact hq, hf0, hf1⟩, hat]; simp
    generalize g.fl[k] = m at hcell hfl hh hat
    unfold I at hcell
    have hcell2 := (hB.cell (p := ⟨b, o + k, none⟩) hbb).trans hcell
    have hp := two_f hf0 hf1
    have hfb : flB m f = (m / 2 ^ f.toNat % 2 == 1) := rfl
    obtain ⟨p, hp2⟩ : ∃ p, (2 : Int) ^ f.toNat = p := ⟨_, rfl⟩
    rw [hp2] at hp hfb
    have hd : 0 ≤ m / p := Int.ediv_nonneg hfl.1 (by omega)
    have hd2 : m / p ≤ 65535 := Int.le_trans (Int.ediv_le_self p hfl.1) hfl.2
    obtain ⟨d, hdd⟩ : ∃ d, m / p = d := ⟨_, rfl⟩
    rw [hdd] at hd hd2 hfb
    have ht : d.tmod 2 = d % 2 := Int.tmod_eq_emod_of_nonneg hd
    obtain ⟨q, hq3⟩ : ∃ q, (d % 2 == 1) = q := ⟨_, rfl⟩
    have HH := Lib.hid (show hasB g (k : Int) f = q by rw [hh, hfb, hq3])
    have k0 : (0 : Int) ≤ (k : Int) := by omega
    have k1 : (k : Int) < (n4 : Int) := by omega
    have k2 : (1 : Int) ≤ (k : Int) := by omega
    have u0 : IntKind.u64.wrap f = f := by unfold IntKind.wrap; simp [IntKind.bits, IntKind.signed]; omega
    have u1 : min f.toNat 64 = f.toNat := by omega
    obtain ⟨m0, m1⟩ := hfl
    clear r0 r1 r2 r3 r4 r5 r6 hu hw hb hB hg hq hx hcell hh hfb hat hF hl hn4 hp
    obtain ⟨x0, x1, x2, x3, x4, x5, x6, x7, x8, x9, x10, x11, x12, xf⟩ := cells13 HA
    go_enter Try.func133, Try.ntmps133
    go_wp2_with fail
    go_ret
    exact ⟨by rw [HH.out] <;> rfl, HB.out⟩
set_option maxRecDepth 100000 in
set_option maxHeartbeats 4000000 in
theorem showsr_v {v : Value} (g : Wd) (x : Int) (w : World) (ho : Wo w v g) (hF : Fl g) :
    Calls Try.prog 170 #[v, .int .i64 x] w fun e w' => e = .returned (.bool (showsB g x)) ∧ Below w.heap.size w w' := by
  obtain ⟨q1, h1⟩ : ∃ q, hasB g x 2 = q := ⟨_, rfl⟩
  obtain ⟨q2, h2⟩ : ∃ q, hasB g x 1 = q := ⟨_, rfl⟩
  have HS := Lib.hid (show showsB g x = (!q1 || q2) by unfold showsB; rw [h1, h2])
  have H1 := Lib.hid h1
  have H2 := Lib.hid h2
  have HF := Lib.hid hF
  clear h1 h2 hF
  cases q1 <;> cases q2
  all_goals
    have hx := ho
    obtain ⟨A0, A1, A2, A3, A4, A5, A6, n0, c0, n, c1, n2, c2, n3, c3, n4, c4, n5, c5, n6, c6, rfl, _⟩ := hx
    go_enter Try.func170, Try.ntmps170
    obtain ⟨w0, hW⟩ : ∃ w0, w.alloc (.cells #[.slice A0 n0 c0, .slice A1 n c1, .slice A2 n2 c2, .slice A3 n3 c3, .slice A4 n4 c4, .slice A5 n5 c5, .slice A6 n6 c6, .int .u64 g.seed, .int .i64 g.sc, .int .i64 g.tu, .int .i64 g.ov, .int .i64 g.it, .int .i64 g.go] 31) = w0 := ⟨_, rfl⟩
    have HA : w0.heap[w.heap.size]? = some (.cells #[.slice A0 n0 c0, .slice A1 n c1, .slice A2 n2 c2, .slice A3 n3 c3, .slice A4 n4 c4, .slice A5 n5 c5, .slice A6 n6 c6, .int .u64 g.seed, .int .i64 g.sc, .int .i64 g.tu, .int .i64 g.ov, .int .i64 g.it, .int .i64 g.go] 31 (0, 0)) := by rw [← hW]; exact World.alloc_heap_new w _
    have LA : w.heap.size < w0.heap.size := by rw [← hW]; simp
    have hB : Below w.heap.size w w0 := by rw [← hW]; exact (Below.refl _ _).alloc (Nat.le_refl _) _
    have HB := Lib.hid hB
    have HOv := Lib.hid (SamW.wo_below ho hB)
    clear hB ho
    obtain ⟨x0, x1, x2, x3, x4, x5, x6, x7, x8, x9, x10, x11, x12, xf⟩ := cells13 HA
    go_wp2_with (first
      | (go_at_call 133; (with_reducible refine (hasr_v g x 2 _ HOv.out HF.out (by omega)).mono ?_); rintro e w1 ⟨rfl, hb⟩; rw [H1.out]; clear hW x0 x1 x2 x3 x4 x5 x6 x7 x8 x9 x10 x11 x12 xf; have hc : Below w0.heap.size w0 w1 := hb; have H2 := (hc.block _ LA).trans HA; have L2 := Nat.lt_of_lt_of_le LA hc.size; clear HA LA; have HA := H2; have LA := L2; clear H2 L2; have H2 := Lib.hid (SamW.wo_below HOv.out hc); clear HOv; have HOv := H2; clear H2; have H2 := Lib.hid (HB.out.trans (hc.mono HB.out.size)); clear HB; have HB := H2; clear H2; clear hc hb; obtain ⟨x0, x1, x2, x3, x4, x5, x6, x7, x8, x9, x10, x11, x12, xf⟩ := cells13 HA)
      | (go_at_call 133; (with_reducible refine (hasr_v g x 1 _ HOv.out HF.out (by omega)).mono ?_); rintro e w2 ⟨rfl, hb⟩; rw [H2.out]; clear x0 x1 x2 x3 x4 x5 x6 x7 x8 x9 x10 x11 x12 xf; have hc : Below w1.heap.size w1 w2 := hb; have H2 := (hc.block _ LA).trans HA; have L2 := Nat.lt_of_lt_of_le LA hc.size; clear HA LA; have HA := H2; have LA := L2; clear H2 L2; have H2 := Lib.hid (SamW.wo_below HOv.out hc); clear HOv; have HOv := H2; clear H2; have H2 := Lib.hid (HB.out.trans (hc.mono HB.out.size)); clear HB; have HB := H2; clear H2; clear hc hb))
    go_ret
    exact ⟨by rw [HS.out] <;> rfl, HB.out⟩
end Go.Proofs.Ytncdicagadbafaa.ViewW
