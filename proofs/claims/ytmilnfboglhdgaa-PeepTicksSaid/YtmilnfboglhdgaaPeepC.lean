/- The function values of chapter 29, and slices.IndexFunc, ContainsFunc over instructions. Conditions: lengths of 1048576 at most. -/
import Derived.Test.YtmilnfboglhdgaaPeepZ
import Derived.BigQuiet
namespace Go.Proofs.Ytmilnfboglhdgaa.PeepC
open Go Go.RowKit NestP NestW Sq ValP ValW ValY PeepP PeepW PeepX PeepY PeepZ

/-- The boxes of a list and of a place in it. -/
structure Bx2 (w : World) (bl bi : Nat) (A : Option Addr) (n c : Nat) (i : Nat) (l : List Ins) : Prop where
  box : w.cell? ⟨bl, 0, none⟩ = some (.slice A n c)
  idx : w.cell? ⟨bi, 0, none⟩ = some (.int .i64 (i : Int))
  rd : RdI w A n l
  hl : bl < w.heap.size
  hi : bi < w.heap.size
theorem Bx2.below {w w' : World} {bl bi : Nat} {A : Option Addr} {n c i : Nat} {l : List Ins} (h : Bx2 w bl bi A n c i l) (hb : Below w.heap.size w w') : Bx2 w' bl bi A n c i l :=
  ⟨(bcell hb bl 0 h.hl).trans h.box, (bcell hb bi 0 h.hi).trans h.idx, h.rd.below hb, Nat.lt_of_lt_of_le h.hl hb.size, Nat.lt_of_lt_of_le h.hi hb.size⟩
theorem Bx2.alloc {w : World} {bl bi : Nat} {A : Option Addr} {n c i : Nat} {l : List Ins} (h : Bx2 w bl bi A n c i l) (o : Obj) : Bx2 (w.alloc o) bl bi A n c i l := h.below ((Below.refl _ _).alloc (Nat.le_refl _) _)
set_option maxRecDepth 100000 in
theorem fur1_i {A : Option Addr} {n c bl bi : Nat} (l : List Ins) (i : Nat) (x : Ins) (w : World) (h : Bx2 w bl bi A n c i l) (hi : i < n) (hn : n ≤ 1048576) :
    Calls Try.prog 48 #[InsV x, .pointer (some ⟨bl, 0, none⟩), .pointer (some ⟨bi, 0, none⟩)] w fun e w' => e = .returned (.bool (spot (ar l i) x)) ∧ Below w.heap.size w w' := by
  obtain ⟨w1, hw1⟩ : ∃ w1, w.alloc (.cells #[.int .i64 x.1, .int .i64 x.2] 30) = w1 := ⟨_, rfl⟩
  have HB := Lib.hid (show Below w.heap.size w w1 by rw [← hw1]; exact (Below.refl _ _).alloc (Nat.le_refl _) _)
  have hz : w1.heap[w.heap.size]? = some (.cells #[.int .i64 x.1, .int .i64 x.2] 30 (0, 0)) := by rw [← hw1]; exact World.alloc_heap_new w _
  have z0 : w1.cell? ⟨w.heap.size, 0, none⟩ = some (.int .i64 x.1) := by simp [World.cell?, hz]
  have z1 : w1.cell? ⟨w.heap.size, 1, none⟩ = some (.int .i64 x.2) := by simp [World.cell?, hz]
  obtain ⟨g0, g1, g2, g3, g4⟩ := h.below HB.out
  obtain ⟨b, o, rfl, hb, hc2⟩ := rd_open g2 (show 0 < n by omega)
  have d1 := (hc2 i hi).2
  have i0 : (0 : Int) ≤ (i : Int) := by omega
  have i1 : (i : Int) < (n : Int) := by omega
  obtain ⟨a, ha⟩ : ∃ a, ar l i = a := ⟨_, rfl⟩
  rw [ha] at d1
  have HA := Lib.hid ha
  obtain ⟨xo, xa⟩ := x
  simp only at z0 z1 hw1
  unfold InsV
  by_cases h1 : xo = 38
  · have HS := Lib.hid (show spot (ar l i) (xo, xa) = (xa == a) by unfold spot; rw [HA.out, h1]; rfl)
    subst h1
    clear h g2 g3 g4 hb hc2 ha hz
    go_enter Try.func48, Try.ntmps48
    go_upto_region 1 with fail
    go_quiet (fail)
    go_wp2_with fail
    go_ret
    exact ⟨by rw [HS.out] <;> rfl, belowN HB.out _⟩
  · have t1 : (xo == 38) = false := by simpa using h1
    have HS := Lib.hid (show spot (ar l i) (xo, xa) = false by unfold spot; rw [t1]; rfl)
    clear h g2 g3 g4 hb hc2 ha hz
    go_enter Try.func48, Try.ntmps48
    go_upto_region 1 with fail
    go_quiet (fail)
    go_wp2_with fail
    go_ret
    exact ⟨by rw [HS.out] <;> rfl, belowN HB.out _⟩
set_option maxRecDepth 100000 in
theorem way1_i {A : Option Addr} {n c bl bi : Nat} (l : List Ins) (i : Nat) (x : Ins) (w : World) (h : Bx2 w bl bi A n c i l) (hi : i < n) (hn : n ≤ 1048576) :
    Calls Try.prog 31 #[InsV x, .pointer (some ⟨bl, 0, none⟩), .pointer (some ⟨bi, 0, none⟩)] w fun e w' => e = .returned (.bool (x.2 == ar l i)) ∧ Below w.heap.size w w' := by
  obtain ⟨w1, hw1⟩ : ∃ w1, w.alloc (.cells #[.int .i64 x.1, .int .i64 x.2] 30) = w1 := ⟨_, rfl⟩
  have HB := Lib.hid (show Below w.heap.size w w1 by rw [← hw1]; exact (Below.refl _ _).alloc (Nat.le_refl _) _)
  have hz : w1.heap[w.heap.size]? = some (.cells #[.int .i64 x.1, .int .i64 x.2] 30 (0, 0)) := by rw [← hw1]; exact World.alloc_heap_new w _
  have z0 : w1.cell? ⟨w.heap.size, 0, none⟩ = some (.int .i64 x.1) := by simp [World.cell?, hz]
  have z1 : w1.cell? ⟨w.heap.size, 1, none⟩ = some (.int .i64 x.2) := by simp [World.cell?, hz]
  obtain ⟨g0, g1, g2, g3, g4⟩ := h.below HB.out
  obtain ⟨b, o, rfl, hb, hc2⟩ := rd_open g2 (show 0 < n by omega)
  have d1 := (hc2 i hi).2
  have i0 : (0 : Int) ≤ (i : Int) := by omega
  have i1 : (i : Int) < (n : Int) := by omega
  obtain ⟨a, ha⟩ : ∃ a, ar l i = a := ⟨_, rfl⟩
  rw [ha] at d1
  have HA := Lib.hid ha
  obtain ⟨xo, xa⟩ := x
  simp only at z0 z1 hw1
  unfold InsV
  clear h g2 g3 g4 hb hc2 ha hz
  have HS := Lib.hid (show (xa == ar l i) = (xa == a) by rw [HA.out])
  go_enter Try.func31, Try.ntmps31
  go_upto_region 1 with fail
  go_quiet (fail)
  go_wp2_with fail
  go_ret
  exact ⟨by rw [HS.out] <;> rfl, belowN HB.out _⟩
set_option maxRecDepth 100000 in
set_option maxHeartbeats 1000000 in
theorem way2_i {A : Option Addr} {n c bl bi : Nat} (l : List Ins) (i : Nat) (x : Ins) (w : World) (h : Bx2 w bl bi A n c i l) (hi : i < n) (hn : n ≤ 1048576) :
    Calls Try.prog 33 #[InsV x, .pointer (some ⟨bl, 0, none⟩), .pointer (some ⟨bi, 0, none⟩)] w fun e w' => e = .returned (.bool (asks (ar l i) x)) ∧ Below w.heap.size w w' := by
  obtain ⟨w1, hw1⟩ : ∃ w1, w.alloc (.cells #[.int .i64 x.1, .int .i64 x.2] 30) = w1 := ⟨_, rfl⟩
  have HB := Lib.hid (show Below w.heap.size w w1 by rw [← hw1]; exact (Below.refl _ _).alloc (Nat.le_refl _) _)
  have hz : w1.heap[w.heap.size]? = some (.cells #[.int .i64 x.1, .int .i64 x.2] 30 (0, 0)) := by rw [← hw1]; exact World.alloc_heap_new w _
  have z0 : w1.cell? ⟨w.heap.size, 0, none⟩ = some (.int .i64 x.1) := by simp [World.cell?, hz]
  have z1 : w1.cell? ⟨w.heap.size, 1, none⟩ = some (.int .i64 x.2) := by simp [World.cell?, hz]
  obtain ⟨g0, g1, g2, g3, g4⟩ := h.below HB.out
  obtain ⟨b, o, rfl, hb, hc2⟩ := rd_open g2 (show 0 < n by omega)
  have d1 := (hc2 i hi).2
  have i0 : (0 : Int) ≤ (i : Int) := by omega
  have i1 : (i : Int) < (n : Int) := by omega
  obtain ⟨a, ha⟩ : ∃ a, ar l i = a := ⟨_, rfl⟩
  rw [ha] at d1
  have HA := Lib.hid ha
  obtain ⟨xo, xa⟩ := x
  simp only at z0 z1 hw1
  unfold InsV
  have hz2 : w.heap.size < w1.heap.size := by rw [← hw1]; simp
  obtain ⟨S, hSd⟩ : ∃ S : World → Prop, (fun U : World => U.cell? ⟨w.heap.size, 0, none⟩ = some (.int .i64 xo) ∧ U.cell? ⟨w.heap.size, 1, none⟩ = some (.int .i64 xa) ∧ U.cell? ⟨bl, 0, none⟩ = some (.slice (some ⟨b, o, none⟩) n c) ∧ U.cell? ⟨bi, 0, none⟩ = some (.int .i64 (i : Int)) ∧ U.cell? ⟨b, o + i * 2 + 1, none⟩ = some (.int .i64 a)) = S := ⟨_, rfl⟩
  have HSB := Lib.hid (show ∀ U, Below w1.heap.size w1 U → S U from fun U h => by rw [← hSd]; exact ⟨(bcell h _ _ hz2).trans z0, (bcell h _ _ hz2).trans z1, (bcell h _ _ g3).trans g0, (bcell h _ _ g4).trans g1, (bcell h b _ hb).trans d1⟩)
  have HSC := Lib.hid (show ∀ U, S U → U.cell? ⟨w.heap.size, 0, none⟩ = some (.int .i64 xo) ∧ U.cell? ⟨w.heap.size, 1, none⟩ = some (.int .i64 xa) ∧ U.cell? ⟨bl, 0, none⟩ = some (.slice (some ⟨b, o, none⟩) n c) ∧ U.cell? ⟨bi, 0, none⟩ = some (.int .i64 (i : Int)) ∧ U.cell? ⟨b, o + i * 2 + 1, none⟩ = some (.int .i64 a) from fun U h => by rw [← hSd] at h; exact h)
  have hS0 : S w1.drew := HSB.out _ (Below.drew (Below.refl _ _))
  clear hSd z0 z1 g0 g1 d1 h g2 g3 g4 hb hc2 ha hz hz2
  cases hj : jumpsB xo with
  | true =>
    have HJ := Lib.hid hj
    have HS := Lib.hid (show asks (ar l i) (xo, xa) = (xa == a) by unfold asks; rw [HA.out, hj]; rfl)
    go_enter Try.func33, Try.ntmps33
    go_upto_region 1 with fail
    refine wp_region_held_drew (S := S) (by kernel_rfl) hS0 (fun hHeld => ?_)
    refine Rg.take (i := 0) (t := 5) rfl rfl (by kernel_rfl) (by kernel_rfl) (by kernel_rfl) (fun _ _ _ h => h) (by rfl) (by intro w0 hSw; obtain ⟨s0, s1, s2, s3, s4⟩ := HSC.out _ hSw; first | (go_simp; done) | (go_simp; with_reducible rfl)) (by assumption) ?_
    simp only [List.setIfInBounds_toArray, List.set_cons_zero, List.set_cons_succ]
    refine Rg.one (i := 1) (by kernel_rfl) ?_
    refine Rg.call (i := 1) (t := 6) rfl rfl (by rfl) (by go_simp; exact ⟨rfl, rfl⟩) ?_
    refine (jumps_i (xo, xa) w1.drew).mono ?_
    rintro e w2 ⟨rfl, hb2⟩
    have HS2 := HSB.out w2 ((Below.drew (Below.refl w1.heap.size w1)).trans hb2)
    have HB2 := Lib.hid (HB.out.trans (((Below.drew (Below.refl w1.heap.size w1)).trans hb2).mono HB.out.size))
    clear hb2
    rw [HJ.out]
    refine ⟨_, rfl, S, fun _ h => h, HS2, ?_⟩
    simp only [List.setIfInBounds_toArray, List.set_cons_zero, List.set_cons_succ]
    refine Rg.take (i := 2) (t := 7) (v := .bool true) rfl rfl (by kernel_rfl) (by kernel_rfl) (by kernel_rfl) (fun _ _ _ h => h) (by rfl) (by intro w0 hSw; obtain ⟨s0, s1, s2, s3, s4⟩ := HSC.out _ hSw; first | (go_simp; done) | (go_simp; with_reducible rfl)) (by assumption) ?_
    simp only [List.setIfInBounds_toArray, List.set_cons_zero, List.set_cons_succ]
    refine Rg.take (i := 3) (t := 8) rfl rfl (by kernel_rfl) (by kernel_rfl) (by kernel_rfl) (fun _ _ _ h => h) (by rfl) (by intro w0 hSw; obtain ⟨s0, s1, s2, s3, s4⟩ := HSC.out _ hSw; first | (go_simp; done) | (go_simp; with_reducible rfl)) (by assumption) ?_
    simp only [List.setIfInBounds_toArray, List.set_cons_zero, List.set_cons_succ]
    refine Rg.take (i := 4) (t := 9) rfl rfl (by kernel_rfl) (by kernel_rfl) (by kernel_rfl) (fun _ _ _ h => h) (by rfl) (by intro w0 hSw; obtain ⟨s0, s1, s2, s3, s4⟩ := HSC.out _ hSw; first | (go_simp; done) | (go_simp; with_reducible rfl)) (by assumption) ?_
    simp only [List.setIfInBounds_toArray, List.set_cons_zero, List.set_cons_succ]
    refine Rg.take (i := 5) (t := 10) rfl rfl (by kernel_rfl) (by kernel_rfl) (by kernel_rfl) (fun _ _ _ h => h) (by rfl) (by intro w0 hSw; obtain ⟨s0, s1, s2, s3, s4⟩ := HSC.out _ hSw; first | (go_simp; done) | (go_simp; with_reducible rfl)) (by assumption) ?_
    simp only [List.setIfInBounds_toArray, List.set_cons_zero, List.set_cons_succ]
    refine Rg.take (i := 6) (t := 11) rfl rfl (by kernel_rfl) (by kernel_rfl) (by kernel_rfl) (fun _ _ _ h => h) (by rfl) (by intro w0 hSw; obtain ⟨s0, s1, s2, s3, s4⟩ := HSC.out _ hSw; first | (go_simp; done) | (go_simp; with_reducible rfl)) (by assumption) ?_
    simp only [List.setIfInBounds_toArray, List.set_cons_zero, List.set_cons_succ]
    refine Rg.take (i := 7) (t := 12) rfl rfl (by kernel_rfl) (by kernel_rfl) (by kernel_rfl) (fun _ _ _ h => h) (by rfl) (by intro w0 hSw; obtain ⟨s0, s1, s2, s3, s4⟩ := HSC.out _ hSw; first | (go_simp; done) | (go_simp; with_reducible rfl)) (by assumption) ?_
    simp only [List.setIfInBounds_toArray, List.set_cons_zero, List.set_cons_succ]
    refine Rg.take (i := 8) (t := 13) rfl rfl (by kernel_rfl) (by kernel_rfl) (by kernel_rfl) (fun _ _ _ h => h) (by rfl) (by intro w0 hSw; obtain ⟨s0, s1, s2, s3, s4⟩ := HSC.out _ hSw; first | (go_simp; done) | (go_simp; with_reducible rfl)) (by assumption) ?_
    simp only [List.setIfInBounds_toArray, List.set_cons_zero, List.set_cons_succ]
    refine Rg.take (i := 9) (t := 14) rfl rfl (by kernel_rfl) (by kernel_rfl) (by kernel_rfl) (fun _ _ _ h => h) (by rfl) (by intro w0 hSw; obtain ⟨s0, s1, s2, s3, s4⟩ := HSC.out _ hSw; first | (go_simp; done) | (go_simp; with_reducible rfl)) (by assumption) ?_
    simp only [List.setIfInBounds_toArray, List.set_cons_zero, List.set_cons_succ]
    refine Rg.take (i := 10) (t := 15) rfl rfl (by kernel_rfl) (by kernel_rfl) (by kernel_rfl) (fun _ _ _ h => h) (by rfl) (by intro w0 hSw; obtain ⟨s0, s1, s2, s3, s4⟩ := HSC.out _ hSw; first | (go_simp; done) | (go_simp; with_reducible rfl)) (by assumption) ?_
    simp only [List.setIfInBounds_toArray, List.set_cons_zero, List.set_cons_succ]
    refine Rg.take (i := 11) (t := 16) rfl rfl (by kernel_rfl) (by kernel_rfl) (by kernel_rfl) (fun _ _ _ h => h) (by rfl) (by intro w0 hSw; obtain ⟨s0, s1, s2, s3, s4⟩ := HSC.out _ hSw; first | (go_simp; done) | (go_simp; with_reducible rfl)) (by assumption) ?_
    simp only [List.setIfInBounds_toArray, List.set_cons_zero, List.set_cons_succ]
    refine Rg.take (i := 12) (t := 4) rfl rfl (by kernel_rfl) (by kernel_rfl) (by kernel_rfl) (fun _ _ _ h => h) (by rfl) (by intro w0 hSw; obtain ⟨s0, s1, s2, s3, s4⟩ := HSC.out _ hSw; first | (go_simp; done) | (go_simp; with_reducible rfl)) (by assumption) ?_
    simp only [List.setIfInBounds_toArray, List.set_cons_zero, List.set_cons_succ]
    refine wpAnyH_done (by kernel_rfl) ?_ _
    go_wp2_with fail
    go_ret
    exact ⟨by rw [HS.out] <;> rfl, HB2.out⟩
  | false =>
    have HJ := Lib.hid hj
    have HS := Lib.hid (show asks (ar l i) (xo, xa) = false by unfold asks; rw [hj]; rfl)
    go_enter Try.func33, Try.ntmps33
    go_upto_region 1 with fail
    refine wp_region_held_drew (S := S) (by kernel_rfl) hS0 (fun hHeld => ?_)
    refine Rg.take (i := 0) (t := 5) rfl rfl (by kernel_rfl) (by kernel_rfl) (by kernel_rfl) (fun _ _ _ h => h) (by rfl) (by intro w0 hSw; obtain ⟨s0, s1, s2, s3, s4⟩ := HSC.out _ hSw; first | (go_simp; done) | (go_simp; with_reducible rfl)) (by assumption) ?_
    simp only [List.setIfInBounds_toArray, List.set_cons_zero, List.set_cons_succ]
    refine Rg.one (i := 1) (by kernel_rfl) ?_
    refine Rg.call (i := 1) (t := 6) rfl rfl (by rfl) (by go_simp; exact ⟨rfl, rfl⟩) ?_
    refine (jumps_i (xo, xa) w1.drew).mono ?_
    rintro e w2 ⟨rfl, hb2⟩
    have HS2 := HSB.out w2 ((Below.drew (Below.refl w1.heap.size w1)).trans hb2)
    have HB2 := Lib.hid (HB.out.trans (((Below.drew (Below.refl w1.heap.size w1)).trans hb2).mono HB.out.size))
    clear hb2
    rw [HJ.out]
    refine ⟨_, rfl, S, fun _ h => h, HS2, ?_⟩
    simp only [List.setIfInBounds_toArray, List.set_cons_zero, List.set_cons_succ]
    refine Rg.take (i := 2) (t := 7) (v := .bool false) rfl rfl (by kernel_rfl) (by kernel_rfl) (by kernel_rfl) (fun _ _ _ h => h) (by rfl) (by intro w0 hSw; obtain ⟨s0, s1, s2, s3, s4⟩ := HSC.out _ hSw; first | (go_simp; done) | (go_simp; with_reducible rfl)) (by assumption) ?_
    simp only [List.setIfInBounds_toArray, List.set_cons_zero, List.set_cons_succ]
    refine Rg.pass (i := 3) (t := 8) rfl rfl (by kernel_rfl) (by kernel_rfl) (by kernel_rfl) (fun _ _ _ h => h) (by rfl) (by assumption) ?_
    simp only [List.setIfInBounds_toArray, List.set_cons_zero, List.set_cons_succ]
    refine Rg.pass (i := 4) (t := 9) rfl rfl (by kernel_rfl) (by kernel_rfl) (by kernel_rfl) (fun _ _ _ h => h) (by rfl) (by assumption) ?_
    simp only [List.setIfInBounds_toArray, List.set_cons_zero, List.set_cons_succ]
    refine Rg.pass (i := 5) (t := 10) rfl rfl (by kernel_rfl) (by kernel_rfl) (by kernel_rfl) (fun _ _ _ h => h) (by rfl) (by assumption) ?_
    simp only [List.setIfInBounds_toArray, List.set_cons_zero, List.set_cons_succ]
    refine Rg.pass (i := 6) (t := 11) rfl rfl (by kernel_rfl) (by kernel_rfl) (by kernel_rfl) (fun _ _ _ h => h) (by rfl) (by assumption) ?_
    simp only [List.setIfInBounds_toArray, List.set_cons_zero, List.set_cons_succ]
    refine Rg.pass (i := 7) (t := 12) rfl rfl (by kernel_rfl) (by kernel_rfl) (by kernel_rfl) (fun _ _ _ h => h) (by rfl) (by assumption) ?_
    simp only [List.setIfInBounds_toArray, List.set_cons_zero, List.set_cons_succ]
    refine Rg.pass (i := 8) (t := 13) rfl rfl (by kernel_rfl) (by kernel_rfl) (by kernel_rfl) (fun _ _ _ h => h) (by rfl) (by assumption) ?_
    simp only [List.setIfInBounds_toArray, List.set_cons_zero, List.set_cons_succ]
    refine Rg.pass (i := 9) (t := 14) rfl rfl (by kernel_rfl) (by kernel_rfl) (by kernel_rfl) (fun _ _ _ h => h) (by rfl) (by assumption) ?_
    simp only [List.setIfInBounds_toArray, List.set_cons_zero, List.set_cons_succ]
    refine Rg.pass (i := 10) (t := 15) rfl rfl (by kernel_rfl) (by kernel_rfl) (by kernel_rfl) (fun _ _ _ h => h) (by rfl) (by assumption) ?_
    simp only [List.setIfInBounds_toArray, List.set_cons_zero, List.set_cons_succ]
    refine Rg.take (i := 11) (t := 16) rfl rfl (by kernel_rfl) (by kernel_rfl) (by kernel_rfl) (fun _ _ _ h => h) (by rfl) (by intro w0 hSw; obtain ⟨s0, s1, s2, s3, s4⟩ := HSC.out _ hSw; first | (go_simp; done) | (go_simp; with_reducible rfl)) (by assumption) ?_
    simp only [List.setIfInBounds_toArray, List.set_cons_zero, List.set_cons_succ]
    refine Rg.take (i := 12) (t := 4) rfl rfl (by kernel_rfl) (by kernel_rfl) (by kernel_rfl) (fun _ _ _ h => h) (by rfl) (by intro w0 hSw; obtain ⟨s0, s1, s2, s3, s4⟩ := HSC.out _ hSw; first | (go_simp; done) | (go_simp; with_reducible rfl)) (by assumption) ?_
    simp only [List.setIfInBounds_toArray, List.set_cons_zero, List.set_cons_succ]
    refine wpAnyH_done (by kernel_rfl) ?_ _
    go_wp2_with fail
    go_ret
    exact ⟨by rw [HS.out] <;> rfl, HB2.out⟩
/-- slices.IndexFunc at a function value that takes two boxes along. -/
def AtF (l : List Ins) (p : Ins → Bool) (w : World) (e : Ending) (w' : World) : Prop := ∃ k : Int, e = .returned (.int .i64 k) ∧ ((k = -1 ∧ l.findIdx? p = none) ∨ ∃ j : Nat, k = (j : Int) ∧ j < l.length ∧ l.findIdx? p = some j) ∧ Below w.heap.size w w'
set_option maxRecDepth 100000 in
theorem indexFunc_i {A : Option Addr} {n c : Nat} (gf : Nat) (lb : Array Value) (q1 q2 : Value) (hlb : lb = #[q1, q2]) (l : List Ins) (p : Ins → Bool) (w : World) (hr : RdI w A n l) (hn : n ≤ 1048576)
    (eg : ∀ args w, (callFunc gf args).run Try.prog w = .ok (.enter gf args) w)
    (hp : ∀ (x : Ins) (U : World), Below w.heap.size w U → Calls Try.prog gf #[InsV x, q1, q2] U fun e U' => e = .returned (.bool (p x)) ∧ Below U.heap.size U U') :
    Calls Try.prog 47 #[.slice A n c, .func (.func gf) #[] lb] w (AtF l p w) := by
  subst hlb
  have HR := Lib.hid hr
  have HL := Lib.hid (show l.length = n from hr.1.symm)
  have HP := Lib.hid hp
  clear hr hp
  go_enter Try.func47, Try.ntmps47
  go_wp2_with fail
  go_loopw [8] (fun iv wr => ∃ j : Nat, j ≤ n ∧ iv = .int .i64 (j : Int) ∧ Hid (∀ x ∈ l.take j, p x = false) ∧ Below w.heap.size w wr) (fun iv _ => n - (intOf iv).toNat)
  case atStart => exact ⟨0, Nat.zero_le _, rfl, Lib.hid (by simp), Below.refl _ _⟩
  case round =>
    obtain ⟨j, hj, rfl, HT, hbw⟩ := hrel
    have HBW := Lib.hid hbw
    by_cases hlt : j < n
    · obtain ⟨b, o, rfl, hb, hl, hc⟩ := (HR.out.below hbw).at_ InsE_len hlt
      have k0 : (0 : Int) ≤ (j : Int) := by omega
      have k1 : (j : Int) < (n : Int) := by omega
      obtain ⟨x, hx⟩ : ∃ x, l[j] = x := ⟨_, rfl⟩
      have c0 : wr.cell? ⟨b, o + j * 2, none⟩ = some (.int .i64 x.1) := by rw [← hx]; exact hc 0 _ rfl
      have c1 : wr.cell? ⟨b, o + j * 2 + 1, none⟩ = some (.int .i64 x.2) := by rw [← hx]; exact hc 1 _ rfl
      have HF := Lib.hid (show p x = true → l.findIdx? p = some j from fun h => by
        rw [List.findIdx?_eq_some_iff_getElem]
        refine ⟨hl, by rw [hx]; exact h, fun k hk => ?_⟩
        have hk2 : k < (l.take j).length := by rw [List.length_take]; omega
        have h1 := HT.out _ (List.getElem_mem hk2)
        rw [List.getElem_take] at h1
        rw [h1]; simp)
      have HT0 := Lib.hid (show p x = false → ∀ y ∈ l.take (j + 1), p y = false from fun h y hy => by
        rw [List.take_succ_eq_append_getElem hl, List.mem_append, List.mem_singleton, hx] at hy
        rcases hy with hy | rfl
        · exact HT.out y hy
        · exact h)
      have HJ := Lib.hid (show j < l.length from hl)
      have HC := Lib.hid (HP.out x wr hbw)
      clear hx hc hl hb hbw
      cases hq : p x with
      | true =>
        have HQ := Lib.hid hq
        have HF2 := Lib.hid (HF.out hq)
        clear hq HF HT0
        go_wp2_with ((refine (HC.out).mono ?_; rintro e w1 ⟨rfl, hb1⟩; have HB1 := Lib.hid hb1; clear hb1; rw [HQ.out]))
        go_ret
        exact ⟨_, rfl, .inr ⟨j, rfl, HJ.out, HF2.out⟩, HBW.out.trans (HB1.out.mono HBW.out.size)⟩
      | false =>
        have HQ := Lib.hid hq
        have HT2 := Lib.hid (HT0.out hq)
        clear hq HF HT0
        go_wp2_with ((refine (HC.out).mono ?_; rintro e w1 ⟨rfl, hb1⟩; have HB1 := Lib.hid hb1; clear hb1; rw [HQ.out]))
        go_roundw
        case rel => exact ⟨j + 1, by omega, by go_num, HT2, HBW.out.trans (HB1.out.mono HBW.out.size)⟩
        case measure => simp [intOf]; omega
    · have HF := Lib.hid (show l.findIdx? p = none by
        rw [List.findIdx?_eq_none_iff]
        intro x hx
        have h := HT.out
        rw [List.take_of_length_le (by rw [HL.out]; omega)] at h
        exact h x hx)
      clear hbw
      go_wp2_with fail
      go_ret
      exact ⟨_, rfl, .inl ⟨rfl, HF.out⟩, HBW.out⟩
set_option maxRecDepth 100000 in
theorem containsFunc_i {A : Option Addr} {n c : Nat} (gf : Nat) (q1 q2 : Value) (l : List Ins) (p : Ins → Bool) (w : World) (hr : RdI w A n l) (hn : n ≤ 1048576)
    (eg : ∀ args w, (callFunc gf args).run Try.prog w = .ok (.enter gf args) w)
    (hp : ∀ (x : Ins) (U : World), Below w.heap.size w U → Calls Try.prog gf #[InsV x, q1, q2] U fun e U' => e = .returned (.bool (p x)) ∧ Below U.heap.size U U') :
    Calls Try.prog 29 #[.slice A n c, .func (.func gf) #[] #[q1, q2]] w fun e w' => e = .returned (.bool (l.any p)) ∧ Below w.heap.size w w' := by
  have HC := Lib.hid (indexFunc_i (A := A) (c := c) gf #[q1, q2] q1 q2 rfl l p w hr hn eg hp)
  clear hr hp
  go_enter Try.func29, Try.ntmps29
  go_wp2_with (go_at_call 47; refine HC.out.mono ?_; rintro e w1 ⟨k, rfl, hk, hb1⟩; have HK := Lib.hid hk; have HB1 := Lib.hid hb1; clear hk hb1)
  go_ret
  refine ⟨?_, HB1.out⟩
  rcases HK.out with ⟨rfl, h⟩ | ⟨j, rfl, h1, h⟩
  · rw [show l.any p = false by rw [List.any_eq_false]; intro x hx; rw [List.findIdx?_eq_none_iff.1 h x hx]; simp]; rfl
  · rw [show l.any p = true by obtain ⟨h2, h3, _⟩ := List.findIdx?_eq_some_iff_getElem.1 h; exact List.any_eq_true.2 ⟨_, List.getElem_mem h2, h3⟩, show decide ((0 : Int) ≤ (j : Int)) = true from decide_eq_true (by omega)] <;> rfl
end Go.Proofs.Ytmilnfboglhdgaa.PeepC
