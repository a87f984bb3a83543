/- The walk of clewlaw25.ValueTruths, and the plain law. Conditions: none. -/
import Derived.Test.YtncdicagadbafaaValT
import Derived.Deep.RegionHeld3
namespace Go.Proofs.Ytncdicagadbafaa.ValU
open Go Go.RowKit NestP NestW NestX NestY ValP ValW ValX ValR MixP Sq

def gv (x y k : Int) : Int := opV 0 false k x y
def lv (x y : Int) (j k : Nat) : Value := .int .i64 (if k < j then gv x y (3 + (k : Int)) else 0)
def LS (x y : Int) (j : Nat) : Array Value := #[lv x y j 0, lv x y j 1, lv x y j 2, lv x y j 3, lv x y j 4, lv x y j 5]
theorem ls_set (x y : Int) {j : Nat} (hj : j < 6) : (LS x y j).setIfInBounds j (.int .i64 (gv x y (3 + (j : Int)))) = LS x y (j + 1) := by
  obtain rfl | rfl | rfl | rfl | rfl | rfl : j = 0 ∨ j = 1 ∨ j = 2 ∨ j = 3 ∨ j = 4 ∨ j = 5 := by omega
  all_goals simp [LS, lv]
theorem cell_of {w : World} {g : Nat} {cs : Array Value} {t : TypeId} (h : w.heap[g]? = some (.cells cs t (0, 0))) {j : Nat} (hj : j < cs.size) : (∃ v, w.cell? ⟨g, j, none⟩ = some v) ∧ w.frozen? ⟨g, j, none⟩ = false := by
  refine ⟨⟨cs[j], ?_⟩, ?_⟩
  · simp [World.cell?, h, hj]
  · simp [World.frozen?, h]
theorem gv01 (x y : Int) {j : Nat} (hj : j < 6) : gv x y (3 + (j : Int)) = 0 ∨ gv x y (3 + (j : Int)) = 1 := by
  have h : ∀ b, tr b = 0 ∨ tr b = 1 := by intro b; cases b <;> simp [tr]
  obtain rfl | rfl | rfl | rfl | rfl | rfl : j = 0 ∨ j = 1 ∨ j = 2 ∨ j = 3 ∨ j = 4 ∨ j = 5 := by omega
  all_goals (simp only [gv, opV]; exact h _)
theorem ge0 (y : Int) {j : Nat} (hj : j < 6) : opE false (3 + (j : Int)) y = 0 := by
  obtain rfl | rfl | rfl | rfl | rfl | rfl : j = 0 ∨ j = 1 ∨ j = 2 ∨ j = 3 ∨ j = 4 ∨ j = 5 := by omega
  all_goals simp [opE]
def In (v : Int) : Prop := -32768 ≤ v ∧ v ≤ 32767
theorem ite_in {c : Prop} [Decidable c] {a b : Int} (ha : In a) (hb : In b) : In (if c then a else b) := by
  by_cases h : c
  · rw [if_pos h]; exact ha
  · rw [if_neg h]; exact hb
theorem tr_in (b : Bool) : In (tr b) := by cases b <;> simp [tr, In]
theorem wr_in2 (a : Int) : In (wr a) := ⟨wr_lo a, wr_hi a⟩
theorem opV_in (k x y : Int) : In (opV 0 false k x y) := by
  unfold opV
  repeat' apply ite_in
  all_goals first | exact wr_in2 _ | (unfold In; omega)
theorem gv_in (k x y : Int) : In (gv x y k) := opV_in k x y
theorem wr_opV (k x y : Int) : wr (opV 0 false k x y) = opV 0 false k x y := wr_in (opV_in k x y).1 (opV_in k x y).2
theorem ls6 (x y : Int) : LS x y 6 = #[.int .i64 (gv x y 3), .int .i64 (gv x y 4), .int .i64 (gv x y 5), .int .i64 (gv x y 6), .int .i64 (gv x y 7), .int .i64 (gv x y 8)] := by simp [LS, lv]
theorem cells6 {w : World} {g : Nat} {t : TypeId} {z0 z1 z2 z3 z4 z5 : Value} (h : w.heap[g]? = some (.cells #[z0, z1, z2, z3, z4, z5] t (0, 0))) :
    w.cell? ⟨g, 0, none⟩ = some z0 ∧ w.cell? ⟨g, 1, none⟩ = some z1 ∧ w.cell? ⟨g, 2, none⟩ = some z2 ∧ w.cell? ⟨g, 3, none⟩ = some z3 ∧ w.cell? ⟨g, 4, none⟩ = some z4 ∧ w.cell? ⟨g, 5, none⟩ = some z5 := by
  refine ⟨?_, ?_, ?_, ?_, ?_, ?_⟩
  all_goals simp [World.cell?, h]
theorem sum1 (x y : Int) : gv x y 3 + gv x y 4 = 1 := by
  simp only [gv, opV]
  by_cases h : x = y <;> simp [tr, h]
theorem sum2 (x y : Int) : gv x y 5 + gv x y 8 = 1 := by
  simp only [gv, opV]
  by_cases h : x < y <;> simp [tr, h] <;> omega
theorem sum3 (x y : Int) : gv x y 6 + gv x y 7 = 1 := by
  simp only [gv, opV]
  by_cases h : x ≤ y <;> simp [tr, h] <;> omega
theorem lt_gt (x y : Int) : gv x y 7 = gv y x 5 := by simp [gv, opV]
theorem nt (a : Int) : tr (wr a == 0) + (if wr a = 0 then 0 else 1) = 1 := by
  by_cases h : wr a = 0 <;> simp [tr, h]

set_option maxRecDepth 100000 in
set_option maxHeartbeats 2000000 in
theorem walk {w : World} (a : Int) (_ : (Lit.int .i64 a).wf = true) (b : Int) (_ : (Lit.int .i64 b).wf = true) :
    Calls Try.prog 13 #[.int .i64 a, .int .i64 b] w fun e w' => e = .returned (.bool true) ∧ Below w.heap.size w w' := by
  go_enter Try.func13, Try.ntmps13
  go_wp2_with fail
  go_loopw [7] (fun i wr' => ∃ j : Nat, j ≤ 6 ∧ i = .int .i64 (j : Int) ∧ Below w.heap.size w wr' ∧ w.heap.size + 2 ≤ wr'.heap.size ∧ wr'.heap[w.heap.size]? = some (.cells #[.slice none 0 0, .slice none 0 0, .slice none 0 0, .slice none 0 0, .slice none 0 0, .slice none 0 0, .slice none 0 0, .int .u64 0, .int .i64 0, .int .i64 0, .int .i64 0, .int .i64 0, .int .i64 0] 31 (0, 0)) ∧ wr'.heap[w.heap.size + 1]? = some (.cells (LS (ValP.wr a) (ValP.wr b) j) 65 (0, 0))) (fun i _ => 6 - (intOf i).toNat)
  case atStart =>
    refine ⟨0, by omega, rfl, by go_grown, by simp, ?_, ?_⟩
    · exact heap_alloc2_old _ _ _
    · exact (heap_alloc2_new _ _ _).trans (by simp [LS, lv])
  case round =>
    obtain ⟨j, hj, rfl, hb, hsz, h0, h1⟩ := hrel
    have HB := Lib.hid hb
    have H0 := Lib.hid h0
    have H1 := Lib.hid h1
    have HSZ := Lib.hid hsz
    clear hb hsz h0 h1
    by_cases hlt : j < 6
    · obtain ⟨x0, x1, x2, x3, x4, x5, x6, x7, x8, x9, x10, x11, x12, xf⟩ := cells13 H0.out
      have HV := Lib.hid (gv01 (ValP.wr a) (ValP.wr b) hlt)
      have HE := Lib.hid (ge0 (ValP.wr b) hlt)
      have HLS := Lib.hid (ls_set (ValP.wr a) (ValP.wr b) hlt)
      obtain ⟨v, hv⟩ : ∃ v, gv (ValP.wr a) (ValP.wr b) (3 + (j : Int)) = v := ⟨_, rfl⟩
      have HVV := Lib.hid (show opV 0 false (3 + (j : Int)) (ValP.wr a) (ValP.wr b) = v from hv)
      rw [hv] at HV HLS
      clear hv
      have j0 : (0 : Int) ≤ (j : Int) := by omega
      have j1 : (j : Int) < 6 := by omega
      go_wp2_with (go_at_call 57; refine (ValT.bin_z (3 + (j : Int)) a b v 0 HVV.out HE.out _).mono ?_; rintro e w1 ⟨rfl, hb1⟩; have HB9 := HB.out.trans (Below.mono hb1 (by (try simp only [World.size_drew]); have := HSZ.out; omega)); have h0' := (hb1.block w.heap.size (by (try simp only [World.size_drew]); have := HSZ.out; omega)).trans H0.out; have h1' := (hb1.block (w.heap.size + 1) (by (try simp only [World.size_drew]); have := HSZ.out; omega)).trans H1.out; have hs' := Nat.le_trans HSZ.out (by have := hb1.size; (try simp only [World.size_drew] at this); exact this); clear HB H0 H1 HSZ; have HB := Lib.hid HB9; have H0 := Lib.hid h0'; have H1 := Lib.hid h1'; have HSZ := Lib.hid hs'; clear HB9 h0' h1' hs'; obtain ⟨⟨vc, hcell⟩, hfz⟩ := cell_of H1.out (show j < (LS (ValP.wr a) (ValP.wr b) j).size from hlt); clear hb1 x0 x1 x2 x3 x4 x5 x6 x7 x8 x9 x10 x11 x12 xf; rcases HV.out with hv0 | hv0 <;> subst hv0)
      all_goals
        go_roundw
        case rel =>
          refine ⟨j + 1, by omega, by go_num, HB.out.setCell (by simp) _, by simpa using HSZ.out, ?_, ?_⟩
          · exact (Below.heap_setCell _ _ _ _ (by simp)).trans H0.out
          · rw [heapSet H1.out j _, HLS.out]
        case measure => simp [intOf]; omega
    · obtain rfl : j = 6 := by omega
      obtain ⟨x0, x1, x2, x3, x4, x5, x6, x7, x8, x9, x10, x11, x12, xf⟩ := cells13 H0.out
      go_wp2_with (go_at_call 57; refine (ValT.bin_z 5 b a (gv (ValP.wr b) (ValP.wr a) 5) 0 rfl rfl _).mono ?_; rintro e w1 ⟨rfl, hb1⟩; have HB9 := HB.out.trans (Below.mono hb1 (by (try simp only [World.size_drew]); have := HSZ.out; omega)); have h0' := (hb1.block w.heap.size (by (try simp only [World.size_drew]); have := HSZ.out; omega)).trans H0.out; have h1' := (hb1.block (w.heap.size + 1) (by (try simp only [World.size_drew]); have := HSZ.out; omega)).trans H1.out; have hs' := Nat.le_trans HSZ.out (by have := hb1.size; (try simp only [World.size_drew] at this); exact this); clear HB H0 H1 HSZ; have HB := Lib.hid HB9; have H0 := Lib.hid h0'; have H1 := Lib.hid h1'; have HSZ := Lib.hid hs'; clear HB9 h0' h1' hs'; clear hb1 x0 x1 x2 x3 x4 x5 x6 x7 x8 x9 x10 x11 x12 xf)
      go_loopw [12] (fun i wr' => ∃ j : Nat, 1 ≤ j ∧ j ≤ 15 ∧ i = .int .i64 (j : Int) ∧ Below w.heap.size w wr' ∧ w.heap.size + 2 ≤ wr'.heap.size ∧ wr'.heap[w.heap.size]? = some (.cells #[.slice none 0 0, .slice none 0 0, .slice none 0 0, .slice none 0 0, .slice none 0 0, .slice none 0 0, .slice none 0 0, .int .u64 0, .int .i64 0, .int .i64 0, .int .i64 0, .int .i64 0, .int .i64 0] 31 (0, 0)) ∧ wr'.heap[w.heap.size + 1]? = some (.cells (LS (ValP.wr a) (ValP.wr b) 6) 65 (0, 0))) (fun i _ => 15 - (intOf i).toNat)
      case atStart => exact ⟨1, by omega, by omega, rfl, HB.out, HSZ.out, H0.out, H1.out⟩
      case round =>
        obtain ⟨k, hk1, hk, rfl, hb, hsz, h0, h1⟩ := hrel
        clear HB H0 H1 HSZ
        have HB := Lib.hid hb
        have H0 := Lib.hid h0
        have H1 := Lib.hid h1
        have HSZ := Lib.hid hsz
        clear hb hsz h0 h1
        by_cases hlt : k < 15
        · have k0 : (1 : Int) ≤ (k : Int) := by omega
          have k1 : (k : Int) < 15 := by omega
          by_cases h9 : k = 9
          · subst h9
            go_wp2_with fail
            go_roundw
            case rel => exact ⟨10, by omega, by omega, by go_num, HB.out, HSZ.out, H0.out, H1.out⟩
            case measure => simp [intOf]
          · have hk9 : ¬ (k : Int) = 9 := by omega
            obtain ⟨x0, x1, x2, x3, x4, x5, x6, x7, x8, x9, x10, x11, x12, xf⟩ := cells13 H0.out
            obtain ⟨v, hv⟩ : ∃ v, opV 0 false (k : Int) (ValP.wr a) (ValP.wr b) = v := ⟨_, rfl⟩
            obtain ⟨er, her⟩ : ∃ er, opE false (k : Int) (ValP.wr b) = er := ⟨_, rfl⟩
            have HWV := Lib.hid (show ValP.wr v = v from hv ▸ wr_opV _ _ _)
            have HV := Lib.hid hv
            have HE := Lib.hid her
            have HV2 := Lib.hid (show opV 0 false (k : Int) (ValP.wr (ValP.wr a)) (ValP.wr (ValP.wr b)) = v by rw [wr_wr, wr_wr]; exact hv)
            have HE2 := Lib.hid (show opE false (k : Int) (ValP.wr (ValP.wr b)) = er by rw [wr_wr]; exact her)
            clear hv her
            go_wp2_with (go_at_call 57; refine (ValT.bin_z (k : Int) a b v er HV.out HE.out _).mono ?_; rintro e w1 ⟨rfl, hb1⟩; have HB9 := HB.out.trans (Below.mono hb1 (by (try simp only [World.size_drew]); have := HSZ.out; omega)); have h0' := (hb1.block w.heap.size (by (try simp only [World.size_drew]); have := HSZ.out; omega)).trans H0.out; have h1' := (hb1.block (w.heap.size + 1) (by (try simp only [World.size_drew]); have := HSZ.out; omega)).trans H1.out; have hs' := Nat.le_trans HSZ.out (by have := hb1.size; (try simp only [World.size_drew] at this); exact this); clear HB H0 H1 HSZ; have HB := Lib.hid HB9; have H0 := Lib.hid h0'; have H1 := Lib.hid h1'; have HSZ := Lib.hid hs'; clear HB9 h0' h1' hs'; clear hb1 x0 x1 x2 x3 x4 x5 x6 x7 x8 x9 x10 x11 x12 xf)
            obtain ⟨x0, x1, x2, x3, x4, x5, x6, x7, x8, x9, x10, x11, x12, xf⟩ := cells13 H0.out
            rename_i wq _
            go_region_held3 (fun w' => w'.cell? ⟨w.heap.size, 0, none⟩ = some (.slice none 0 0) ∧ w'.cell? ⟨w.heap.size, 1, none⟩ = some (.slice none 0 0) ∧ w'.cell? ⟨w.heap.size, 2, none⟩ = some (.slice none 0 0) ∧ w'.cell? ⟨w.heap.size, 3, none⟩ = some (.slice none 0 0) ∧ w'.cell? ⟨w.heap.size, 4, none⟩ = some (.slice none 0 0) ∧ w'.cell? ⟨w.heap.size, 5, none⟩ = some (.slice none 0 0) ∧ w'.cell? ⟨w.heap.size, 6, none⟩ = some (.slice none 0 0) ∧ w'.cell? ⟨w.heap.size, 7, none⟩ = some (.int .u64 0) ∧ w'.cell? ⟨w.heap.size, 8, none⟩ = some (.int .i64 0) ∧ w'.cell? ⟨w.heap.size, 9, none⟩ = some (.int .i64 0) ∧ w'.cell? ⟨w.heap.size, 10, none⟩ = some (.int .i64 0) ∧ w'.cell? ⟨w.heap.size, 11, none⟩ = some (.int .i64 0) ∧ w'.cell? ⟨w.heap.size, 12, none⟩ = some (.int .i64 0)) (go_keep) (first
              | (go_at_call 63; refine (wrap_r _ _).mono ?_; rintro e w5 ⟨rfl, rfl⟩)
              | (go_at_call 57; refine (ValT.bin_z (k : Int) _ _ v er HV2.out HE2.out _).mono ?_; rintro e w6 ⟨rfl, hb6⟩; have hk6 := fun bb o (h : bb < w.heap.size + 2) => bcell hb6 bb o (by (try simp only [World.size_drew]); have := HSZ.out; omega)))
            go_wp2_with (go_at_call 63; refine (wrap_r _ _).mono ?_; rintro e w7 ⟨rfl, rfl⟩; rw [HWV.out])
            have q1 := HB.out.drew.trans (hb6.mono (by (try simp only [World.size_drew]); have := HSZ.out; omega))
            have q2 := Nat.le_trans HSZ.out hb6.size
            have q3 := (hb6.block w.heap.size (by (try simp only [World.size_drew]); have := HSZ.out; omega)).trans H0.out
            have q4 := (hb6.block (w.heap.size + 1) (by (try simp only [World.size_drew]); have := HSZ.out; omega)).trans H1.out
            exact ⟨⟨k + 1, by omega, by omega, by go_num, q1, q2, q3, q4⟩, by simp [intOf]; omega⟩
        · obtain rfl : k = 15 := by omega
          have h1 := H1.out
          rw [ls6] at h1
          obtain ⟨g0, g1, g2, g3, g4, g5⟩ := cells6 h1
          have t1 := sum1 (ValP.wr a) (ValP.wr b)
          have t2 := sum2 (ValP.wr a) (ValP.wr b)
          have t3 := sum3 (ValP.wr a) (ValP.wr b)
          have t5 := nt a
          have b1 := gv_in 3 (ValP.wr a) (ValP.wr b)
          have b2 := gv_in 4 (ValP.wr a) (ValP.wr b)
          have b3 := gv_in 5 (ValP.wr a) (ValP.wr b)
          have b4 := gv_in 8 (ValP.wr a) (ValP.wr b)
          have b5 := gv_in 6 (ValP.wr a) (ValP.wr b)
          have b6 := gv_in 5 (ValP.wr b) (ValP.wr a)
          have b7 : In (tr (ValP.wr a == 0)) := tr_in _
          have b8 : In (if ValP.wr a = 0 then 0 else 1) := ite_in (by unfold In; omega) (by unfold In; omega)
          rw [lt_gt] at t3 g4
          obtain ⟨e0, he0⟩ : ∃ e, gv (ValP.wr a) (ValP.wr b) 3 = e := ⟨_, rfl⟩
          obtain ⟨e1, he1⟩ : ∃ e, gv (ValP.wr a) (ValP.wr b) 4 = e := ⟨_, rfl⟩
          obtain ⟨e2, he2⟩ : ∃ e, gv (ValP.wr a) (ValP.wr b) 5 = e := ⟨_, rfl⟩
          obtain ⟨e3, he3⟩ : ∃ e, gv (ValP.wr a) (ValP.wr b) 6 = e := ⟨_, rfl⟩
          obtain ⟨e4, he4⟩ : ∃ e, gv (ValP.wr b) (ValP.wr a) 5 = e := ⟨_, rfl⟩
          obtain ⟨e5, he5⟩ : ∃ e, gv (ValP.wr a) (ValP.wr b) 8 = e := ⟨_, rfl⟩
          obtain ⟨n0, hn0⟩ : ∃ e, tr (ValP.wr a == 0) = e := ⟨_, rfl⟩
          obtain ⟨n1, hn1⟩ : ∃ e : Int, (if ValP.wr a = 0 then 0 else 1) = e := ⟨_, rfl⟩
          have HN0 := Lib.hid hn0
          have HN1 := Lib.hid hn1
          rw [he0, he1] at t1
          rw [he2, he5] at t2
          rw [he3, he4] at t3
          rw [hn0, hn1] at t5
          rw [he0] at g0 b1
          rw [he1] at g1 b2
          rw [he2] at g2 b3
          rw [he3] at g3 b5
          rw [he4] at g4 b6 ⊢
          rw [he5] at g5 b4
          rw [hn0] at b7
          rw [hn1] at b8
          unfold In at b1 b2 b3 b4 b5 b6 b7 b8
          obtain ⟨b1l, b1h⟩ := b1
          obtain ⟨b2l, b2h⟩ := b2
          obtain ⟨b3l, b3h⟩ := b3
          obtain ⟨b4l, b4h⟩ := b4
          obtain ⟨b5l, b5h⟩ := b5
          obtain ⟨b6l, b6h⟩ := b6
          obtain ⟨b7l, b7h⟩ := b7
          obtain ⟨b8l, b8h⟩ := b8
          clear he0 he1 he2 he3 he4 he5 hn0 hn1 h1
          go_wp2_with (first
            | (go_at_call 59; refine (not_i _ _).mono ?_; rintro e w7 ⟨rfl, rfl⟩; rw [HN0.out])
            | (go_at_call 64; refine (ValT.truth _ _).mono ?_; rintro e w7 ⟨rfl, rfl⟩; rw [HN1.out])
            | (go_at_call 56; refine (ValT.awake _).mono ?_; rintro e w8 ⟨rfl, hb8⟩; have hz := MixV.join HB.out hb8))
          go_ret
          exact ⟨rfl, hz⟩
end Go.Proofs.Ytncdicagadbafaa.ValU
