/- The walks that lay bytes together. -/
import Derived.Test.YtjfllfikeopgnaaSumX
import Derived.Lib.AppendZeros
import Derived.Test.YtjfllfikeopgnaaSliceP
namespace Go.Proofs.Ytjfllfikeopgnaa.SumY
open Go Go.RowKit SumP Sq SumW SumX

abbrev EB : TypeId := 5

/-- slices.Grow of nil. -/
theorem grow_nil (n : Nat) (hn : n ≤ 1099511627776) (w : World) :
    Calls Try.prog 26 #[.slice none 0 0, .int .i64 (n : Int)] w fun e w' => ∃ v, e = .returned v ∧ Own encB EB w' w.heap.size v [] ∧ Below w.heap.size w w' := by
  obtain ⟨i0, hi, hz0, hz1, hz2⟩ := elB.parts
  by_cases h0 : n = 0
  · subst h0
    go_enter Try.func26, Try.ntmps26
    go_wp2_with fail
    go_ret
    exact ⟨_, rfl, own_nil _ _, Below.refl _ _⟩
  · have h1 : (0 : Int) < (n : Int) := by omega
    have hrun := Lib.run_append_nil_zeros (P := Try.prog) w 22 3 22 5 i0 (encB 0) .i64 .i64 Try.underlying22 Try.underlying3 hi hz0 n (by omega) (by omega) (by omega) (by rw [hz2]; omega)
    have hge := grownCap_ge w n 0 5
    have hmax := grownCap_le_maxLen w n 0 5 (by unfold maxLen; omega)
    generalize grownCap w n 0 5 = cap at hrun hge hmax
    have hown : Own encB EB (w.drew.alloc (.cells (Builtin.zeroCells (encB 0).cells n ++ Builtin.zeroCells (encB 0).cells (cap - n)) 5)) w.heap.size (.slice (some ⟨w.heap.size, 0, none⟩) 0 cap) [] := by
      refine ⟨by simp, .inr ⟨w.heap.size, cap, _, rfl, Nat.le_refl _, (MapKept.heap_alloc w.drew _).1, by simp, hmax, ?_, by simp⟩⟩
      rw [Array.size_append, size_zeroCells, size_zeroCells]
      show n * 1 + (cap - n) * 1 = _
      omega
    have hbel : Below w.heap.size w (w.drew.alloc (.cells (Builtin.zeroCells (encB 0).cells n ++ Builtin.zeroCells (encB 0).cells (cap - n)) 5)) := (Below.refl _ _).drew.alloc (Nat.le_refl _) _
    generalize w.drew.alloc (.cells (Builtin.zeroCells (encB 0).cells n ++ Builtin.zeroCells (encB 0).cells (cap - n)) 5) = w1 at hrun hown hbel
    have HRUN := Lib.hid hrun
    have HOWN := Lib.hid hown
    clear hrun hown hz0 hz1 hz2 hi
    unfold maxLen at hmax
    have hsl : ∀ w0, (Instr.slice 22 (.slice (some ⟨w.heap.size, 0, none⟩) n cap) none (some (.int .i64 0)) none).run Try.prog w0 = .ok (.slice (some ⟨w.heap.size, 0, none⟩) 0 cap) w0 := fun w0 =>
      Slic.run_high 22 5 1 Try.underlying22 (by kernel_rfl) (some ⟨w.heap.size, 0, none⟩) n cap 0 (by omega) w0
    go_enter Try.func26, Try.ntmps26
    go_wp2_with (at_builtin; refine Lib.wpList_append_run _ rfl _ _ _ _ rfl _ _ rfl rfl _ _ HRUN.out ?_)
    go_ret
    exact ⟨_, rfl, HOWN.out, hbel⟩

set_option maxRecDepth 100000 in
set_option maxHeartbeats 400000 in
/-- slices.Concat of two slices. -/
theorem concat2 (g : Nat) (A1 A2 : Option Addr) (n1 c1 n2 c2 : Nat) (l1 l2 : List UInt8) (w : World) (hg : g < w.heap.size) (h0 : w.cell? ⟨g, 0, none⟩ = some (.slice A1 n1 c1)) (h1 : w.cell? ⟨g, 1, none⟩ = some (.slice A2 n2 c2))
    (r1 : Rd encB w A1 n1 l1) (r2 : Rd encB w A2 n2 l2) (hn1 : n1 ≤ 1073741824) (hn2 : n2 ≤ 1073741824) :
    Calls Try.prog 25 #[.slice (some ⟨g, 0, none⟩) 2 2] w fun e w' => ∃ v, e = .returned v ∧ Own encB EB w' w.heap.size v (l1 ++ l2) ∧ Below w.heap.size w w' := by
  have R1 := Lib.hid r1
  have R2 := Lib.hid r2
  have L1 := Lib.hid r1.1
  have L2 := Lib.hid r2.1
  clear r1 r2
  go_enter Try.func25, Try.ntmps25
  go_wp2_with fail
  have p1 : (0 : Int) ≤ (n1 : Int) := by omega
  have p2 : (0 : Int) ≤ (n2 : Int) := by omega
  go_loop [3, 11] (fun s i => (i = .int .i64 0 ∧ s = .int .i64 0) ∨ (i = .int .i64 1 ∧ s = .int .i64 (n1 : Int)) ∨ (i = .int .i64 2 ∧ s = .int .i64 ((n1 + n2 : Nat) : Int))) (fun _ i => 2 - (intOf i).toNat)
  case atStart => exact .inl ⟨rfl, rfl⟩
  case round =>
    rcases hrel with ⟨rfl, rfl⟩ | ⟨rfl, rfl⟩ | ⟨rfl, rfl⟩
    · go_wp2_with fail
      go_round
      case rel => exact .inr (.inl ⟨rfl, rfl⟩)
      case measure => simp [intOf]
    · go_wp2_with fail
      go_round
      case rel => exact .inr (.inr ⟨rfl, by go_num⟩)
      case measure => simp [intOf]
    · go_wp2_with fail
      refine (grow_nil (n1 + n2) (by omega) _).mono ?_
      rintro e w1 ⟨v, rfl, hown, hb1⟩
      have HO := Lib.hid hown
      have hk := bcell hb1
      have HK0 := Lib.hid ((hk g 0 hg).trans h0)
      have HK1 := Lib.hid ((hk g 1 hg).trans h1)
      have R1' := Lib.hid (R1.out.below hb1)
      have R2' := Lib.hid (R2.out.below hb1)
      clear hown hk h0 h1
      go_wp2_with fail
      go_loopw [6, 27] (fun v i wr => (i = .int .i64 0 ∧ Own encB EB wr w.heap.size v [] ∧ wr = w1) ∨ (i = .int .i64 1 ∧ Own encB EB wr w.heap.size v l1 ∧ Below w.heap.size w1 wr) ∨ (i = .int .i64 2 ∧ Own encB EB wr w.heap.size v (l1 ++ l2) ∧ Below w.heap.size w1 wr)) (fun _ i _ => 2 - (intOf i).toNat)
      case atStart => exact .inl ⟨rfl, HO.out, rfl⟩
      case round =>
        rcases hrel with ⟨rfl, ho, rfl⟩ | ⟨rfl, ho, hbw⟩ | ⟨rfl, ho, hbw⟩
        · have c0 := HK0.out
          have HOW := Lib.hid ho
          clear ho
          go_wp2_with (at_builtin; refine wpList_append elB rfl _ _ rfl rfl HOW.out A1 n1 c1 l1 rfl R1'.out (by simp [maxLen]; omega) (by simp; omega) hb1.size ?_; rintro v' w2 hown2 hb2 hg2 ho2; have HO2 := Lib.hid hown2; clear hown2 hg2 ho2)
          go_roundw
          case rel => exact .inr (.inl ⟨rfl, HO2.out, hb2⟩)
          case measure => simp [intOf]
        · have c1 := (bcell hbw g 1 hg).trans HK1.out
          have HOW := Lib.hid ho
          have R2'' := Lib.hid (show Rd encB wr A2 n2 l2 from by
            refine ⟨L2.out, fun hn => ?_⟩
            obtain ⟨b, o, e, hlt, hc⟩ := R2.out.2 hn
            exact ⟨b, o, e, Nat.lt_of_lt_of_le hlt (Nat.le_trans hb1.size hbw.size), fun i x hx => (bcell hbw b _ hlt).trans ((bcell hb1 b _ hlt).trans (hc i x hx))⟩)
          clear ho
          go_wp2_with (at_builtin; refine wpList_append elB rfl _ _ rfl rfl HOW.out A2 n2 c2 l2 rfl R2''.out (by rw [← L1.out]; simp [maxLen]; omega) (by rw [← L1.out]; omega) (Nat.le_trans hb1.size hbw.size) ?_; rintro v' w2 hown2 hb2 hg2 ho2; have HO2 := Lib.hid hown2; clear hown2 hg2 ho2)
          go_roundw
          case rel => exact .inr (.inr ⟨rfl, HO2.out, hbw.trans hb2⟩)
          case measure => simp [intOf]
        · have HOW := Lib.hid ho
          clear ho
          go_wp2_with fail
          go_ret
          exact ⟨_, rfl, HOW.out, hb1.trans hbw⟩
end Go.Proofs.Ytjfllfikeopgnaa.SumY
