/- Slices of instructions: Grow, Concat, 'with', 'push', Clone of chapter 29. Conditions: lengths of 4096 at most. -/
import Derived.Test.YtmilnfboglhdgaaSeqO
import Derived.Test.YtmilnfboglhdgaaPeepP
import Derived.Test.YtmilnfboglhdgaaNestW
import Derived.Test.YtmilnfboglhdgaaSliceP
import Derived.Lib.AppendZeros
namespace Go.Proofs.Ytmilnfboglhdgaa.PeepW
open Go Go.RowKit NestP NestW Sq PeepP

def InsE (x : Ins) : List Value := [.int .i64 x.1, .int .i64 x.2]
theorem InsE_len (x : Ins) : (InsE x).length = 2 := rfl
def InsV (x : Ins) : Value := .agg #[.int .i64 x.1, .int .i64 x.2]
theorem elL : Sk.El Try.prog 31 30 InsE (.agg #[.int .i64 0, .int .i64 0]) 2 16 :=
  ⟨Try.underlying31, by kernel_rfl, InsE_len, fun x u hu => by simp [InsE] at hu; rcases hu with rfl | rfl <;> rfl, by rfl, by omega⟩
theorem elI : Sk.El Try.prog 22 30 InsE (.agg #[.int .i64 0, .int .i64 0]) 2 16 :=
  ⟨Try.underlying22, by kernel_rfl, InsE_len, fun x u hu => by simp [InsE] at hu; rcases hu with rfl | rfl <;> rfl, by rfl, by omega⟩
abbrev RdI (w : World) (A : Option Addr) (n : Nat) (l : List Ins) : Prop := Sk.Rd InsE w A n l
abbrev OwnI (w : World) (B : Nat) (v : Value) (l : List Ins) : Prop := Sk.Own InsE 2 30 w B v l

/-- slices.Grow of nil. -/
theorem grow_nil (n : Nat) (hn : n ≤ 1099511627776) (w : World) :
    Calls Try.prog 64 #[.slice none 0 0, .int .i64 (n : Int)] w fun e w' => ∃ v, e = .returned v ∧ OwnI w' w.heap.size v [] ∧ Below w.heap.size w w' := by
  obtain ⟨i0, hi, hz0, hz1, hz2⟩ := elL.parts
  by_cases h0 : n = 0
  · subst h0
    go_enter Try.func64, Try.ntmps64
    go_wp2_with fail
    go_ret
    exact ⟨_, rfl, Sk.own_nil _ _, Below.refl _ _⟩
  · have h1 : (0 : Int) < (n : Int) := by omega
    have hrun := Lib.run_append_nil_zeros (P := Try.prog) w 31 3 31 30 i0 (.agg #[.int .i64 0, .int .i64 0]) .i64 .i64 Try.underlying31 Try.underlying3 hi hz0 n (by omega) (by omega) (by omega) (by rw [hz2]; omega)
    have hge := grownCap_ge w n 0 30
    have hmax := grownCap_le_maxLen w n 0 30 (by unfold maxLen; omega)
    generalize grownCap w n 0 30 = cap at hrun hge hmax
    have hown : OwnI (w.drew.alloc (.cells (Builtin.zeroCells (Value.agg #[.int .i64 0, .int .i64 0]).cells n ++ Builtin.zeroCells (Value.agg #[.int .i64 0, .int .i64 0]).cells (cap - n)) 30)) w.heap.size (.slice (some ⟨w.heap.size, 0, none⟩) 0 cap) [] := by
      refine ⟨by simp, .inr ⟨w.heap.size, cap, _, rfl, Nat.le_refl _, (MapKept.heap_alloc w.drew _).1, by simp, hmax, ?_, by simp⟩⟩
      rw [Array.size_append, size_zeroCells, size_zeroCells]
      show n * 2 + (cap - n) * 2 = _
      omega
    have hbel : Below w.heap.size w (w.drew.alloc (.cells (Builtin.zeroCells (Value.agg #[.int .i64 0, .int .i64 0]).cells n ++ Builtin.zeroCells (Value.agg #[.int .i64 0, .int .i64 0]).cells (cap - n)) 30)) := (Below.refl _ _).drew.alloc (Nat.le_refl _) _
    generalize w.drew.alloc (.cells (Builtin.zeroCells (Value.agg #[.int .i64 0, .int .i64 0]).cells n ++ Builtin.zeroCells (Value.agg #[.int .i64 0, .int .i64 0]).cells (cap - n)) 30) = w1 at hrun hown hbel
    have HRUN := Lib.hid hrun
    have HOWN := Lib.hid hown
    clear hrun hown hz0 hz1 hz2 hi
    unfold maxLen at hmax
    have hsl : ∀ w0, (Instr.slice 31 (.slice (some ⟨w.heap.size, 0, none⟩) n cap) none (some (.int .i64 0)) none).run Try.prog w0 = .ok (.slice (some ⟨w.heap.size, 0, none⟩) 0 cap) w0 := fun w0 =>
      Slic.run_high 31 30 2 Try.underlying31 (by kernel_rfl) (some ⟨w.heap.size, 0, none⟩) n cap 0 (by omega) w0
    go_enter Try.func64, Try.ntmps64
    go_wp2_with (at_builtin; refine Lib.wpList_append_run _ rfl _ _ _ _ rfl _ _ rfl rfl _ _ HRUN.out ?_)
    go_ret
    exact ⟨_, rfl, HOWN.out, hbel⟩

set_option maxRecDepth 100000 in
set_option maxHeartbeats 800000 in
/-- slices.Concat of three slices. -/
theorem concat3 (g : Nat) (A1 A2 A3 : Option Addr) (n1 c1 n2 c2 n3 c3 : Nat) (l1 l2 l3 : List Ins) (w : World) (hg : g < w.heap.size) (h0 : w.cell? ⟨g, 0, none⟩ = some (.slice A1 n1 c1)) (h1 : w.cell? ⟨g, 1, none⟩ = some (.slice A2 n2 c2)) (h2 : w.cell? ⟨g, 2, none⟩ = some (.slice A3 n3 c3))
    (r1 : RdI w A1 n1 l1) (r2 : RdI w A2 n2 l2) (r3 : RdI w A3 n3 l3) (hn1 : n1 ≤ 1048576) (hn2 : n2 ≤ 1048576) (hn3 : n3 ≤ 1048576) :
    Calls Try.prog 44 #[.slice (some ⟨g, 0, none⟩) 3 3] w fun e w' => ∃ v, e = .returned v ∧ OwnI w' w.heap.size v (l1 ++ l2 ++ l3) ∧ Below w.heap.size w w' := by
  have R1 := Lib.hid r1
  have R2 := Lib.hid r2
  have R3 := Lib.hid r3
  have L1 := Lib.hid r1.1
  have L2 := Lib.hid r2.1
  have L3 := Lib.hid r3.1
  clear r1 r2 r3
  go_enter Try.func44, Try.ntmps44
  go_wp2_with fail
  have p1 : (0 : Int) ≤ (n1 : Int) := by omega
  have p2 : (0 : Int) ≤ (n2 : Int) := by omega
  have p3 : (0 : Int) ≤ (n3 : Int) := by omega
  go_loop [3, 11] (fun s i => (i = .int .i64 0 ∧ s = .int .i64 0) ∨ (i = .int .i64 1 ∧ s = .int .i64 (n1 : Int)) ∨ (i = .int .i64 2 ∧ s = .int .i64 ((n1 + n2 : Nat) : Int)) ∨ (i = .int .i64 3 ∧ s = .int .i64 ((n1 + n2 + n3 : Nat) : Int))) (fun _ i => 3 - (intOf i).toNat)
  case atStart => exact .inl ⟨rfl, rfl⟩
  case round =>
    rcases hrel with ⟨rfl, rfl⟩ | ⟨rfl, rfl⟩ | ⟨rfl, rfl⟩ | ⟨rfl, rfl⟩
    · go_wp2_with fail
      go_round
      case rel => exact .inr (.inl ⟨rfl, rfl⟩)
      case measure => simp [intOf]
    · go_wp2_with fail
      go_round
      case rel => exact .inr (.inr (.inl ⟨rfl, by go_num⟩))
      case measure => simp [intOf]
    · go_wp2_with fail
      go_round
      case rel => exact .inr (.inr (.inr ⟨rfl, by go_num⟩))
      case measure => simp [intOf]
    · go_wp2_with fail
      refine (grow_nil (n1 + n2 + n3) (by omega) _).mono ?_
      rintro e w1 ⟨v, rfl, hown, hb1⟩
      have HO := Lib.hid hown
      have HB1 := Lib.hid hb1
      have HK0 := Lib.hid ((bcell hb1 g 0 hg).trans h0)
      have HK1 := Lib.hid ((bcell hb1 g 1 hg).trans h1)
      have HK2 := Lib.hid ((bcell hb1 g 2 hg).trans h2)
      have R1' := Lib.hid (R1.out.below hb1)
      have R2' := Lib.hid (R2.out.below hb1)
      have R3' := Lib.hid (R3.out.below hb1)
      have hgs := Lib.hid (Nat.lt_of_lt_of_le hg hb1.size)
      clear hown h0 h1 h2 hb1
      go_wp2_with fail
      go_loopw [6, 27] (fun v i wr => (i = .int .i64 0 ∧ OwnI wr w.heap.size v [] ∧ Below w.heap.size w1 wr) ∨ (i = .int .i64 1 ∧ OwnI wr w.heap.size v l1 ∧ Below w.heap.size w1 wr) ∨ (i = .int .i64 2 ∧ OwnI wr w.heap.size v (l1 ++ l2) ∧ Below w.heap.size w1 wr) ∨ (i = .int .i64 3 ∧ OwnI wr w.heap.size v (l1 ++ l2 ++ l3) ∧ Below w.heap.size w1 wr)) (fun _ i _ => 3 - (intOf i).toNat)
      case atStart => exact .inl ⟨rfl, HO.out, Below.refl _ _⟩
      case round =>
        have keep : ∀ (wr : World) (A : Option Addr) (n : Nat) (l : List Ins), Below w.heap.size w1 wr → RdI w A n l → RdI wr A n l := fun _ _ _ _ hb hr => hr.below (HB1.out.trans hb)
        have K := Lib.hid keep
        clear keep
        rcases hrel with ⟨rfl, ho, hbw⟩ | ⟨rfl, ho, hbw⟩ | ⟨rfl, ho, hbw⟩ | ⟨rfl, ho, hbw⟩
        · have c0 := (bcell hbw g 0 hg).trans HK0.out
          have HOW := Lib.hid ho
          have HBW := Lib.hid hbw
          clear ho hbw
          go_wp2_with (at_builtin; refine Sk.wpList_append elL rfl _ _ rfl rfl HOW.out A1 n1 c1 l1 rfl (K.out _ _ _ _ HBW.out R1.out) (by simp [maxLen]; omega) (by simp; omega) (Nat.le_trans HB1.out.size HBW.out.size) ?_; rintro v' w2 hown2 hb2 hg2 _ ho2; have HO2 := Lib.hid hown2; have HB2 := Lib.hid hb2; clear hown2 hg2 ho2 hb2)
          go_roundw
          case rel => exact .inr (.inl ⟨rfl, HO2.out, HBW.out.trans HB2.out⟩)
          case measure => simp [intOf]
        · have c1 := (bcell hbw g 1 hg).trans HK1.out
          have HOW := Lib.hid ho
          have HBW := Lib.hid hbw
          clear ho hbw
          go_wp2_with (at_builtin; refine Sk.wpList_append elL rfl _ _ rfl rfl HOW.out A2 n2 c2 l2 rfl (K.out _ _ _ _ HBW.out R2.out) (by rw [← L1.out]; simp [maxLen]; omega) (by rw [← L1.out]; omega) (Nat.le_trans HB1.out.size HBW.out.size) ?_; rintro v' w2 hown2 hb2 hg2 _ ho2; have HO2 := Lib.hid hown2; have HB2 := Lib.hid hb2; clear hown2 hg2 ho2 hb2)
          go_roundw
          case rel => exact .inr (.inr (.inl ⟨rfl, HO2.out, HBW.out.trans HB2.out⟩))
          case measure => simp [intOf]
        · have c2 := (bcell hbw g 2 hg).trans HK2.out
          have HOW := Lib.hid ho
          have HBW := Lib.hid hbw
          clear ho hbw
          go_wp2_with (at_builtin; refine Sk.wpList_append elL rfl _ _ rfl rfl HOW.out A3 n3 c3 l3 rfl (K.out _ _ _ _ HBW.out R3.out) (by rw [List.length_append, ← L1.out, ← L2.out]; simp [maxLen]; omega) (by rw [List.length_append, ← L1.out, ← L2.out]; omega) (Nat.le_trans HB1.out.size HBW.out.size) ?_; rintro v' w2 hown2 hb2 hg2 _ ho2; have HO2 := Lib.hid hown2; have HB2 := Lib.hid hb2; clear hown2 hg2 ho2 hb2)
          go_roundw
          case rel => exact .inr (.inr (.inr ⟨rfl, HO2.out, HBW.out.trans HB2.out⟩))
          case measure => simp [intOf]
        · have HOW := Lib.hid ho
          have HBW := Lib.hid hbw
          clear ho hbw
          go_wp2_with fail
          go_ret
          exact ⟨_, rfl, HOW.out, HB1.out.trans HBW.out⟩
end Go.Proofs.Ytmilnfboglhdgaa.PeepW
