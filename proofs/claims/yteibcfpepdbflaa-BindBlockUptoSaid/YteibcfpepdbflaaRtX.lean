/- clewref10.Depth, Right: how deep an expression is; some truth value, without a panic; true: what a right expression says. Conditions: sizes within the reach. -/
import Derived.Test.YteibcfpepdbflaaRtS
import Derived.Test.YteibcfpepdbflaaBindX
import Derived.Deep.DeepCutAuto
namespace Go.Proofs.Yteibcfpepdbflaa.RtX
open Go Go.RowKit BindP BindD BindO BindW BindG BindX RtS
open Byt (str)

mutual
def dE : Nat → Pe → Nat
  | most, .mk _ _ _ _ ar => (if 1 < most then dEs (most - 1) ar else 0) + 1
def dEs : Nat → List Pe → Nat
  | _, [] => 0
  | most, a :: l => max (dE most a) (dEs most l)
end
theorem dEs_snoc (m : Nat) : ∀ (l : List Pe) (a : Pe), dEs m (l ++ [a]) = max (dEs m l) (dE m a)
  | [], a => by simp [dEs]
  | x :: l, a => by simp only [List.cons_append, dEs, dEs_snoc m l a, Nat.max_assoc]
mutual
theorem dE_le : ∀ (m : Nat) (p : Pe), 1 ≤ m → dE m p ≤ m
  | m, .mk _ _ _ _ ar, h => by
    unfold dE
    split
    · have := dEs_le (m - 1) ar (by omega)
      omega
    · omega
theorem dEs_le : ∀ (m : Nat) (l : List Pe), 1 ≤ m → dEs m l ≤ m
  | m, [], _ => by simp [dEs]
  | m, a :: l, h => by
    have h1 := dE_le m a h
    have h2 := dEs_le m l h
    unfold dEs
    omega
end
structure Bz (w : World) (cs : Array Value) (T : TypeId) (wr : World) : Prop where
  box : wr.heap[w.heap.size]? = some (.cells cs T (0, 0))
  low : Below w.heap.size w wr
theorem Bz.new (w : World) (cs : Array Value) (T : TypeId) : Bz w cs T (w.alloc (.cells cs T)) := ⟨heap_alloc_new w _, (Below.refl _ _).alloc (Nat.le_refl _) _⟩
theorem Bz.on {w : World} {cs : Array Value} {T : TypeId} {wr w' : World} (h : Bz w cs T wr) (hb : Below wr.heap.size wr w') : Bz w cs T w' :=
  ⟨(hb.block _ (Array.getElem?_eq_some_iff.1 h.box).1).trans h.box, h.low.trans (hb.mono h.low.size)⟩
def DepV (n : Nat) (w : World) (e : Ending) (w' : World) : Prop := e = .returned (.int .i64 (n : Int)) ∧ Below w.heap.size w w'
set_option maxRecDepth 100000 in
set_option maxHeartbeats 4000000 in
theorem deep_o : ∀ (x : Ex) (most : Nat) (w : World), 1 ≤ most → most ≤ 65 → RdX top w x → nE x.p ≤ 1048576 →
    Calls Try.prog 101 #[.agg (exE x).toArray, .int .i64 (most : Int)] w (DepV (dE most x.p) w) := by
  intro x
  induction x using Ex.ind with
  | _ k o n s A c ar ih =>
    intro most w hm1 hm2 hx hn
    have HX := Lib.hid hx.open_
    have HIH := Lib.hid ih
    simp only [Ex.p, nE] at hn
    have har : ar.length ≤ nEs (exPs ar) := by
      have h1 := sum_len (m := fun x : Ex => nE x.p) (fun x => nE_pos x.p) ar
      rw [← nEs_sum] at h1
      exact h1
    have zar : ar.length ≤ 1048576 := by omega
    have HN := Lib.hid (show nEs (exPs ar) ≤ 1048576 by omega)
    clear hx ih hn har
    show Calls Try.prog 101 #[.agg #[.int .i64 k, .int .i64 o, .int .i64 n, .string (str s), .slice A ar.length c], .int .i64 (most : Int)] w _
    go_enter Try.func101, Try.ntmps101
    obtain ⟨w1, hw1⟩ : ∃ W, w.alloc (.cells #[.int .i64 k, .int .i64 o, .int .i64 n, .string (str s), .slice A ar.length c] 49) = W := ⟨_, rfl⟩
    obtain ⟨m1, s1, b1⟩ := made hw1
    have HB1 := Lib.hid b1
    obtain ⟨x0, x1, x2, x3, x4, xf⟩ := cells5 m1
    clear m1 s1 b1
    by_cases h1 : 1 < most
    · have HD := Lib.hid (show dE most (Ex.mk k o n s A c ar).p = dEs (most - 1) (exPs ar) + 1 by simp only [Ex.p]; unfold dE; rw [if_pos h1])
      obtain ⟨mo, hmo⟩ : ∃ mo, most - 1 = mo := ⟨_, rfl⟩
      rw [hmo] at HD
      have HMO := Lib.hid hmo
      have hmo1 : 1 ≤ mo := by omega
      have hmo2 : mo ≤ 64 := by omega
      have t0 : decide ((1 : Int) < (most : Int)) = true := decide_eq_true (by omega)
      have b0 : (1 : Int) ≤ (most : Int) := by omega
      have b65 : (most : Int) ≤ 65 := by omega
      have HE1 := Lib.hid (show (most : Int) - 1 = (mo : Int) by omega)
      clear hmo
      go_wp2_with fail
      go_loopw [5, 14] (fun nv iv wr => ∃ j : Nat, j ≤ ar.length ∧ iv = .int .i64 (j : Int) ∧ nv = .int .i64 ((dEs mo (exPs (ar.take j)) : Nat) : Int) ∧ Below w.heap.size w wr) (fun _ iv _ => ar.length - (intOf iv).toNat)
      case atStart => exact ⟨0, Nat.zero_le _, rfl, by simp [exPs, dEs], HB1.out⟩
      case round =>
        clear x0 x1 x2 x3 x4 xf
        obtain ⟨j, hj, rfl, rfl, hb⟩ := hrel
        have HB := Lib.hid hb
        clear hb
        by_cases hlt : j < ar.length
        · obtain ⟨b2, o2, rfl, hb2, hc⟩ := Lg.at_ exE_len (show Lx top wr A c ar from Lg.keep stays_x (Keep.below HB.out) HX.out) hlt
          obtain ⟨⟨ek, ep, en, es, eA, ec, er⟩, hy⟩ : ∃ y, ar[j] = y := ⟨_, rfl⟩
          have HNY := Lib.hid (show dEs mo (exPs (ar.take (j + 1))) = max (dEs mo (exPs (ar.take j))) (dE mo (Ex.mk ek ep en es eA ec er).p) by
            rw [List.take_succ_eq_append_getElem hlt, exPs_map, List.map_append, ← exPs_map, hy]; exact dEs_snoc _ _ _)
          have hmem : ar[j] ∈ ar := List.getElem_mem hlt
          rw [hy] at hc hmem
          have HME := Lib.hid (And.intro hmem (And.intro (HX.out.2 _ hmem) (show nE (Ex.mk ek ep en es eA ec er).p ≤ 1048576 by
            have h1 := sum_mem (m := fun x : Ex => nE x.p) ar _ hmem
            rw [← nEs_sum] at h1
            have := HN.out
            omega)))
          have hd1 := dEs_le mo (exPs (ar.take j)) (by omega)
          have hd2 := dE_le mo (Ex.mk ek ep en es eA ec er).p (by omega)
          obtain ⟨q1, hq1⟩ : ∃ q, dEs mo (exPs (ar.take j)) = q := ⟨_, rfl⟩
          obtain ⟨q2, hq2⟩ : ∃ q, dE mo (Ex.mk ek ep en es eA ec er).p = q := ⟨_, rfl⟩
          rw [hq1] at hd1 HNY ⊢
          rw [hq2] at hd2 HNY
          have HQ2 := Lib.hid hq2
          have c0 : wr.cell? ⟨b2, o2 + j * 5, none⟩ = some (.int .i64 ek) := hc 0 _ rfl
          have c1 : wr.cell? ⟨b2, o2 + j * 5 + 1, none⟩ = some (.int .i64 ep) := hc 1 _ rfl
          have c2 : wr.cell? ⟨b2, o2 + j * 5 + 2, none⟩ = some (.int .i64 en) := hc 2 _ rfl
          have c3 : wr.cell? ⟨b2, o2 + j * 5 + 3, none⟩ = some (.string (str es)) := hc 3 _ rfl
          have c4 : wr.cell? ⟨b2, o2 + j * 5 + 4, none⟩ = some (.slice eA er.length ec) := hc 4 _ rfl
          have i0 : (0 : Int) ≤ (j : Int) := by omega
          have i1 : (j : Int) < (ar.length : Int) := by omega
          obtain ⟨wa, hwa⟩ : ∃ W1, wr.alloc (.cells #[.int .i64 ek, .int .i64 ep, .int .i64 en, .string (str es), .slice eA er.length ec] 49) = W1 := ⟨_, rfl⟩
          obtain ⟨m2, s2, b2'⟩ := made hwa
          have HBA := Lib.hid (HB.out.trans (b2'.mono HB.out.size))
          obtain ⟨pb, hpb⟩ : ∃ q, wr.heap.size = q := ⟨_, rfl⟩
          rw [hpb] at m2
          obtain ⟨y0, y1, y2, y3, y4, yf⟩ := cells5 m2
          have z0 : (0 : Int) ≤ (q1 : Int) := by omega
          have z2 : (0 : Int) ≤ (q2 : Int) := by omega
          clear hc hy hmem hq1 hq2 s2 b2' m2
          go_wp2_with fail
          rw [HE1.out]
          refine (HIH.out _ HME.out.1 mo wa (by omega) (by omega) (RdX.keep (Keep.below HBA.out) HME.out.2.1) HME.out.2.2).mono ?_
          rintro e w2 ⟨rfl, hb⟩
          rw [HQ2.out]
          have HB2 := Lib.hid (HBA.out.trans (hb.mono HBA.out.size))
          clear hb y0 y1 y2 y3 y4 yf
          by_cases hg : q1 < q2
          · have t1 : decide (q1 < q2) = true := decide_eq_true hg
            have HMX := Lib.hid (HNY.out.trans (show max q1 q2 = q2 by omega))
            clear hg
            go_wp2_with fail
            go_roundw
            case rel => exact ⟨j + 1, by omega, by go_num, by rw [HMX.out], HB2.out⟩
            case measure => simp [intOf]; omega
          · have t1 : decide (q1 < q2) = false := decide_eq_false hg
            have HMX := Lib.hid (HNY.out.trans (show max q1 q2 = q1 by omega))
            clear hg
            go_wp2_with fail
            go_roundw
            case rel => exact ⟨j + 1, by omega, by go_num, by rw [HMX.out], HB2.out⟩
            case measure => simp [intOf]; omega
        · obtain rfl : j = ar.length := by omega
          have hd1 := dEs_le mo (exPs ar) (by omega)
          have HTK := Lib.hid (show dEs mo (exPs (ar.take ar.length)) = dEs mo (exPs ar) by rw [List.take_length])
          obtain ⟨q1, hq1⟩ : ∃ q, dEs mo (exPs (ar.take ar.length)) = q := ⟨_, rfl⟩
          rw [hq1] at HTK ⊢
          have z1 : (0 : Int) ≤ (q1 : Int) := by omega
          have z2 : (q1 : Int) ≤ 65 := by have := HTK.out; omega
          have HDD := Lib.hid (HD.out.trans (show dEs mo (exPs ar) + 1 = q1 + 1 by rw [HTK.out]))
          clear hq1 hd1
          go_wp2_with fail
          go_ret
          exact ⟨by rw [HDD.out]; go_num, HB.out⟩
    · have HD := Lib.hid (show dE most (Ex.mk k o n s A c ar).p = 1 by simp only [Ex.p]; unfold dE; rw [if_neg h1])
      have m1 : decide ((1 : Int) < (most : Int)) = false := decide_eq_false (by omega)
      clear h1
      go_wp2_with fail
      go_ret
      exact ⟨by rw [HD.out]; rfl, HB1.out⟩
theorem among_o (n lo hi : Int) (w : World) : Calls Try.prog 107 #[.int .i64 n, .int .i64 lo, .int .i64 hi] w (SomeQ (lo ≤ n ∧ n ≤ hi) w) := by
  by_cases h1 : lo ≤ n
  · have q1 : decide (n ≥ lo) = true := decide_eq_true h1
    by_cases h2 : n ≤ hi
    · have q2 : decide (n ≤ hi) = true := decide_eq_true h2
      have HP := Lib.hid (And.intro h1 h2)
      go_enter Try.func107, Try.ntmps107
      go_wp2_with fail
      go_ret
      exact ⟨_, rfl, fun _ => HP.out, rfl⟩
    · have q2 : decide (n ≤ hi) = false := decide_eq_false h2
      go_enter Try.func107, Try.ntmps107
      go_wp2_with fail
      go_ret
      exact ⟨_, rfl, (fun h => by cases h), rfl⟩
  · have q1 : decide (n ≥ lo) = false := decide_eq_false h1
    go_enter Try.func107, Try.ntmps107
    go_wp2_with fail
    go_ret
    exact ⟨_, rfl, (fun h => by cases h), rfl⟩
end Go.Proofs.Yteibcfpepdbflaa.RtX
