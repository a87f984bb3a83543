/- nest.children: what the iterator owes to whatever loop; slices.Collect over whatever iterator of ints. Conditions: the lists of first children and of next ones read. -/
import Derived.Test.YtncdicagadbafaaRngT
import Derived.RangeFuncWrites
import Derived.Maps.AppendAt
namespace Go.Proofs.Ytncdicagadbafaa.RngC
open Go Go.RowKit NestP NestW NestX NestY ValP ValW ValX ValR Sq Rng RngU RngT
attribute [local go_sem] Oper.semAt_some

theorem children_i {v0 v4 v5 v6 v7 v8 v9 v10 v11 v12 : Value} {A1 A2 A3 : Option Addr} {n c1 n2 c2 n3 c3 : Nat} (x : Int) (w : World) :
    Calls Try.prog 112 #[.agg #[v0, .slice A1 n c1, .slice A2 n2 c2, .slice A3 n3 c3, v4, v5, v6, v7, v8, v9, v10, v11, v12], .int .i64 x] w fun e w' => e = .returned (.func (.func 162) #[] #[.pointer (some ⟨w.heap.size, 0, none⟩), .pointer (some ⟨w.heap.size + 1, 0, none⟩)]) ∧ w' = (w.alloc (.cells #[v0, .slice A1 n c1, .slice A2 n2 c2, .slice A3 n3 c3, v4, v5, v6, v7, v8, v9, v10, v11, v12] 31)).alloc (.cells #[.int .i64 x] 3) := by
  go_enter Try.func112, Try.ntmps112
  go_wp2_with fail
  go_ret
  exact ⟨rfl, rfl⟩

set_option maxRecDepth 100000 in
set_option maxHeartbeats 4000000 in
/-- A child of x in g. -/
abbrev Kid (g : Wd) (x : Int) := { c : Int // c ∈ kids g x }
theorem children_stopsK {v0 v4 v5 v6 v7 v8 v9 v10 v11 v12 : Value} {A1 A2 A3 : Option Addr} {n c1 c2 c3 : Nat} (g : Wd) (x : Int) (wb w0 : World) (Bw X ob n₀ : Nat) (hg : g.n = n) (hp2 : Rd I wb A2 n g.ch) (hp3 : Rd I wb A3 n g.ne) (hn : n ≤ 17592186043904)
    (h0 : w0.heap[Bw]? = some (.cells #[v0, .slice A1 n c1, .slice A2 n c2, .slice A3 n c3, v4, v5, v6, v7, v8, v9, v10, v11, v12] 31 (0, 0))) (h1 : w0.heap[X]? = some (.cells #[.int .i64 x] 3 (0, 0))) (hl : Low wb w0)
    (q3 : wb.heap.size ≤ ob) (q4 : Bw < n₀) (q5 : X < n₀) (q7 : ob ≠ Bw) (q8 : ob ≠ X) (q9 : n₀ ≤ w0.heap.size) (q10 : wb.heap.size ≤ n₀) :
    SeqStopsK Fence.wide 2 Try.prog 162 #[.pointer (some ⟨Bw, 0, none⟩), .pointer (some ⟨X, 0, none⟩)] (fun c : Kid g x => #[.int .i64 c.1]) (Kept ob n₀) (fun xs => xs.map (·.1) = kids g x) (fun pre => pre.map (·.1) <+: kids g x) ((kids g x).length) w0 := by
  intro l J Jx W hW hJ hJx hY hJ0
  have HP := Lib.hid hp2
  have HP3 := Lib.hid hp3
  have HN := Lib.hid hn
  have HG := Lib.hid hg
  have HJ := Lib.hid hJ
  have HJx := Lib.hid hJx
  have HY := Lib.hid hY
  clear hJ hJx hY
  have n0 : (0 : Int) ≤ (n : Int) := by omega
  have hL0 : Low wb W := ⟨Nat.le_trans hl.1 hW.size, fun k hk => (hW.block k (Nat.lt_of_lt_of_le hk hl.1)).trans (hl.2 k hk)⟩
  have hs0 : n₀ ≤ W.heap.size := Nat.le_trans q9 hW.size
  have g0 := (hW.block Bw (by omega)).trans h0
  have g1 := (hW.block X (by omega)).trans h1
  have HL := Lib.hid hL0
  clear hl h0 h1 hW hp2 hp3 hn hL0 hg
  obtain ⟨x0, x1, x2, x3, x4, x5, x6, x7, x8, x9, x10, x11, x12, xf⟩ := cells13 g0
  obtain ⟨y0, yf⟩ := cell1 g1
  obtain ⟨q, hq⟩ : ∃ q, isT n x = q := ⟨_, rfl⟩
  have HQ := Lib.hid hq
  clear hq
  show CallsIn Fence.wide 2 Try.prog 162 #[.func (.yield l) #[] #[], .pointer (some ⟨Bw, 0, none⟩), .pointer (some ⟨X, 0, none⟩)] W _
  refine callsIn_of_wp Try.func162 rfl trivial ?_ rfl
  simp only [Try.ntmps162, List.size_toArray, List.length_cons, List.length_nil, Nat.reduceAdd, Nat.reduceSub, Array.replicate_succ, Array.replicate_zero, List.push_toArray, List.append_toArray, List.nil_append, List.cons_append]
  cases q
  · have HE := Lib.hid (show [] = kids g x by unfold kids; rw [HG.out, if_neg (by rw [HQ.out]; simp)])
    gi_wp2_with (refine ⟨trivial, ?_⟩; gi_at_call 46; refine (callsIn_wide.2 (is_n x _)).mono ?_; rintro e w1 ⟨rfl, hb⟩; rw [HQ.out])
    refine bodyPost_ret (results_none rfl _ _ _) rfl ?_
    exact ⟨⟨_, rfl⟩, .inl ⟨[], HE.out, abides HJ.out hJ0 hb⟩⟩
  · have HK := Lib.hid (show kids g x = chain n g.ne n (at' g.ch x) by unfold kids; rw [HG.out, if_pos HQ.out])
    obtain ⟨i, b, o, rfl, hi1, hi2, rfl, hb3, hcell⟩ := at_cell (HL.out.rd HP.out) HQ.out
    have hib : (i : Int) < (n : Int) := by omega
    have hi0 : (0 : Int) ≤ (i : Int) := by omega
    gi_wp2_with (refine ⟨trivial, ?_⟩; gi_at_call 46; refine (callsIn_wide.2 (is_n _ _)).mono ?_; rintro e w1 ⟨rfl, hb⟩; rw [HQ.out]; have hL1 := HL.out.below hb; have hs1 := Nat.le_trans hs0 hb.size; have j0 := (hb.block Bw (by omega)).trans g0; have j1 := (hb.block X (by omega)).trans g1; have hcell1 := (hb.cell (p := ⟨b, o + i, none⟩) hb3).trans hcell; obtain ⟨x0', x1', x2', x3', x4', x5', x6', x7', x8', x9', x10', x11', x12', xf'⟩ := cells13 j0; obtain ⟨y0', yf'⟩ := cell1 j1)
    have HJ0 := Lib.hid (abides HJ.out hJ0 hb)
    clear hJ0
    gi_loopw [4, 5] (fun left cc wr => ∃ (m : Nat) (c : Int) (pre : List (Kid g (i : Int))), m ≤ n ∧ left = .int .i64 (m : Int) ∧ cc = .int .i64 c ∧ pre.map (·.1) ++ chain n g.ne m c = kids g (i : Int) ∧ J pre wr ∧ Low wb wr ∧ n₀ ≤ wr.heap.size ∧ wr.heap[Bw]? = some (.cells #[v0, .slice A1 n c1, .slice (some ⟨b, o, none⟩) n c2, .slice A3 n c3, v4, v5, v6, v7, v8, v9, v10, v11, v12] 31 (0, 0)) ∧ wr.heap[X]? = some (.cells #[.int .i64 (i : Int)] 3 (0, 0)))
      (fun left _ _ => (intOf left).toNat)
    case atStart => exact ⟨n, at' g.ch i, [], Nat.le_refl _, rfl, rfl, HK.out.symm, HJ0.out, hL1, hs1, j0, j1⟩
    case round =>
      clear HJ0 HL hs0 g0 g1 x0 x1 x2 x3 x4 x5 x6 x7 x8 x9 x10 x11 x12 xf y0 yf hcell hcell1 hL1 hs1 j0 j1 x0' x1' x2' x3' x4' x5' x6' x7' x8' x9' x10' x11' x12' xf' y0' yf'
      obtain ⟨m, c, pre, hm, rfl, rfl, hch, hJ, hl, hs, g0, g1⟩ := hrel
      have HJ1 := Lib.hid hJ
      have HL := Lib.hid hl
      have HCH := Lib.hid hch
      clear hJ hl hch
      obtain ⟨x0, x1, x2, x3, x4, x5, x6, x7, x8, x9, x10, x11, x12, xf⟩ := cells13 g0
      obtain ⟨q2, hq2⟩ : ∃ q, isT n c = q := ⟨_, rfl⟩
      have HQ2 := Lib.hid hq2
      clear hq2
      cases q2
      · have HE := Lib.hid (show pre.map (·.1) = kids g (i : Int) from Eq.trans (by cases m with
          | zero => simp [chain]
          | succ k => simp [chain, HQ2.out]) HCH.out)
        gi_wp2_with (refine ⟨trivial, ?_⟩; gi_at_call 46; refine (callsIn_wide.2 (is_n c _)).mono ?_; rintro e w1 ⟨rfl, hb⟩; rw [HQ2.out])
        all_goals
          refine ⟨fun _ h => (by cases h), ?_⟩
          gi_wp2
          go_end0
          exact ⟨⟨_, rfl⟩, .inl ⟨pre, HE.out, abides HJ.out HJ1.out hb⟩⟩
      · by_cases hm0 : m = 0
        · subst hm0
          have HE := Lib.hid (show pre.map (·.1) = kids g (i : Int) from Eq.trans (by simp [chain]) HCH.out)
          gi_wp2_with (refine ⟨trivial, ?_⟩; gi_at_call 46; refine (callsIn_wide.2 (is_n c _)).mono ?_; rintro e w1 ⟨rfl, hb⟩; rw [HQ2.out])
          all_goals
            refine ⟨fun _ h => (by cases h), ?_⟩
            gi_wp2
            go_end0
            exact ⟨⟨_, rfl⟩, .inl ⟨pre, HE.out, abides HJ.out HJ1.out hb⟩⟩
        · obtain ⟨k, rfl⟩ : ∃ k, m = k + 1 := ⟨m - 1, by omega⟩
          have hcm : c ∈ kids g (i : Int) := by rw [← HCH.out, chain, if_pos HQ2.out]; simp
          have HCC := Lib.hid (show (pre ++ [(⟨c, hcm⟩ : Kid g (i : Int))]).map (·.1) ++ chain n g.ne k (at' g.ne c) = kids g (i : Int) from Eq.trans (by simp [chain, HQ2.out]) HCH.out)
          have HLN := Lib.hid (show pre.length < (kids g (i : Int)).length by have h := congrArg List.length HCC.out; simp at h; omega)
          have m1 : (1 : Int) ≤ ((k + 1 : Nat) : Int) := by omega
          gi_wp2_with (refine ⟨trivial, ?_⟩; gi_at_call 46; refine (callsIn_wide.2 (is_n c _)).mono ?_; rintro e w1 ⟨rfl, hb⟩; rw [HQ2.out]; obtain ⟨fn, tmps, assign, body, hy, hR⟩ := HY.out pre ⟨c, hcm⟩ w1 (abides HJ.out HJ1.out hb) HLN.out)
          refine hR.mono ?_
          rintro e W3 (⟨rfl, hJ3, hk3⟩ | ⟨rfl, hJx3⟩)
          · have hs3 : n₀ ≤ W3.heap.size := Nat.le_trans (Nat.le_trans hs hb.size) hk3.1
            have g03 := (hk3.2 Bw q4 (fun h => q7 h.symm)).trans ((hb.block Bw (by omega)).trans g0)
            have g13 := (hk3.2 X q5 (fun h => q8 h.symm)).trans ((hb.block X (by omega)).trans g1)
            have hL3 := (HL.out.below hb).kept hk3 q10 q3
            clear x0 x1 x2 x3 x4 x5 x6 x7 x8 x9 x10 x11 x12 xf
            obtain ⟨x0, x1, x2, x3, x4, x5, x6, x7, x8, x9, x10, x11, x12, xf⟩ := cells13 g03
            obtain ⟨i2, b2, o2, rfl, hi21, hi22, rfl, hb23, hcell2⟩ := at_cell (hL3.rd HP3.out) HQ2.out
            have hib2 : (i2 : Int) < (n : Int) := by omega
            have hi02 : (0 : Int) ≤ (i2 : Int) := by omega
            gi_wp2
            have hwk : wrap64 (k : Int) = k := IntWalk.wrap64_in _ (by have := HN.out; omega)
            exact ⟨⟨k, at' g.ne (i2 : Int), pre ++ [(⟨(i2 : Int), hcm⟩ : Kid g (i : Int))], Nat.le_of_succ_le hm, by rw [hwk], rfl, HCC.out, hJ3, hL3, hs3, g03, g13⟩, by rw [hwk]; simp [intOf]⟩
          · gi_wp2
            go_end0
            exact ⟨⟨_, rfl⟩, .inr ⟨pre ++ [(⟨c, hcm⟩ : Kid g (i : Int))], ⟨_, HCC.out⟩, hJx3⟩⟩
/-- The same, of plain numbers. -/
theorem children_stops {v0 v4 v5 v6 v7 v8 v9 v10 v11 v12 : Value} {A1 A2 A3 : Option Addr} {n c1 c2 c3 : Nat} (g : Wd) (x : Int) (wb w0 : World) (Bw X ob n₀ : Nat) (hg : g.n = n) (hp2 : Rd I wb A2 n g.ch) (hp3 : Rd I wb A3 n g.ne) (hn : n ≤ 17592186043904)
    (h0 : w0.heap[Bw]? = some (.cells #[v0, .slice A1 n c1, .slice A2 n c2, .slice A3 n c3, v4, v5, v6, v7, v8, v9, v10, v11, v12] 31 (0, 0))) (h1 : w0.heap[X]? = some (.cells #[.int .i64 x] 3 (0, 0))) (hl : Low wb w0)
    (q3 : wb.heap.size ≤ ob) (q4 : Bw < n₀) (q5 : X < n₀) (q7 : ob ≠ Bw) (q8 : ob ≠ X) (q9 : n₀ ≤ w0.heap.size) (q10 : wb.heap.size ≤ n₀) :
    SeqStopsK Fence.wide 2 Try.prog 162 #[.pointer (some ⟨Bw, 0, none⟩), .pointer (some ⟨X, 0, none⟩)] (fun c : Int => #[.int .i64 c]) (Kept ob n₀) (fun xs => xs = kids g x) (fun pre => pre <+: kids g x) ((kids g x).length) w0 := by
  intro l J Jx W hW hJ hJx hY hJ0
  refine (children_stopsK g x wb w0 Bw X ob n₀ hg hp2 hp3 hn h0 h1 hl q3 q4 q5 q7 q8 q9 q10 l (fun s => J (s.map (·.1))) (fun s => Jx (s.map (·.1))) W hW (fun s => hJ (s.map (·.1))) (fun s => hJx (s.map (·.1))) (fun pre y U hU hl => ?_) hJ0).mono ?_
  · have h := hY (pre.map (·.1)) y.1 U hU (by simpa using hl)
    simpa using h
  · rintro e U ⟨hv, (⟨xs, hS, h⟩ | ⟨pre, hS, h⟩)⟩
    · exact ⟨hv, .inl ⟨_, hS, h⟩⟩
    · exact ⟨hv, .inr ⟨_, hS, h⟩⟩
end Go.Proofs.Ytncdicagadbafaa.RngC
