/- The iterators of nest: what they owe to whatever loop. Conditions: the lists read. -/
import Derived.Test.YtncdicagadbafaaCore
import Derived.Test.YtncdicagadbafaaRng
import Derived.Test.YtncdicagadbafaaValR
import Derived.Test.YtncdicagadbafaaValX
namespace Go.Proofs.Ytncdicagadbafaa.RngU
open Go Go.RowKit NestP NestW NestX NestY ValP ValW ValX ValR Sq Rng
attribute [local go_sem] Oper.semAt_some

theorem grown_of {W W' : World} (h : Below W.heap.size W W') : W.grownBy W' none := ⟨h.os, h.tape, h.output, h.size, fun k hk _ => h.block k hk⟩
theorem abides {β : Type} {J : β → World → Prop} {B : Nat} (hJ : AbidesFrom B J) {s : β} {W W' : World} (h : J s W) (hb : Below W.heap.size W W') : J s W' := hJ s W W' none h (grown_of hb) (fun r e => by cases e)
/-- A round keeps all that lay below n₀ but the block ob. -/
def Kept (ob n₀ : Nat) (W W' : World) : Prop := W.heap.size ≤ W'.heap.size ∧ ∀ k, k < n₀ → k ≠ ob → W'.heap[k]? = W.heap[k]?
theorem Kept.t {ob n₀ : Nat} {A B C : World} (h : Kept ob n₀ A B) (k : Kept ob n₀ B C) : Kept ob n₀ A C := ⟨Nat.le_trans h.1 k.1, fun i hi ho => (k.2 i hi ho).trans (h.2 i hi ho)⟩
theorem Kept.b {ob n₀ : Nat} {w : World} (hn : n₀ ≤ w.heap.size) (W : World) (l : Nat) (o o' : Obj) (hl : w.heap.size ≤ l) (_ : W.heap[l]? = some o) (_ : o.isCells = false) : Kept ob n₀ W (W.putObj l o') :=
  ⟨by simp, fun k hk _ => World.putObj_heap_other (by omega)⟩
theorem Low.below {wb W W' : World} (h : Low wb W) (hb : Below W.heap.size W W') : Low wb W' := ⟨Nat.le_trans h.1 hb.size, fun k hk => (hb.block k (Nat.lt_of_lt_of_le hk h.1)).trans (h.2 k hk)⟩
theorem Low.kept {wb W W' : World} {ob n₀ : Nat} (h : Low wb W) (hk : Kept ob n₀ W W') (h1 : wb.heap.size ≤ n₀) (h2 : wb.heap.size ≤ ob) : Low wb W' := ⟨Nat.le_trans h.1 hk.1, fun k hlt => (hk.2 k (by omega) (by omega)).trans (h.2 k hlt)⟩
theorem Low.set {wb W : World} {X : Nat} {v : Value} (h : Low wb W) (hX : wb.heap.size ≤ X) : Low wb (W.setCell ⟨X, 0, none⟩ v) := ⟨by simpa using h.1, fun k hk => (set_other (by omega)).trans (h.2 k hk)⟩
theorem cell1 {w : World} {g : Nat} {t : TypeId} {z : Value} (h : w.heap[g]? = some (.cells #[z] t (0, 0))) : w.cell? ⟨g, 0, none⟩ = some z ∧ w.frozen? ⟨g, 0, none⟩ = false := by
  constructor <;> simp [World.cell?, World.frozen?, h]

set_option maxRecDepth 100000 in
set_option maxHeartbeats 4000000 in
theorem ups_gives {v0 v4 v5 v6 v7 v8 v9 v10 v11 v12 : Value} {A1 A2 A3 : Option Addr} {n c1 n2 c2 n3 c3 : Nat} (g : Wd) (x : Int) (wb w0 : World) (Bw X ob n₀ : Nat) (hp : Rd I wb A1 n g.pa) (hn : n ≤ 17592186043904)
    (h0 : w0.heap[Bw]? = some (.cells #[v0, .slice A1 n c1, .slice A2 n2 c2, .slice A3 n3 c3, v4, v5, v6, v7, v8, v9, v10, v11, v12] 31 (0, 0))) (h1 : w0.heap[X]? = some (.cells #[.int .i64 x] 3 (0, 0))) (hl : Low wb w0)
    (q1 : wb.heap.size ≤ Bw) (q2 : wb.heap.size ≤ X) (q3 : wb.heap.size ≤ ob) (q4 : Bw < n₀) (q5 : X < n₀) (q6 : Bw ≠ X) (q7 : ob ≠ Bw) (q8 : ob ≠ X) (q9 : n₀ ≤ w0.heap.size) :
    Gives Try.prog 164 #[.pointer (some ⟨Bw, 0, none⟩), .pointer (some ⟨X, 0, none⟩)] (fun c : Int => #[.int .i64 c]) (Kept ob n₀) X (fun xs => xs = ups g x) (fun pre => pre <+: ups g x) ((ups g x).length) w0 := by
  intro l J Jx W hW hJ hJx hF hFx hY hJ0
  have HP := Lib.hid hp
  have HN := Lib.hid hn
  have HGN := Lib.hid (show g.n = n from hp.len.symm)
  have HJ := Lib.hid hJ
  have HJx := Lib.hid hJx
  have HF := Lib.hid hF
  have HFx := Lib.hid hFx
  have HY := Lib.hid hY
  clear hJ hJx hF hFx hY
  have n0 : (0 : Int) ≤ (n : Int) := by omega
  have hL0 : Low wb W := ⟨Nat.le_trans hl.1 hW.size, fun k hk => (hW.block k (Nat.lt_of_lt_of_le hk hl.1)).trans (hl.2 k hk)⟩
  have hs0 : n₀ ≤ W.heap.size := Nat.le_trans q9 hW.size
  have g0 := (hW.block Bw (by omega)).trans h0
  have g1 := (hW.block X (by omega)).trans h1
  have HL := Lib.hid hL0
  clear hl h0 h1 hW hp hn hL0
  obtain ⟨x0, x1, x2, x3, x4, x5, x6, x7, x8, x9, x10, x11, x12, xf⟩ := cells13 g0
  show CallsIn Fence.wide 2 Try.prog 164 #[.func (.yield l) #[] #[], .pointer (some ⟨Bw, 0, none⟩), .pointer (some ⟨X, 0, none⟩)] W _
  refine callsIn_of_wp Try.func164 rfl trivial ?_ rfl
  simp only [Try.ntmps164, List.size_toArray, List.length_cons, List.length_nil, Nat.reduceAdd, Nat.reduceSub, Array.replicate_succ, Array.replicate_zero, List.push_toArray, List.append_toArray, List.nil_append, List.cons_append]
  gi_wp2
  gi_loopw [4] (fun left wr => ∃ (m : Nat) (c : Int) (pre : List Int), m ≤ n ∧ left = .int .i64 (m : Int) ∧ pre ++ chain n g.pa m c = ups g x ∧ J pre wr ∧ Low wb wr ∧ n₀ ≤ wr.heap.size ∧ wr.heap[Bw]? = some (.cells #[v0, .slice A1 n c1, .slice A2 n2 c2, .slice A3 n3 c3, v4, v5, v6, v7, v8, v9, v10, v11, v12] 31 (0, 0)) ∧ wr.heap[X]? = some (.cells #[.int .i64 c] 3 (0, 0)))
    (fun left _ => (intOf left).toNat)
  case atStart => exact ⟨n, x, [], Nat.le_refl _, rfl, by unfold ups; rw [HGN.out]; rfl, hJ0, HL.out, hs0, g0, g1⟩
  case round =>
    clear hJ0 HL hs0 g0 g1 x0 x1 x2 x3 x4 x5 x6 x7 x8 x9 x10 x11 x12 xf
    obtain ⟨m, c, pre, hm, rfl, hch, hJ, hl, hs, g0, g1⟩ := hrel
    have HJ1 := Lib.hid hJ
    have HL := Lib.hid hl
    have HCH := Lib.hid hch
    clear hJ hl hch
    obtain ⟨x0, x1, x2, x3, x4, x5, x6, x7, x8, x9, x10, x11, x12, xf⟩ := cells13 g0
    obtain ⟨y0, yf⟩ := cell1 g1
    obtain ⟨q, hq⟩ : ∃ q, isT n c = q := ⟨_, rfl⟩
    have HQ := Lib.hid hq
    clear hq
    cases q
    · have HE := Lib.hid (show pre = ups g x by rw [← HCH.out]; cases m with
        | zero => simp [chain]
        | succ k => rw [chain, if_neg (by rw [HQ.out]; simp), List.append_nil])
      gi_wp2_with (refine ⟨trivial, ?_⟩; gi_at_call 46; refine (callsIn_wide.2 (is_n c _)).mono ?_; rintro e w1 ⟨rfl, hb⟩; rw [HQ.out])
      all_goals
        refine ⟨fun _ h => (by cases h), ?_⟩
        gi_wp2
        go_end0
        exact ⟨⟨_, rfl⟩, .inl ⟨pre, HE.out, abides HJ.out HJ1.out hb⟩⟩
    · by_cases hm0 : m = 0
      · subst hm0
        have HE := Lib.hid (show pre = ups g x by rw [← HCH.out]; simp [chain])
        gi_wp2_with (refine ⟨trivial, ?_⟩; gi_at_call 46; refine (callsIn_wide.2 (is_n c _)).mono ?_; rintro e w1 ⟨rfl, hb⟩; rw [HQ.out])
        all_goals
          refine ⟨fun _ h => (by cases h), ?_⟩
          gi_wp2
          go_end0
          exact ⟨⟨_, rfl⟩, .inl ⟨pre, HE.out, abides HJ.out HJ1.out hb⟩⟩
      · obtain ⟨k, rfl⟩ : ∃ k, m = k + 1 := ⟨m - 1, by omega⟩
        have HCC := Lib.hid (show (pre ++ [c]) ++ chain n g.pa k (at' g.pa c) = ups g x by rw [← HCH.out, chain, if_pos HQ.out]; simp)
        have HLN := Lib.hid (show pre.length < (ups g x).length by rw [← HCC.out]; simp)
        have m1 : (1 : Int) ≤ ((k + 1 : Nat) : Int) := by omega
        gi_wp2_with (refine ⟨trivial, ?_⟩; gi_at_call 46; refine (callsIn_wide.2 (is_n c _)).mono ?_; rintro e w1 ⟨rfl, hb⟩; rw [HQ.out]; obtain ⟨fn, tmps, assign, body, hy, hR⟩ := HY.out pre c w1 (abides HJ.out HJ1.out hb) HLN.out; have z1 := (cell1 ((hb.block X (by omega)).trans g1)).1)
        refine hR.mono ?_
        rintro e W3 (⟨rfl, hJ3, hk3⟩ | ⟨rfl, hJx3⟩)
        · have hs3 : n₀ ≤ W3.heap.size := Nat.le_trans (Nat.le_trans hs hb.size) hk3.1
          have g03 := (hk3.2 Bw q4 (fun h => q7 h.symm)).trans ((hb.block Bw (by omega)).trans g0)
          have g13 := (hk3.2 X q5 (fun h => q8 h.symm)).trans ((hb.block X (by omega)).trans g1)
          have hL3 := (HL.out.below hb).kept hk3 (by omega) q3
          clear x0 x1 x2 x3 x4 x5 x6 x7 x8 x9 x10 x11 x12 xf y0 yf
          obtain ⟨x0, x1, x2, x3, x4, x5, x6, x7, x8, x9, x10, x11, x12, xf⟩ := cells13 g03
          obtain ⟨y0, yf⟩ := cell1 g13
          obtain ⟨i, b, o, rfl, hi1, hi2, rfl, hb3, hcell⟩ := at_cell (hL3.rd HP.out) HQ.out
          have hib : (i : Int) < (n : Int) := by omega
          have hi0 : (0 : Int) ≤ (i : Int) := by omega
          gi_wp2
          have hwk : wrap64 (k : Int) = k := IntWalk.wrap64_in _ (by have := HN.out; omega)
          exact ⟨⟨k, at' g.pa (i : Int), pre ++ [(i : Int)], Nat.le_of_succ_le hm, by rw [hwk], HCC.out, HF.out _ _ _ hJ3, hL3.set q2, by simpa using hs3, (set_other q6).trans g03, (heapSet g13 0 _).trans (by simp)⟩, by rw [hwk]; simp [intOf]⟩
        · gi_wp2
          go_end0
          exact ⟨⟨_, rfl⟩, .inr ⟨pre ++ [c], ⟨_, HCC.out⟩, hJx3⟩⟩
end Go.Proofs.Ytncdicagadbafaa.RngU
