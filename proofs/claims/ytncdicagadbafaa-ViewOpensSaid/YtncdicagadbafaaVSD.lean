/- What view.reached owes to whatever loop. Conditions: the world reads, things are within things as they must be, at most 128 of them; a flag for each thing, from 0 to 65535. view.Lit. Conditions: the world reads, things are within things as they must be, at most 128 of them; a flag for each thing, from 0 to 65535. -/
import Derived.Test.YtncdicagadbafaaVB
import Derived.Test.YtncdicagadbafaaVKC
import Derived.Test.YtncdicagadbafaaViewZ
namespace Go.Proofs.Ytncdicagadbafaa.ViewS
open Go Go.RowKit NestP NestW NestX NestY ValP ValW ValX ValR Sq WorldD CopP MoveP LvP MvA AttrP AttrW AttrX AttrY AttrZ AttrU AttrV AttrQ TabD TabW TabX TabB TabR MixP AwkP WoC ViewP ViewW ViewK ViewZ ViewC Rng RngU RngT RngC RngD RngB
attribute [local go_sem] Oper.semAt_some

set_option maxRecDepth 100000 in
set_option maxHeartbeats 4000000 in
theorem reached_stops (g : Wd) (hG : NestP.Good g) (hF : Fl g) (hn : g.n ≤ 128) (x : Int) (wb w0 : World) (Bw X ob : Nat) (cs : Array Value) (hw : Wo wb (.agg cs) g) (h0 : w0.heap[Bw]? = some (.cells cs 31 (0, 0))) (h1 : w0.heap[X]? = some (.cells #[.int .i64 x] 3 (0, 0))) (hl : LowC wb w0)
    (q1 : wb.heap.size ≤ ob) (q2 : ob < w0.heap.size) (q3 : InRow ob wb.heap.size w0) :
    SeqStopsK Fence.wide 2 Try.prog 168 #[.pointer (some ⟨Bw, 0, none⟩), .pointer (some ⟨X, 0, none⟩)] (fun c : Int => #[.int .i64 c]) (KeptR ob) (fun xs => xs = reach g g.n x) (fun p => p <+: reach g g.n x) (reach g g.n x).length w0 := by
  intro l J Jx W hW hJ hJx hY hJ0
  have g0 := (hW.block Bw (Array.getElem?_eq_some_iff.1 h0).1).trans h0
  have g1 := (hW.block X (Array.getElem?_eq_some_iff.1 h1).1).trans h1
  have HC := Lib.hid (walk_y g hG hF hn wb hw l ob (reach g g.n x).length J Jx W.heap.size hJ hY g.n x W [] (by omega) (hl.below hW) q1 (Nat.lt_of_lt_of_le q2 hW.size) (q3.on (Nat.le_trans (Nat.le_of_lt (Nat.lt_of_le_of_lt q1 q2)) (Nat.le_refl _)) (KeptR.below q2 hW)) hJ0 (by simp))
  obtain ⟨A0, A1, A2, A3, A4, A5, A6, n0, c0, n, c1, n2, c2, n3, c3, n4, c4, n5, c5, n6, c6, e, _⟩ := hw
  injection e with e
  subst e
  clear hY hJ hJx hJ0 h0 h1 hl q3
  obtain ⟨x0, x1, x2, x3, x4, x5, x6, x7, x8, x9, x10, x11, x12, xf⟩ := cells13 g0
  obtain ⟨y0, yf⟩ := cell1 g1
  show CallsIn Fence.wide 2 Try.prog 168 #[.func (.yield l) #[] #[], .pointer (some ⟨Bw, 0, none⟩), .pointer (some ⟨X, 0, none⟩)] W _
  refine callsIn_of_wp Try.func168 rfl trivial ?_ rfl
  simp only [Try.ntmps168, List.size_toArray, List.length_cons, List.length_nil, Nat.reduceAdd, Nat.reduceSub, Array.replicate_succ, Array.replicate_zero, List.push_toArray, List.append_toArray, List.nil_append, List.cons_append]
  gi_wp2_with (refine ⟨trivial, ?_⟩; gi_at_call 169; refine (callsIn_wide.2 HC.out).mono ?_; rintro e w5 (⟨rfl, hJ5, hk5⟩ | ⟨rfl, p, hp, hJx5⟩))
  · go_end0
    exact ⟨⟨_, rfl⟩, .inl ⟨_, rfl, by simpa using hJ5⟩⟩
  · go_end0
    exact ⟨⟨_, rfl⟩, .inr ⟨p, hp, by simpa using hJx5⟩⟩

/-- Collect over what is reached, from a world in which the iterator's boxes lie. -/
theorem collect_reached (g : Wd) (hG : NestP.Good g) (hF : Fl g) (hn : g.n ≤ 128) (x : Int) (wb w : World) (Bw X : Nat) (cs : Array Value) (hw : Wo wb (.agg cs) g) (h0 : w.heap[Bw]? = some (.cells cs 31 (0, 0))) (h1 : w.heap[X]? = some (.cells #[.int .i64 x] 3 (0, 0))) (hl : LowC wb w) :
    Calls Try.prog 111 #[.func (.func 168) #[] #[.pointer (some ⟨Bw, 0, none⟩), .pointer (some ⟨X, 0, none⟩)]] w fun e w' => ∃ v, e = .returned v ∧ Sq.Own I 3 w' w.heap.size v (reach g g.n x) ∧ (v = .slice none 0 0 ↔ reach g g.n x = []) ∧ Below w.heap.size w w' := by
  have hb : Below w.heap.size w (w.alloc (.cells #[.slice none 0 0] 23)) := (Below.refl _ _).alloc (Nat.le_refl _) _
  refine collect_k (reach g g.n x) w (Nat.le_trans (reach_len hG x) (by omega)) (enters_of Try.func168 (by kernel_rfl) rfl) ?_
  refine reached_stops g hG hF hn x wb _ Bw X w.heap.size cs hw ((hb.block _ (Array.getElem?_eq_some_iff.1 h0).1).trans h0) ((hb.block _ (Array.getElem?_eq_some_iff.1 h1).1).trans h1) (hl.below hb) hl.1 (by simp) ?_
  intro r hr
  have hbx := Boxed.new w 23 (.slice none 0 0)
  rw [boxRow_box hbx] at hr
  cases hr
end Go.Proofs.Ytncdicagadbafaa.ViewS

namespace Go.Proofs.Ytncdicagadbafaa.ViewD
open Go Go.RowKit NestP NestW NestX NestY ValP ValW ValX ValR Sq WorldD CopP MoveP LvP MvA AttrP AttrW AttrX AttrY AttrZ AttrU AttrV AttrQ TabD TabW TabX TabB TabR MixP AwkP WoC ViewP ViewW ViewK ViewC ViewS Rng RngU RngT RngC RngD RngB
attribute [local go_sem] Oper.semAt_some

theorem block_own {β : Type} (k : Nat) (cs : Array Value) (t : TypeId) (fr : Nat × Nat) : Own (fun (_ : β) W => W.heap[k]? = some (.cells cs t fr)) := fun s X Y row hs hg hrow =>
  (hg.block k (Array.getElem?_eq_some_iff.1 hs).1 (fun e => by
    obtain ⟨o, ho, hc⟩ := hrow k e.symm
    rw [hs] at ho
    injection ho with ho
    subst ho
    cases hc)).trans hs
theorem own_all {β : Type} {I I' : β → World → Prop} (h : Own I) (h' : Own I') : Own (fun s W => I s W ∧ I' s W) := fun s X Y row hs hg hr => ⟨h s X Y row hs.1 hg hr, h' s X Y row hs.2 hg hr⟩
theorem own_say {β : Type} (p : β → Prop) : Own (fun s (_ : World) => p s) := fun _ _ _ _ hs _ _ => hs

theorem low_of {wb W : World} (h : Below wb.heap.size wb W) : LowC wb W := ⟨h.size, fun k _ hk _ => (h.block k (Array.getElem?_eq_some_iff.1 hk).1).trans hk⟩
theorem keeps_below {W W' : World} (B : Nat) (h : Below W.heap.size W W') : KeepsFrom B W W' := ⟨h.size, fun k _ _ hk _ => (h.block k (Array.getElem?_eq_some_iff.1 hk).1).trans hk⟩

set_option maxRecDepth 100000 in
set_option maxHeartbeats 4000000 in
theorem lit_v {v : Value} (t : TbV) (g : Wd) (hG : NestP.Good g) (hF : Fl g) (hn : g.n ≤ 128) (w : World) (ho : Wo w v g) :
    Calls Try.prog 70 #[.agg #[.int .i64 t.ti, .int .i64 t.au, .int .i64 t.rl, .int .i64 t.mx, .slice t.tx.a t.tx.n t.tx.c, .int .i64 t.fl, .slice t.pr.a t.pr.n t.pr.c, .slice t.gl.a t.gl.n t.gl.c, .slice t.th.a t.th.n t.th.c, .slice t.ac.a t.ac.n t.ac.c, .slice t.de.a t.de.n t.de.c, .slice t.fu.a t.fu.n t.fu.c, .slice t.da.a t.da.n t.da.c, .slice t.pm.a t.pm.n t.pm.c, .slice t.lo.a t.lo.n t.lo.c], v] w fun e w' => e = .returned (.bool (litB g)) ∧ Below w.heap.size w w' := by
  obtain ⟨H, hH⟩ : ∃ H, here g = H := ⟨_, rfl⟩
  obtain ⟨q0, hq0⟩ : ∃ q, hasB g H 0 = q := ⟨_, rfl⟩
  have HLIT := Lib.hid (show litB g = (q0 || (reach g g.n H).any fun e => hasB g e 0) by unfold litB; rw [hH, hq0])
  have HH := Lib.hid hH
  have HQ0 := Lib.hid hq0
  have HF := Lib.hid hF
  have HW := Lib.hid ho
  clear hH hq0 hF
  obtain ⟨A0, A1, A2, A3, A4, A5, A6, n0, c0, n, c1, n2, c2, n3, c3, n4, c4, n5, c5, n6, c6, rfl, _⟩ := ho
  refine (callsIn_wide (n := 3)).1 ?_
  refine callsIn_of_wp_marks Try.func70 rfl trivial ?_ rfl
  simp only [Try.ntmps70, List.size_toArray, List.length_cons, List.length_nil, Nat.reduceAdd, Nat.reduceSub, Array.replicate_succ, Array.replicate_zero, List.push_toArray, List.append_toArray, List.nil_append, List.cons_append]
  obtain ⟨w0, hW0⟩ : ∃ w0, ((w.alloc (.cells #[.int .i64 t.ti, .int .i64 t.au, .int .i64 t.rl, .int .i64 t.mx, .slice t.tx.a t.tx.n t.tx.c, .int .i64 t.fl, .slice t.pr.a t.pr.n t.pr.c, .slice t.gl.a t.gl.n t.gl.c, .slice t.th.a t.th.n t.th.c, .slice t.ac.a t.ac.n t.ac.c, .slice t.de.a t.de.n t.de.c, .slice t.fu.a t.fu.n t.fu.c, .slice t.da.a t.da.n t.da.c, .slice t.pm.a t.pm.n t.pm.c, .slice t.lo.a t.lo.n t.lo.c] 28)).alloc (.cells #[.slice A0 n0 c0, .slice A1 n c1, .slice A2 n2 c2, .slice A3 n3 c3, .slice A4 n4 c4, .slice A5 n5 c5, .slice A6 n6 c6, .int .u64 g.seed, .int .i64 g.sc, .int .i64 g.tu, .int .i64 g.ov, .int .i64 g.it, .int .i64 g.go] 31)).alloc (.cells #[.bool false] 4) = w0 := ⟨_, rfl⟩
  obtain ⟨s0, _, HA, HZ, hB0⟩ := alloc3 hW0
  have HB := Lib.hid hB0
  have LA : w.heap.size + 1 < w0.heap.size := by rw [s0]; exact Nat.lt_succ_of_lt (Nat.lt_succ_self _)
  have LZ : w.heap.size + 1 + 1 < w0.heap.size := by rw [s0]; exact Nat.lt_succ_self _
  clear s0 hB0
  obtain ⟨x0, x1, x2, x3, x4, x5, x6, x7, x8, x9, x10, x11, x12, xf⟩ := cells13 HA
  gi_wp2_with (refine ⟨trivial, ?_⟩; gi_at_call 68; refine (callsIn_wide.2 (here_v g _ (SamW.wo_below HW.out HB.out))).mono ?_; rintro e w1 ⟨rfl, hb⟩; rw [HH.out]; have HA1 := (hb.block _ LA).trans HA; have HZ1 := (hb.block _ LZ).trans HZ; have HB1 := Lib.hid (HB.out.trans (hb.mono HB.out.size)); have LA1 := Nat.lt_of_lt_of_le LA hb.size; have LZ1 := Nat.lt_of_lt_of_le LZ hb.size; clear hb hW0 LA LZ HA HZ x0 x1 x2 x3 x4 x5 x6 x7 x8 x9 x10 x11 x12 xf; obtain ⟨x0, x1, x2, x3, x4, x5, x6, x7, x8, x9, x10, x11, x12, xf⟩ := cells13 HA1)
  gi_wp2_with (refine ⟨trivial, ?_⟩; gi_at_call 131; refine (callsIn_wide.2 (has_v g H 0 w1 (SamW.wo_below HW.out HB1.out) HF.out)).mono ?_; rintro e w2 ⟨rfl, hb⟩; rw [HQ0.out]; have HA2 := (hb.block _ LA1).trans HA1; have HZ2 := (hb.block _ LZ1).trans HZ1; have HB2 := Lib.hid (HB1.out.trans (hb.mono HB1.out.size)); have LA2 := Nat.lt_of_lt_of_le LA1 hb.size; have LZ2 := Nat.lt_of_lt_of_le LZ1 hb.size; clear hb LA1 LZ1 HA1 HZ1 x0 x1 x2 x3 x4 x5 x6 x7 x8 x9 x10 x11 x12 xf; obtain ⟨x0, x1, x2, x3, x4, x5, x6, x7, x8, x9, x10, x11, x12, xf⟩ := cells13 HA2; obtain ⟨y0, yf⟩ := cell1 HZ2; cases q0)
  rotate_left
  · have HL2 := Lib.hid (show litB g = true by rw [HLIT.out]; rfl)
    have hc5 : (w2.setCell ⟨w.heap.size + 1 + 1, 0, none⟩ (.bool true)).cell? ⟨w.heap.size + 1 + 1, 0, none⟩ = some (.bool true) := World.cell?_setCell_same' _ _ _ (by rw [y0]; rfl)
    refine ⟨.bool true, ?_, by rw [HL2.out], HB2.out.setCell (p := ⟨w.heap.size + 1 + 1, 0, none⟩) (Nat.le_trans (Nat.le_succ _) (Nat.le_succ _)) _⟩
    simp [results, Try.f70, go_sem, hc5]
  · refine ⟨trivial, ?_⟩
    refine (callsIn_wide.2 (reached_i g H w2 (SamW.wo_below HW.out HB2.out))).mono ?_
    rintro e w3 ⟨rfl, hb, hs3, ⟨cs, hcs, f3⟩, f4⟩
    have HA3 := (hb.block _ LA2).trans HA2
    have HZ3 := (hb.block _ LZ2).trans HZ2
    have HB3 := Lib.hid (HB2.out.trans (hb.mono HB2.out.size))
    have LZ3 := Nat.lt_of_lt_of_le LZ2 hb.size
    have HW2 := Lib.hid (show Wo w (.agg cs) g from hcs ▸ HW.out)
    have HLT := Lib.hid (show litB g = ((reach g g.n H).any fun e => hasB g e 0) by rw [HLIT.out]; rfl)
    have hwb : w.heap.size ≤ w.heap.size + 1 + 1 := Nat.le_trans (Nat.le_succ _) (Nat.le_succ _)
    clear x0 x1 x2 x3 x4 x5 x6 x7 x8 x9 x10 x11 x12 xf y0 yf hb LA2 LZ2 HA2 HZ2 hcs hs3 HLIT
    gi_wp2
    refine wpIn_rangeFunc_ownG rfl (by omega) (gf := 168) (lb := #[.pointer (some ⟨w2.heap.size, 0, none⟩), .pointer (some ⟨w2.heap.size + 1, 0, none⟩)]) rfl trivial (enters_of Try.func168 (by kernel_rfl) rfl)
      (reached_stops g hG HF.out hn H w w3 w2.heap.size (w2.heap.size + 1) (w.heap.size + 1 + 1) cs HW2.out f3 f4 (low_of HB3.out) hwb LZ3 (fun r hr => by rw [boxRow_box (show Boxed w3 _ _ _ from HZ3)] at hr; cases hr)) KeptR.t (KeptR.b LZ3) (Below.refl _ _) (fun _ => rfl)
      (fun pre W => ((W.heap[w.heap.size + 1]? = some (.cells #[.slice A0 n0 c0, .slice A1 n c1, .slice A2 n2 c2, .slice A3 n3 c3, .slice A4 n4 c4, .slice A5 n5 c5, .slice A6 n6 c6, .int .u64 g.seed, .int .i64 g.sc, .int .i64 g.tu, .int .i64 g.ov, .int .i64 g.it, .int .i64 g.go] 31 (0, 0)) ∧ W.heap[w.heap.size + 1 + 1]? = some (.cells #[.bool false] 4 (0, 0))) ∧ (pre.any fun e => hasB g e 0) = false) ∧ Below w.heap.size w W)
      (fun c pre W => ((c = .ret ∧ (pre.any fun e => hasB g e 0) = true) ∧ W.heap[w.heap.size + 1 + 1]? = some (.cells #[.bool true] 4 (0, 0))) ∧ Below w.heap.size w W)
      (OwnFrom.and (Own.from (own_all (own_all (block_own _ _ _ _) (block_own _ _ _ _)) (own_say _)) _) (ownFrom_below (Nat.le_refl _) HB3.out.size))
      (fun c => OwnFrom.and (Own.from (own_all (own_say _) (block_own _ _ _ _)) _) (ownFrom_below (Nat.le_refl _) HB3.out.size))
      ⟨⟨⟨HA3, HZ3⟩, rfl⟩, HB3.out⟩
      (fun x => { tmps := #[.agg #[.int .i64 t.ti, .int .i64 t.au, .int .i64 t.rl, .int .i64 t.mx, .slice t.tx.a t.tx.n t.tx.c, .int .i64 t.fl, .slice t.pr.a t.pr.n t.pr.c, .slice t.gl.a t.gl.n t.gl.c, .slice t.th.a t.th.n t.th.c, .slice t.ac.a t.ac.n t.ac.c, .slice t.de.a t.de.n t.de.c, .slice t.fu.a t.fu.n t.fu.c, .slice t.da.a t.da.n t.da.c, .slice t.pm.a t.pm.n t.pm.c, .slice t.lo.a t.lo.n t.lo.c], .agg #[.slice A0 n0 c0, .slice A1 n c1, .slice A2 n2 c2, .slice A3 n3 c3, .slice A4 n4 c4, .slice A5 n5 c5, .slice A6 n6 c6, .int .u64 g.seed, .int .i64 g.sc, .int .i64 g.tu, .int .i64 g.ov, .int .i64 g.it, .int .i64 g.go], .pointer (some ⟨w.heap.size, 0, none⟩), .pointer (some ⟨w.heap.size + 1, 0, none⟩), .pointer (some ⟨w.heap.size + 1 + 1, 0, none⟩), .int .i64 H, .int .i64 x, .agg #[.slice A0 n0 c0, .slice A1 n c1, .slice A2 n2 c2, .slice A3 n3 c3, .slice A4 n4 c4, .slice A5 n5 c5, .slice A6 n6 c6, .int .u64 g.seed, .int .i64 g.sc, .int .i64 g.tu, .int .i64 g.ov, .int .i64 g.it, .int .i64 g.go], .int .i64 H, .agg #[.slice A0 n0 c0, .slice A1 n c1, .slice A2 n2 c2, .slice A3 n3 c3, .slice A4 n4 c4, .slice A5 n5 c5, .slice A6 n6 c6, .int .u64 g.seed, .int .i64 g.sc, .int .i64 g.tu, .int .i64 g.ov, .int .i64 g.it, .int .i64 g.go], .int .i64 H, .bool false, .agg #[.slice A0 n0 c0, .slice A1 n c1, .slice A2 n2 c2, .slice A3 n3 c3, .slice A4 n4 c4, .slice A5 n5 c5, .slice A6 n6 c6, .int .u64 g.seed, .int .i64 g.sc, .int .i64 g.tu, .int .i64 g.ov, .int .i64 g.it, .int .i64 g.go], .int .i64 H, .func (.func 168) #[] #[.pointer (some ⟨w2.heap.size, 0, none⟩), .pointer (some ⟨w2.heap.size + 1, 0, none⟩)], .int .i64 x, undef, undef, undef], defers := [] }) ?assign ?body ?done ?stop
    case assign =>
      intro l x W K hK
      gi_wp2
      exact hK
    case body =>
      rintro l pre x W ⟨⟨⟨hA, hZ⟩, hp⟩, hBW⟩ _
      obtain ⟨x0, x1, x2, x3, x4, x5, x6, x7, x8, x9, x10, x11, x12, xf⟩ := cells13 hA
      obtain ⟨y0, yf⟩ := cell1 hZ
      obtain ⟨q, hq⟩ : ∃ q, hasB g x 0 = q := ⟨_, rfl⟩
      have HQ := Lib.hid hq
      have HBW := Lib.hid hBW
      have HP := Lib.hid hp
      have LAW := (Array.getElem?_eq_some_iff.1 hA).1
      have LZW := (Array.getElem?_eq_some_iff.1 hZ).1
      clear hq hBW hp
      gi_wp2_with (refine ⟨trivial, ?_⟩; gi_at_call 131; refine (CallsIn.inRound l (callsIn_wide.2 (has_v g x 0 W (SamW.wo_below HW.out HBW.out) HF.out))).mono ?_; rintro e w4 ⟨rfl, hb4⟩; rw [HQ.out]; have hZ4 := (hb4.block _ LZW).trans hZ; have hA4 := (hb4.block _ LAW).trans hA; clear x0 x1 x2 x3 x4 x5 x6 x7 x8 x9 x10 x11 x12 xf y0 yf; obtain ⟨y0, yf⟩ := cell1 hZ4; have HB4 := Lib.hid hb4; clear hb4; cases q)
      · exact ⟨keeps_below _ HB4.out, KeptR.below LZW HB4.out, ⟨⟨hA4, hZ4⟩, by rw [List.any_append, HP.out]; simp [HQ.out]⟩, HBW.out.trans (HB4.out.mono HBW.out.size)⟩
      · refine ⟨(keeps_below _ HB4.out).trans ((KeepsOthers.setCell _ _ _).from _), ⟨⟨rfl, by rw [List.any_append]; simp [HQ.out]⟩, Boxed.set (.bool true) (show Boxed w4 _ _ _ from hZ4)⟩, (HBW.out.trans (HB4.out.mono HBW.out.size)).setCell (p := ⟨w.heap.size + 1 + 1, 0, none⟩) hwb _⟩
    case done =>
      rintro D ys W hD rfl ⟨⟨⟨hA, hZ⟩, hp⟩, hBW⟩ hK
      have HLF := Lib.hid (show litB g = false by rw [HLT.out]; exact hp)
      obtain ⟨y0, yf⟩ := cell1 hZ
      have hDw : w.heap.size ≤ D := Nat.le_trans HB3.out.size hD
      clear hp
      gi_wp2
      have hK' := (KeepsOthers.setCell W ⟨w.heap.size + 1 + 1, 0, none⟩ (.bool false)).same D _ hK rfl
      refine ⟨by simp, .inl ⟨_, _, rfl, run_takeDeferred hK', ?_⟩⟩
      have hc5 := cell_kept (World.cell?_setCell_same' W ⟨w.heap.size + 1 + 1, 0, none⟩ (.bool false) (by rw [y0]; rfl)) (grownBy_putObj' _ D (.deferred none)) (fun r e => by cases e; exact ⟨_, hK', rfl⟩)
      refine ⟨.bool false, ?_, by rw [HLF.out], (hBW.setCell (p := ⟨w.heap.size + 1 + 1, 0, none⟩) hwb _).trans (belowK_b (w := w) (Nat.le_refl _) _ D _ _ hDw hK' rfl rfl)⟩
      simp [results, Try.f70, go_sem, hc5]
    case stop =>
      rintro D c pre W hD hpre ⟨⟨⟨rfl, hp⟩, hZ⟩, hBW⟩ hK
      have HLT2 := Lib.hid (show litB g = true by
        rw [HLT.out]
        obtain ⟨e, he, h2⟩ := List.any_eq_true.1 hp
        exact List.any_eq_true.2 ⟨e, hpre.subset he, h2⟩)
      obtain ⟨y0, yf⟩ := cell1 hZ
      have hDw : w.heap.size ≤ D := Nat.le_trans HB3.out.size hD
      clear hp
      gi_wp2
      refine ⟨by simp, .inl ⟨_, _, rfl, run_takeDeferred hK, ?_⟩⟩
      have hc5 := cell_kept y0 (grownBy_putObj' _ D (.deferred none)) (fun r e => by cases e; exact ⟨_, hK, rfl⟩)
      refine ⟨.bool true, ?_, by rw [HLT2.out], hBW.trans (belowK_b (w := w) (Nat.le_refl _) W D _ _ hDw hK rfl rfl)⟩
      simp [results, Try.f70, go_sem, hc5]
end Go.Proofs.Ytncdicagadbafaa.ViewD
