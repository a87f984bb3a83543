/- ViewTells: where the player is, whether it is lit, what is carried and what is seen, in order, is in any right world what the document says. Conditions: none beyond what every reading of the arguments gives. -/
import Derived.Test.YtncdicagadbafaaVB
import Derived.Test.YtncdicagadbafaaLaw
import Derived.Test.YtncdicagadbafaaViewF
import Derived.Test.YtncdicagadbafaaViewY
import Derived.Test.YtncdicagadbafaaVER
import Derived.Test.YtncdicagadbafaaVOU
import Derived.Test.YtncdicagadbafaaVNA
import Derived.Laws.Rows
namespace Go.Proofs.Ytncdicagadbafaa.viewTells
open Go.ChangeShapes Go.WideShapes Go.ChangeAt
open Go Go.RowKit NestP NestW NestX NestY ValP ValW ValX ValR Sq WorldD CopP MoveP LvP MvA AttrP AttrW AttrX AttrY AttrZ AttrU AttrV AttrQ TabD TabW TabX TabB TabR MixP AwkP WoC ViewP ViewW ViewK ViewC ViewS ViewD ViewE ViewF ViewY ViewR ViewU ViewQ

set_option maxRecDepth 100000 in
set_option maxHeartbeats 16000000 in
theorem walk (w : World) (t : TbV) (rt : TbR w t) (cs : List Value) (g : Wd) (ho : Wo w (.agg cs.toArray) g)  :
    Calls Try.prog 15 #[ScE t cs] w fun e w' => e = .returned (.bool true) ∧ Below w.heap.size w w' := by
  have ho2 := ho
  obtain ⟨A0, A1, A2, A3, A4, A5, A6, n0, c0, n, c1, n2, c2, n3, c3, n4, c4, n5, c5, n6, c6, he, _⟩ := ho2
  obtain rfl : cs = [.slice A0 n0 c0, .slice A1 n c1, .slice A2 n2 c2, .slice A3 n3 c3, .slice A4 n4 c4, .slice A5 n5 c5, .slice A6 n6 c6, .int .u64 g.seed, .int .i64 g.sc, .int .i64 g.tu, .int .i64 g.ov, .int .i64 g.it, .int .i64 g.go] := by
    have h2 : cs.toArray = #[.slice A0 n0 c0, .slice A1 n c1, .slice A2 n2 c2, .slice A3 n3 c3, .slice A4 n4 c4, .slice A5 n5 c5, .slice A6 n6 c6, .int .u64 g.seed, .int .i64 g.sc, .int .i64 g.tu, .int .i64 g.ov, .int .i64 g.it, .int .i64 g.go] := by injection he
    exact congrArg Array.toList h2
  clear he
  show Calls Try.prog 15 #[.agg #[.int .i64 t.ti, .int .i64 t.au, .int .i64 t.rl, .int .i64 t.mx, .slice t.tx.a t.tx.n t.tx.c, .int .i64 t.fl, .slice t.pr.a t.pr.n t.pr.c, .slice t.gl.a t.gl.n t.gl.c, .slice t.th.a t.th.n t.th.c, .slice t.ac.a t.ac.n t.ac.c, .slice t.de.a t.de.n t.de.c, .slice t.fu.a t.fu.n t.fu.c, .slice t.da.a t.da.n t.da.c, .slice t.pm.a t.pm.n t.pm.c, .slice t.lo.a t.lo.n t.lo.c, .slice A0 n0 c0, .slice A1 n c1, .slice A2 n2 c2, .slice A3 n3 c3, .slice A4 n4 c4, .slice A5 n5 c5, .slice A6 n6 c6, .int .u64 g.seed, .int .i64 g.sc, .int .i64 g.tu, .int .i64 g.ov, .int .i64 g.it, .int .i64 g.go]] w _
  go_enter Try.func15, Try.ntmps15
  obtain ⟨w00, hW⟩ : ∃ w0, w.alloc (.cells #[.int .i64 t.ti, .int .i64 t.au, .int .i64 t.rl, .int .i64 t.mx, .slice t.tx.a t.tx.n t.tx.c, .int .i64 t.fl, .slice t.pr.a t.pr.n t.pr.c, .slice t.gl.a t.gl.n t.gl.c, .slice t.th.a t.th.n t.th.c, .slice t.ac.a t.ac.n t.ac.c, .slice t.de.a t.de.n t.de.c, .slice t.fu.a t.fu.n t.fu.c, .slice t.da.a t.da.n t.da.c, .slice t.pm.a t.pm.n t.pm.c, .slice t.lo.a t.lo.n t.lo.c, .slice A0 n0 c0, .slice A1 n c1, .slice A2 n2 c2, .slice A3 n3 c3, .slice A4 n4 c4, .slice A5 n5 c5, .slice A6 n6 c6, .int .u64 g.seed, .int .i64 g.sc, .int .i64 g.tu, .int .i64 g.ov, .int .i64 g.it, .int .i64 g.go] 69) = w0 := ⟨_, rfl⟩
  have HA0 : w00.heap[w.heap.size]? = some (.cells #[.int .i64 t.ti, .int .i64 t.au, .int .i64 t.rl, .int .i64 t.mx, .slice t.tx.a t.tx.n t.tx.c, .int .i64 t.fl, .slice t.pr.a t.pr.n t.pr.c, .slice t.gl.a t.gl.n t.gl.c, .slice t.th.a t.th.n t.th.c, .slice t.ac.a t.ac.n t.ac.c, .slice t.de.a t.de.n t.de.c, .slice t.fu.a t.fu.n t.fu.c, .slice t.da.a t.da.n t.da.c, .slice t.pm.a t.pm.n t.pm.c, .slice t.lo.a t.lo.n t.lo.c, .slice A0 n0 c0, .slice A1 n c1, .slice A2 n2 c2, .slice A3 n3 c3, .slice A4 n4 c4, .slice A5 n5 c5, .slice A6 n6 c6, .int .u64 g.seed, .int .i64 g.sc, .int .i64 g.tu, .int .i64 g.ov, .int .i64 g.it, .int .i64 g.go] 69 (0, 0)) := by rw [← hW]; exact World.alloc_heap_new w _
  have LA0 : w.heap.size < w00.heap.size := by rw [← hW]; simp
  have hB : Below w.heap.size w w00 := by rw [← hW]; exact (Below.refl _ _).alloc (Nat.le_refl _) _
  have HB0 := Lib.hid hB
  have HT0 := Lib.hid rt
  have HO0 := Lib.hid ho
  clear hB rt ho
  go_upto_region 1 with (fail)
  generalize hX : (.agg #[.int .i64 t.ti, .int .i64 t.au, .int .i64 t.rl, .int .i64 t.mx, .slice t.tx.a t.tx.n t.tx.c, .int .i64 t.fl, .slice t.pr.a t.pr.n t.pr.c, .slice t.gl.a t.gl.n t.gl.c, .slice t.th.a t.th.n t.th.c, .slice t.ac.a t.ac.n t.ac.c, .slice t.de.a t.de.n t.de.c, .slice t.fu.a t.fu.n t.fu.c, .slice t.da.a t.da.n t.da.c, .slice t.pm.a t.pm.n t.pm.c, .slice t.lo.a t.lo.n t.lo.c, .slice A0 n0 c0, .slice A1 n c1, .slice A2 n2 c2, .slice A3 n3 c3, .slice A4 n4 c4, .slice A5 n5 c5, .slice A6 n6 c6, .int .u64 g.seed, .int .i64 g.sc, .int .i64 g.tu, .int .i64 g.ov, .int .i64 g.it, .int .i64 g.go] : Value) = X0
  generalize hT : (.agg #[.int .i64 t.ti, .int .i64 t.au, .int .i64 t.rl, .int .i64 t.mx, .slice t.tx.a t.tx.n t.tx.c, .int .i64 t.fl, .slice t.pr.a t.pr.n t.pr.c, .slice t.gl.a t.gl.n t.gl.c, .slice t.th.a t.th.n t.th.c, .slice t.ac.a t.ac.n t.ac.c, .slice t.de.a t.de.n t.de.c, .slice t.fu.a t.fu.n t.fu.c, .slice t.da.a t.da.n t.da.c, .slice t.pm.a t.pm.n t.pm.c, .slice t.lo.a t.lo.n t.lo.c] : Value) = T
  generalize hV : (.agg #[.slice A0 n0 c0, .slice A1 n c1, .slice A2 n2 c2, .slice A3 n3 c3, .slice A4 n4 c4, .slice A5 n5 c5, .slice A6 n6 c6, .int .u64 g.seed, .int .i64 g.sc, .int .i64 g.tu, .int .i64 g.ov, .int .i64 g.it, .int .i64 g.go] : Value) = V at HO0
  have HCR0 := fun (U : World) (h1 : TbR U t) (h2 : Wo U V g) => right_v t g A0 A1 A2 A3 A4 A5 A6 n0 c0 n c1 n2 c2 n3 c3 n4 c4 n5 c5 n6 c6 U h1 (hV ▸ h2)
  rw [hX] at HCR0
  have HCR := Lib.hid HCR0
  clear HCR0
  have hinfo : (Try.prog.info? 69).map (·.size) = some 28 := by kernel_rfl
  go_upto_if 5 with (first
    | (refine wpList_load_row rfl 69 _ rfl w.heap.size ?_ 69 #[.int .i64 t.ti, .int .i64 t.au, .int .i64 t.rl, .int .i64 t.mx, .slice t.tx.a t.tx.n t.tx.c, .int .i64 t.fl, .slice t.pr.a t.pr.n t.pr.c, .slice t.gl.a t.gl.n t.gl.c, .slice t.th.a t.th.n t.th.c, .slice t.ac.a t.ac.n t.ac.c, .slice t.de.a t.de.n t.de.c, .slice t.fu.a t.fu.n t.fu.c, .slice t.da.a t.da.n t.da.c, .slice t.pm.a t.pm.n t.pm.c, .slice t.lo.a t.lo.n t.lo.c, .slice A0 n0 c0, .slice A1 n c1, .slice A2 n2 c2, .slice A3 n3 c3, .slice A4 n4 c4, .slice A5 n5 c5, .slice A6 n6 c6, .int .u64 g.seed, .int .i64 g.sc, .int .i64 g.tu, .int .i64 g.ov, .int .i64 g.it, .int .i64 g.go] (0, 0) _ HA0 Try.underlying69 ?_ ?_ ?_; rfl; rfl; exact hinfo; rw [hX])
    | (go_at_call 66; (with_reducible refine (HCR.out _ (TbR.below HT0.out HB0.out) (SamW.wo_below HO0.out HB0.out)).mono ?_); rintro e w0 ⟨q, rfl, hp, hb⟩; have HA := (hb.block _ LA0).trans HA0; have LA := Nat.lt_of_lt_of_le LA0 hb.size; have HB := Lib.hid (HB0.out.trans (hb.mono HB0.out.size)); clear hW HA0 LA0 hb; cases q))
  · go_wp2_with (go_at_call 67; refine (AwkV.awake _).mono ?_; rintro e w99 ⟨rfl, hb⟩; have hz := HB.out.trans (hb.mono HB.out.size))
    go_ret
    exact ⟨rfl, hz⟩
  have HP := Lib.hid (hp (by simp))
  clear hp
  have HR := Lib.hid HP.out.1
  have HS := Lib.hid (sane HR.out HP.out.2)
  have HTB := Lib.hid (TbR.below HT0.out HB.out)
  have HOv := Lib.hid (SamW.wo_below HO0.out HB.out)
  clear HP HT0 HO0 HB0 HCR
  obtain ⟨S, hSd⟩ : ∃ S : World → Prop, (fun U => U.heap[w.heap.size]? = some (.cells #[.int .i64 t.ti, .int .i64 t.au, .int .i64 t.rl, .int .i64 t.mx, .slice t.tx.a t.tx.n t.tx.c, .int .i64 t.fl, .slice t.pr.a t.pr.n t.pr.c, .slice t.gl.a t.gl.n t.gl.c, .slice t.th.a t.th.n t.th.c, .slice t.ac.a t.ac.n t.ac.c, .slice t.de.a t.de.n t.de.c, .slice t.fu.a t.fu.n t.fu.c, .slice t.da.a t.da.n t.da.c, .slice t.pm.a t.pm.n t.pm.c, .slice t.lo.a t.lo.n t.lo.c, .slice A0 n0 c0, .slice A1 n c1, .slice A2 n2 c2, .slice A3 n3 c3, .slice A4 n4 c4, .slice A5 n5 c5, .slice A6 n6 c6, .int .u64 g.seed, .int .i64 g.sc, .int .i64 g.tu, .int .i64 g.ov, .int .i64 g.it, .int .i64 g.go] 69 (0, 0))) = S := ⟨_, rfl⟩
  have HSB := Lib.hid (show ∀ U, Below w0.heap.size w0 U → S U from fun U h => by rw [← hSd]; exact (h.block _ LA).trans HA)
  have HSC := Lib.hid (show ∀ U, S U → U.cell? ⟨w.heap.size, 0, none⟩ = some (.int .i64 t.ti) ∧ U.cell? ⟨w.heap.size, 1, none⟩ = some (.int .i64 t.au) ∧ U.cell? ⟨w.heap.size, 2, none⟩ = some (.int .i64 t.rl) ∧ U.cell? ⟨w.heap.size, 3, none⟩ = some (.int .i64 t.mx) ∧ U.cell? ⟨w.heap.size, 4, none⟩ = some (.slice t.tx.a t.tx.n t.tx.c) ∧ U.cell? ⟨w.heap.size, 5, none⟩ = some (.int .i64 t.fl) ∧ U.cell? ⟨w.heap.size, 6, none⟩ = some (.slice t.pr.a t.pr.n t.pr.c) ∧ U.cell? ⟨w.heap.size, 7, none⟩ = some (.slice t.gl.a t.gl.n t.gl.c) ∧ U.cell? ⟨w.heap.size, 8, none⟩ = some (.slice t.th.a t.th.n t.th.c) ∧ U.cell? ⟨w.heap.size, 9, none⟩ = some (.slice t.ac.a t.ac.n t.ac.c) ∧ U.cell? ⟨w.heap.size, 10, none⟩ = some (.slice t.de.a t.de.n t.de.c) ∧ U.cell? ⟨w.heap.size, 11, none⟩ = some (.slice t.fu.a t.fu.n t.fu.c) ∧ U.cell? ⟨w.heap.size, 12, none⟩ = some (.slice t.da.a t.da.n t.da.c) ∧ U.cell? ⟨w.heap.size, 13, none⟩ = some (.slice t.pm.a t.pm.n t.pm.c) ∧ U.cell? ⟨w.heap.size, 14, none⟩ = some (.slice t.lo.a t.lo.n t.lo.c) ∧ U.cell? ⟨w.heap.size, 15, none⟩ = some (.slice A0 n0 c0) ∧ U.cell? ⟨w.heap.size, 16, none⟩ = some (.slice A1 n c1) ∧ U.cell? ⟨w.heap.size, 17, none⟩ = some (.slice A2 n2 c2) ∧ U.cell? ⟨w.heap.size, 18, none⟩ = some (.slice A3 n3 c3) ∧ U.cell? ⟨w.heap.size, 19, none⟩ = some (.slice A4 n4 c4) ∧ U.cell? ⟨w.heap.size, 20, none⟩ = some (.slice A5 n5 c5) ∧ U.cell? ⟨w.heap.size, 21, none⟩ = some (.slice A6 n6 c6) ∧ U.cell? ⟨w.heap.size, 22, none⟩ = some (.int .u64 g.seed) ∧ U.cell? ⟨w.heap.size, 23, none⟩ = some (.int .i64 g.sc) ∧ U.cell? ⟨w.heap.size, 24, none⟩ = some (.int .i64 g.tu) ∧ U.cell? ⟨w.heap.size, 25, none⟩ = some (.int .i64 g.ov) ∧ U.cell? ⟨w.heap.size, 26, none⟩ = some (.int .i64 g.it) ∧ U.cell? ⟨w.heap.size, 27, none⟩ = some (.int .i64 g.go) from fun U h => by rw [← hSd] at h; exact cells28 h)
  clear hSd
  have HVL := Lib.hid (show (visible g).length ≤ 1024 from Nat.le_trans (visible_len HS.out) (by omega))
  have HCL := Lib.hid (show (carried g).length ≤ 1024 from Nat.le_trans (reach_len HS.out.good 1) (Nat.le_trans HS.out.hi (by omega)))
  have HC0 := fun (U : World) (h : Wo U V g) => lit_v t g HS.out.good HS.out.fl HS.out.hi U h
  rw [hT] at HC0
  have HC_lit_v := Lib.hid HC0
  clear HC0
  have HC0 := fun (U : World) (h : Wo U V g) => lit_r t g HS.out.good HS.out.fl HS.out.hi U h
  rw [hT] at HC0
  have HC_lit_r := Lib.hid HC0
  clear HC0
  have HC0 := fun (U : World) (h : Wo U V g) => carried_v t g HS.out.good HS.out.fl HS.out.hi U h
  rw [hT] at HC0
  have HC_carried_v := Lib.hid HC0
  clear HC0
  have HC0 := fun (U : World) (h : Wo U V g) => carried_r t g HS.out.good HS.out.fl HS.out.hi U h
  rw [hT] at HC0
  have HC_carried_r := Lib.hid HC0
  clear HC0
  have HC0 := fun (U : World) (h : Wo U V g) => visible_v t g HS.out.good HS.out.fl HS.out.hi U h
  rw [hT] at HC0
  have HC_visible_v := Lib.hid HC0
  clear HC0
  have HC0 := fun (U : World) (h : Wo U V g) => visible_r t g HS.out.good HS.out.fl HS.out.hi U h
  rw [hT] at HC0
  have HC_visible_r := Lib.hid HC0
  clear HC0
  go_wp2_with fail
  have hS0 : S w0.drew := HSB.out _ (Below.drew (Below.refl w0.heap.size w0))
  have HK0 := Lib.hid (Below.drew (Below.refl w0.heap.size w0))
  refine wp_region_held_drew (S := S) (by as_aux_lemma => kernel_rfl) hS0 (fun hHeld => ?_)
  refine Rg.take (i := 0) (t := 7) (v := .pointer (some ⟨w.heap.size, 15, none⟩)) rfl rfl (by as_aux_lemma => kernel_rfl) (by as_aux_lemma => kernel_rfl) (by as_aux_lemma => kernel_rfl) (fun _ _ _ h => h) (by rfl) (by as_aux_lemma => intro w0 hSw; first | (go_simp; done) | (go_simp; with_reducible rfl)) (by assumption) ?_
  simp only [List.setIfInBounds_toArray, List.set_cons_zero, List.set_cons_succ]
  refine Rg.take (i := 1) (t := 8) (v := V) rfl rfl (by as_aux_lemma => kernel_rfl) (by as_aux_lemma => kernel_rfl) (by as_aux_lemma => kernel_rfl) (fun _ _ _ h => h) (by rfl) (by as_aux_lemma => intro w0 hSw; obtain ⟨x0, x1, x2, x3, x4, x5, x6, x7, x8, x9, x10, x11, x12, x13, x14, x15, x16, x17, x18, x19, x20, x21, x22, x23, x24, x25, x26, x27⟩ := HSC.out _ hSw; first | (go_simp; done) | (go_simp; with_reducible rfl)) (by assumption) ?_
  simp only [List.setIfInBounds_toArray, List.set_cons_zero, List.set_cons_succ]
  refine Rg.take (i := 3) (t := 10) (v := .pointer (some ⟨w.heap.size, 15, none⟩)) rfl rfl (by as_aux_lemma => kernel_rfl) (by as_aux_lemma => kernel_rfl) (by as_aux_lemma => kernel_rfl) (fun _ _ _ h => h) (by rfl) (by as_aux_lemma => intro w0 hSw; first | (go_simp; done) | (go_simp; with_reducible rfl)) (by assumption) ?_
  simp only [List.setIfInBounds_toArray, List.set_cons_zero, List.set_cons_succ]
  refine Rg.take (i := 4) (t := 11) (v := V) rfl rfl (by as_aux_lemma => kernel_rfl) (by as_aux_lemma => kernel_rfl) (by as_aux_lemma => kernel_rfl) (fun _ _ _ h => h) (by rfl) (by as_aux_lemma => intro w0 hSw; obtain ⟨x0, x1, x2, x3, x4, x5, x6, x7, x8, x9, x10, x11, x12, x13, x14, x15, x16, x17, x18, x19, x20, x21, x22, x23, x24, x25, x26, x27⟩ := HSC.out _ hSw; first | (go_simp; done) | (go_simp; with_reducible rfl)) (by assumption) ?_
  simp only [List.setIfInBounds_toArray, List.set_cons_zero, List.set_cons_succ]
  refine Rg.one (i := 2) (by as_aux_lemma => kernel_rfl) ?_
  refine Rg.call (i := 2) (t := 9) rfl rfl (by rfl) (by go_simp; exact ⟨rfl, rfl⟩) ?_
  refine (here_v g w0.drew (SamW.wo_below HOv.out HK0.out)).mono ?_
  rintro e w1 ⟨rfl, hb⟩
  have HK1 := Lib.hid (HK0.out.trans (hb.mono HK0.out.size))
  have hS1 : S w1 := HSB.out _ HK1.out
  clear hS0 hb
  refine ⟨_, rfl, S, fun _ h => h, hS1, ?_⟩
  simp only [List.setIfInBounds_toArray, List.set_cons_zero, List.set_cons_succ]
  refine Rg.one (i := 5) (by as_aux_lemma => kernel_rfl) ?_
  refine Rg.call (i := 5) (t := 12) rfl rfl (by rfl) (by go_simp; exact ⟨rfl, rfl⟩) ?_
  refine (here_r g w1 (SamW.wo_below HOv.out HK1.out)).mono ?_
  rintro e w2 ⟨rfl, hb⟩
  have HK2 := Lib.hid (HK1.out.trans (hb.mono HK1.out.size))
  have hS2 : S w2 := HSB.out _ HK2.out
  clear hS1 hb
  refine ⟨_, rfl, S, fun _ h => h, hS2, ?_⟩
  simp only [List.setIfInBounds_toArray, List.set_cons_zero, List.set_cons_succ]
  refine Rg.take (i := 6) (t := 13) (v := .bool true) rfl rfl (by as_aux_lemma => kernel_rfl) (by as_aux_lemma => kernel_rfl) (by as_aux_lemma => kernel_rfl) (fun _ _ _ h => h) (by rfl) (by as_aux_lemma => intro w0 hSw; first | (go_simp; done) | (go_simp; with_reducible rfl)) (by assumption) ?_
  simp only [List.setIfInBounds_toArray, List.set_cons_zero, List.set_cons_succ]
  refine Rg.take (i := 7) (t := 14) (v := .bool true) rfl rfl (by as_aux_lemma => kernel_rfl) (by as_aux_lemma => kernel_rfl) (by as_aux_lemma => kernel_rfl) (fun _ _ _ h => h) (by rfl) (by as_aux_lemma => intro w0 hSw; first | (go_simp; done) | (go_simp; with_reducible rfl)) (by assumption) ?_
  simp only [List.setIfInBounds_toArray, List.set_cons_zero, List.set_cons_succ]
  refine Rg.take (i := 8) (t := 15) (v := .pointer (some ⟨w.heap.size, 0, none⟩)) rfl rfl (by as_aux_lemma => kernel_rfl) (by as_aux_lemma => kernel_rfl) (by as_aux_lemma => kernel_rfl) (fun _ _ _ h => h) (by rfl) (by as_aux_lemma => intro w0 hSw; first | (go_simp; done) | (go_simp; with_reducible rfl)) (by assumption) ?_
  simp only [List.setIfInBounds_toArray, List.set_cons_zero, List.set_cons_succ]
  refine Rg.take (i := 9) (t := 16) (v := T) rfl rfl (by as_aux_lemma => kernel_rfl) (by as_aux_lemma => kernel_rfl) (by as_aux_lemma => kernel_rfl) (fun _ _ _ h => h) (by rfl) (by as_aux_lemma => intro w0 hSw; obtain ⟨x0, x1, x2, x3, x4, x5, x6, x7, x8, x9, x10, x11, x12, x13, x14, x15, x16, x17, x18, x19, x20, x21, x22, x23, x24, x25, x26, x27⟩ := HSC.out _ hSw; first | (go_simp; done) | (go_simp; with_reducible rfl)) (by assumption) ?_
  simp only [List.setIfInBounds_toArray, List.set_cons_zero, List.set_cons_succ]
  refine Rg.take (i := 10) (t := 17) (v := .pointer (some ⟨w.heap.size, 15, none⟩)) rfl rfl (by as_aux_lemma => kernel_rfl) (by as_aux_lemma => kernel_rfl) (by as_aux_lemma => kernel_rfl) (fun _ _ _ h => h) (by rfl) (by as_aux_lemma => intro w0 hSw; first | (go_simp; done) | (go_simp; with_reducible rfl)) (by assumption) ?_
  simp only [List.setIfInBounds_toArray, List.set_cons_zero, List.set_cons_succ]
  refine Rg.take (i := 11) (t := 18) (v := V) rfl rfl (by as_aux_lemma => kernel_rfl) (by as_aux_lemma => kernel_rfl) (by as_aux_lemma => kernel_rfl) (fun _ _ _ h => h) (by rfl) (by as_aux_lemma => intro w0 hSw; obtain ⟨x0, x1, x2, x3, x4, x5, x6, x7, x8, x9, x10, x11, x12, x13, x14, x15, x16, x17, x18, x19, x20, x21, x22, x23, x24, x25, x26, x27⟩ := HSC.out _ hSw; first | (go_simp; done) | (go_simp; with_reducible rfl)) (by assumption) ?_
  simp only [List.setIfInBounds_toArray, List.set_cons_zero, List.set_cons_succ]
  refine Rg.take (i := 13) (t := 20) (v := .pointer (some ⟨w.heap.size, 0, none⟩)) rfl rfl (by as_aux_lemma => kernel_rfl) (by as_aux_lemma => kernel_rfl) (by as_aux_lemma => kernel_rfl) (fun _ _ _ h => h) (by rfl) (by as_aux_lemma => intro w0 hSw; first | (go_simp; done) | (go_simp; with_reducible rfl)) (by assumption) ?_
  simp only [List.setIfInBounds_toArray, List.set_cons_zero, List.set_cons_succ]
  refine Rg.take (i := 14) (t := 21) (v := T) rfl rfl (by as_aux_lemma => kernel_rfl) (by as_aux_lemma => kernel_rfl) (by as_aux_lemma => kernel_rfl) (fun _ _ _ h => h) (by rfl) (by as_aux_lemma => intro w0 hSw; obtain ⟨x0, x1, x2, x3, x4, x5, x6, x7, x8, x9, x10, x11, x12, x13, x14, x15, x16, x17, x18, x19, x20, x21, x22, x23, x24, x25, x26, x27⟩ := HSC.out _ hSw; first | (go_simp; done) | (go_simp; with_reducible rfl)) (by assumption) ?_
  simp only [List.setIfInBounds_toArray, List.set_cons_zero, List.set_cons_succ]
  refine Rg.take (i := 15) (t := 22) (v := .pointer (some ⟨w.heap.size, 15, none⟩)) rfl rfl (by as_aux_lemma => kernel_rfl) (by as_aux_lemma => kernel_rfl) (by as_aux_lemma => kernel_rfl) (fun _ _ _ h => h) (by rfl) (by as_aux_lemma => intro w0 hSw; first | (go_simp; done) | (go_simp; with_reducible rfl)) (by assumption) ?_
  simp only [List.setIfInBounds_toArray, List.set_cons_zero, List.set_cons_succ]
  refine Rg.take (i := 16) (t := 23) (v := V) rfl rfl (by as_aux_lemma => kernel_rfl) (by as_aux_lemma => kernel_rfl) (by as_aux_lemma => kernel_rfl) (fun _ _ _ h => h) (by rfl) (by as_aux_lemma => intro w0 hSw; obtain ⟨x0, x1, x2, x3, x4, x5, x6, x7, x8, x9, x10, x11, x12, x13, x14, x15, x16, x17, x18, x19, x20, x21, x22, x23, x24, x25, x26, x27⟩ := HSC.out _ hSw; first | (go_simp; done) | (go_simp; with_reducible rfl)) (by assumption) ?_
  simp only [List.setIfInBounds_toArray, List.set_cons_zero, List.set_cons_succ]
  refine Rg.one (i := 12) (by as_aux_lemma => kernel_rfl) ?_
  refine Rg.call (i := 12) (t := 19) rfl rfl (by rfl) (by go_simp; exact ⟨rfl, rfl⟩) ?_
  refine (HC_lit_v.out w2 (SamW.wo_below HOv.out HK2.out)).mono ?_
  rintro e w3 ⟨rfl, hb⟩
  have HK3 := Lib.hid (HK2.out.trans (hb.mono HK2.out.size))
  have hS3 : S w3 := HSB.out _ HK3.out
  clear hS2 hb
  refine ⟨_, rfl, S, fun _ h => h, hS3, ?_⟩
  simp only [List.setIfInBounds_toArray, List.set_cons_zero, List.set_cons_succ]
  refine Rg.one (i := 17) (by as_aux_lemma => kernel_rfl) ?_
  refine Rg.call (i := 17) (t := 24) rfl rfl (by rfl) (by go_simp; exact ⟨rfl, rfl⟩) ?_
  refine (HC_lit_r.out w3 (SamW.wo_below HOv.out HK3.out)).mono ?_
  rintro e w4 ⟨rfl, hb⟩
  have HK4 := Lib.hid (HK3.out.trans (hb.mono HK3.out.size))
  have hS4 : S w4 := HSB.out _ HK4.out
  clear hS3 hb
  refine ⟨_, rfl, S, fun _ h => h, hS4, ?_⟩
  simp only [List.setIfInBounds_toArray, List.set_cons_zero, List.set_cons_succ]
  refine Rg.take (i := 18) (t := 25) (v := .bool true) rfl rfl (by as_aux_lemma => kernel_rfl) (by as_aux_lemma => kernel_rfl) (by as_aux_lemma => kernel_rfl) (fun _ _ _ h => h) (by rfl) (by as_aux_lemma => intro w0 hSw; first | (go_simp; done) | (go_simp; with_reducible rfl)) (by assumption) ?_
  simp only [List.setIfInBounds_toArray, List.set_cons_zero, List.set_cons_succ]
  refine Rg.take (i := 19) (t := 26) (v := .bool true) rfl rfl (by as_aux_lemma => kernel_rfl) (by as_aux_lemma => kernel_rfl) (by as_aux_lemma => kernel_rfl) (fun _ _ _ h => h) (by rfl) (by as_aux_lemma => intro w0 hSw; first | (go_simp; done) | (go_simp; with_reducible rfl)) (by assumption) ?_
  simp only [List.setIfInBounds_toArray, List.set_cons_zero, List.set_cons_succ]
  refine Rg.take (i := 20) (t := 27) (v := .bool true) rfl rfl (by as_aux_lemma => kernel_rfl) (by as_aux_lemma => kernel_rfl) (by as_aux_lemma => kernel_rfl) (fun _ _ _ h => h) (by rfl) (by as_aux_lemma => intro w0 hSw; first | (go_simp; done) | (go_simp; with_reducible rfl)) (by assumption) ?_
  simp only [List.setIfInBounds_toArray, List.set_cons_zero, List.set_cons_succ]
  refine Rg.take (i := 21) (t := 28) (v := .pointer (some ⟨w.heap.size, 0, none⟩)) rfl rfl (by as_aux_lemma => kernel_rfl) (by as_aux_lemma => kernel_rfl) (by as_aux_lemma => kernel_rfl) (fun _ _ _ h => h) (by rfl) (by as_aux_lemma => intro w0 hSw; first | (go_simp; done) | (go_simp; with_reducible rfl)) (by assumption) ?_
  simp only [List.setIfInBounds_toArray, List.set_cons_zero, List.set_cons_succ]
  refine Rg.take (i := 22) (t := 29) (v := T) rfl rfl (by as_aux_lemma => kernel_rfl) (by as_aux_lemma => kernel_rfl) (by as_aux_lemma => kernel_rfl) (fun _ _ _ h => h) (by rfl) (by as_aux_lemma => intro w0 hSw; obtain ⟨x0, x1, x2, x3, x4, x5, x6, x7, x8, x9, x10, x11, x12, x13, x14, x15, x16, x17, x18, x19, x20, x21, x22, x23, x24, x25, x26, x27⟩ := HSC.out _ hSw; first | (go_simp; done) | (go_simp; with_reducible rfl)) (by assumption) ?_
  simp only [List.setIfInBounds_toArray, List.set_cons_zero, List.set_cons_succ]
  refine Rg.take (i := 23) (t := 30) (v := .pointer (some ⟨w.heap.size, 15, none⟩)) rfl rfl (by as_aux_lemma => kernel_rfl) (by as_aux_lemma => kernel_rfl) (by as_aux_lemma => kernel_rfl) (fun _ _ _ h => h) (by rfl) (by as_aux_lemma => intro w0 hSw; first | (go_simp; done) | (go_simp; with_reducible rfl)) (by assumption) ?_
  simp only [List.setIfInBounds_toArray, List.set_cons_zero, List.set_cons_succ]
  refine Rg.take (i := 24) (t := 31) (v := V) rfl rfl (by as_aux_lemma => kernel_rfl) (by as_aux_lemma => kernel_rfl) (by as_aux_lemma => kernel_rfl) (fun _ _ _ h => h) (by rfl) (by as_aux_lemma => intro w0 hSw; obtain ⟨x0, x1, x2, x3, x4, x5, x6, x7, x8, x9, x10, x11, x12, x13, x14, x15, x16, x17, x18, x19, x20, x21, x22, x23, x24, x25, x26, x27⟩ := HSC.out _ hSw; first | (go_simp; done) | (go_simp; with_reducible rfl)) (by assumption) ?_
  simp only [List.setIfInBounds_toArray, List.set_cons_zero, List.set_cons_succ]
  refine Rg.take (i := 26) (t := 33) (v := .pointer (some ⟨w.heap.size, 0, none⟩)) rfl rfl (by as_aux_lemma => kernel_rfl) (by as_aux_lemma => kernel_rfl) (by as_aux_lemma => kernel_rfl) (fun _ _ _ h => h) (by rfl) (by as_aux_lemma => intro w0 hSw; first | (go_simp; done) | (go_simp; with_reducible rfl)) (by assumption) ?_
  simp only [List.setIfInBounds_toArray, List.set_cons_zero, List.set_cons_succ]
  refine Rg.take (i := 27) (t := 34) (v := T) rfl rfl (by as_aux_lemma => kernel_rfl) (by as_aux_lemma => kernel_rfl) (by as_aux_lemma => kernel_rfl) (fun _ _ _ h => h) (by rfl) (by as_aux_lemma => intro w0 hSw; obtain ⟨x0, x1, x2, x3, x4, x5, x6, x7, x8, x9, x10, x11, x12, x13, x14, x15, x16, x17, x18, x19, x20, x21, x22, x23, x24, x25, x26, x27⟩ := HSC.out _ hSw; first | (go_simp; done) | (go_simp; with_reducible rfl)) (by assumption) ?_
  simp only [List.setIfInBounds_toArray, List.set_cons_zero, List.set_cons_succ]
  refine Rg.take (i := 28) (t := 35) (v := .pointer (some ⟨w.heap.size, 15, none⟩)) rfl rfl (by as_aux_lemma => kernel_rfl) (by as_aux_lemma => kernel_rfl) (by as_aux_lemma => kernel_rfl) (fun _ _ _ h => h) (by rfl) (by as_aux_lemma => intro w0 hSw; first | (go_simp; done) | (go_simp; with_reducible rfl)) (by assumption) ?_
  simp only [List.setIfInBounds_toArray, List.set_cons_zero, List.set_cons_succ]
  refine Rg.take (i := 29) (t := 36) (v := V) rfl rfl (by as_aux_lemma => kernel_rfl) (by as_aux_lemma => kernel_rfl) (by as_aux_lemma => kernel_rfl) (fun _ _ _ h => h) (by rfl) (by as_aux_lemma => intro w0 hSw; obtain ⟨x0, x1, x2, x3, x4, x5, x6, x7, x8, x9, x10, x11, x12, x13, x14, x15, x16, x17, x18, x19, x20, x21, x22, x23, x24, x25, x26, x27⟩ := HSC.out _ hSw; first | (go_simp; done) | (go_simp; with_reducible rfl)) (by assumption) ?_
  simp only [List.setIfInBounds_toArray, List.set_cons_zero, List.set_cons_succ]
  refine Rg.one (i := 25) (by as_aux_lemma => kernel_rfl) ?_
  refine Rg.call (i := 25) (t := 32) rfl rfl (by rfl) (by go_simp; exact ⟨rfl, rfl⟩) ?_
  refine (HC_carried_v.out w4 (SamW.wo_below HOv.out HK4.out)).mono ?_
  rintro e w5 ⟨u, rfl, ho, hb⟩
  obtain ⟨Ar5, cr5, rfl, _, _⟩ := ho.shape
  have HR5 := Lib.hid ho.rd
  clear ho
  have HK5 := Lib.hid (HK4.out.trans (hb.mono HK4.out.size))
  have hS5 : S w5 := HSB.out _ HK5.out
  clear hS4 hb
  refine ⟨_, rfl, S, fun _ h => h, hS5, ?_⟩
  simp only [List.setIfInBounds_toArray, List.set_cons_zero, List.set_cons_succ]
  refine Rg.one (i := 30) (by as_aux_lemma => kernel_rfl) ?_
  refine Rg.call (i := 30) (t := 37) rfl rfl (by rfl) (by go_simp; exact ⟨rfl, rfl⟩) ?_
  refine (HC_carried_r.out w5 (SamW.wo_below HOv.out HK5.out)).mono ?_
  rintro e w6 ⟨u, rfl, ho, hb⟩
  obtain ⟨Ar6, cr6, rfl, _, _⟩ := ho.shape
  have HR6 := Lib.hid ho.rd
  clear ho
  have HK6 := Lib.hid (HK5.out.trans (hb.mono HK5.out.size))
  have H2 := Lib.hid (HR5.out.below hb)
  clear HR5
  have HR5 := H2
  clear H2
  have hS6 : S w6 := HSB.out _ HK6.out
  clear hS5 hb
  refine ⟨_, rfl, S, fun _ h => h, hS6, ?_⟩
  simp only [List.setIfInBounds_toArray, List.set_cons_zero, List.set_cons_succ]
  refine Rg.one (i := 31) (by as_aux_lemma => kernel_rfl) ?_
  refine Rg.call (i := 31) (t := 38) rfl rfl (by rfl) (by go_simp; exact ⟨rfl, rfl⟩) ?_
  refine (sameInts_t (carried g) w6 HR5.out HR6.out (Nat.le_trans HCL.out (by omega))).mono ?_
  rintro e w7 ⟨rfl, hb⟩
  have HK7 := Lib.hid (HK6.out.trans (hb.mono HK6.out.size))
  have H2 := Lib.hid (HR5.out.below hb)
  clear HR5
  have HR5 := H2
  clear H2
  have H2 := Lib.hid (HR6.out.below hb)
  clear HR6
  have HR6 := H2
  clear H2
  have hS7 : S w7 := HSB.out _ HK7.out
  clear hS6 hb
  refine ⟨_, rfl, S, fun _ h => h, hS7, ?_⟩
  simp only [List.setIfInBounds_toArray, List.set_cons_zero, List.set_cons_succ]
  refine Rg.take (i := 32) (t := 39) (v := .bool true) rfl rfl (by as_aux_lemma => kernel_rfl) (by as_aux_lemma => kernel_rfl) (by as_aux_lemma => kernel_rfl) (fun _ _ _ h => h) (by rfl) (by as_aux_lemma => intro w0 hSw; first | (go_simp; done) | (go_simp; with_reducible rfl)) (by assumption) ?_
  simp only [List.setIfInBounds_toArray, List.set_cons_zero, List.set_cons_succ]
  refine Rg.take (i := 33) (t := 40) (v := .bool true) rfl rfl (by as_aux_lemma => kernel_rfl) (by as_aux_lemma => kernel_rfl) (by as_aux_lemma => kernel_rfl) (fun _ _ _ h => h) (by rfl) (by as_aux_lemma => intro w0 hSw; first | (go_simp; done) | (go_simp; with_reducible rfl)) (by assumption) ?_
  simp only [List.setIfInBounds_toArray, List.set_cons_zero, List.set_cons_succ]
  refine Rg.take (i := 34) (t := 41) (v := .pointer (some ⟨w.heap.size, 0, none⟩)) rfl rfl (by as_aux_lemma => kernel_rfl) (by as_aux_lemma => kernel_rfl) (by as_aux_lemma => kernel_rfl) (fun _ _ _ h => h) (by rfl) (by as_aux_lemma => intro w0 hSw; first | (go_simp; done) | (go_simp; with_reducible rfl)) (by assumption) ?_
  simp only [List.setIfInBounds_toArray, List.set_cons_zero, List.set_cons_succ]
  refine Rg.take (i := 35) (t := 42) (v := T) rfl rfl (by as_aux_lemma => kernel_rfl) (by as_aux_lemma => kernel_rfl) (by as_aux_lemma => kernel_rfl) (fun _ _ _ h => h) (by rfl) (by as_aux_lemma => intro w0 hSw; obtain ⟨x0, x1, x2, x3, x4, x5, x6, x7, x8, x9, x10, x11, x12, x13, x14, x15, x16, x17, x18, x19, x20, x21, x22, x23, x24, x25, x26, x27⟩ := HSC.out _ hSw; first | (go_simp; done) | (go_simp; with_reducible rfl)) (by assumption) ?_
  simp only [List.setIfInBounds_toArray, List.set_cons_zero, List.set_cons_succ]
  refine Rg.take (i := 36) (t := 43) (v := .pointer (some ⟨w.heap.size, 15, none⟩)) rfl rfl (by as_aux_lemma => kernel_rfl) (by as_aux_lemma => kernel_rfl) (by as_aux_lemma => kernel_rfl) (fun _ _ _ h => h) (by rfl) (by as_aux_lemma => intro w0 hSw; first | (go_simp; done) | (go_simp; with_reducible rfl)) (by assumption) ?_
  simp only [List.setIfInBounds_toArray, List.set_cons_zero, List.set_cons_succ]
  refine Rg.take (i := 37) (t := 44) (v := V) rfl rfl (by as_aux_lemma => kernel_rfl) (by as_aux_lemma => kernel_rfl) (by as_aux_lemma => kernel_rfl) (fun _ _ _ h => h) (by rfl) (by as_aux_lemma => intro w0 hSw; obtain ⟨x0, x1, x2, x3, x4, x5, x6, x7, x8, x9, x10, x11, x12, x13, x14, x15, x16, x17, x18, x19, x20, x21, x22, x23, x24, x25, x26, x27⟩ := HSC.out _ hSw; first | (go_simp; done) | (go_simp; with_reducible rfl)) (by assumption) ?_
  simp only [List.setIfInBounds_toArray, List.set_cons_zero, List.set_cons_succ]
  refine Rg.take (i := 39) (t := 46) (v := .pointer (some ⟨w.heap.size, 0, none⟩)) rfl rfl (by as_aux_lemma => kernel_rfl) (by as_aux_lemma => kernel_rfl) (by as_aux_lemma => kernel_rfl) (fun _ _ _ h => h) (by rfl) (by as_aux_lemma => intro w0 hSw; first | (go_simp; done) | (go_simp; with_reducible rfl)) (by assumption) ?_
  simp only [List.setIfInBounds_toArray, List.set_cons_zero, List.set_cons_succ]
  refine Rg.take (i := 40) (t := 47) (v := T) rfl rfl (by as_aux_lemma => kernel_rfl) (by as_aux_lemma => kernel_rfl) (by as_aux_lemma => kernel_rfl) (fun _ _ _ h => h) (by rfl) (by as_aux_lemma => intro w0 hSw; obtain ⟨x0, x1, x2, x3, x4, x5, x6, x7, x8, x9, x10, x11, x12, x13, x14, x15, x16, x17, x18, x19, x20, x21, x22, x23, x24, x25, x26, x27⟩ := HSC.out _ hSw; first | (go_simp; done) | (go_simp; with_reducible rfl)) (by assumption) ?_
  simp only [List.setIfInBounds_toArray, List.set_cons_zero, List.set_cons_succ]
  refine Rg.take (i := 41) (t := 48) (v := .pointer (some ⟨w.heap.size, 15, none⟩)) rfl rfl (by as_aux_lemma => kernel_rfl) (by as_aux_lemma => kernel_rfl) (by as_aux_lemma => kernel_rfl) (fun _ _ _ h => h) (by rfl) (by as_aux_lemma => intro w0 hSw; first | (go_simp; done) | (go_simp; with_reducible rfl)) (by assumption) ?_
  simp only [List.setIfInBounds_toArray, List.set_cons_zero, List.set_cons_succ]
  refine Rg.take (i := 42) (t := 49) (v := V) rfl rfl (by as_aux_lemma => kernel_rfl) (by as_aux_lemma => kernel_rfl) (by as_aux_lemma => kernel_rfl) (fun _ _ _ h => h) (by rfl) (by as_aux_lemma => intro w0 hSw; obtain ⟨x0, x1, x2, x3, x4, x5, x6, x7, x8, x9, x10, x11, x12, x13, x14, x15, x16, x17, x18, x19, x20, x21, x22, x23, x24, x25, x26, x27⟩ := HSC.out _ hSw; first | (go_simp; done) | (go_simp; with_reducible rfl)) (by assumption) ?_
  simp only [List.setIfInBounds_toArray, List.set_cons_zero, List.set_cons_succ]
  refine Rg.one (i := 38) (by as_aux_lemma => kernel_rfl) ?_
  refine Rg.call (i := 38) (t := 45) rfl rfl (by rfl) (by go_simp; exact ⟨rfl, rfl⟩) ?_
  refine (HC_visible_v.out w7 (SamW.wo_below HOv.out HK7.out)).mono ?_
  rintro e w8 ⟨u, rfl, ho, hb⟩
  obtain ⟨Ar8, cr8, rfl, _, _⟩ := ho.shape
  have HR8 := Lib.hid ho.rd
  clear ho
  have HK8 := Lib.hid (HK7.out.trans (hb.mono HK7.out.size))
  have H2 := Lib.hid (HR5.out.below hb)
  clear HR5
  have HR5 := H2
  clear H2
  have H2 := Lib.hid (HR6.out.below hb)
  clear HR6
  have HR6 := H2
  clear H2
  have hS8 : S w8 := HSB.out _ HK8.out
  clear hS7 hb
  refine ⟨_, rfl, S, fun _ h => h, hS8, ?_⟩
  simp only [List.setIfInBounds_toArray, List.set_cons_zero, List.set_cons_succ]
  refine Rg.one (i := 43) (by as_aux_lemma => kernel_rfl) ?_
  refine Rg.call (i := 43) (t := 50) rfl rfl (by rfl) (by go_simp; exact ⟨rfl, rfl⟩) ?_
  refine (HC_visible_r.out w8 (SamW.wo_below HOv.out HK8.out)).mono ?_
  rintro e w9 ⟨u, rfl, ho, hb⟩
  obtain ⟨Ar9, cr9, rfl, _, _⟩ := ho.shape
  have HR9 := Lib.hid ho.rd
  clear ho
  have HK9 := Lib.hid (HK8.out.trans (hb.mono HK8.out.size))
  have H2 := Lib.hid (HR5.out.below hb)
  clear HR5
  have HR5 := H2
  clear H2
  have H2 := Lib.hid (HR6.out.below hb)
  clear HR6
  have HR6 := H2
  clear H2
  have H2 := Lib.hid (HR8.out.below hb)
  clear HR8
  have HR8 := H2
  clear H2
  have hS9 : S w9 := HSB.out _ HK9.out
  clear hS8 hb
  refine ⟨_, rfl, S, fun _ h => h, hS9, ?_⟩
  simp only [List.setIfInBounds_toArray, List.set_cons_zero, List.set_cons_succ]
  refine Rg.one (i := 44) (by as_aux_lemma => kernel_rfl) ?_
  refine Rg.call (i := 44) (t := 51) rfl rfl (by rfl) (by go_simp; exact ⟨rfl, rfl⟩) ?_
  refine (sameInts_t (visible g) w9 HR8.out HR9.out (Nat.le_trans HVL.out (by omega))).mono ?_
  rintro e w10 ⟨rfl, hb⟩
  have HK10 := Lib.hid (HK9.out.trans (hb.mono HK9.out.size))
  have H2 := Lib.hid (HR5.out.below hb)
  clear HR5
  have HR5 := H2
  clear H2
  have H2 := Lib.hid (HR6.out.below hb)
  clear HR6
  have HR6 := H2
  clear H2
  have H2 := Lib.hid (HR8.out.below hb)
  clear HR8
  have HR8 := H2
  clear H2
  have H2 := Lib.hid (HR9.out.below hb)
  clear HR9
  have HR9 := H2
  clear H2
  have hS10 : S w10 := HSB.out _ HK10.out
  clear hS9 hb
  refine ⟨_, rfl, S, fun _ h => h, hS10, ?_⟩
  simp only [List.setIfInBounds_toArray, List.set_cons_zero, List.set_cons_succ]
  refine Rg.take (i := 45) (t := 52) (v := .bool true) rfl rfl (by as_aux_lemma => kernel_rfl) (by as_aux_lemma => kernel_rfl) (by as_aux_lemma => kernel_rfl) (fun _ _ _ h => h) (by rfl) (by as_aux_lemma => intro w0 hSw; first | (go_simp; done) | (go_simp; with_reducible rfl)) (by assumption) ?_
  simp only [List.setIfInBounds_toArray, List.set_cons_zero, List.set_cons_succ]
  refine Rg.take (i := 46) (t := 53) (v := .bool true) rfl rfl (by as_aux_lemma => kernel_rfl) (by as_aux_lemma => kernel_rfl) (by as_aux_lemma => kernel_rfl) (fun _ _ _ h => h) (by rfl) (by as_aux_lemma => intro w0 hSw; first | (go_simp; done) | (go_simp; with_reducible rfl)) (by assumption) ?_
  simp only [List.setIfInBounds_toArray, List.set_cons_zero, List.set_cons_succ]
  refine Rg.one (i := 47) (by as_aux_lemma => kernel_rfl) ?_
  refine Rg.call (i := 47) (t := 54) rfl rfl (by rfl) (by go_simp; exact ⟨rfl, rfl⟩) ?_
  refine (AwkV.awake w10).mono ?_
  rintro e w11 ⟨rfl, hb⟩
  have HK11 := Lib.hid (HK10.out.trans (hb.mono HK10.out.size))
  have H2 := Lib.hid (HR5.out.below hb)
  clear HR5
  have HR5 := H2
  clear H2
  have H2 := Lib.hid (HR6.out.below hb)
  clear HR6
  have HR6 := H2
  clear H2
  have H2 := Lib.hid (HR8.out.below hb)
  clear HR8
  have HR8 := H2
  clear H2
  have H2 := Lib.hid (HR9.out.below hb)
  clear HR9
  have HR9 := H2
  clear H2
  have hS11 : S w11 := HSB.out _ HK11.out
  clear hS10 hb
  refine ⟨_, rfl, S, fun _ h => h, hS11, ?_⟩
  simp only [List.setIfInBounds_toArray, List.set_cons_zero, List.set_cons_succ]
  refine Rg.take (i := 48) (t := 55) (v := .bool true) rfl rfl (by as_aux_lemma => kernel_rfl) (by as_aux_lemma => kernel_rfl) (by as_aux_lemma => kernel_rfl) (fun _ _ _ h => h) (by rfl) (by as_aux_lemma => intro w0 hSw; first | (go_simp; done) | (go_simp; with_reducible rfl)) (by assumption) ?_
  simp only [List.setIfInBounds_toArray, List.set_cons_zero, List.set_cons_succ]
  refine Rg.take (i := 49) (t := 2) (v := .bool true) rfl rfl (by as_aux_lemma => kernel_rfl) (by as_aux_lemma => kernel_rfl) (by as_aux_lemma => kernel_rfl) (fun _ _ _ h => h) (by rfl) (by as_aux_lemma => intro w0 hSw; first | (go_simp; done) | (go_simp; with_reducible rfl)) (by assumption) ?_
  simp only [List.setIfInBounds_toArray, List.set_cons_zero, List.set_cons_succ]
  refine wpAnyH_done (by as_aux_lemma => kernel_rfl) ?_ _
  clear hS11
  go_wp2_with fail
  go_ret
  exact ⟨rfl, HB.out.trans (HK11.out.mono HB.out.size)⟩

theorem own : ownKnob Try.prog.godebug = none := by kernel_rfl

set_option maxRecDepth 100000 in
set_option maxHeartbeats 2000000 in
theorem lifted (os : Os) (started : os.Started) (H : Type) (enc : TypeId × Value → H) :
    ReturnsInHanded {} Try.checked os 15 .any (Rows.viewTellsSpec.pre6 enc Try.prog Try.f15 Rows.viewTellsRow.domain false) (Rows.viewTellsSpec.post enc Try.prog Try.f15 false true false false) := by
  refine returnsInHanded_of_change_sized (C := Try.checked) own started (by kernel_rfl) Try.func15
    (ChangeSpec.witness6 (enc := enc) (C := Try.checked) false ⟨#[], #[.agg #[.int .i64 0, .int .i64 0, .int .i64 0, .int .i64 0, .slice none 0 0, .int .i64 0, .slice none 0 0, .slice none 0 0, .slice none 0 0, .slice none 0 0, .slice none 0 0, .slice none 0 0, .slice none 0 0, .slice none 0 0, .slice none 0 0, .slice none 0 0, .slice none 0 0, .slice none 0 0, .slice none 0 0, .slice none 0 0, .slice none 0 0, .slice none 0 0, .int .u64 0, .int .i64 0, .int .i64 0, .int .i64 0, .int .i64 0, .int .i64 0]], []⟩ 8 (by kernel_rfl) (by kernel_rfl) (by kernel_rfl) (by kernel_rfl)) ?_
  intro W base args ds gs before hval0 hW hcnd hsz0 _
  have hval : ∀ (j : Nat) t v, Try.f15.params[j]? = some t → args[j]? = some v → Value.okWide Try.prog W .any base t v := hval0
  have hW' := hW
  obtain ⟨p, q, hA0, hV, rfl, hfz, hnd⟩ := hW
  have hA : DataW.TrodAll enc Try.prog W 0 (fun _ => true) true Try.f15.params.toList args.toList ds p := hA0
  rw [Try.params15] at hA hval
  obtain ⟨v0, vs0, d0, ds0, p0, q0, hargs, rfl, rfl, h0, r0⟩ := trodAll_cons hA
  obtain ⟨rfl, rfl, rfl⟩ := trodAll_nil r0
  obtain rfl : args = #[v0] := by cases args; simp_all
  clear hV
  have hsz : (DataW.weightsEach Try.prog (69 :: _) (d0 :: _)).all (· ≤ reachBytes) = true := hsz0
  have f0 : WorldD.Fitting d0 69 := by have z := hsz; simp only [DataW.weightsEach, List.all_append, Bool.and_eq_true] at z; exact z.1
  obtain ⟨t0, cs0, g0, rfl, rt0, _, o0⟩ := open_scene (hval 0 69 v0 rfl rfl) h0 f0
  clear hA0 hval0
  refine (walk W t0 rt0 cs0 g0 o0).mono fun e W' ⟨he, hg⟩ => ?_
  subst he
  exact ⟨_, rfl, Law.post (by kernel_rfl) (by kernel_rfl) Try.underlying4 rfl rfl hW' hg ⟨rfl, rfl, rfl⟩⟩

theorem over : Rows.viewTellsRow.holds Try.pinned (OpenSpec.ofChange Rows.viewTellsSpec) :=
  OpenClaim.holds_of_wide 15 Try.f15 rfl rfl rfl rfl rfl rfl rfl ⟨rfl, rfl, rfl, rfl, rfl⟩ rfl rfl rfl rfl rfl (by kernel_rfl) Try.func15 (by kernel_rfl)
    (of_decide_eq_true (by kernel_rfl)) (by unfold Func.isWrapper; first | (rw [if_pos (by decide +kernel)]; kernel_rfl) | (rw [if_neg (by decide +kernel)]; exact ⟨rfl, rfl⟩))
    (fun os started H enc _ => lifted os started H enc)

/-- The statement. -/
theorem proved : Rows.ViewTellsSaid := over
#print axioms proved
end Go.Proofs.Ytncdicagadbafaa.viewTells
