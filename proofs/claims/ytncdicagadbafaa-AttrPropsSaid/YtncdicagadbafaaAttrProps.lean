/- AttrProps: any prop of any thing, and the world in which it is any other value, are what the document says. Conditions: none beyond what every reading of the arguments gives. -/
import Derived.Test.YtncdicagadbafaaLaw
import Derived.Test.YtncdicagadbafaaAwkB
import Derived.Test.YtncdicagadbafaaAttrQ
import Derived.Test.YtncdicagadbafaaTabF
namespace Go.Proofs.Ytncdicagadbafaa.attrProps
open Go Go.ChangeShapes Go.WideShapes Go.ChangeAt Go.RowKit NestP NestW NestX NestY ValP ValW ValX ValR Sq WorldD CopP MoveP LvP MvA AttrP AttrW AttrX AttrY AttrZ AttrU AttrV AttrQ TabD TabW TabX TabB TabR MixP AwkP

set_option maxRecDepth 100000 in
set_option maxHeartbeats 16000000 in
theorem walk (w : World) (t : TbV) (rt : TbR w t) (v : Value) (g : Wd) (ho : Wo w v g) (x : Int) (_ : (Lit.int .i64 x).wf = true) (p : Int) (_ : (Lit.int .i64 p).wf = true) (m : Int) (_ : (Lit.int .i64 m).wf = true) :
    Calls Try.prog 5 #[.agg #[.int .i64 t.ti, .int .i64 t.au, .int .i64 t.rl, .int .i64 t.mx, .slice t.tx.a t.tx.n t.tx.c, .int .i64 t.fl, .slice t.pr.a t.pr.n t.pr.c, .slice t.gl.a t.gl.n t.gl.c, .slice t.th.a t.th.n t.th.c, .slice t.ac.a t.ac.n t.ac.c, .slice t.de.a t.de.n t.de.c, .slice t.fu.a t.fu.n t.fu.c, .slice t.da.a t.da.n t.da.c, .slice t.pm.a t.pm.n t.pm.c, .slice t.lo.a t.lo.n t.lo.c], v, .int .i64 x, .int .i64 p, .int .i64 m] w fun e w' => e = .returned (.bool true) ∧ Below w.heap.size w w' := by
  obtain ⟨q2, hq2⟩ : ∃ q, rightB t g = q := ⟨_, rfl⟩
  have HR := Lib.hid hq2
  clear hq2
  have ho2 := ho
  obtain ⟨A0, A1, A2, A3, A4, A5, A6, n0, c0, n, c1, n2, c2, n3, c3, n4, c4, n5, c5, n6, c6, rfl, _⟩ := ho2
  go_enter Try.func5, Try.ntmps5
  obtain ⟨w0, hW⟩ : ∃ w0, (w.alloc (.cells #[.int .i64 t.ti, .int .i64 t.au, .int .i64 t.rl, .int .i64 t.mx, .slice t.tx.a t.tx.n t.tx.c, .int .i64 t.fl, .slice t.pr.a t.pr.n t.pr.c, .slice t.gl.a t.gl.n t.gl.c, .slice t.th.a t.th.n t.th.c, .slice t.ac.a t.ac.n t.ac.c, .slice t.de.a t.de.n t.de.c, .slice t.fu.a t.fu.n t.fu.c, .slice t.da.a t.da.n t.da.c, .slice t.pm.a t.pm.n t.pm.c, .slice t.lo.a t.lo.n t.lo.c] 28)).alloc (.cells #[.slice A0 n0 c0, .slice A1 n c1, .slice A2 n2 c2, .slice A3 n3 c3, .slice A4 n4 c4, .slice A5 n5 c5, .slice A6 n6 c6, .int .u64 g.seed, .int .i64 g.sc, .int .i64 g.tu, .int .i64 g.ov, .int .i64 g.it, .int .i64 g.go] 31) = w0 := ⟨_, rfl⟩
  obtain ⟨_, HT, HA, hB⟩ := MvR.alloc2 hW
  have hs : w0.heap.size = w.heap.size + 1 + 1 := by rw [← hW]; simp
  have LT : w.heap.size < w0.heap.size := by omega
  have LA : w.heap.size + 1 < w0.heap.size := by omega
  have HB := Lib.hid hB
  have HTB := Lib.hid (TbR.below rt hB)
  have HOv := Lib.hid (SamW.wo_below ho hB)
  clear hs hB rt ho
  obtain ⟨t0, t1, t2, t3, t4, t5, t6, t7, t8, t9, t10, t11, t12, t13, t14, tf⟩ := cells15 HT
  obtain ⟨x0, x1, x2, x3, x4, x5, x6, x7, x8, x9, x10, x11, x12, xf⟩ := cells13 HA
  go_upto_if 27 with (first
    | (go_at_call 22; (with_reducible refine (TabF.fits_o t _ HTB.out).mono ?_); rintro e w1 ⟨q, rfl, hp, hb⟩; clear hW t0 t1 t2 t3 t4 t5 t6 t7 t8 t9 t10 t11 t12 t13 t14 tf x0 x1 x2 x3 x4 x5 x6 x7 x8 x9 x10 x11 x12 xf; have hc : Below w0.heap.size w0 w1 := hb; have H2 := (hc.block _ LT).trans HT; have L2 := Nat.lt_of_lt_of_le LT hc.size; clear HT LT; have HT := H2; have LT := L2; clear H2 L2; have H2 := (hc.block _ LA).trans HA; have L2 := Nat.lt_of_lt_of_le LA hc.size; clear HA LA; have HA := H2; have LA := L2; clear H2 L2; have H2 := Lib.hid (SamW.wo_below HOv.out hc); clear HOv; have HOv := H2; clear H2; have H2 := Lib.hid (TbR.below HTB.out hc); clear HTB; have HTB := H2; clear H2; have H2 := Lib.hid (HB.out.trans (hc.mono HB.out.size)); clear HB; have HB := H2; clear H2; clear hc hb; obtain ⟨t0, t1, t2, t3, t4, t5, t6, t7, t8, t9, t10, t11, t12, t13, t14, tf⟩ := cells15 HT; obtain ⟨x0, x1, x2, x3, x4, x5, x6, x7, x8, x9, x10, x11, x12, xf⟩ := cells13 HA; have HP := Lib.hid hp; clear hp; cases q)
    | (go_at_call 23; (with_reducible refine (right_i t g _ _ HTB.out HOv.out (HP.out (by simp)).1 (HP.out (by simp)).2).mono ?_); rintro e w2 ⟨rfl, hb⟩; rw [HR.out]; clear t0 t1 t2 t3 t4 t5 t6 t7 t8 t9 t10 t11 t12 t13 t14 tf x0 x1 x2 x3 x4 x5 x6 x7 x8 x9 x10 x11 x12 xf; have hc : Below w1.heap.size w1 w2 := hb; have H2 := (hc.block _ LT).trans HT; have L2 := Nat.lt_of_lt_of_le LT hc.size; clear HT LT; have HT := H2; have LT := L2; clear H2 L2; have H2 := (hc.block _ LA).trans HA; have L2 := Nat.lt_of_lt_of_le LA hc.size; clear HA LA; have HA := H2; have LA := L2; clear H2 L2; have H2 := Lib.hid (SamW.wo_below HOv.out hc); clear HOv; have HOv := H2; clear H2; have H2 := Lib.hid (TbR.below HTB.out hc); clear HTB; have HTB := H2; clear H2; have H2 := Lib.hid (HB.out.trans (hc.mono HB.out.size)); clear HB; have HB := H2; clear H2; clear hc hb; obtain ⟨t0, t1, t2, t3, t4, t5, t6, t7, t8, t9, t10, t11, t12, t13, t14, tf⟩ := cells15 HT; obtain ⟨x0, x1, x2, x3, x4, x5, x6, x7, x8, x9, x10, x11, x12, xf⟩ := cells13 HA; cases q2))
  · go_wp2_with (go_at_call 24; refine (AwkB.awake _).mono ?_; rintro e w99 ⟨rfl, hb⟩; have hz := HB.out.trans (hb.mono HB.out.size))
    go_ret
    exact ⟨rfl, hz⟩
  · go_wp2_with (go_at_call 24; refine (AwkB.awake _).mono ?_; rintro e w99 ⟨rfl, hb⟩; have hz := HB.out.trans (hb.mono HB.out.size))
    go_ret
    exact ⟨rfl, hz⟩
  have hp16 := (HP.out (by simp)).1
  have hThP := (HP.out (by simp)).2
  have HF := Lib.hid (right_fl HR.out)
  have HPL := Lib.hid (right_pl HR.out hp16 hThP)
  obtain ⟨E, hE⟩ : ∃ E, plE g.n t.pr.n x p = E := ⟨_, rfl⟩
  obtain ⟨a, ha⟩ : ∃ a, propV g t.pr.n x p = a := ⟨_, rfl⟩
  obtain ⟨E2, hE2⟩ : ∃ E, putE g t.pr.n x p m = E := ⟨_, rfl⟩
  have HE := Lib.hid hE
  have HH := Lib.hid ha
  have HE2 := Lib.hid hE2
  clear hE ha hE2
  go_wp2_with (first
    | (go_at_call 32; (with_reducible refine (prop_i t g x p _ HTB.out HOv.out HPL.out).mono ?_); rintro e w3 ⟨rfl, hb⟩; rw [HH.out, HE.out]; clear t0 t1 t2 t3 t4 t5 t6 t7 t8 t9 t10 t11 t12 t13 t14 tf x0 x1 x2 x3 x4 x5 x6 x7 x8 x9 x10 x11 x12 xf; have hc : Below w2.heap.size w2 w3 := hb; have H2 := (hc.block _ LT).trans HT; have L2 := Nat.lt_of_lt_of_le LT hc.size; clear HT LT; have HT := H2; have LT := L2; clear H2 L2; have H2 := (hc.block _ LA).trans HA; have L2 := Nat.lt_of_lt_of_le LA hc.size; clear HA LA; have HA := H2; have LA := L2; clear H2 L2; have H2 := Lib.hid (SamW.wo_below HOv.out hc); clear HOv; have HOv := H2; clear H2; have H2 := Lib.hid (TbR.below HTB.out hc); clear HTB; have HTB := H2; clear H2; have H2 := Lib.hid (HB.out.trans (hc.mono HB.out.size)); clear HB; have HB := H2; clear H2; clear hc hb; obtain ⟨t0, t1, t2, t3, t4, t5, t6, t7, t8, t9, t10, t11, t12, t13, t14, tf⟩ := cells15 HT; obtain ⟨x0, x1, x2, x3, x4, x5, x6, x7, x8, x9, x10, x11, x12, xf⟩ := cells13 HA)
    | (go_at_call 33; (with_reducible refine (prop_r t g x p _ HTB.out HOv.out HPL.out).mono ?_); rintro e w4 ⟨rfl, hb⟩; rw [HH.out, HE.out]; clear t0 t1 t2 t3 t4 t5 t6 t7 t8 t9 t10 t11 t12 t13 t14 tf x0 x1 x2 x3 x4 x5 x6 x7 x8 x9 x10 x11 x12 xf; have hc : Below w3.heap.size w3 w4 := hb; have H2 := (hc.block _ LT).trans HT; have L2 := Nat.lt_of_lt_of_le LT hc.size; clear HT LT; have HT := H2; have LT := L2; clear H2 L2; have H2 := (hc.block _ LA).trans HA; have L2 := Nat.lt_of_lt_of_le LA hc.size; clear HA LA; have HA := H2; have LA := L2; clear H2 L2; have H2 := Lib.hid (SamW.wo_below HOv.out hc); clear HOv; have HOv := H2; clear H2; have H2 := Lib.hid (TbR.below HTB.out hc); clear HTB; have HTB := H2; clear H2; have H2 := Lib.hid (HB.out.trans (hc.mono HB.out.size)); clear HB; have HB := H2; clear H2; clear hc hb; obtain ⟨t0, t1, t2, t3, t4, t5, t6, t7, t8, t9, t10, t11, t12, t13, t14, tf⟩ := cells15 HT; obtain ⟨x0, x1, x2, x3, x4, x5, x6, x7, x8, x9, x10, x11, x12, xf⟩ := cells13 HA)
    | (go_at_call 34; (with_reducible refine (put_i t g x p m _ _ HTB.out (ws_of HOv.out) HPL.out).mono ?_); rintro e w5 ⟨vb, rfl, ho, hb⟩; rw [HE2.out]; clear t0 t1 t2 t3 t4 t5 t6 t7 t8 t9 t10 t11 t12 t13 t14 tf x0 x1 x2 x3 x4 x5 x6 x7 x8 x9 x10 x11 x12 xf; have hc : Below w4.heap.size w4 w5 := hb; have H2 := (hc.block _ LT).trans HT; have L2 := Nat.lt_of_lt_of_le LT hc.size; clear HT LT; have HT := H2; have LT := L2; clear H2 L2; have H2 := (hc.block _ LA).trans HA; have L2 := Nat.lt_of_lt_of_le LA hc.size; clear HA LA; have HA := H2; have LA := L2; clear H2 L2; have H2 := Lib.hid (SamW.wo_below HOv.out hc); clear HOv; have HOv := H2; clear H2; have H2 := Lib.hid (TbR.below HTB.out hc); clear HTB; have HTB := H2; clear H2; have H2 := Lib.hid (HB.out.trans (hc.mono HB.out.size)); clear HB; have HB := H2; clear H2; have hx := ho.wo; have HOb := Lib.hid hx; obtain ⟨bA0, bA1, bA2, bA3, bA4, bA5, bA6, bn0, bc0, bn1, bc1, bn2, bc2, bn3, bc3, bn4, bc4, bn5, bc5, bn6, bc6, rfl, _⟩ := hx; have NT := Nat.ne_of_lt LT; have NA := Nat.ne_of_lt LA; clear hc hb; obtain ⟨t0, t1, t2, t3, t4, t5, t6, t7, t8, t9, t10, t11, t12, t13, t14, tf⟩ := cells15 HT; obtain ⟨x0, x1, x2, x3, x4, x5, x6, x7, x8, x9, x10, x11, x12, xf⟩ := cells13 HA)
    | (go_at_call 35; (with_reducible refine (put_r t g x p m _ _ (TbR.below HTB.out ((Below.refl w5.heap.size w5).alloc (Nat.le_refl _) _)) (ws_of (SamW.wo_below HOv.out ((Below.refl w5.heap.size w5).alloc (Nat.le_refl _) _))) HPL.out).mono ?_); rintro e w6 ⟨vc, rfl, ho, hb⟩; rw [HE2.out]; clear NT NA t0 t1 t2 t3 t4 t5 t6 t7 t8 t9 t10 t11 t12 t13 t14 tf x0 x1 x2 x3 x4 x5 x6 x7 x8 x9 x10 x11 x12 xf; have hc : Below w5.heap.size w5 w6 := ((Below.refl w5.heap.size w5).alloc (Nat.le_refl _) _).trans (hb.mono (by simp)); have Hb : w6.heap[w5.heap.size]? = some (.cells #[.slice bA0 bn0 bc0, .slice bA1 bn1 bc1, .slice bA2 bn2 bc2, .slice bA3 bn3 bc3, .slice bA4 bn4 bc4, .slice bA5 bn5 bc5, .slice bA6 bn6 bc6, .int .u64 (putG g t.pr.n x p m).seed, .int .i64 (putG g t.pr.n x p m).sc, .int .i64 (putG g t.pr.n x p m).tu, .int .i64 (putG g t.pr.n x p m).ov, .int .i64 (putG g t.pr.n x p m).it, .int .i64 (putG g t.pr.n x p m).go] 31 (0, 0)) := (hb.block w5.heap.size (by simp)).trans (World.alloc_heap_new w5 _); have Lb : w5.heap.size < w6.heap.size := Nat.lt_of_lt_of_le (by simp) hb.size; have H2 := (hc.block _ LT).trans HT; have L2 := Nat.lt_of_lt_of_le LT hc.size; clear HT LT; have HT := H2; have LT := L2; clear H2 L2; have H2 := (hc.block _ LA).trans HA; have L2 := Nat.lt_of_lt_of_le LA hc.size; clear HA LA; have HA := H2; have LA := L2; clear H2 L2; have H2 := Lib.hid (SamW.wo_below HOv.out hc); clear HOv; have HOv := H2; clear H2; have H2 := Lib.hid (SamW.wo_below HOb.out hc); clear HOb; have HOb := H2; clear H2; have H2 := Lib.hid (TbR.below HTB.out hc); clear HTB; have HTB := H2; clear H2; have H2 := Lib.hid (HB.out.trans (hc.mono HB.out.size)); clear HB; have HB := H2; clear H2; have hx := ho.wo; have HOc := Lib.hid hx; obtain ⟨cA0, cA1, cA2, cA3, cA4, cA5, cA6, cn0, cc0, cn1, cc1, cn2, cc2, cn3, cc3, cn4, cc4, cn5, cc5, cn6, cc6, rfl, _⟩ := hx; have NT := Nat.ne_of_lt LT; have NA := Nat.ne_of_lt LA; have Nb := Nat.ne_of_lt Lb; clear hc hb; obtain ⟨x0, x1, x2, x3, x4, x5, x6, x7, x8, x9, x10, x11, x12, xf⟩ := cells13 Hb)
    | (go_at_call 31; (with_reducible refine (SamW.wsame_t (putG g t.pr.n x p m) _ (SamW.wo_below HOb.out ((Below.refl w6.heap.size w6).alloc (Nat.le_refl _) _)) (SamW.wo_below HOc.out ((Below.refl w6.heap.size w6).alloc (Nat.le_refl _) _))).mono ?_); rintro e w7 ⟨rfl, hb⟩; clear NT NA Nb x0 x1 x2 x3 x4 x5 x6 x7 x8 x9 x10 x11 x12 xf; have hc : Below w6.heap.size w6 w7 := ((Below.refl w6.heap.size w6).alloc (Nat.le_refl _) _).trans (hb.mono (by simp)); have Hc : w7.heap[w6.heap.size]? = some (.cells #[.slice cA0 cn0 cc0, .slice cA1 cn1 cc1, .slice cA2 cn2 cc2, .slice cA3 cn3 cc3, .slice cA4 cn4 cc4, .slice cA5 cn5 cc5, .slice cA6 cn6 cc6, .int .u64 (putG g t.pr.n x p m).seed, .int .i64 (putG g t.pr.n x p m).sc, .int .i64 (putG g t.pr.n x p m).tu, .int .i64 (putG g t.pr.n x p m).ov, .int .i64 (putG g t.pr.n x p m).it, .int .i64 (putG g t.pr.n x p m).go] 31 (0, 0)) := (hb.block w6.heap.size (by simp)).trans (World.alloc_heap_new w6 _); have Lc : w6.heap.size < w7.heap.size := Nat.lt_of_lt_of_le (by simp) hb.size; have H2 := (hc.block _ LT).trans HT; have L2 := Nat.lt_of_lt_of_le LT hc.size; clear HT LT; have HT := H2; have LT := L2; clear H2 L2; have H2 := (hc.block _ LA).trans HA; have L2 := Nat.lt_of_lt_of_le LA hc.size; clear HA LA; have HA := H2; have LA := L2; clear H2 L2; have H2 := (hc.block _ Lb).trans Hb; have L2 := Nat.lt_of_lt_of_le Lb hc.size; clear Hb Lb; have Hb := H2; have Lb := L2; clear H2 L2; have H2 := Lib.hid (SamW.wo_below HOv.out hc); clear HOv; have HOv := H2; clear H2; have H2 := Lib.hid (SamW.wo_below HOb.out hc); clear HOb; have HOb := H2; clear H2; have H2 := Lib.hid (SamW.wo_below HOc.out hc); clear HOc; have HOc := H2; clear H2; have H2 := Lib.hid (TbR.below HTB.out hc); clear HTB; have HTB := H2; clear H2; have H2 := Lib.hid (HB.out.trans (hc.mono HB.out.size)); clear HB; have HB := H2; clear H2; clear hc hb)
    | (go_at_call 24; refine (AwkB.awake _).mono ?_; rintro e w99 ⟨rfl, hb⟩; have hz := HB.out.trans (hb.mono HB.out.size)))
  go_ret
  exact ⟨by simp, hz⟩

theorem own : ownKnob Try.prog.godebug = none := by kernel_rfl

set_option maxRecDepth 100000 in
set_option maxHeartbeats 2000000 in
theorem lifted (os : Os) (started : os.Started) (H : Type) (enc : TypeId × Value → H) :
    ReturnsInHanded {} Try.checked os 5 .any (Rows.attrPropsSpec.pre6 enc Try.prog Try.f5 Rows.attrPropsRow.domain false) (Rows.attrPropsSpec.post enc Try.prog Try.f5 false true false false) := by
  refine returnsInHanded_of_change_sized (C := Try.checked) own started (by kernel_rfl) Try.func5
    (ChangeSpec.witness6 (enc := enc) (C := Try.checked) false ⟨#[], #[.agg #[.int .i64 0, .int .i64 0, .int .i64 0, .int .i64 0, .slice none 0 0, .int .i64 0, .slice none 0 0, .slice none 0 0, .slice none 0 0, .slice none 0 0, .slice none 0 0, .slice none 0 0, .slice none 0 0, .slice none 0 0, .slice none 0 0], .agg #[.slice none 0 0, .slice none 0 0, .slice none 0 0, .slice none 0 0, .slice none 0 0, .slice none 0 0, .slice none 0 0, .int .u64 0, .int .i64 0, .int .i64 0, .int .i64 0, .int .i64 0, .int .i64 0], .int .i64 0, .int .i64 0, .int .i64 0], []⟩ 8 (by kernel_rfl) (by kernel_rfl) (by kernel_rfl) (by kernel_rfl)) ?_
  intro W base args ds gs before hval0 hW hcnd hsz0 _
  have hval : ∀ (j : Nat) t v, Try.f5.params[j]? = some t → args[j]? = some v → Value.okWide Try.prog W .any base t v := hval0
  have hW' := hW
  obtain ⟨p, q, hA0, hV, rfl, hfz, hnd⟩ := hW
  have hA : DataW.TrodAll enc Try.prog W 0 (fun _ => true) true Try.f5.params.toList args.toList ds p := hA0
  rw [Try.params5] at hA hval
  obtain ⟨v0, vs0, d0, ds0, p0, q0, hargs, rfl, rfl, h0, r0⟩ := trodAll_cons hA
  obtain ⟨v1, vs1, d1, ds1, p1, q1, rfl, rfl, rfl, h1, r1⟩ := trodAll_cons r0
  obtain ⟨v2, vs2, d2, ds2, p2, q2, rfl, rfl, rfl, h2, r2⟩ := trodAll_cons r1
  obtain ⟨v3, vs3, d3, ds3, p3, q3, rfl, rfl, rfl, h3, r3⟩ := trodAll_cons r2
  obtain ⟨v4, vs4, d4, ds4, p4, q4, rfl, rfl, rfl, h4, r4⟩ := trodAll_cons r3
  obtain ⟨rfl, rfl, rfl⟩ := trodAll_nil r4
  obtain rfl : args = #[v0, v1, v2, v3, v4] := by cases args; simp_all
  clear hV
  have hsz : (DataW.weightsEach Try.prog (28 :: 31 :: 3 :: 3 :: 3 :: _) (d0 :: d1 :: d2 :: d3 :: d4 :: _)).all (· ≤ reachBytes) = true := hsz0
  obtain ⟨t0, rfl, rt0⟩ := TabD.open_tab (hval 0 28 v0 rfl rfl) h0
  have f1 : WorldD.Fitting d1 31 := by have z := hsz; simp only [DataW.weightsEach, List.all_append, Bool.and_eq_true] at z; exact z.2.1
  obtain ⟨g1, o1⟩ := WorldD.open_wo (hval 1 31 v1 rfl rfl) h1 f1
  obtain ⟨a2, rfl, rfl, rfl, w2⟩ := open_int Try.underlying3 (hval 2 3 v2 rfl rfl) h2
  obtain ⟨a3, rfl, rfl, rfl, w3⟩ := open_int Try.underlying3 (hval 3 3 v3 rfl rfl) h3
  obtain ⟨a4, rfl, rfl, rfl, w4⟩ := open_int Try.underlying3 (hval 4 3 v4 rfl rfl) h4
  clear hA0 hval0
  refine (walk W t0 rt0 v1 g1 o1 a2 w2 a3 w3 a4 w4).mono fun e W' ⟨he, hg⟩ => ?_
  subst he
  exact ⟨_, rfl, Law.post (by kernel_rfl) (by kernel_rfl) Try.underlying4 rfl rfl hW' hg ⟨rfl, rfl, rfl⟩⟩

theorem over : Rows.attrPropsRow.holds Try.pinned (OpenSpec.ofChange Rows.attrPropsSpec) :=
  OpenClaim.holds_of_wide 5 Try.f5 rfl rfl rfl rfl rfl rfl rfl ⟨rfl, rfl, rfl, rfl, rfl⟩ rfl rfl rfl rfl rfl (by kernel_rfl) Try.func5 (by kernel_rfl)
    (of_decide_eq_true (by kernel_rfl)) (by unfold Func.isWrapper; first | (rw [if_pos (by decide +kernel)]; kernel_rfl) | (rw [if_neg (by decide +kernel)]; exact ⟨rfl, rfl⟩))
    (fun os started H enc _ => lifted os started H enc)

/-- The statement. -/
theorem proved : Rows.AttrPropsSaid := over
#print axioms proved
end Go.Proofs.Ytncdicagadbafaa.attrProps
