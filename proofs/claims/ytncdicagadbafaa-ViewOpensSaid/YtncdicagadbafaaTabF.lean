/- Fits of clewref19: some truth value, without a panic; true only of 3 to 128 things, of which the first two are no rooms, and 16 props at most. Conditions: the tables read. -/
import Derived.Test.YtncdicagadbafaaTabL
namespace Go.Proofs.Ytncdicagadbafaa.TabF
open Go Go.RowKit NestP NestW NestX NestY ValR Sq WorldD TabD TabW TabS TabX TabY TabZ TabH TabB TabT TabL MvR

set_option maxRecDepth 100000 in
set_option maxHeartbeats 2000000 in
theorem fits_o (t : TbV) (w : World) (hr : TbR w t) :
    Calls Try.prog 22 #[.agg #[.int .i64 t.ti, .int .i64 t.au, .int .i64 t.rl, .int .i64 t.mx, .slice t.tx.a t.tx.n t.tx.c, .int .i64 t.fl, .slice t.pr.a t.pr.n t.pr.c, .slice t.gl.a t.gl.n t.gl.c, .slice t.th.a t.th.n t.th.c, .slice t.ac.a t.ac.n t.ac.c, .slice t.de.a t.de.n t.de.c, .slice t.fu.a t.fu.n t.fu.c, .slice t.da.a t.da.n t.da.c, .slice t.pm.a t.pm.n t.pm.c, .slice t.lo.a t.lo.n t.lo.c]] w (SomeP (t.pr.n ≤ 16 ∧ ThP t) w) := by
  have hr0 := Lib.hid hr
  clear hr
  go_enter Try.func22, Try.ntmps22
  have HX := Lib.hid (Bx.new w #[.int .i64 t.ti, .int .i64 t.au, .int .i64 t.rl, .int .i64 t.mx, .slice t.tx.a t.tx.n t.tx.c, .int .i64 t.fl, .slice t.pr.a t.pr.n t.pr.c, .slice t.gl.a t.gl.n t.gl.c, .slice t.th.a t.th.n t.th.c, .slice t.ac.a t.ac.n t.ac.c, .slice t.de.a t.de.n t.de.c, .slice t.fu.a t.fu.n t.fu.c, .slice t.da.a t.da.n t.da.c, .slice t.pm.a t.pm.n t.pm.c, .slice t.lo.a t.lo.n t.lo.c] 28)
  obtain ⟨W1, hW1⟩ : ∃ W1, w.alloc (.cells #[.int .i64 t.ti, .int .i64 t.au, .int .i64 t.rl, .int .i64 t.mx, .slice t.tx.a t.tx.n t.tx.c, .int .i64 t.fl, .slice t.pr.a t.pr.n t.pr.c, .slice t.gl.a t.gl.n t.gl.c, .slice t.th.a t.th.n t.th.c, .slice t.ac.a t.ac.n t.ac.c, .slice t.de.a t.de.n t.de.c, .slice t.fu.a t.fu.n t.fu.c, .slice t.da.a t.da.n t.da.c, .slice t.pm.a t.pm.n t.pm.c, .slice t.lo.a t.lo.n t.lo.c] 28) = W1 := ⟨_, rfl⟩
  rw [hW1] at HX
  obtain ⟨x0, x1, x2, x3, x4, x5, x6, x7, x8, x9, x10, x11, x12, x13, x14, xf⟩ := cells15 HX.out.box
  go_wp2_with (first
    | (go_at_call 86; refine (head_o t _ (TbR.below hr0.out HX.out.below)).mono ?_; rintro e w1 ⟨q, rfl, hp, hb⟩; have HP1 := Lib.hid hp; clear hp; have HX2 := Lib.hid (HX.out.on hb); clear HX hb; have HX := HX2; clear HX2; clear x0 x1 x2 x3 x4 x5 x6 x7 x8 x9 x10 x11 x12 x13 x14 xf; obtain ⟨x0, x1, x2, x3, x4, x5, x6, x7, x8, x9, x10, x11, x12, x13, x14, xf⟩ := cells15 HX.out.box; cases q)
    | (go_at_call 87; refine (things_o t _ (TbR.below hr0.out HX.out.below)).mono ?_; rintro e w1 ⟨q, rfl, hp, hb⟩; have HP2 := Lib.hid hp; clear hp; have HX2 := Lib.hid (HX.out.on hb); clear HX hb; have HX := HX2; clear HX2; clear x0 x1 x2 x3 x4 x5 x6 x7 x8 x9 x10 x11 x12 x13 x14 xf; obtain ⟨x0, x1, x2, x3, x4, x5, x6, x7, x8, x9, x10, x11, x12, x13, x14, xf⟩ := cells15 HX.out.box; cases q)
    | (go_at_call 88; refine (rules_o t _ (TbR.below hr0.out HX.out.below)).mono ?_; rintro e w1 ⟨q, rfl, hb⟩; have HX2 := Lib.hid (HX.out.on hb); clear HX hb; have HX := HX2; clear HX2; clear x0 x1 x2 x3 x4 x5 x6 x7 x8 x9 x10 x11 x12 x13 x14 xf; obtain ⟨x0, x1, x2, x3, x4, x5, x6, x7, x8, x9, x10, x11, x12, x13, x14, xf⟩ := cells15 HX.out.box; cases q))
  all_goals
    go_ret
    first
      | exact ⟨_, rfl, (fun h => absurd h (by decide)), HX.out.below⟩
      | exact ⟨_, rfl, (fun _ => ⟨HP1.out (by simp), HP2.out (by simp)⟩), HX.out.below⟩
end Go.Proofs.Ytncdicagadbafaa.TabF
