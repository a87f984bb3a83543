/- Laws of other chapters that the chapter on what is seen uses. Conditions: as each says. -/
import Derived.Test.YtncdicagadbafaaRngB
import Derived.Test.YtncdicagadbafaaNestZ
import Derived.Test.YtncdicagadbafaaSamW
import Derived.Test.YtncdicagadbafaaAttrP
import Derived.Test.YtncdicagadbafaaTabR
import Derived.Test.YtncdicagadbafaaTabF
import Derived.Test.YtncdicagadbafaaCore
import Derived.Test.YtncdicagadbafaaLaw
namespace Go.Proofs.Ytncdicagadbafaa.AttrP
end Go.Proofs.Ytncdicagadbafaa.AttrP
namespace Go.Proofs.Ytncdicagadbafaa.AttrQ
end Go.Proofs.Ytncdicagadbafaa.AttrQ
namespace Go.Proofs.Ytncdicagadbafaa.AttrU
end Go.Proofs.Ytncdicagadbafaa.AttrU
namespace Go.Proofs.Ytncdicagadbafaa.AttrV
end Go.Proofs.Ytncdicagadbafaa.AttrV
namespace Go.Proofs.Ytncdicagadbafaa.AttrW
end Go.Proofs.Ytncdicagadbafaa.AttrW
namespace Go.Proofs.Ytncdicagadbafaa.AttrX
end Go.Proofs.Ytncdicagadbafaa.AttrX
namespace Go.Proofs.Ytncdicagadbafaa.AttrY
end Go.Proofs.Ytncdicagadbafaa.AttrY
namespace Go.Proofs.Ytncdicagadbafaa.AttrZ
end Go.Proofs.Ytncdicagadbafaa.AttrZ
namespace Go.Proofs.Ytncdicagadbafaa.Awk
end Go.Proofs.Ytncdicagadbafaa.Awk
namespace Go.Proofs.Ytncdicagadbafaa.AwkP
end Go.Proofs.Ytncdicagadbafaa.AwkP
namespace Go.Proofs.Ytncdicagadbafaa.CopP
end Go.Proofs.Ytncdicagadbafaa.CopP
namespace Go.Proofs.Ytncdicagadbafaa.CopW
end Go.Proofs.Ytncdicagadbafaa.CopW
namespace Go.Proofs.Ytncdicagadbafaa.LvA
end Go.Proofs.Ytncdicagadbafaa.LvA
namespace Go.Proofs.Ytncdicagadbafaa.LvP
end Go.Proofs.Ytncdicagadbafaa.LvP
namespace Go.Proofs.Ytncdicagadbafaa.MixP
end Go.Proofs.Ytncdicagadbafaa.MixP
namespace Go.Proofs.Ytncdicagadbafaa.MoveP
end Go.Proofs.Ytncdicagadbafaa.MoveP
namespace Go.Proofs.Ytncdicagadbafaa.MvA
end Go.Proofs.Ytncdicagadbafaa.MvA
namespace Go.Proofs.Ytncdicagadbafaa.MvW
end Go.Proofs.Ytncdicagadbafaa.MvW
namespace Go.Proofs.Ytncdicagadbafaa.MvX
end Go.Proofs.Ytncdicagadbafaa.MvX
namespace Go.Proofs.Ytncdicagadbafaa.NestP
end Go.Proofs.Ytncdicagadbafaa.NestP
namespace Go.Proofs.Ytncdicagadbafaa.NestW
end Go.Proofs.Ytncdicagadbafaa.NestW
namespace Go.Proofs.Ytncdicagadbafaa.NestX
end Go.Proofs.Ytncdicagadbafaa.NestX
namespace Go.Proofs.Ytncdicagadbafaa.NestY
end Go.Proofs.Ytncdicagadbafaa.NestY
namespace Go.Proofs.Ytncdicagadbafaa.NewP
end Go.Proofs.Ytncdicagadbafaa.NewP
namespace Go.Proofs.Ytncdicagadbafaa.NewW
end Go.Proofs.Ytncdicagadbafaa.NewW
namespace Go.Proofs.Ytncdicagadbafaa.NewX
end Go.Proofs.Ytncdicagadbafaa.NewX
namespace Go.Proofs.Ytncdicagadbafaa.RgIn
end Go.Proofs.Ytncdicagadbafaa.RgIn
namespace Go.Proofs.Ytncdicagadbafaa.Rng
end Go.Proofs.Ytncdicagadbafaa.Rng
namespace Go.Proofs.Ytncdicagadbafaa.RngB
end Go.Proofs.Ytncdicagadbafaa.RngB
namespace Go.Proofs.Ytncdicagadbafaa.RngC
end Go.Proofs.Ytncdicagadbafaa.RngC
namespace Go.Proofs.Ytncdicagadbafaa.RngD
end Go.Proofs.Ytncdicagadbafaa.RngD
namespace Go.Proofs.Ytncdicagadbafaa.RngT
end Go.Proofs.Ytncdicagadbafaa.RngT
namespace Go.Proofs.Ytncdicagadbafaa.RngU
end Go.Proofs.Ytncdicagadbafaa.RngU
namespace Go.Proofs.Ytncdicagadbafaa.TabB
end Go.Proofs.Ytncdicagadbafaa.TabB
namespace Go.Proofs.Ytncdicagadbafaa.TabD
end Go.Proofs.Ytncdicagadbafaa.TabD
namespace Go.Proofs.Ytncdicagadbafaa.TabR
end Go.Proofs.Ytncdicagadbafaa.TabR
namespace Go.Proofs.Ytncdicagadbafaa.TabW
end Go.Proofs.Ytncdicagadbafaa.TabW
namespace Go.Proofs.Ytncdicagadbafaa.TabX
end Go.Proofs.Ytncdicagadbafaa.TabX
namespace Go.Proofs.Ytncdicagadbafaa.ValK
end Go.Proofs.Ytncdicagadbafaa.ValK
namespace Go.Proofs.Ytncdicagadbafaa.ValP
end Go.Proofs.Ytncdicagadbafaa.ValP
namespace Go.Proofs.Ytncdicagadbafaa.ValR
end Go.Proofs.Ytncdicagadbafaa.ValR
namespace Go.Proofs.Ytncdicagadbafaa.ValW
end Go.Proofs.Ytncdicagadbafaa.ValW
namespace Go.Proofs.Ytncdicagadbafaa.ValX
end Go.Proofs.Ytncdicagadbafaa.ValX
namespace Go.Proofs.Ytncdicagadbafaa.ViewC
end Go.Proofs.Ytncdicagadbafaa.ViewC
namespace Go.Proofs.Ytncdicagadbafaa.ViewD
end Go.Proofs.Ytncdicagadbafaa.ViewD
namespace Go.Proofs.Ytncdicagadbafaa.ViewE
end Go.Proofs.Ytncdicagadbafaa.ViewE
namespace Go.Proofs.Ytncdicagadbafaa.ViewF
end Go.Proofs.Ytncdicagadbafaa.ViewF
namespace Go.Proofs.Ytncdicagadbafaa.ViewK
end Go.Proofs.Ytncdicagadbafaa.ViewK
namespace Go.Proofs.Ytncdicagadbafaa.ViewO
end Go.Proofs.Ytncdicagadbafaa.ViewO
namespace Go.Proofs.Ytncdicagadbafaa.ViewP
end Go.Proofs.Ytncdicagadbafaa.ViewP
namespace Go.Proofs.Ytncdicagadbafaa.ViewQ
end Go.Proofs.Ytncdicagadbafaa.ViewQ
namespace Go.Proofs.Ytncdicagadbafaa.ViewR
end Go.Proofs.Ytncdicagadbafaa.ViewR
namespace Go.Proofs.Ytncdicagadbafaa.ViewS
end Go.Proofs.Ytncdicagadbafaa.ViewS
namespace Go.Proofs.Ytncdicagadbafaa.ViewU
end Go.Proofs.Ytncdicagadbafaa.ViewU
namespace Go.Proofs.Ytncdicagadbafaa.ViewW
end Go.Proofs.Ytncdicagadbafaa.ViewW
namespace Go.Proofs.Ytncdicagadbafaa.ViewZ
end Go.Proofs.Ytncdicagadbafaa.ViewZ
namespace Go.Proofs.Ytncdicagadbafaa.WoC
end Go.Proofs.Ytncdicagadbafaa.WoC
namespace Go.Proofs.Ytncdicagadbafaa.WorldD
end Go.Proofs.Ytncdicagadbafaa.WorldD
namespace Go.Proofs.Ytncdicagadbafaa.ValL
open Go Go.RowKit NestP NestW NestX NestY ValP ValW ValX Sq ValK
theorem children_o {v0 v4 v5 v6 v7 v8 v9 v10 v11 v12 : Value} {A1 A2 A3 : Option Addr} {n c1 n2 c2 n3 c3 : Nat} (d : Wd) (x : Int) (w : World) (hp : Rd I w A1 n d.pa) (hc : Rd I w A2 n2 d.ch) (hne : Rd I w A3 n3 d.ne) (hn : n ≤ 17592186043904) :
    Calls Try.prog 49 #[.agg #[v0, .slice A1 n c1, .slice A2 n2 c2, .slice A3 n3 c3, v4, v5, v6, v7, v8, v9, v10, v11, v12], .int .i64 x] w fun e w' => ∃ A c, e = .returned (.slice A (kids d x).length c) ∧ Rd I w' A (kids d x).length (kids d x) ∧ Below w.heap.size w w' := by
  have HC := Lib.hid hc
  have HN := Lib.hid hne
  have HM := Lib.hid hn
  have HK := Lib.hid (show (if isT n x = true then chain n d.ne n (at' d.ch x) else []) = kids d x by unfold kids Wd.n; rw [← hp.len])
  clear hp hc hne hn
  go_enter Try.func49, Try.ntmps49
  go_wp2_with (go_at_call 113; refine (children_r d.ch d.ne x _ (HC.out.alloc _) (HN.out.alloc _) HM.out).mono ?_; rintro e w1 ⟨v, rfl, hown, hb⟩)
  go_ret
  rw [HK.out] at hown
  obtain ⟨A, c, rfl, _, _⟩ := hown.shape
  exact ⟨A, c, rfl, hown.rd, ((Below.refl _ _).alloc (Nat.le_refl _) _).trans (hb.mono (by simp))⟩
end Go.Proofs.Ytncdicagadbafaa.ValL
namespace Go.Proofs.Ytncdicagadbafaa.WoC
open Go Go.RowKit NestP NestW NestX NestY ValP ValW ValX ValR Sq Rng RngU RngT RngC RngD RngB RgIn WorldD CopP CopW MoveP LvP LvA MvW MvX MvA MixP Awk AwkP
variable {v : Value} {w : World}
theorem top_w (g : Wd) (x : Int) (ho : Wo w v g) :
    Calls Try.prog 54 #[v, .int .i64 x] w fun e w' => e = .returned (.int .i64 (top g x)) ∧ Below w.heap.size w w' := by
  obtain ⟨A0, A1, A2, A3, A4, A5, A6, n0, c0, n, c1, n2, c2, n3, c3, n4, c4, n5, c5, n6, c6, rfl, ⟨r0, r1, r2, r3, r4, r5, r6⟩, hu, hw, hb⟩ := ho
  exact top_i g x w r1 hb.2.1
theorem childreno_w (g : Wd) (x : Int) (ho : Wo w v g) :
    Calls Try.prog 49 #[v, .int .i64 x] w fun e w' => ∃ A c, e = .returned (.slice A (kids g x).length c) ∧ Rd I w' A (kids g x).length (kids g x) ∧ Below w.heap.size w w' := by
  obtain ⟨A0, A1, A2, A3, A4, A5, A6, n0, c0, n, c1, n2, c2, n3, c3, n4, c4, n5, c5, n6, c6, rfl, ⟨r0, r1, r2, r3, r4, r5, r6⟩, hu, hw, hb⟩ := ho
  exact ValL.children_o g x w r1 r2 r3 hb.2.1
theorem below_w (g : Wd) (hG : NestP.Good g) (hn : g.n ≤ 1024) (x : Int) (ho : Wo w v g) :
    Calls Try.prog 50 #[v, .int .i64 x] w fun e w' => ∃ A c, e = .returned (.slice A (below g g.n x).length c) ∧ Rd I w' A (below g g.n x).length (below g g.n x) ∧ Below w.heap.size w w' := by
  obtain ⟨A0, A1, A2, A3, A4, A5, A6, n0, c0, n, c1, n2, c2, n3, c3, n4, c4, n5, c5, n6, c6, rfl, ⟨r0, r1, r2, r3, r4, r5, r6⟩, hu, hw, hb⟩ := ho
  have hg : g.n = n := r1.len.symm
  obtain rfl : n2 = n := r2.len.trans (hG.chl.trans hg)
  obtain rfl : n3 = n2 := r3.len.trans (hG.nel.trans hg)
  refine (below_i g hG hg (by omega) g.n x w (by omega) r2 r3).mono ?_
  rintro e w' ⟨u, rfl, ho, hb'⟩
  obtain ⟨A, c, rfl, _, _⟩ := ho.shape
  exact ⟨A, c, rfl, ho.rd, hb'⟩
end Go.Proofs.Ytncdicagadbafaa.WoC
namespace Go.Proofs.Ytncdicagadbafaa.AttrW
open Go Go.RowKit NestP NestW NestX NestY ValP ValW ValX ValR Sq WorldD CopP MoveP MvA AttrP TabX MixP Awk AwkP
set_option maxRecDepth 100000 in
set_option maxHeartbeats 1000000 in
theorem asked_i {A0 A1 A2 A3 A4 A5 A6 : Option Addr} {n0 c0 n c1 n2 c2 n3 c3 n4 c4 n5 c5 n6 c6 : Nat} (g : Wd) (x f : Int) (w : World) :
    Calls Try.prog 97 #[.agg #[.slice A0 n0 c0, .slice A1 n c1, .slice A2 n2 c2, .slice A3 n3 c3, .slice A4 n4 c4, .slice A5 n5 c5, .slice A6 n6 c6, .int .u64 g.seed, .int .i64 g.sc, .int .i64 g.tu, .int .i64 g.ov, .int .i64 g.it, .int .i64 g.go], .int .i64 x, .int .i64 f] w fun e w' => e = .returned (.int .i64 (askN n x f)) ∧ Below w.heap.size w w' := by
  obtain ⟨q, hq⟩ : ∃ q, isT n x = q := ⟨_, rfl⟩
  obtain ⟨a, ha⟩ : ∃ a, decide (f < 0) = a := ⟨_, rfl⟩
  obtain ⟨b, hb⟩ : ∃ b, decide (15 < f) = b := ⟨_, rfl⟩
  have HE := Lib.hid (show askN n x f = if q = true then (if a = true ∨ b = true then 5 else 0) else 11 by unfold askN; rw [hq, ← ha, ← hb]; simp only [decide_eq_true_eq])
  have HQ := Lib.hid hq
  clear hq
  cases q <;> cases a <;> cases b
  all_goals
    go_enter Try.func97, Try.ntmps97
    have HX := Lib.hid (Bx.new w #[.slice A0 n0 c0, .slice A1 n c1, .slice A2 n2 c2, .slice A3 n3 c3, .slice A4 n4 c4, .slice A5 n5 c5, .slice A6 n6 c6, .int .u64 g.seed, .int .i64 g.sc, .int .i64 g.tu, .int .i64 g.ov, .int .i64 g.it, .int .i64 g.go] 31)
    obtain ⟨W1, hW1⟩ : ∃ W1, w.alloc (.cells #[.slice A0 n0 c0, .slice A1 n c1, .slice A2 n2 c2, .slice A3 n3 c3, .slice A4 n4 c4, .slice A5 n5 c5, .slice A6 n6 c6, .int .u64 g.seed, .int .i64 g.sc, .int .i64 g.tu, .int .i64 g.ov, .int .i64 g.it, .int .i64 g.go] 31) = W1 := ⟨_, rfl⟩
    rw [hW1] at HX
    obtain ⟨x0, x1, x2, x3, x4, x5, x6, x7, x8, x9, x10, x11, x12, xf⟩ := cells13 HX.out.box
    go_wp2_with (go_at_call 46; refine (is_n _ _).mono ?_; rintro e w1 ⟨rfl, hb1⟩; rw [HQ.out]; have hb2 := Lib.hid (HX.out.on hb1).below)
    go_ret
    exact ⟨by rw [HE.out]; rfl, hb2.out⟩
set_option maxRecDepth 100000 in
set_option maxHeartbeats 2000000 in
theorem has_i {v : Value} (g : Wd) (x f : Int) (w : World) (ho : Wo w v g) (hF : Fl g) :
    Calls Try.prog 25 #[v, .int .i64 x, .int .i64 f] w fun e w' => e = .returned (.tuple #[.bool (hasB g x f), .int .i64 (askN g.n x f)]) ∧ Below w.heap.size w w' := by
  obtain ⟨A0, A1, A2, A3, A4, A5, A6, n0, c0, n, c1, n2, c2, n3, c3, n4, c4, n5, c5, n6, c6, rfl, ⟨r0, r1, r2, r3, r4, r5, r6⟩, hu, hw, hb⟩ := ho
  have hg : g.n = n := r1.len.symm
  have hn4 : n4 = n := r4.len.trans (hF.1.trans hg)
  have HR := Lib.hid r4
  have HB := Lib.hid (hF.at_ x)
  have hbn : n ≤ 17592186043904 := hb.2.1
  clear r0 r1 r2 r3 r4 r5 r6 hu hw hb hF
  obtain rfl : n = n4 := hn4.symm
  rw [hg]
  obtain ⟨E, hE⟩ : ∃ E, askN n x f = E := ⟨_, rfl⟩
  have HE := Lib.hid hE
  have hEE : (E ≠ 0) ∨ E = 0 := (Decidable.em (E = 0)).symm
  have HH := Lib.hid (show hasB g x f = (decide (E = 0) && flB (at' g.fl x) f) by unfold hasB; rw [hg, hE])
  clear hg
  rw [hE, HH.out]
  rcases hEE with hne | rfl
  · have t0 : (E != (0 : Int)) = true := by simpa using hne
    have t1 : decide (E = 0) = false := decide_eq_false hne
    rw [t1]
    clear hE hne t1
    go_enter Try.func25, Try.ntmps25
    have HX := Lib.hid (Bx.new w #[.slice A0 n0 c0, .slice A1 n c1, .slice A2 n2 c2, .slice A3 n3 c3, .slice A4 n c4, .slice A5 n5 c5, .slice A6 n6 c6, .int .u64 g.seed, .int .i64 g.sc, .int .i64 g.tu, .int .i64 g.ov, .int .i64 g.it, .int .i64 g.go] 31)
    obtain ⟨W1, hW1⟩ : ∃ W1, w.alloc (.cells #[.slice A0 n0 c0, .slice A1 n c1, .slice A2 n2 c2, .slice A3 n3 c3, .slice A4 n c4, .slice A5 n5 c5, .slice A6 n6 c6, .int .u64 g.seed, .int .i64 g.sc, .int .i64 g.tu, .int .i64 g.ov, .int .i64 g.it, .int .i64 g.go] 31) = W1 := ⟨_, rfl⟩
    rw [hW1] at HX
    obtain ⟨x0, x1, x2, x3, x4, x5, x6, x7, x8, x9, x10, x11, x12, xf⟩ := cells13 HX.out.box
    go_wp2_with (go_at_call 97; refine (asked_i g _ _ _).mono ?_; rintro e w1 ⟨rfl, hb⟩; rw [HE.out]; have HX2 := Lib.hid (HX.out.on hb); clear HX hb; have HX := HX2; clear HX2; clear x0 x1 x2 x3 x4 x5 x6 x7 x8 x9 x10 x11 x12 xf; obtain ⟨x0, x1, x2, x3, x4, x5, x6, x7, x8, x9, x10, x11, x12, xf⟩ := cells13 HX.out.box)
    go_ret2
    exact ⟨rfl, HX.out.below⟩
  · obtain ⟨hx, hf0, hf1⟩ := ask_ok.1 hE
    obtain ⟨k, b, o, rfl, hk1, hk2, rfl, hbb, hcell⟩ := at_cell HR.out hx
    obtain ⟨m, hm⟩ : ∃ m, at' g.fl (k : Int) = m := ⟨_, rfl⟩
    rw [hm] at hcell HB
    rw [hm]
    have HC := Lib.hid hcell
    have HR2 := Lib.hid (show (decide ((0 : Int) = 0) && flB m f) = flB m f by simp)
    rw [HR2.out]
    have k0 : (0 : Int) ≤ (k : Int) := by omega
    have k1 : (k : Int) < (n : Int) := by omega
    obtain ⟨hm0, hm1⟩ := HB.out
    clear hE hx hm hcell HH
    go_enter Try.func25, Try.ntmps25
    have HX := Lib.hid (Bx.new w #[.slice A0 n0 c0, .slice A1 n c1, .slice A2 n2 c2, .slice A3 n3 c3, .slice (some ⟨b, o, none⟩) n c4, .slice A5 n5 c5, .slice A6 n6 c6, .int .u64 g.seed, .int .i64 g.sc, .int .i64 g.tu, .int .i64 g.ov, .int .i64 g.it, .int .i64 g.go] 31)
    obtain ⟨W1, hW1⟩ : ∃ W1, w.alloc (.cells #[.slice A0 n0 c0, .slice A1 n c1, .slice A2 n2 c2, .slice A3 n3 c3, .slice (some ⟨b, o, none⟩) n c4, .slice A5 n5 c5, .slice A6 n6 c6, .int .u64 g.seed, .int .i64 g.sc, .int .i64 g.tu, .int .i64 g.ov, .int .i64 g.it, .int .i64 g.go] 31) = W1 := ⟨_, rfl⟩
    rw [hW1] at HX
    obtain ⟨x0, x1, x2, x3, x4, x5, x6, x7, x8, x9, x10, x11, x12, xf⟩ := cells13 HX.out.box
    go_wp2_with (first
      | (go_at_call 97; refine (asked_i g _ _ _).mono ?_; rintro e w1 ⟨rfl, hb⟩; rw [HE.out]; have HX2 := Lib.hid (HX.out.on hb); clear HX hb; have HX := HX2; clear HX2; clear x0 x1 x2 x3 x4 x5 x6 x7 x8 x9 x10 x11 x12 xf; obtain ⟨x0, x1, x2, x3, x4, x5, x6, x7, x8, x9, x10, x11, x12, xf⟩ := cells13 HX.out.box; have hc := (HX.out.below.cell (p := ⟨b, o + k, none⟩) hbb).trans HC.out)
      | fail)
    go_ret2
    exact ⟨by rw [← and1 f ⟨hm0, hm1⟩] <;> rfl, HX.out.below⟩
end Go.Proofs.Ytncdicagadbafaa.AttrW
namespace Go.Proofs.Ytncdicagadbafaa.NstR
open Go Go.RowKit NestP NestW NestX NestY ValP ValW ValX ValR Sq RngB
set_option maxRecDepth 100000 in
set_option maxHeartbeats 400000 in
theorem top_o {v0 v4 v5 v6 v7 v8 v9 v10 v11 v12 : Value} {A1 A2 A3 : Option Addr} {n c1 n2 c2 n3 c3 : Nat} (pa : List Int) (x : Int) (w : World) (hp : Rd I w A1 n pa) (hn : n ≤ 17592186044416) :
    Calls Try.prog 55 #[.agg #[v0, .slice A1 n c1, .slice A2 n2 c2, .slice A3 n3 c3, v4, v5, v6, v7, v8, v9, v10, v11, v12], .int .i64 x] w fun e w' => e = .returned (.int .i64 ((chain n pa n x).getLastD 0)) ∧ Below w.heap.size w w' := by
  have HP := Lib.hid hp
  clear hp
  go_enter Try.func55, Try.ntmps55
  go_wp2_with fail
  go_loopw [1, 5, 6] (fun xv t i wr => ∃ (j : Nat) (x' t' : Int), j ≤ n ∧ i = .int .i64 (j : Int) ∧ xv = .int .i64 x' ∧ t = .int .i64 t' ∧ (chain n pa (n - j) x').getLastD t' = (chain n pa n x).getLastD 0 ∧ Below (w.heap.size + 1) (w.alloc (.cells #[v0, .slice A1 n c1, .slice A2 n2 c2, .slice A3 n3 c3, v4, v5, v6, v7, v8, v9, v10, v11, v12] 31)) wr) (fun _ _ i _ => n - (intOf i).toNat)
  case atStart => exact ⟨0, x, 0, Nat.zero_le _, rfl, rfl, rfl, rfl, Below.refl _ _⟩
  case round =>
    obtain ⟨j, x', t', hj, rfl, rfl, rfl, hc, hbr⟩ := hrel
    have hk := bcell hbr
    have hsz := hbr.size
    rw [World.size_alloc] at hsz
    have HC := Lib.hid hc
    have hbW := Lib.hid ((((Below.refl w.heap.size w).alloc (Nat.le_refl _) (.cells #[v0, .slice A1 n c1, .slice A2 n2 c2, .slice A3 n3 c3, v4, v5, v6, v7, v8, v9, v10, v11, v12] 31))).trans (hbr.mono (by omega)))
    clear hc
    by_cases hlt : j < n
    · by_cases hT : isT n x' = true
      · obtain ⟨k, b, o, rfl, hk1, hk2, rfl, hb, hcell⟩ := at_cell HP.out hT
        have HCY := Lib.hid (show (chain n pa (n - (j + 1)) (at' pa k)).getLastD (k : Int) = (chain n pa n x).getLastD 0 by
          rw [← HC.out, show n - j = (n - (j + 1)) + 1 by omega, chain_yes hT, List.getLastD_cons])
        have HT := Lib.hid hT
        have hb1 : b < w.heap.size + 1 := by omega
        have k0 : (0 : Int) ≤ (k : Int) := by omega
        have k1 : (k : Int) < (n : Int) := by omega
        clear hT
        go_wp2_with (go_at_call 45; refine (is_o _ _).mono ?_; rintro e w1 ⟨rfl, hbi⟩; rw [HT.out]; have hk1 := bcell (B := w.heap.size + 1) (hbi.mono hsz))
        go_roundw
        case rel => exact ⟨j + 1, _, _, by omega, by go_num, rfl, rfl, HCY.out, hbr.trans (hbi.mono hsz)⟩
        case measure => simp [intOf]; omega
      · have HT := Lib.hid (show isT n x' = false by simpa using hT)
        have HF := Lib.hid (show t' = (chain n pa n x).getLastD 0 by rw [← HC.out, chain_no HT.out]; rfl)
        clear hT
        go_wp2_with (go_at_call 45; refine (is_o _ _).mono ?_; rintro e w1 ⟨rfl, hbi⟩; rw [HT.out])
        go_ret
        exact ⟨by rw [← HF.out]; rfl, joinB (Nat.le_refl _) hbW.out hbi⟩
    · have hjn : j = n := by omega
      have HF := Lib.hid (show t' = (chain n pa n x).getLastD 0 by rw [← HC.out, hjn, Nat.sub_self]; rfl)
      have d0 : decide (j < n) = false := by simp; omega
      clear hjn
      go_wp2_with fail
      go_ret
      exact ⟨by rw [← HF.out]; rfl, hbW.out⟩
theorem top_ow {v : Value} {w : World} (g : Wd) (x : Int) (ho : WorldD.Wo w v g) :
    Calls Try.prog 55 #[v, .int .i64 x] w fun e w' => e = .returned (.int .i64 (top g x)) ∧ Below w.heap.size w w' := by
  obtain ⟨A0, A1, A2, A3, A4, A5, A6, n0, c0, n, c1, n2, c2, n3, c3, n4, c4, n5, c5, n6, c6, rfl, ⟨r0, r1, r2, r3, r4, r5, r6⟩, hu, hw, hb⟩ := ho
  refine (top_o g.pa x w r1 (by omega)).mono ?_
  rintro e w' ⟨rfl, hb⟩
  refine ⟨?_, hb⟩
  unfold top ups
  rw [show g.n = n from r1.len.symm]
end Go.Proofs.Ytncdicagadbafaa.NstR
namespace Go.Proofs.Ytncdicagadbafaa.AttrQ
open Go Go.RowKit NestP NestW NestX NestY ValP ValW ValX ValR Sq WorldD CopP MoveP LvP MvA AttrP AttrW AttrX AttrY AttrU TabD TabW TabX TabB TabR MixP
theorem right_iff {t : TbV} {g : Wd} : rightB t g = true ↔ g.gl.length = t.gl.n ∧ g.pa.length = t.th.n ∧ g.fl.length = t.th.n ∧ g.pr.length = t.th.n * t.pr.n ∧ g.ti.length = t.da.n ∧ nested g = true ∧ valuesB g.gl = true ∧ valuesB g.pr = true ∧ allB g.fl 0 (bitsF t.fl - 1) = true ∧
    (allB g.ti 0 32767 && (isV g.sc && (fromB g.tu 0 2147483647 && (fromB g.ov 0 3 && (fromB g.it 0 ((t.th.n : Int) - 1) && (fromB g.go 0 12 && placedB t g)))))) = true := by
  unfold rightB
  have hm : (g.pr.length : Int) = (t.th.n : Int) * (t.pr.n : Int) ↔ g.pr.length = t.th.n * t.pr.n := by constructor <;> intro h <;> exact_mod_cast h
  simp only [Bool.and_eq_true, Bool.not_eq_true', bne_eq_false_iff_eq, hm, Int.natCast_inj]
theorem right_fl {t : TbV} {g : Wd} (h : rightB t g = true) : Fl g := by
  obtain ⟨_, h1, h2, _, _, _, _, _, h8, _⟩ := right_iff.1 h
  refine ⟨by rw [h2]; exact h1.symm, fun e he => ?_⟩
  have h3 := fromB_iff.1 ((List.all_eq_true.1 h8) e he)
  have h4 := bits_bd t.fl
  omega
end Go.Proofs.Ytncdicagadbafaa.AttrQ
