/- NestKeeps: by any moves and takings out things stay within things as they must be, none is lost, and what is moved is where it was moved to. Conditions: none beyond what every reading of the arguments gives. -/
import Derived.Test.YtncdicagadbafaaLaw
import Derived.Test.YtncdicagadbafaaSml
import Derived.Test.YtncdicagadbafaaSeqK
import Derived.Test.YtncdicagadbafaaReg
import Derived.Test.YtncdicagadbafaaRgIn
import Derived.Deep.RegionHeld3
import Derived.Deep.DeepCutAuto
import Derived.Outline
namespace Go.Proofs.Ytncdicagadbafaa.nestKeeps
open Go Go.ChangeShapes Go.WideShapes Go.ChangeAt Go.RowKit Go.Deep NestP NestW NestX NestY ValP ValW ValX ValR MixP Sq WorldD CopP MoveP MvA AwkP WoC

/-- A command, cell by cell. -/
abbrev CmdD : Type := Int × Int × Int × Int × Int
def Cm (c : CmdD) : List Value := [.int .i64 c.1, .int .i64 c.2.1, .int .i64 c.2.2.1, .int .i64 c.2.2.2.1, .int .i64 c.2.2.2.2]
theorem Cm_len (c : CmdD) : (Cm c).length = 5 := rfl
theorem cells_cmd : Try.prog.cellsOf 55 = 5 := by kernel_rfl
section
variable {H : Type} {enc : TypeId × Value → H} {w : World} {base : Nat} {spare : Nat → Bool} {held : Bool}
set_option maxRecDepth 100000 in
theorem cmd_of {fuel : Nat} {cs : List Value} {x : DataW H × List MemPlace} (hl : cs.length = 5) (h : DataW.trod enc Try.prog w base spare held fuel 55 cs = some x) : ∃ c, cs = Cm c := by
  obtain ⟨xs, n, _, hx, _, hlen, hg⟩ := DataW.trod_struct Try.underlying55 h
  match cs, hl with
  | [c0, c1, c2, c3, c4], _ =>
    match xs, hlen with
    | [y0, y1, y2, y3, y4], _ =>
      have e0 : DataW.trod enc Try.prog w base spare held n 3 [c0] = some y0 := by simpa [cells_int] using hg 0 _ rfl
      have e1 : DataW.trod enc Try.prog w base spare held n 3 [c1] = some y1 := by simpa [cells_int] using hg 1 _ rfl
      have e2 : DataW.trod enc Try.prog w base spare held n 3 [c2] = some y2 := by simpa [cells_int] using hg 2 _ rfl
      have e3 : DataW.trod enc Try.prog w base spare held n 3 [c3] = some y3 := by simpa [cells_int] using hg 3 _ rfl
      have e4 : DataW.trod enc Try.prog w base spare held n 3 [c4] = some y4 := by simpa [cells_int] using hg 4 _ rfl
      obtain ⟨x0, rfl, _⟩ := int_of e0
      obtain ⟨x1, rfl, _⟩ := int_of e1
      obtain ⟨x2, rfl, _⟩ := int_of e2
      obtain ⟨x3, rfl, _⟩ := int_of e3
      obtain ⟨x4, rfl, _⟩ := int_of e4
      exact ⟨(x0, x1, x2, x3, x4), rfl⟩
set_option maxRecDepth 100000 in
theorem open_cmds {v : Value} {d : DataW H} {p : List MemPlace} {r : Reach} {b0 : Nat} (hv : Value.okWide Try.prog w r b0 51 v) (h : DataW.Trod enc Try.prog w base spare held 51 v d p) : ∃ l, Sk.Rv Cm w v l := by
  obtain ⟨a0, len, cap, rfl⟩ := okWide_slice Try.underlying51 hv
  obtain ⟨fuel, hf⟩ := h
  exact Sk.trod_rv Cm_len (by omega) Try.underlying51 cells_cmd (fun n cs y hl h => cmd_of hl h) hf
end

/- What becomes of the moved thing. -/
theorem pa_rm {g : Wd} {x : Int} (h : rmE g x = 0) : isT g.n x = true ∧ at' (rmG g x).pa x = 0 := by
  unfold rmE at h
  split at h
  · rename_i hT
    have hT' := isT_iff.1 hT
    refine ⟨hT, ?_⟩
    unfold rmG
    rw [if_pos hT]
    show at' (setI g.pa x 0) x = 0
    rw [at_set _ (by omega) (by have := hT'.2; unfold Wd.n at this; omega), if_pos rfl]
  · cases h
theorem pa_mv {g : Wd} {x y : Int} (h : mvE g x y = 0) : isT g.n x = true ∧ at' (mvG g x y).pa x = y := by
  unfold mvE at h
  split at h
  · rename_i hT
    have hT' := isT_iff.1 hT.1
    refine ⟨hT.1, ?_⟩
    split at h
    · cases h
    · rename_i hw
      unfold mvG
      rw [if_pos hT, if_neg hw]
      show at' (setI (MoveP.leave g x).pa x y) x = y
      have hn := leave_n g x
      unfold Wd.n at hn hT'
      rw [at_set _ (by omega) (by omega), if_pos rfl]
  · cases h

/-- Between two rounds: the box B holds v, a world in which things are within things as they must be. -/
structure Inv (w : World) (B N : Nat) (g1 : Wd) (v : Array Value) (wr : World) : Prop where
  box : wr.heap[B]? = some (.cells v 31 (0, 0))
  wb : Wb B wr (.agg v) g1
  good : NestP.Good g1
  num : g1.n = N
  below : Below w.heap.size w wr
  lt : B < wr.heap.size
theorem Inv.on {w : World} {B N : Nat} {g1 : Wd} {v : Array Value} {wr w' : World} (h : Inv w B N g1 v wr) (hb : Below wr.heap.size wr w') : Inv w B N g1 v w' :=
  ⟨(hb.block _ h.lt).trans h.box, h.wb.below hb, h.good, h.num, h.below.trans (hb.mono h.below.size), Nat.lt_of_lt_of_le h.lt hb.size⟩
theorem Inv.drew {w : World} {B N : Nat} {g1 : Wd} {v : Array Value} {wr : World} (h : Inv w B N g1 v wr) : Inv w B N g1 v wr.drew := h.on (Below.drew (Below.refl _ _))
/-- What the cut says. -/
def Cut (w : World) (B N : Nat) (x y : Int) (ev : Value) (wx : World) : Prop := ∃ (E : Int) (g2 : Wd) (v2 : Array Value), ev = .int .i64 E ∧ Inv w B N g2 v2 wx ∧ (E = 0 → isT N x = true ∧ at' g2.pa x = y) ∧ (E = 0 ∨ E = 11 ∨ E = 18)
theorem c13 {w : World} {g : Nat} {t : TypeId} {z0 z1 z2 z3 z4 z5 z6 z7 z8 z9 z10 z11 z12 : Value} (h : w.heap[g]? = some (.cells #[z0, z1, z2, z3, z4, z5, z6, z7, z8, z9, z10, z11, z12] t (0, 0))) :
    w.cell? ⟨g, 0, none⟩ = some z0 ∧ w.cell? ⟨g, 1, none⟩ = some z1 ∧ w.cell? ⟨g, 2, none⟩ = some z2 ∧ w.cell? ⟨g, 3, none⟩ = some z3 ∧ w.cell? ⟨g, 4, none⟩ = some z4 ∧ w.cell? ⟨g, 5, none⟩ = some z5 ∧ w.cell? ⟨g, 6, none⟩ = some z6 ∧ w.cell? ⟨g, 7, none⟩ = some z7 ∧ w.cell? ⟨g, 8, none⟩ = some z8 ∧ w.cell? ⟨g, 9, none⟩ = some z9 ∧ w.cell? ⟨g, 10, none⟩ = some z10 ∧ w.cell? ⟨g, 11, none⟩ = some z11 ∧ w.cell? ⟨g, 12, none⟩ = some z12 := by
  obtain ⟨x0, x1, x2, x3, x4, x5, x6, x7, x8, x9, x10, x11, x12, xf⟩ := cells13 h
  exact ⟨x0, x1, x2, x3, x4, x5, x6, x7, x8, x9, x10, x11, x12⟩

set_option maxRecDepth 100000 in
set_option maxHeartbeats 8000000 in
theorem walk (w : World) (n : Int) (_ : (Lit.int .i64 n).wf = true) (v : Value) (L : List CmdD) (hv : Sk.Rv Cm w v L) :
    Calls Try.prog 8 #[.int .i64 n, v] w fun e w' => e = .returned (.bool true) ∧ Below w.heap.size w w' := by
  obtain ⟨A, m, c, rfl, hmc, hcm, hr⟩ := hv
  have HR := Lib.hid hr
  unfold maxLen at hcm
  clear hr
  by_cases h1 : n < 1
  · have t1 : decide (n < 1) = true := decide_eq_true h1
    go_enter Try.func8, Try.ntmps8
    go_wp2_with (go_at_call 38; refine (AwkA.awake _).mono ?_; rintro e u7 ⟨rfl, hb⟩; have hz := hb)
    go_ret
    exact ⟨rfl, hz⟩
  have t1 : decide (n < 1) = false := decide_eq_false h1
  by_cases h2 : 60 < n
  · have t2 : decide (60 < n) = true := decide_eq_true h2
    go_enter Try.func8, Try.ntmps8
    go_wp2_with (go_at_call 38; refine (AwkA.awake _).mono ?_; rintro e u7 ⟨rfl, hb⟩; have hz := hb)
    go_ret
    exact ⟨rfl, hz⟩
  have t2 : decide (60 < n) = false := decide_eq_false h2
  by_cases h3 : 60 < m
  · have t3 : decide (60 < (m : Int)) = true := decide_eq_true (by omega)
    go_enter Try.func8, Try.ntmps8
    go_wp2_with (go_at_call 38; refine (AwkA.awake _).mono ?_; rintro e u7 ⟨rfl, hb⟩; have hz := hb)
    go_ret
    exact ⟨rfl, hz⟩
  have t3 : decide (60 < (m : Int)) = false := decide_eq_false (by omega)
  obtain ⟨N, rfl, hN1, hN2⟩ : ∃ N : Nat, n = (N : Int) ∧ 1 ≤ N ∧ N ≤ 60 := ⟨n.toNat, by omega, by omega, by omega⟩
  clear h1 h2
  go_enter Try.func8, Try.ntmps8
  go_wp2_with (go_at_call 44; refine (Awk.empty_i N hN2 _).mono ?_; rintro e w1 ⟨v0, rfl, ho1, hb1⟩; have hx := ho1; obtain ⟨aA0, aA1, aA2, aA3, aA4, aA5, aA6, an0, ac0, an1, ac1, an2, ac2, an3, ac3, an4, ac4, an5, ac5, an6, ac6, rfl, _⟩ := hx)
  obtain ⟨B, hBs⟩ : ∃ B, w1.heap.size = B := ⟨_, rfl⟩
  have hI0 : Inv w B N (Awk.zeroW N) #[.slice aA0 an0 ac0, .slice aA1 an1 ac1, .slice aA2 an2 ac2, .slice aA3 an3 ac3, .slice aA4 an4 ac4, .slice aA5 an5 ac5, .slice aA6 an6 ac6, .int .u64 (Awk.zeroW N).seed, .int .i64 (Awk.zeroW N).sc, .int .i64 (Awk.zeroW N).tu, .int .i64 (Awk.zeroW N).ov, .int .i64 (Awk.zeroW N).it, .int .i64 (Awk.zeroW N).go] (w1.alloc (.cells #[.slice aA0 an0 ac0, .slice aA1 an1 ac1, .slice aA2 an2 ac2, .slice aA3 an3 ac3, .slice aA4 an4 ac4, .slice aA5 an5 ac5, .slice aA6 an6 ac6, .int .u64 (Awk.zeroW N).seed, .int .i64 (Awk.zeroW N).sc, .int .i64 (Awk.zeroW N).tu, .int .i64 (Awk.zeroW N).ov, .int .i64 (Awk.zeroW N).it, .int .i64 (Awk.zeroW N).go] 31)) :=
    ⟨by rw [← hBs]; exact World.alloc_heap_new _ _, by rw [← hBs]; exact wb_new ho1 _, zero_good hN1, by show (List.replicate N (0 : Int)).length = N; simp, hb1.alloc hb1.size _, by rw [← hBs]; simp⟩
  have hBw : w.heap.size ≤ B := by rw [← hBs]; exact hb1.size
  have HI0 := Lib.hid hI0
  clear hI0 ho1 hb1
  rw [hBs]
  go_loopw [6] (fun iv wr => ∃ (k : Nat) (g1 : Wd) (v : Array Value), k ≤ m ∧ iv = .int .i64 (k : Int) ∧ Inv w B N g1 v wr) (fun iv _ => m - (intOf iv).toNat)
  case atStart => exact ⟨0, _, _, Nat.zero_le _, rfl, HI0.out⟩
  case round =>
    obtain ⟨k, g1, vv, hk, rfl, hI⟩ := hrel
    by_cases hlt : k < m
    · obtain ⟨b0, o0, rfl, hb0, hl, hcell⟩ := HR.out.at_ Cm_len hlt
      obtain ⟨cc, hcc⟩ : ∃ cc, L[k] = cc := ⟨_, rfl⟩
      obtain ⟨x0c, x, y, x3c, x4c⟩ := cc
      have cX := Lib.hid (hcell 1 (.int .i64 x) (by rw [hcc]; rfl))
      have cY := Lib.hid (hcell 2 (.int .i64 y) (by rw [hcc]; rfl))
      clear hcell hcc hl
      have k0 : (0 : Int) ≤ (k : Int) := by omega
      have k1 : (k : Int) < (m : Int) := by omega
      obtain ⟨dA0, dA1, dA2, dA3, dA4, dA5, dA6, dn0, dc0, dn1, dc1, dn2, dc2, dn3, dc3, dn4, dc4, dn5, dc5, dn6, dc6, hve, _⟩ := hI.wb.wo
      injection hve with hve
      subst hve
      obtain ⟨q, hq⟩ : ∃ q, isT N x = q := ⟨_, rfl⟩
      have HQ := Lib.hid (show isT g1.n x = q by rw [hI.num]; exact hq)
      have HQ' := Lib.hid hq
      have HI := Lib.hid hI.drew
      clear hq hI
      go_wp2_with fail
      go_region_held3 (fun U => (U.cell? ⟨B, 0, none⟩ = some (.slice dA0 dn0 dc0) ∧ U.cell? ⟨B, 1, none⟩ = some (.slice dA1 dn1 dc1) ∧ U.cell? ⟨B, 2, none⟩ = some (.slice dA2 dn2 dc2) ∧ U.cell? ⟨B, 3, none⟩ = some (.slice dA3 dn3 dc3) ∧ U.cell? ⟨B, 4, none⟩ = some (.slice dA4 dn4 dc4) ∧ U.cell? ⟨B, 5, none⟩ = some (.slice dA5 dn5 dc5) ∧ U.cell? ⟨B, 6, none⟩ = some (.slice dA6 dn6 dc6) ∧ U.cell? ⟨B, 7, none⟩ = some (.int .u64 g1.seed) ∧ U.cell? ⟨B, 8, none⟩ = some (.int .i64 g1.sc) ∧ U.cell? ⟨B, 9, none⟩ = some (.int .i64 g1.tu) ∧ U.cell? ⟨B, 10, none⟩ = some (.int .i64 g1.ov) ∧ U.cell? ⟨B, 11, none⟩ = some (.int .i64 g1.it) ∧ U.cell? ⟨B, 12, none⟩ = some (.int .i64 g1.go)) ∧ U.cell? ⟨b0, o0 + k * 5 + 1, none⟩ = some (.int .i64 x)) (exact ⟨c13 HI.out.box, (HI.out.below.cell (p := ⟨b0, o0 + k * 5 + 1, none⟩) hb0).trans cX.out⟩) ((go_at_call 45; refine (iso_w g1 x HI.out.wb.wo).mono ?_; rintro e u3 ⟨rfl, hb⟩; rw [HQ.out]; have HI2 := Lib.hid (HI.out.on hb); clear hb HI; have HI := HI2; clear HI2))
      have cy := (HI.out.below.cell (p := ⟨b0, o0 + k * 5 + 2, none⟩) hb0).trans cY.out
      go_upto_if 41 with (fail)
      go_cut [7] (fun ev wx => Cut w B N x y ev wx)
      case first =>
        by_cases hy : y = 0
        · subst hy
          go_wp2_with fail
          have hS3 : (fun U => U.cell? ⟨b0, o0 + k * 5 + 1, none⟩ = some (.int .i64 x)) u3.drew := ((HI.out.drew.below.cell (p := ⟨b0, o0 + k * 5 + 1, none⟩) hb0).trans cX.out)
          obtain ⟨x0, x1, x2, x3, x4, x5, x6, x7, x8, x9, x10, x11, x12, xf⟩ := cells13 HI.out.drew.box
          refine wp_region_held_drew (S := (fun U => U.cell? ⟨b0, o0 + k * 5 + 1, none⟩ = some (.int .i64 x))) (by kernel_rfl) hS3 (fun hHeld => ?_)
          refine Rg.take (i := 1) (t := 44) rfl rfl (by kernel_rfl) (by kernel_rfl) (by kernel_rfl) (fun _ _ _ h => h) (by rfl) (by intro w0 hSw; first | (go_simp; done) | (go_simp; with_reducible rfl)) (by assumption) ?_
          simp only [List.setIfInBounds_toArray, List.set_cons_zero, List.set_cons_succ]
          refine Rg.take (i := 2) (t := 45) rfl rfl (by kernel_rfl) (by kernel_rfl) (by kernel_rfl) (fun _ _ _ h => h) (by rfl) (by intro w0 hSw; first | (go_simp; done) | (go_simp; with_reducible rfl)) (by assumption) ?_
          simp only [List.setIfInBounds_toArray, List.set_cons_zero, List.set_cons_succ]
          refine Rg.take (i := 3) (t := 46) rfl rfl (by kernel_rfl) (by kernel_rfl) (by kernel_rfl) (fun _ _ _ h => h) (by rfl) (by intro w0 hSw; first | (go_simp; done) | (go_simp; with_reducible rfl)) (by assumption) ?_
          simp only [List.setIfInBounds_toArray, List.set_cons_zero, List.set_cons_succ]
          refine Rg.take (i := 4) (t := 47) rfl rfl (by kernel_rfl) (by kernel_rfl) (by kernel_rfl) (fun _ _ _ h => h) (by rfl) (by intro w0 hSw; first | (go_simp; done) | (go_simp; with_reducible rfl)) (by assumption) ?_
          simp only [List.setIfInBounds_toArray, List.set_cons_zero, List.set_cons_succ]
          refine Rg.take (i := 5) (t := 48) rfl rfl (by kernel_rfl) (by kernel_rfl) (by kernel_rfl) (fun _ _ _ h => h) (by rfl) (by intro w0 hSw; have z := hSw; first | (go_simp; done) | (go_simp; with_reducible rfl)) (by assumption) ?_
          simp only [List.setIfInBounds_toArray, List.set_cons_zero, List.set_cons_succ]
          refine Rg.one (i := 0) (by kernel_rfl) ?_
          refine Rg.eff (i := 0) (t := 43) rfl rfl (by rfl) (by go_simp; first | exact ⟨rfl, rfl⟩ | exact rfl) ((fun U => U.cell? ⟨b0, o0 + k * 5 + 1, none⟩ = some (.int .i64 x))) (fun _ h => h) hS3 ?_
          simp only [List.setIfInBounds_toArray, List.set_cons_zero, List.set_cons_succ]
          refine Rg.one (i := 6) (by kernel_rfl) ?_
          refine Rg.call (i := 6) (t := 49) rfl rfl (by rfl) (by go_simp; exact ⟨rfl, rfl⟩) ?_
          refine (remove_b B g1 HI.out.good x _ HI.out.drew.lt HI.out.drew.wb).mono ?_
          rintro e u4 ⟨v4, rfl, ho4, hb4⟩
          have hx := ho4.wo
          obtain ⟨eA0, eA1, eA2, eA3, eA4, eA5, eA6, en0, ec0, en1, ec1, en2, ec2, en3, ec3, en4, ec4, en5, ec5, en6, ec6, rfl, _⟩ := hx
          have HI4 := Lib.hid (HI.out.drew.on hb4)
          have HO4 := Lib.hid ho4
          clear ho4 hb4
          have hS4 : (fun U => U.cell? ⟨b0, o0 + k * 5 + 1, none⟩ = some (.int .i64 x)) u4 := ((HI4.out.below.cell (p := ⟨b0, o0 + k * 5 + 1, none⟩) hb0).trans cX.out)
          refine ⟨_, rfl, (fun U => U.cell? ⟨b0, o0 + k * 5 + 1, none⟩ = some (.int .i64 x)), fun _ h => h, hS4, ?_⟩
          simp only [List.setIfInBounds_toArray, List.set_cons_zero, List.set_cons_succ]
          refine Rg.take (i := 7) (t := 42) rfl rfl (by kernel_rfl) (by kernel_rfl) (by kernel_rfl) (fun _ _ _ h => h) (by rfl) (by intro w0 hSw; first | (go_simp; done) | (go_simp; with_reducible rfl)) (by assumption) ?_
          simp only [List.setIfInBounds_toArray, List.set_cons_zero, List.set_cons_succ]
          refine Rg.take (i := 8) (t := 50) rfl rfl (by kernel_rfl) (by kernel_rfl) (by kernel_rfl) (fun _ _ _ h => h) (by rfl) (by intro w0 hSw; first | (go_simp; done) | (go_simp; with_reducible rfl)) (by assumption) ?_
          simp only [List.setIfInBounds_toArray, List.set_cons_zero, List.set_cons_succ]
          refine Rg.take (i := 9) (t := 51) rfl rfl (by kernel_rfl) (by kernel_rfl) (by kernel_rfl) (fun _ _ _ h => h) (by rfl) (by intro w0 hSw; first | (go_simp; done) | (go_simp; with_reducible rfl)) (by assumption) ?_
          simp only [List.setIfInBounds_toArray, List.set_cons_zero, List.set_cons_succ]
          obtain ⟨y0, y1, y2, y3, y4, y5, y6, y7, y8, y9, y10, y11, y12, yf⟩ := cells13 HI4.out.box
          have HI5 := Lib.hid (show Inv w B N (rmG g1 x) #[.slice eA0 en0 ec0, .slice eA1 en1 ec1, .slice eA2 en2 ec2, .slice eA3 en3 ec3, .slice eA4 en4 ec4, .slice eA5 en5 ec5, .slice eA6 en6 ec6, .int .u64 (rmG g1 x).seed, .int .i64 (rmG g1 x).sc, .int .i64 (rmG g1 x).tu, .int .i64 (rmG g1 x).ov, .int .i64 (rmG g1 x).it, .int .i64 (rmG g1 x).go] (set13w u4 B (.slice eA0 en0 ec0) (.slice eA1 en1 ec1) (.slice eA2 en2 ec2) (.slice eA3 en3 ec3) (.slice eA4 en4 ec4) (.slice eA5 en5 ec5) (.slice eA6 en6 ec6) (.int .u64 (rmG g1 x).seed) (.int .i64 (rmG g1 x).sc) (.int .i64 (rmG g1 x).tu) (.int .i64 (rmG g1 x).ov) (.int .i64 (rmG g1 x).it) (.int .i64 (rmG g1 x).go)) from ⟨set13 HI4.out.box, HO4.out.on (by unfold set13w; simp) (fun k _ hne => set13_other _ _ hne), rmG_good HI.out.good x, (rmG_n g1 x).trans HI.out.num, set13_below HI4.out.below hBw (Nat.zero_le _), by rw [AwkA.size13]; exact HI4.out.lt⟩)
          have hS5 : (fun U => U.cell? ⟨b0, o0 + k * 5 + 1, none⟩ = some (.int .i64 x)) (set13w u4 B (.slice eA0 en0 ec0) (.slice eA1 en1 ec1) (.slice eA2 en2 ec2) (.slice eA3 en3 ec3) (.slice eA4 en4 ec4) (.slice eA5 en5 ec5) (.slice eA6 en6 ec6) (.int .u64 (rmG g1 x).seed) (.int .i64 (rmG g1 x).sc) (.int .i64 (rmG g1 x).tu) (.int .i64 (rmG g1 x).ov) (.int .i64 (rmG g1 x).it) (.int .i64 (rmG g1 x).go)) := ((HI5.out.below.cell (p := ⟨b0, o0 + k * 5 + 1, none⟩) hb0).trans cX.out)
          refine Rg.one (i := 10) (by kernel_rfl) ?_
          refine RgIn.effN (i := 10) (w1 := set13w u4 B (.slice eA0 en0 ec0) (.slice eA1 en1 ec1) (.slice eA2 en2 ec2) (.slice eA3 en3 ec3) (.slice eA4 en4 ec4) (.slice eA5 en5 ec5) (.slice eA6 en6 ec6) (.int .u64 (rmG g1 x).seed) (.int .i64 (rmG g1 x).sc) (.int .i64 (rmG g1 x).tu) (.int .i64 (rmG g1 x).ov) (.int .i64 (rmG g1 x).it) (.int .i64 (rmG g1 x).go)) rfl rfl (by rfl) (by unfold set13w; first | (go_simp; done) | (go_simp; with_reducible rfl)) ⟨hS5, ?_⟩
          refine Rg.take (i := 11) (t := 7) rfl rfl (by kernel_rfl) (by kernel_rfl) (by kernel_rfl) (fun _ _ _ h => h) (by rfl) (by intro w0 hSw; first | (go_simp; done) | (go_simp; with_reducible rfl)) (by assumption) ?_
          simp only [List.setIfInBounds_toArray, List.set_cons_zero, List.set_cons_succ]
          refine wpAnyH_done (by kernel_rfl) ?_ _
          go_wp2_with fail
          go_meet
          case rel => exact ⟨rmE g1 x, (rmG g1 x), _, rfl, HI5.out, fun h => by
            have := pa_rm h
            rw [HI.out.num] at this
            exact this, by unfold rmE; split <;> simp⟩
        · have t0 : (y == 0) = false := beq_eq_false_iff_ne.2 hy
          go_wp2_with fail
          have hS3 : (fun U => U.cell? ⟨b0, o0 + k * 5 + 1, none⟩ = some (.int .i64 x) ∧ U.cell? ⟨b0, o0 + k * 5 + 2, none⟩ = some (.int .i64 y)) u3.drew := ⟨((HI.out.drew.below.cell (p := ⟨b0, o0 + k * 5 + 1, none⟩) hb0).trans cX.out), (HI.out.drew.below.cell (p := ⟨b0, o0 + k * 5 + 2, none⟩) hb0).trans cY.out⟩
          obtain ⟨x0, x1, x2, x3, x4, x5, x6, x7, x8, x9, x10, x11, x12, xf⟩ := cells13 HI.out.drew.box
          refine wp_region_held_drew (S := (fun U => U.cell? ⟨b0, o0 + k * 5 + 1, none⟩ = some (.int .i64 x) ∧ U.cell? ⟨b0, o0 + k * 5 + 2, none⟩ = some (.int .i64 y))) (by kernel_rfl) hS3 (fun hHeld => ?_)
          refine Rg.take (i := 1) (t := 54) rfl rfl (by kernel_rfl) (by kernel_rfl) (by kernel_rfl) (fun _ _ _ h => h) (by rfl) (by intro w0 hSw; first | (go_simp; done) | (go_simp; with_reducible rfl)) (by assumption) ?_
          simp only [List.setIfInBounds_toArray, List.set_cons_zero, List.set_cons_succ]
          refine Rg.take (i := 2) (t := 55) rfl rfl (by kernel_rfl) (by kernel_rfl) (by kernel_rfl) (fun _ _ _ h => h) (by rfl) (by intro w0 hSw; first | (go_simp; done) | (go_simp; with_reducible rfl)) (by assumption) ?_
          simp only [List.setIfInBounds_toArray, List.set_cons_zero, List.set_cons_succ]
          refine Rg.take (i := 3) (t := 56) rfl rfl (by kernel_rfl) (by kernel_rfl) (by kernel_rfl) (fun _ _ _ h => h) (by rfl) (by intro w0 hSw; first | (go_simp; done) | (go_simp; with_reducible rfl)) (by assumption) ?_
          simp only [List.setIfInBounds_toArray, List.set_cons_zero, List.set_cons_succ]
          refine Rg.take (i := 4) (t := 57) rfl rfl (by kernel_rfl) (by kernel_rfl) (by kernel_rfl) (fun _ _ _ h => h) (by rfl) (by intro w0 hSw; first | (go_simp; done) | (go_simp; with_reducible rfl)) (by assumption) ?_
          simp only [List.setIfInBounds_toArray, List.set_cons_zero, List.set_cons_succ]
          refine Rg.take (i := 5) (t := 58) rfl rfl (by kernel_rfl) (by kernel_rfl) (by kernel_rfl) (fun _ _ _ h => h) (by rfl) (by intro w0 hSw; have z := hSw.1; first | (go_simp; done) | (go_simp; with_reducible rfl)) (by assumption) ?_
          simp only [List.setIfInBounds_toArray, List.set_cons_zero, List.set_cons_succ]
          refine Rg.take (i := 6) (t := 59) rfl rfl (by kernel_rfl) (by kernel_rfl) (by kernel_rfl) (fun _ _ _ h => h) (by rfl) (by intro w0 hSw; first | (go_simp; done) | (go_simp; with_reducible rfl)) (by assumption) ?_
          simp only [List.setIfInBounds_toArray, List.set_cons_zero, List.set_cons_succ]
          refine Rg.take (i := 7) (t := 60) rfl rfl (by kernel_rfl) (by kernel_rfl) (by kernel_rfl) (fun _ _ _ h => h) (by rfl) (by intro w0 hSw; first | (go_simp; done) | (go_simp; with_reducible rfl)) (by assumption) ?_
          simp only [List.setIfInBounds_toArray, List.set_cons_zero, List.set_cons_succ]
          refine Rg.take (i := 8) (t := 61) rfl rfl (by kernel_rfl) (by kernel_rfl) (by kernel_rfl) (fun _ _ _ h => h) (by rfl) (by intro w0 hSw; first | (go_simp; done) | (go_simp; with_reducible rfl)) (by assumption) ?_
          simp only [List.setIfInBounds_toArray, List.set_cons_zero, List.set_cons_succ]
          refine Rg.take (i := 9) (t := 62) rfl rfl (by kernel_rfl) (by kernel_rfl) (by kernel_rfl) (fun _ _ _ h => h) (by rfl) (by intro w0 hSw; first | (go_simp; done) | (go_simp; with_reducible rfl)) (by assumption) ?_
          simp only [List.setIfInBounds_toArray, List.set_cons_zero, List.set_cons_succ]
          refine Rg.take (i := 10) (t := 63) rfl rfl (by kernel_rfl) (by kernel_rfl) (by kernel_rfl) (fun _ _ _ h => h) (by rfl) (by intro w0 hSw; have z := hSw.2; first | (go_simp; done) | (go_simp; with_reducible rfl)) (by assumption) ?_
          simp only [List.setIfInBounds_toArray, List.set_cons_zero, List.set_cons_succ]
          refine Rg.one (i := 0) (by kernel_rfl) ?_
          refine Rg.eff (i := 0) (t := 53) rfl rfl (by rfl) (by go_simp; first | exact ⟨rfl, rfl⟩ | exact rfl) ((fun U => U.cell? ⟨b0, o0 + k * 5 + 1, none⟩ = some (.int .i64 x) ∧ U.cell? ⟨b0, o0 + k * 5 + 2, none⟩ = some (.int .i64 y))) (fun _ h => h) hS3 ?_
          simp only [List.setIfInBounds_toArray, List.set_cons_zero, List.set_cons_succ]
          refine Rg.one (i := 11) (by kernel_rfl) ?_
          refine Rg.call (i := 11) (t := 64) rfl rfl (by rfl) (by go_simp; exact ⟨rfl, rfl⟩) ?_
          refine (move_b B g1 HI.out.good x y _ HI.out.drew.lt HI.out.drew.wb).mono ?_
          rintro e u4 ⟨v4, rfl, ho4, hb4⟩
          have hx := ho4.wo
          obtain ⟨eA0, eA1, eA2, eA3, eA4, eA5, eA6, en0, ec0, en1, ec1, en2, ec2, en3, ec3, en4, ec4, en5, ec5, en6, ec6, rfl, _⟩ := hx
          have HI4 := Lib.hid (HI.out.drew.on hb4)
          have HO4 := Lib.hid ho4
          clear ho4 hb4
          have hS4 : (fun U => U.cell? ⟨b0, o0 + k * 5 + 1, none⟩ = some (.int .i64 x) ∧ U.cell? ⟨b0, o0 + k * 5 + 2, none⟩ = some (.int .i64 y)) u4 := ⟨((HI4.out.below.cell (p := ⟨b0, o0 + k * 5 + 1, none⟩) hb0).trans cX.out), (HI4.out.below.cell (p := ⟨b0, o0 + k * 5 + 2, none⟩) hb0).trans cY.out⟩
          refine ⟨_, rfl, (fun U => U.cell? ⟨b0, o0 + k * 5 + 1, none⟩ = some (.int .i64 x) ∧ U.cell? ⟨b0, o0 + k * 5 + 2, none⟩ = some (.int .i64 y)), fun _ h => h, hS4, ?_⟩
          simp only [List.setIfInBounds_toArray, List.set_cons_zero, List.set_cons_succ]
          refine Rg.take (i := 12) (t := 52) rfl rfl (by kernel_rfl) (by kernel_rfl) (by kernel_rfl) (fun _ _ _ h => h) (by rfl) (by intro w0 hSw; first | (go_simp; done) | (go_simp; with_reducible rfl)) (by assumption) ?_
          simp only [List.setIfInBounds_toArray, List.set_cons_zero, List.set_cons_succ]
          refine Rg.take (i := 13) (t := 65) rfl rfl (by kernel_rfl) (by kernel_rfl) (by kernel_rfl) (fun _ _ _ h => h) (by rfl) (by intro w0 hSw; first | (go_simp; done) | (go_simp; with_reducible rfl)) (by assumption) ?_
          simp only [List.setIfInBounds_toArray, List.set_cons_zero, List.set_cons_succ]
          refine Rg.take (i := 14) (t := 66) rfl rfl (by kernel_rfl) (by kernel_rfl) (by kernel_rfl) (fun _ _ _ h => h) (by rfl) (by intro w0 hSw; first | (go_simp; done) | (go_simp; with_reducible rfl)) (by assumption) ?_
          simp only [List.setIfInBounds_toArray, List.set_cons_zero, List.set_cons_succ]
          obtain ⟨y0, y1, y2, y3, y4, y5, y6, y7, y8, y9, y10, y11, y12, yf⟩ := cells13 HI4.out.box
          have HI5 := Lib.hid (show Inv w B N (mvG g1 x y) #[.slice eA0 en0 ec0, .slice eA1 en1 ec1, .slice eA2 en2 ec2, .slice eA3 en3 ec3, .slice eA4 en4 ec4, .slice eA5 en5 ec5, .slice eA6 en6 ec6, .int .u64 (mvG g1 x y).seed, .int .i64 (mvG g1 x y).sc, .int .i64 (mvG g1 x y).tu, .int .i64 (mvG g1 x y).ov, .int .i64 (mvG g1 x y).it, .int .i64 (mvG g1 x y).go] (set13w u4 B (.slice eA0 en0 ec0) (.slice eA1 en1 ec1) (.slice eA2 en2 ec2) (.slice eA3 en3 ec3) (.slice eA4 en4 ec4) (.slice eA5 en5 ec5) (.slice eA6 en6 ec6) (.int .u64 (mvG g1 x y).seed) (.int .i64 (mvG g1 x y).sc) (.int .i64 (mvG g1 x y).tu) (.int .i64 (mvG g1 x y).ov) (.int .i64 (mvG g1 x y).it) (.int .i64 (mvG g1 x y).go)) from ⟨set13 HI4.out.box, HO4.out.on (by unfold set13w; simp) (fun k _ hne => set13_other _ _ hne), mvG_good HI.out.good x y, (mvG_n g1 x y).trans HI.out.num, set13_below HI4.out.below hBw (Nat.zero_le _), by rw [AwkA.size13]; exact HI4.out.lt⟩)
          have hS5 : (fun U => U.cell? ⟨b0, o0 + k * 5 + 1, none⟩ = some (.int .i64 x) ∧ U.cell? ⟨b0, o0 + k * 5 + 2, none⟩ = some (.int .i64 y)) (set13w u4 B (.slice eA0 en0 ec0) (.slice eA1 en1 ec1) (.slice eA2 en2 ec2) (.slice eA3 en3 ec3) (.slice eA4 en4 ec4) (.slice eA5 en5 ec5) (.slice eA6 en6 ec6) (.int .u64 (mvG g1 x y).seed) (.int .i64 (mvG g1 x y).sc) (.int .i64 (mvG g1 x y).tu) (.int .i64 (mvG g1 x y).ov) (.int .i64 (mvG g1 x y).it) (.int .i64 (mvG g1 x y).go)) := ⟨((HI5.out.below.cell (p := ⟨b0, o0 + k * 5 + 1, none⟩) hb0).trans cX.out), (HI5.out.below.cell (p := ⟨b0, o0 + k * 5 + 2, none⟩) hb0).trans cY.out⟩
          refine Rg.one (i := 15) (by kernel_rfl) ?_
          refine RgIn.effN (i := 15) (w1 := set13w u4 B (.slice eA0 en0 ec0) (.slice eA1 en1 ec1) (.slice eA2 en2 ec2) (.slice eA3 en3 ec3) (.slice eA4 en4 ec4) (.slice eA5 en5 ec5) (.slice eA6 en6 ec6) (.int .u64 (mvG g1 x y).seed) (.int .i64 (mvG g1 x y).sc) (.int .i64 (mvG g1 x y).tu) (.int .i64 (mvG g1 x y).ov) (.int .i64 (mvG g1 x y).it) (.int .i64 (mvG g1 x y).go)) rfl rfl (by rfl) (by unfold set13w; first | (go_simp; done) | (go_simp; with_reducible rfl)) ⟨hS5, ?_⟩
          refine Rg.take (i := 16) (t := 7) rfl rfl (by kernel_rfl) (by kernel_rfl) (by kernel_rfl) (fun _ _ _ h => h) (by rfl) (by intro w0 hSw; first | (go_simp; done) | (go_simp; with_reducible rfl)) (by assumption) ?_
          simp only [List.setIfInBounds_toArray, List.set_cons_zero, List.set_cons_succ]
          refine wpAnyH_done (by kernel_rfl) ?_ _
          go_wp2_with fail
          go_meet
          case rel => exact ⟨mvE g1 x y, (mvG g1 x y), _, rfl, HI5.out, fun h => by
            have := pa_mv h
            rw [HI.out.num] at this
            exact this, by unfold mvE; split <;> (try split) <;> simp⟩
      case rest =>
        obtain ⟨E, g2, v2, rfl, hI, hE, hE1⟩ := hcut
        clear HI
        obtain ⟨fA0, fA1, fA2, fA3, fA4, fA5, fA6, fn0, fc0, fn1, fc1, fn2, fc2, fn3, fc3, fn4, fc4, fn5, fc5, fn6, fc6, hve, ⟨_, r1, _⟩, _⟩ := hI.wb.wo
        injection hve with hve
        subst hve
        obtain rfl : fn1 = N := r1.len.trans hI.num
        have HN2 := Lib.hid (nested_of hI.good)
        by_cases hE0 : E = 0
        · subst hE0
          obtain ⟨hT, hpa⟩ := hE rfl
          have hq : q = true := HQ'.out.symm.trans hT
          subst hq
          obtain ⟨kk, bp, op, rfl, hkk1, hkk2, rfl, hbp, hpc⟩ := at_cell r1 hT
          rw [hpa] at hpc
          have HPC := Lib.hid (show wc.drew.cell? ⟨bp, op + kk, none⟩ = some (.int .i64 y) from hpc)
          have hbp2 : bp < wc.drew.heap.size := hbp
          have kk0 : (0 : Int) ≤ (kk : Int) := by omega
          have kk1 : (kk : Int) < (fn1 : Int) := by omega
          have HI := Lib.hid hI.drew
          clear hI hE hE1 hT hpa hpc hbp r1
          go_wp2_with fail
          go_region_held3 (fun U => (U.cell? ⟨B, 0, none⟩ = some (.slice fA0 fn0 fc0) ∧ U.cell? ⟨B, 1, none⟩ = some (.slice (some ⟨bp, op, none⟩) fn1 fc1) ∧ U.cell? ⟨B, 2, none⟩ = some (.slice fA2 fn2 fc2) ∧ U.cell? ⟨B, 3, none⟩ = some (.slice fA3 fn3 fc3) ∧ U.cell? ⟨B, 4, none⟩ = some (.slice fA4 fn4 fc4) ∧ U.cell? ⟨B, 5, none⟩ = some (.slice fA5 fn5 fc5) ∧ U.cell? ⟨B, 6, none⟩ = some (.slice fA6 fn6 fc6) ∧ U.cell? ⟨B, 7, none⟩ = some (.int .u64 g2.seed) ∧ U.cell? ⟨B, 8, none⟩ = some (.int .i64 g2.sc) ∧ U.cell? ⟨B, 9, none⟩ = some (.int .i64 g2.tu) ∧ U.cell? ⟨B, 10, none⟩ = some (.int .i64 g2.ov) ∧ U.cell? ⟨B, 11, none⟩ = some (.int .i64 g2.it) ∧ U.cell? ⟨B, 12, none⟩ = some (.int .i64 g2.go)) ∧ U.cell? ⟨b0, o0 + k * 5 + 1, none⟩ = some (.int .i64 (kk : Int)) ∧ U.cell? ⟨b0, o0 + k * 5 + 2, none⟩ = some (.int .i64 y) ∧ U.cell? ⟨bp, op + kk, none⟩ = some (.int .i64 y)) (exact ⟨c13 HI.out.box, (HI.out.below.cell (p := ⟨b0, o0 + k * 5 + 1, none⟩) hb0).trans cX.out, (HI.out.below.cell (p := ⟨b0, o0 + k * 5 + 2, none⟩) hb0).trans cY.out, HPC.out⟩) ((go_at_call 37; refine (right_w g2 HI.out.wb.wo).mono ?_; rintro e u6 ⟨rfl, hb⟩; rw [HN2.out]; have HI2 := Lib.hid (HI.out.on hb); have HP2 := Lib.hid ((hb.cell (p := ⟨bp, op + kk, none⟩) hbp2).trans HPC.out); have hbp3 := Nat.lt_of_lt_of_le hbp2 hb.size; clear hb HI HPC hbp2; have HI := HI2; have HPC := HP2; have hbp2 := hbp3; clear HI2 HP2 hbp3))
          go_wp2_with fail
          go_roundw
          case rel => exact ⟨k + 1, g2, _, by omega, by go_num, HI.out⟩
          case measure => simp [intOf]; omega
        · have HI := Lib.hid hI.drew
          clear hI hE r1
          rcases hE1 with rfl | rfl | rfl
          · exact absurd rfl hE0
          all_goals
            clear hE0
            go_wp2_with fail
            have hS5 : (fun U => U.heap[B]? = some (.cells #[.slice fA0 fn0 fc0, .slice fA1 fn1 fc1, .slice fA2 fn2 fc2, .slice fA3 fn3 fc3, .slice fA4 fn4 fc4, .slice fA5 fn5 fc5, .slice fA6 fn6 fc6, .int .u64 g2.seed, .int .i64 g2.sc, .int .i64 g2.tu, .int .i64 g2.ov, .int .i64 g2.it, .int .i64 g2.go] 31 (0, 0))) wc.drew := HI.out.box
            refine wp_region_held_drew (S := (fun U => U.heap[B]? = some (.cells #[.slice fA0 fn0 fc0, .slice fA1 fn1 fc1, .slice fA2 fn2 fc2, .slice fA3 fn3 fc3, .slice fA4 fn4 fc4, .slice fA5 fn5 fc5, .slice fA6 fn6 fc6, .int .u64 g2.seed, .int .i64 g2.sc, .int .i64 g2.tu, .int .i64 g2.ov, .int .i64 g2.it, .int .i64 g2.go] 31 (0, 0)))) (by kernel_rfl) hS5 (fun hHeld => ?_)
            refine Rg.take (i := 0) (t := 67) rfl rfl (by kernel_rfl) (by kernel_rfl) (by kernel_rfl) (fun _ _ _ h => h) (by rfl) (by intro w0 hSw; obtain ⟨x0, x1, x2, x3, x4, x5, x6, x7, x8, x9, x10, x11, x12, xf⟩ := cells13 hSw; first | (go_simp; done) | (go_simp; with_reducible rfl)) (by assumption) ?_
            simp only [List.setIfInBounds_toArray, List.set_cons_zero, List.set_cons_succ]
            refine Rg.one (i := 1) (by kernel_rfl) ?_
            refine Rg.call (i := 1) (t := 68) rfl rfl (by rfl) (by go_simp; exact ⟨rfl, rfl⟩) ?_
            refine (right_w g2 HI.out.wb.wo).mono ?_
            rintro e u6 ⟨rfl, hb⟩
            rw [HN2.out]
            have HI2 := Lib.hid (HI.out.on hb)
            have hS6 : (fun U => U.heap[B]? = some (.cells #[.slice fA0 fn0 fc0, .slice fA1 fn1 fc1, .slice fA2 fn2 fc2, .slice fA3 fn3 fc3, .slice fA4 fn4 fc4, .slice fA5 fn5 fc5, .slice fA6 fn6 fc6, .int .u64 g2.seed, .int .i64 g2.sc, .int .i64 g2.tu, .int .i64 g2.ov, .int .i64 g2.it, .int .i64 g2.go] 31 (0, 0))) u6 := HI2.out.box
            clear hb
            refine ⟨_, rfl, (fun U => U.heap[B]? = some (.cells #[.slice fA0 fn0 fc0, .slice fA1 fn1 fc1, .slice fA2 fn2 fc2, .slice fA3 fn3 fc3, .slice fA4 fn4 fc4, .slice fA5 fn5 fc5, .slice fA6 fn6 fc6, .int .u64 g2.seed, .int .i64 g2.sc, .int .i64 g2.tu, .int .i64 g2.ov, .int .i64 g2.it, .int .i64 g2.go] 31 (0, 0))), fun _ h => h, hS6, ?_⟩
            simp only [List.setIfInBounds_toArray, List.set_cons_zero, List.set_cons_succ]
            refine Rg.take (i := 2) (t := 69) rfl rfl (by kernel_rfl) (by kernel_rfl) (by kernel_rfl) (fun _ _ _ h => h) (by rfl) (by intro w0 hSw; first | (go_simp; done) | (go_simp; with_reducible rfl)) (by assumption) ?_
            simp only [List.setIfInBounds_toArray, List.set_cons_zero, List.set_cons_succ]
            refine Rg.take (i := 3) (t := 70) rfl rfl (by kernel_rfl) (by kernel_rfl) (by kernel_rfl) (fun _ _ _ h => h) (by rfl) (by intro w0 hSw; first | (go_simp; done) | (go_simp; with_reducible rfl)) (by assumption) ?_
            simp only [List.setIfInBounds_toArray, List.set_cons_zero, List.set_cons_succ]
            refine Rg.take (i := 4) (t := 71) rfl rfl (by kernel_rfl) (by kernel_rfl) (by kernel_rfl) (fun _ _ _ h => h) (by rfl) (by intro w0 hSw; first | (go_simp; done) | (go_simp; with_reducible rfl)) (by assumption) ?_
            simp only [List.setIfInBounds_toArray, List.set_cons_zero, List.set_cons_succ]
            refine Rg.take (i := 5) (t := 72) rfl rfl (by kernel_rfl) (by kernel_rfl) (by kernel_rfl) (fun _ _ _ h => h) (by rfl) (by intro w0 hSw; obtain ⟨x0, x1, x2, x3, x4, x5, x6, x7, x8, x9, x10, x11, x12, xf⟩ := cells13 hSw; first | (go_simp; done) | (go_simp; with_reducible rfl)) (by assumption) ?_
            simp only [List.setIfInBounds_toArray, List.set_cons_zero, List.set_cons_succ]
            refine Rg.take (i := 6) (t := 73) rfl rfl (by kernel_rfl) (by kernel_rfl) (by kernel_rfl) (fun _ _ _ h => h) (by rfl) (by intro w0 hSw; first | (go_simp; done) | (go_simp; with_reducible rfl)) (by assumption) ?_
            simp only [List.setIfInBounds_toArray, List.set_cons_zero, List.set_cons_succ]
            refine Rg.take (i := 7) (t := 74) rfl rfl (by kernel_rfl) (by kernel_rfl) (by kernel_rfl) (fun _ _ _ h => h) (by rfl) (by intro w0 hSw; first | (go_simp; done) | (go_simp; with_reducible rfl)) (by assumption) ?_
            simp only [List.setIfInBounds_toArray, List.set_cons_zero, List.set_cons_succ]
            refine Rg.take (i := 8) (t := 75) rfl rfl (by kernel_rfl) (by kernel_rfl) (by kernel_rfl) (fun _ _ _ h => h) (by rfl) (by intro w0 hSw; first | (go_simp; done) | (go_simp; with_reducible rfl)) (by assumption) ?_
            simp only [List.setIfInBounds_toArray, List.set_cons_zero, List.set_cons_succ]
            refine Rg.take (i := 9) (t := 76) rfl rfl (by kernel_rfl) (by kernel_rfl) (by kernel_rfl) (fun _ _ _ h => h) (by rfl) (by intro w0 hSw; first | (go_simp; done) | (go_simp; with_reducible rfl)) (by assumption) ?_
            simp only [List.setIfInBounds_toArray, List.set_cons_zero, List.set_cons_succ]
            refine Rg.take (i := 10) (t := 77) rfl rfl (by kernel_rfl) (by kernel_rfl) (by kernel_rfl) (fun _ _ _ h => h) (by rfl) (by intro w0 hSw; first | (go_simp; done) | (go_simp; with_reducible rfl)) (by assumption) ?_
            simp only [List.setIfInBounds_toArray, List.set_cons_zero, List.set_cons_succ]
            refine Rg.take (i := 11) (t := 78) rfl rfl (by kernel_rfl) (by kernel_rfl) (by kernel_rfl) (fun _ _ _ h => h) (by rfl) (by intro w0 hSw; first | (go_simp; done) | (go_simp; with_reducible rfl)) (by assumption) ?_
            simp only [List.setIfInBounds_toArray, List.set_cons_zero, List.set_cons_succ]
            refine Rg.take (i := 12) (t := 79) rfl rfl (by kernel_rfl) (by kernel_rfl) (by kernel_rfl) (fun _ _ _ h => h) (by rfl) (by intro w0 hSw; first | (go_simp; done) | (go_simp; with_reducible rfl)) (by assumption) ?_
            simp only [List.setIfInBounds_toArray, List.set_cons_zero, List.set_cons_succ]
            refine Rg.take (i := 13) (t := 80) rfl rfl (by kernel_rfl) (by kernel_rfl) (by kernel_rfl) (fun _ _ _ h => h) (by rfl) (by intro w0 hSw; first | (go_simp; done) | (go_simp; with_reducible rfl)) (by assumption) ?_
            simp only [List.setIfInBounds_toArray, List.set_cons_zero, List.set_cons_succ]
            refine Rg.pass (i := 14) (t := 81) rfl rfl (by kernel_rfl) (by kernel_rfl) (by kernel_rfl) (fun _ _ _ h => h) (by rfl) (by assumption) ?_
            simp only [List.setIfInBounds_toArray, List.set_cons_zero, List.set_cons_succ]
            refine Rg.pass (i := 15) (t := 82) rfl rfl (by kernel_rfl) (by kernel_rfl) (by kernel_rfl) (fun _ _ _ h => h) (by rfl) (by assumption) ?_
            simp only [List.setIfInBounds_toArray, List.set_cons_zero, List.set_cons_succ]
            refine Rg.take (i := 16) (t := 83) rfl rfl (by kernel_rfl) (by kernel_rfl) (by kernel_rfl) (fun _ _ _ h => h) (by rfl) (by intro w0 hSw; first | (go_simp; done) | (go_simp; with_reducible rfl)) (by assumption) ?_
            simp only [List.setIfInBounds_toArray, List.set_cons_zero, List.set_cons_succ]
            refine Rg.take (i := 17) (t := 84) rfl rfl (by kernel_rfl) (by kernel_rfl) (by kernel_rfl) (fun _ _ _ h => h) (by rfl) (by intro w0 hSw; first | (go_simp; done) | (go_simp; with_reducible rfl)) (by assumption) ?_
            simp only [List.setIfInBounds_toArray, List.set_cons_zero, List.set_cons_succ]
            refine Rg.take (i := 18) (t := 85) rfl rfl (by kernel_rfl) (by kernel_rfl) (by kernel_rfl) (fun _ _ _ h => h) (by rfl) (by intro w0 hSw; first | (go_simp; done) | (go_simp; with_reducible rfl)) (by assumption) ?_
            simp only [List.setIfInBounds_toArray, List.set_cons_zero, List.set_cons_succ]
            refine Rg.take (i := 19) (t := 86) rfl rfl (by kernel_rfl) (by kernel_rfl) (by kernel_rfl) (fun _ _ _ h => h) (by rfl) (by intro w0 hSw; first | (go_simp; done) | (go_simp; with_reducible rfl)) (by assumption) ?_
            simp only [List.setIfInBounds_toArray, List.set_cons_zero, List.set_cons_succ]
            refine Rg.take (i := 20) (t := 87) rfl rfl (by kernel_rfl) (by kernel_rfl) (by kernel_rfl) (fun _ _ _ h => h) (by rfl) (by intro w0 hSw; first | (go_simp; done) | (go_simp; with_reducible rfl)) (by assumption) ?_
            simp only [List.setIfInBounds_toArray, List.set_cons_zero, List.set_cons_succ]
            refine Rg.take (i := 21) (t := 88) rfl rfl (by kernel_rfl) (by kernel_rfl) (by kernel_rfl) (fun _ _ _ h => h) (by rfl) (by intro w0 hSw; first | (go_simp; done) | (go_simp; with_reducible rfl)) (by assumption) ?_
            simp only [List.setIfInBounds_toArray, List.set_cons_zero, List.set_cons_succ]
            refine Rg.pass (i := 22) (t := 89) rfl rfl (by kernel_rfl) (by kernel_rfl) (by kernel_rfl) (fun _ _ _ h => h) (by rfl) (by assumption) ?_
            simp only [List.setIfInBounds_toArray, List.set_cons_zero, List.set_cons_succ]
            refine Rg.pass (i := 23) (t := 90) rfl rfl (by kernel_rfl) (by kernel_rfl) (by kernel_rfl) (fun _ _ _ h => h) (by rfl) (by assumption) ?_
            simp only [List.setIfInBounds_toArray, List.set_cons_zero, List.set_cons_succ]
            refine Rg.pass (i := 24) (t := 91) rfl rfl (by kernel_rfl) (by kernel_rfl) (by kernel_rfl) (fun _ _ _ h => h) (by rfl) (by assumption) ?_
            simp only [List.setIfInBounds_toArray, List.set_cons_zero, List.set_cons_succ]
            refine Rg.pass (i := 25) (t := 92) rfl rfl (by kernel_rfl) (by kernel_rfl) (by kernel_rfl) (fun _ _ _ h => h) (by rfl) (by assumption) ?_
            simp only [List.setIfInBounds_toArray, List.set_cons_zero, List.set_cons_succ]
            refine Rg.pass (i := 26) (t := 93) rfl rfl (by kernel_rfl) (by kernel_rfl) (by kernel_rfl) (fun _ _ _ h => h) (by rfl) (by assumption) ?_
            simp only [List.setIfInBounds_toArray, List.set_cons_zero, List.set_cons_succ]
            refine Rg.pass (i := 27) (t := 94) rfl rfl (by kernel_rfl) (by kernel_rfl) (by kernel_rfl) (fun _ _ _ h => h) (by rfl) (by assumption) ?_
            simp only [List.setIfInBounds_toArray, List.set_cons_zero, List.set_cons_succ]
            refine Rg.pass (i := 28) (t := 95) rfl rfl (by kernel_rfl) (by kernel_rfl) (by kernel_rfl) (fun _ _ _ h => h) (by rfl) (by assumption) ?_
            simp only [List.setIfInBounds_toArray, List.set_cons_zero, List.set_cons_succ]
            refine Rg.pass (i := 29) (t := 96) rfl rfl (by kernel_rfl) (by kernel_rfl) (by kernel_rfl) (fun _ _ _ h => h) (by rfl) (by assumption) ?_
            simp only [List.setIfInBounds_toArray, List.set_cons_zero, List.set_cons_succ]
            refine Rg.pass (i := 30) (t := 97) rfl rfl (by kernel_rfl) (by kernel_rfl) (by kernel_rfl) (fun _ _ _ h => h) (by rfl) (by assumption) ?_
            simp only [List.setIfInBounds_toArray, List.set_cons_zero, List.set_cons_succ]
            refine Rg.pass (i := 31) (t := 98) rfl rfl (by kernel_rfl) (by kernel_rfl) (by kernel_rfl) (fun _ _ _ h => h) (by rfl) (by assumption) ?_
            simp only [List.setIfInBounds_toArray, List.set_cons_zero, List.set_cons_succ]
            refine Rg.pass (i := 32) (t := 99) rfl rfl (by kernel_rfl) (by kernel_rfl) (by kernel_rfl) (fun _ _ _ h => h) (by rfl) (by assumption) ?_
            simp only [List.setIfInBounds_toArray, List.set_cons_zero, List.set_cons_succ]
            refine Rg.pass (i := 33) (t := 100) rfl rfl (by kernel_rfl) (by kernel_rfl) (by kernel_rfl) (fun _ _ _ h => h) (by rfl) (by assumption) ?_
            simp only [List.setIfInBounds_toArray, List.set_cons_zero, List.set_cons_succ]
            refine Rg.pass (i := 34) (t := 101) rfl rfl (by kernel_rfl) (by kernel_rfl) (by kernel_rfl) (fun _ _ _ h => h) (by rfl) (by assumption) ?_
            simp only [List.setIfInBounds_toArray, List.set_cons_zero, List.set_cons_succ]
            refine Rg.pass (i := 35) (t := 102) rfl rfl (by kernel_rfl) (by kernel_rfl) (by kernel_rfl) (fun _ _ _ h => h) (by rfl) (by assumption) ?_
            simp only [List.setIfInBounds_toArray, List.set_cons_zero, List.set_cons_succ]
            refine Rg.pass (i := 36) (t := 103) rfl rfl (by kernel_rfl) (by kernel_rfl) (by kernel_rfl) (fun _ _ _ h => h) (by rfl) (by assumption) ?_
            simp only [List.setIfInBounds_toArray, List.set_cons_zero, List.set_cons_succ]
            refine Rg.take (i := 37) (t := 104) rfl rfl (by kernel_rfl) (by kernel_rfl) (by kernel_rfl) (fun _ _ _ h => h) (by rfl) (by intro w0 hSw; first | (go_simp; done) | (go_simp; with_reducible rfl)) (by assumption) ?_
            simp only [List.setIfInBounds_toArray, List.set_cons_zero, List.set_cons_succ]
            refine Rg.take (i := 38) (t := 105) rfl rfl (by kernel_rfl) (by kernel_rfl) (by kernel_rfl) (fun _ _ _ h => h) (by rfl) (by intro w0 hSw; first | (go_simp; done) | (go_simp; with_reducible rfl)) (by assumption) ?_
            simp only [List.setIfInBounds_toArray, List.set_cons_zero, List.set_cons_succ]
            refine wpAnyH_done (by kernel_rfl) ?_ _
            clear HI
            have HI := HI2
            clear HI2
            go_wp2_with fail
            go_roundw
            case rel => exact ⟨k + 1, g2, _, by omega, by go_num, HI.out⟩
            case measure => simp [intOf]; omega
    · have d0 : decide (k < m) = false := decide_eq_false hlt
      have HI := Lib.hid hI.below
      clear hI
      go_wp2_with (go_at_call 38; refine (AwkA.awake _).mono ?_; rintro e u7 ⟨rfl, hb⟩; have hz := HI.out.trans (hb.mono HI.out.size))
      go_ret
      exact ⟨rfl, hz⟩

theorem own : ownKnob Try.prog.godebug = none := by kernel_rfl

set_option maxRecDepth 100000 in
set_option maxHeartbeats 2000000 in
theorem lifted (os : Os) (started : os.Started) (H : Type) (enc : TypeId × Value → H) :
    ReturnsInHanded {} Try.checked os 8 .any (Rows.nestKeepsSpec.pre6 enc Try.prog Try.f8 Rows.nestKeepsRow.domain false) (Rows.nestKeepsSpec.post enc Try.prog Try.f8 false true false false) := by
  refine returnsInHanded_of_change_sized (C := Try.checked) own started (by kernel_rfl) Try.func8
    (ChangeSpec.witness6 (enc := enc) (C := Try.checked) false ⟨#[], #[.int .i64 0, .slice none 0 0], []⟩ 8 (by kernel_rfl) (by kernel_rfl) (by kernel_rfl) (by kernel_rfl)) ?_
  intro W base args ds gs before hval0 hW hcnd hsz0 _
  have hval : ∀ (j : Nat) t v, Try.f8.params[j]? = some t → args[j]? = some v → Value.okWide Try.prog W .any base t v := hval0
  have hW' := hW
  obtain ⟨p, q, hA0, hV, rfl, hfz, hnd⟩ := hW
  have hA : DataW.TrodAll enc Try.prog W 0 (fun _ => true) true Try.f8.params.toList args.toList ds p := hA0
  rw [Try.params8] at hA hval
  obtain ⟨v0, vs0, d0, ds0, p0, q0, hargs, rfl, rfl, h0, r0⟩ := trodAll_cons hA
  obtain ⟨v1, vs1, d1, ds1, p1, q1, rfl, rfl, rfl, h1, r1⟩ := trodAll_cons r0
  obtain ⟨rfl, rfl, rfl⟩ := trodAll_nil r1
  obtain rfl : args = #[v0, v1] := by cases args; simp_all
  clear hV
  have hsz : (DataW.weightsEach Try.prog (3 :: 51 :: _) (d0 :: d1 :: _)).all (· ≤ reachBytes) = true := hsz0
  obtain ⟨a0, rfl, rfl, rfl, w0⟩ := open_int Try.underlying3 (hval 0 3 v0 rfl rfl) h0
  obtain ⟨l1, o1⟩ := open_cmds (hval 1 51 v1 rfl rfl) h1
  clear hA0 hval0
  refine (walk W a0 w0 v1 l1 o1).mono fun e W' ⟨he, hg⟩ => ?_
  subst he
  exact ⟨_, rfl, Law.post (by kernel_rfl) (by kernel_rfl) Try.underlying4 rfl rfl hW' hg ⟨rfl, rfl, rfl⟩⟩

theorem over : Rows.nestKeepsRow.holds Try.pinned (OpenSpec.ofChange Rows.nestKeepsSpec) :=
  OpenClaim.holds_of_wide 8 Try.f8 rfl rfl rfl rfl rfl rfl rfl ⟨rfl, rfl, rfl, rfl, rfl⟩ rfl rfl rfl rfl rfl (by kernel_rfl) Try.func8 (by kernel_rfl)
    (of_decide_eq_true (by kernel_rfl)) (by unfold Func.isWrapper; first | (rw [if_pos (by decide +kernel)]; kernel_rfl) | (rw [if_neg (by decide +kernel)]; exact ⟨rfl, rfl⟩))
    (fun os started H enc _ => lifted os started H enc)

/-- The statement. -/
theorem proved : Rows.NestKeepsSaid := over
#print axioms proved
end Go.Proofs.Ytncdicagadbafaa.nestKeeps
