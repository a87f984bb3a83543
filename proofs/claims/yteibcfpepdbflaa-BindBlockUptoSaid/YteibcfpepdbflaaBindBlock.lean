/- Block and Expr return the specified statements and expressions for the routines of every source without a fault. Condition: the arguments are of bulk at most 1048576. -/
import Derived.Test.YteibcfpepdbflaaOkP
import Derived.Test.YteibcfpepdbflaaLawS
import Derived.Test.YteibcfpepdbflaaBindZ
import Derived.Test.YteibcfpepdbflaaBindA
import Derived.Test.YteibcfpepdbflaaBindH
namespace Go.Proofs.Yteibcfpepdbflaa.bindBlock
open Go Go.RowKit Go.ChangeShapes Go.WideShapes Go.ChangeAt BindP BindD BindO BindW BindG BindX BindY BindB BindT BindU BindN BindE BindA BindF BindH BindZ RtX RtY RtC RtE RtF TxA TxB TxL LawS MkP MkA MkC CkP CkE CkK CkM CkN OkP
open Byt (str)

structure Pk (w : World) (bA : Option Addr) (bc : Nat) (b : List St) (A3 : Option Addr) (lo : List S) : Prop where
  rb : Ls top w bA bc b
  n : nB (stPs b) ≤ 1048576
  ok : okB (stPs b)
  rl : Sq.Rd sv w A3 lo.length lo
  sz : lo.length ≤ 1048576
set_option maxRecDepth 100000 in
set_option maxHeartbeats 64000000 in
theorem walk (so : So) (i : Int) (w : World) (hr : So.R top w so) (hz : So.m so ≤ 1048576) : Calls Try.prog 4 #[.agg (So.e so).toArray, .int .i64 i] w fun e w' => e = .returned (.bool true) ∧ Below w.heap.size w w' := by
  have HFI := Lib.hid (fun u (hu : Below w.heap.size w u) => fine_c so u (So.stays _ _ _ _ _ (Keep.below hu) hr) hz)
  have HTR := Lib.hid (fun u (hu : Below w.heap.size w u) => texts_r so u (So.stays _ _ _ _ _ (Keep.below hu) hr) hz)
  have hLN : ((adds so).foldl wth []).length ≤ 4194304 := by
    have h1 := wths_len (adds so) []
    have h2 := flat_len obT_len so.ob.l
    have h3 := ruT_len so.ru.l
    have h4 := fnT_len so.fn.l
    have h5 := fnT_len so.dm.l
    unfold So.m at hz
    unfold adds at h1 ⊢
    simp only [List.length_append, List.length_cons, List.length_nil] at h1
    omega
  obtain ⟨tx, htx⟩ : ∃ L, (adds so).foldl wth [] = L := ⟨_, rfl⟩
  rw [htx] at HTR hLN
  have HLN := Lib.hid hLN
  obtain ⟨n2, hn2⟩ : ∃ n, tx.length = n := ⟨_, rfl⟩
  rw [hn2] at HTR
  have HN2 := Lib.hid hn2
  have HEL := Lib.hid (ens_len so hz)
  obtain ⟨FV, hFV⟩ : ∃ p, p = FineV so := ⟨_, rfl⟩
  have HFV := Lib.hid (show ∀ u e w', FV u e w' → ∃ (A : Option Addr) (T : List Nm) (c : Nat) (b : Bool), e = .returned (.tuple #[.slice A T.length c, .bool b]) ∧ (b = true → Sk.Rd nmE w' A T.length T ∧ Up T ∧ T.length ≤ 1048580 ∧ SoP so) ∧ Below u.heap.size u w' from fun u e w' h => by
    rw [hFV] at h
    obtain ⟨A, T, c, b, h1, h2, h3⟩ := h
    exact ⟨A, T, c, b, h1, fun hb => ⟨(h2 hb).2.1, (h2 hb).2.2.1.up, by have := (h2 hb).2.2.1.len; have := HEL.out; omega, (h2 hb).2.2.2.1⟩, h3⟩)
  have HFI := Lib.hid (fun u (hu : Below w.heap.size w u) => (show Calls _ _ _ _ (FV u) by rw [hFV]; exact HFI.out u hu))
  obtain ⟨SP, hSP⟩ : ∃ p, p = SoP so := ⟨_, rfl⟩
  rw [← hSP] at HFV
  have HSP := Lib.hid hSP
  obtain ⟨ti, by_, st, re, mx, ⟨fA, fc, fl⟩, ⟨pA, pc, pr⟩, ⟨gA, gc, gl⟩, ⟨oA, oc, ob⟩, ⟨vA, vc, vb⟩, ⟨rA, rc, ru⟩, ⟨nA, nc, fn⟩, ⟨dA, dc, dm⟩⟩ := so
  have HSP := Lib.hid (show SP → FuncsP 64 8 fn ∧ FuncsP 16 0 dm ∧ ∀ r ∈ ru, RlP r from fun h => by rw [hSP] at h; exact ⟨h.2.2.2.2.2.2.2.1, h.2.2.2.2.2.2.2.2.1, h.2.2.2.2.2.2.2.2.2.2.2.1⟩)
  have HZ := Lib.hid (show (ru.map Rl.m).sum ≤ 1048576 ∧ (fn.map BindO.Fn.m).sum ≤ 1048576 ∧ (dm.map BindO.Fn.m).sum ≤ 1048576 by unfold So.m at hz; simp only at hz; omega)
  have zR : ru.length ≤ 1048576 := Nat.le_trans (sum_len (m := Rl.m) (fun _ => by unfold Rl.m; omega) ru) HZ.out.1
  have zN : fn.length ≤ 1048576 := Nat.le_trans (sum_len (m := BindO.Fn.m) (fun _ => by unfold BindO.Fn.m; omega) fn) HZ.out.2.1
  have zD : dm.length ≤ 1048576 := Nat.le_trans (sum_len (m := BindO.Fn.m) (fun _ => by unfold BindO.Fn.m; omega) dm) HZ.out.2.2
  have HR := Lib.hid (show Lg Rl.e Rl.R top w rA rc ru ∧ Lg BindO.Fn.e BindO.Fn.R top w nA nc fn ∧ Lg BindO.Fn.e BindO.Fn.R top w dA dc dm from hr.2.2.2.2.2)
  clear hr hz hFV hSP htx hn2 hLN HEL
  show Calls Try.prog 4 #[.agg #[.string (str ti), .string (str by_), .string (str st), .int .i64 re, .int .i64 mx, .slice fA fl.length fc, .slice pA pr.length pc, .slice gA gl.length gc, .slice oA ob.length oc, .slice vA vb.length vc, .slice rA ru.length rc, .slice nA fn.length nc, .slice dA dm.length dc], .int .i64 i] w _
  obtain ⟨V, hV⟩ : ∃ W, w.alloc (.cells #[.string (str ti), .string (str by_), .string (str st), .int .i64 re, .int .i64 mx, .slice fA fl.length fc, .slice pA pr.length pc, .slice gA gl.length gc, .slice oA ob.length oc, .slice vA vb.length vc, .slice rA ru.length rc, .slice nA fn.length nc, .slice dA dm.length dc] 29) = W := ⟨_, rfl⟩
  obtain ⟨m1, s1, b1⟩ := made hV
  have HO0 := Lib.hid (show ∀ U, Below V.heap.size V U → U.heap[w.heap.size]? = some (.cells #[.string (str ti), .string (str by_), .string (str st), .int .i64 re, .int .i64 mx, .slice fA fl.length fc, .slice pA pr.length pc, .slice gA gl.length gc, .slice oA ob.length oc, .slice vA vb.length vc, .slice rA ru.length rc, .slice nA fn.length nc, .slice dA dm.length dc] 29 (0, 0)) from fun U h => (h.block _ (Array.getElem?_eq_some_iff.1 m1).1).trans m1)
  have HBV := Lib.hid b1
  have HBT := Lib.hid (show ∀ U, Below V.heap.size V U → Below w.heap.size w U from fun U h => HBV.out.trans (h.mono HBV.out.size))
  obtain ⟨p0, hp0⟩ : ∃ p, w.heap.size = p := ⟨_, rfl⟩
  rw [hp0] at HO0
  clear m1 s1 b1
  obtain ⟨x0, x1, x2, x3, x4, x5, x6, x7, x8, x9, x10, x11, x12, xf⟩ := cellz13 (HO0.out V (Below.refl _ _))
  go_enter Try.func4, Try.ntmps4
  go_wp2_with fail
  clear hV hp0
  refine (HFI.out V HBV.out).mono ?_
  rintro e w2 hfv
  obtain ⟨A1, T, c1, b2, rfl, hp, hb⟩ := HFV.out _ _ _ hfv
  have HP := Lib.hid hp
  have HB2 := Lib.hid hb
  obtain ⟨n1, hn1⟩ : ∃ n, T.length = n := ⟨_, rfl⟩
  rw [hn1] at HP ⊢
  have HAW := Lib.hid (show ∀ u, Below V.heap.size V u → Calls Try.prog 7 #[] u fun e w' => e = .returned (.bool true) ∧ Below w.heap.size w w' from fun u hu => (awake_i u).mono (by rintro e w' ⟨rfl, hb⟩; exact ⟨rfl, HBT.out _ (hu.trans (hb.mono hu.size))⟩))
  clear hfv hp hb x0 x1 x2 x3 x4 x5 x6 x7 x8 x9 x10 x11 x12 xf
  obtain ⟨x0, x1, x2, x3, x4, x5, x6, x7, x8, x9, x10, x11, x12, xf⟩ := cellz13 (HO0.out w2 HB2.out)
  obtain ⟨nn, hnn⟩ : ∃ n : Nat, (ru.length : Int) + (fn.length : Int) + (dm.length : Int) = (n : Int) := ⟨ru.length + fn.length + dm.length, by omega⟩
  have HNN := Lib.hid (show nn = ru.length + fn.length + dm.length by omega)
  have hnz : nn ≤ 3145728 := by omega
  cases b2 with
  | false =>
    go_wp2_with fail
    refine (HAW.out w2 HB2.out).mono ?_
    rintro e w3 ⟨rfl, hb⟩
    have HBE := Lib.hid hb
    clear hb
    go_wp2_with fail
    go_ret
    exact ⟨rfl, HBE.out⟩
  | true =>
    by_cases h0 : nn = 0
    · have q0 : ((nn : Int) == 0) = true := by rw [h0]; rfl
      clear h0
      go_wp2_with fail
      refine (HAW.out w2 HB2.out).mono ?_
      rintro e w3 ⟨rfl, hb⟩
      have HBE := Lib.hid hb
      clear hb
      go_wp2_with fail
      go_ret
      exact ⟨rfl, HBE.out⟩
    have q0 : ((nn : Int) == 0) = false := beq_eq_false_iff_ne.2 (by omega)
    have ht1 := Int.lt_tmod_of_pos i (show (0 : Int) < (nn : Int) by omega)
    have ht2 := Int.tmod_lt_of_pos i (show (0 : Int) < (nn : Int) by omega)
    have hw6 : wrap64 (i.tmod (nn : Int) + (nn : Int)) = i.tmod (nn : Int) + (nn : Int) := by unfold wrap64; omega
    obtain ⟨k, hk⟩ : ∃ k : Nat, (wrap64 (i.tmod (nn : Int) + (nn : Int))).tmod (nn : Int) = (k : Int) := ⟨((i.tmod (nn : Int) + (nn : Int)).tmod (nn : Int)).toNat, by
      rw [hw6]
      have h := Int.tmod_nonneg (nn : Int) (show 0 ≤ i.tmod (nn : Int) + (nn : Int) by omega)
      omega⟩
    have hkn : k < nn := by
      rw [hw6] at hk
      have h := Int.tmod_lt_of_pos (i.tmod (nn : Int) + (nn : Int)) (show (0 : Int) < (nn : Int) by omega)
      omega
    have HKN := Lib.hid hkn
    have HPP := Lib.hid (HP.out (by trivial))
    have HS := Lib.hid (HSP.out HPP.out.2.2.2)
    clear ht1 ht2 hw6
    go_upto_block 0 with fail
    clear hk
    go_cut [9, 10] (fun v9 v10 wx => ∃ (b : List St) (bA : Option Addr) (bc : Nat) (lo : List S) (A3 : Option Addr) (c3 : Nat), v9 = .slice bA b.length bc ∧ v10 = .slice A3 lo.length c3 ∧ Pk w bA bc b A3 lo ∧ Below w2.heap.size w2 wx)
    case first =>
      by_cases h1 : k < ru.length
      · have q1 : decide (k < ru.length) = true := decide_eq_true h1
        have k0 : (0 : Int) ≤ (k : Int) := by omega
        have k1 : (k : Int) < (ru.length : Int) := by omega
        obtain ⟨b, o, he, hbz, hc⟩ := Lg.at_ Rl.len (Lg.keep Rl.stays (Keep.below (HBT.out w2 HB2.out)) HR.out.1) h1
        have hmem : ru[k] ∈ ru := List.getElem_mem h1
        have hrd := HR.out.1.2 _ hmem
        have hok := (HS.out.2.2 _ hmem).2.2.2.2
        have hsm := sum_mem (m := Rl.m) ru _ hmem
        obtain ⟨y, hy⟩ : ∃ y, ru[k] = y := ⟨_, rfl⟩
        rw [hy] at hc hrd hok hsm
        obtain ⟨rvb, rph, rno, rse, ⟨wA, cw, wl⟩, ⟨bA, bc, bl⟩⟩ := y
        have hmm : nB (stPs bl) ≤ Rl.m ⟨rvb, rph, rno, rse, ⟨wA, cw, wl⟩, ⟨bA, bc, bl⟩⟩ := by unfold Rl.m; simp only; omega
        have hz1 := HZ.out.1
        have HPK := Lib.hid (show Pk w bA bc bl none [] from ⟨hrd.2, by omega, right_okB hok, Sq.Rd.nil _ _, by simp⟩)
        have x10b : w2.cell? ⟨p0, 10, none⟩ = some (.slice (some ⟨b, o, none⟩) ru.length rc) := by rw [x10, he]
        have c5 : w2.cell? ⟨b, o + k * 6 + 5, none⟩ = some (.slice bA bl.length bc) := hc 5 _ rfl
        clear hc hy hmem hbz he x10 hrd hok hsm hmm hz1
        go_wp2_with fail
        go_meet
        exact ⟨bl, bA, bc, [], none, 0, rfl, rfl, HPK.out, Below.refl _ _⟩
      have q1 : decide (k < ru.length) = false := decide_eq_false h1
      obtain ⟨j1, hj1⟩ : ∃ j : Nat, (k : Int) - (ru.length : Int) = (j : Int) := ⟨k - ru.length, by omega⟩
      by_cases h2 : k < ru.length + fn.length
      · have q2 : decide (k < ru.length + fn.length) = true := decide_eq_true h2
        have q2b : decide ((k : Int) < (ru.length : Int) + (fn.length : Int)) = true := decide_eq_true (by omega)
        have hjl : j1 < fn.length := by omega
        have k0 : (0 : Int) ≤ (j1 : Int) := by omega
        have k1 : (j1 : Int) < (fn.length : Int) := by omega
        obtain ⟨b, o, he, hbz, hc⟩ := Lg.at_ BindO.Fn.len (Lg.keep BindO.Fn.stays (Keep.below (HBT.out w2 HB2.out)) HR.out.2.1) hjl
        have hmem : fn[j1] ∈ fn := List.getElem_mem hjl
        have hrd := HR.out.2.1.2 _ hmem
        have hok := (HS.out.1.2 _ hmem).2.2
        have hsm := sum_mem (m := BindO.Fn.m) fn _ hmem
        obtain ⟨y, hy⟩ : ∃ y, fn[j1] = y := ⟨_, rfl⟩
        rw [hy] at hc hrd hok hsm
        obtain ⟨fnm, ⟨qA, qc, ql⟩, ⟨bA, bc, bl⟩⟩ := y
        have hmm : nB (stPs bl) ≤ BindO.Fn.m ⟨fnm, ⟨qA, qc, ql⟩, ⟨bA, bc, bl⟩⟩ ∧ (ql.map fun x => x.length + 1).sum ≤ BindO.Fn.m ⟨fnm, ⟨qA, qc, ql⟩, ⟨bA, bc, bl⟩⟩ := by unfold BindO.Fn.m; simp only; omega
        have hz1 := HZ.out.2.1
        have hql := sum_len (m := fun x : S => x.length + 1) (fun _ => by omega) ql
        have HPK := Lib.hid (show Pk w bA bc bl qA ql from ⟨hrd.2, by omega, right_okB hok, rd_lg hrd.1, by omega⟩)
        have x11b : w2.cell? ⟨p0, 11, none⟩ = some (.slice (some ⟨b, o, none⟩) fn.length nc) := by rw [x11, he]
        have c1_ : w2.cell? ⟨b, o + j1 * 3 + 1, none⟩ = some (.slice qA ql.length qc) := hc 1 _ rfl
        have c2_ : w2.cell? ⟨b, o + j1 * 3 + 2, none⟩ = some (.slice bA bl.length bc) := hc 2 _ rfl
        clear hc hy hmem hbz he x11 hrd hok hsm hmm hz1 hql hjl
        go_wp2_with fail
        go_quiet (fail)
        go_wp2_with fail
        go_meet
        exact ⟨bl, bA, bc, ql, qA, qc, rfl, rfl, HPK.out, Sq.belowN (Below.refl _ _) _⟩
      · have q2 : decide (k < ru.length + fn.length) = false := decide_eq_false h2
        have q2b : decide ((k : Int) < (ru.length : Int) + (fn.length : Int)) = false := decide_eq_false (by omega)
        obtain ⟨j2, hj2⟩ : ∃ j : Nat, (j1 : Int) - (fn.length : Int) = (j : Int) := ⟨j1 - fn.length, by omega⟩
        have hjl : j2 < dm.length := by have := HKN.out; have := HNN.out; omega
        have k0 : (0 : Int) ≤ (j2 : Int) := by omega
        have k1 : (j2 : Int) < (dm.length : Int) := by omega
        obtain ⟨b, o, he, hbz, hc⟩ := Lg.at_ BindO.Fn.len (Lg.keep BindO.Fn.stays (Keep.below (HBT.out w2 HB2.out)) HR.out.2.2) hjl
        have hmem : dm[j2] ∈ dm := List.getElem_mem hjl
        have hrd := HR.out.2.2.2 _ hmem
        have hok := (HS.out.2.1.2 _ hmem).2.2
        have hsm := sum_mem (m := BindO.Fn.m) dm _ hmem
        obtain ⟨y, hy⟩ : ∃ y, dm[j2] = y := ⟨_, rfl⟩
        rw [hy] at hc hrd hok hsm
        obtain ⟨fnm, ⟨qA, qc, ql⟩, ⟨bA, bc, bl⟩⟩ := y
        have hmm : nB (stPs bl) ≤ BindO.Fn.m ⟨fnm, ⟨qA, qc, ql⟩, ⟨bA, bc, bl⟩⟩ := by unfold BindO.Fn.m; simp only; omega
        have hz1 := HZ.out.2.2
        have HPK := Lib.hid (show Pk w bA bc bl none [] from ⟨hrd.2, by omega, right_okB hok, Sq.Rd.nil _ _, by simp⟩)
        have x12b : w2.cell? ⟨p0, 12, none⟩ = some (.slice (some ⟨b, o, none⟩) dm.length dc) := by rw [x12, he]
        have c2_ : w2.cell? ⟨b, o + j2 * 3 + 2, none⟩ = some (.slice bA bl.length bc) := hc 2 _ rfl
        clear hc hy hmem hbz he x12 hrd hok hsm hmm hz1 hjl
        go_wp2_with fail
        go_meet
        exact ⟨bl, bA, bc, [], none, 0, rfl, rfl, HPK.out, Below.refl _ _⟩
    case rest =>
      obtain ⟨b, bA, bc, lo, A3, c3, rfl, rfl, hpk, hb⟩ := hcut
      have HPK := Lib.hid hpk
      have HBW := Lib.hid hb
      have HB := Lib.hid (HB2.out.trans (hb.mono HB2.out.size))
      have hbl : b.length ≤ 1048576 := by
        have h1 := sum_len (m := fun x : St => nS x.p) (fun x => by cases x; unfold St.p nS; omega) b
        rw [← nB_sum] at h1
        have := hpk.n
        omega
      clear hpk hb x0 x1 x2 x3 x4 x5 x6 x7 x8 x9 x10 x11 x12 xf
      obtain ⟨wd, hwd⟩ : ∃ W, W = wc := ⟨_, rfl⟩
      rw [← hwd] at HB HBW ⊢
      clear hwd
      obtain ⟨x0, x1, x2, x3, x4, x5, x6, x7, x8, x9, x10, x11, x12, xf⟩ := cellz13 (HO0.out wd HB.out)
      obtain ⟨m, hm⟩ : ∃ m, b.length = m := ⟨_, rfl⟩
      obtain ⟨n3, hn3⟩ : ∃ n, lo.length = n := ⟨_, rfl⟩
      have HM := Lib.hid hm
      have HN3 := Lib.hid hn3
      rw [hm] at hbl ⊢
      rw [hn3]
      clear hm hn3
      go_wp2_with fail
      refine (HTR.out wd (HBT.out wd HB.out)).mono ?_
      rintro e w4 ⟨A2, c2, rfl, hx, hb⟩
      have HX := Lib.hid hx
      have HB4 := Lib.hid (HB.out.trans (hb.mono HB.out.size))
      have HB24 := Lib.hid (HBW.out.trans (hb.mono HBW.out.size))
      have HEN := Lib.hid (show ∀ U, Below w4.heap.size w4 U → Env U A1 n1 T A2 n2 tx A3 n3 lo from fun U hU => Env.below (w := w4) ⟨HPP.out.1.below HB24.out, hx, by have h := HPK.out.rl.below (HBT.out w4 HB4.out); rw [HN3.out] at h; exact h, by have := HPP.out.2.2.1; have h9 := HPP.out.1.1; omega, by have := HLN.out; have := HN2.out; omega, by have := HPK.out.sz; have := HN3.out; omega⟩ hU)
      have HUP := Lib.hid HPP.out.2.1
      have HWB := Lib.hid (show ∀ U, Below w4.heap.size w4 U → Ls top U bA bc b from fun U hU => Lg.keep stays_s (Keep.below ((HBT.out w4 HB4.out).trans (hU.mono (HBT.out w4 HB4.out).size))) HPK.out.rb)
      have HN := Lib.hid (show nB (stPs b) ≤ 1048576 ∧ lo.length + 2 * nB (stPs b) ≤ 4194304 by have := HPK.out.n; have := HPK.out.sz; omega)
      clear hb hx HX x0 x1 x2 x3 x4 x5 x6 x7 x8 x9 x10 x11 x12 xf HS
      go_wp2_with fail
      have hbi := block_i T HUP.out tx lo A1 A2 A3 bA n1 c1 n2 c2 n3 c3 bc b w4 (HEN.out w4 (Below.refl _ _)) (HWB.out w4 (Below.refl _ _)) HN.out.1 HN.out.2
      rw [HM.out] at hbi
      refine hbi.mono ?_
      clear hbi
      rintro e w5 ⟨A5, c5, l5, rfl, hp5, hl5, hb⟩
      have HL5 := Lib.hid hl5
      have HP5 := Lib.hid hp5
      have HB5 := Lib.hid hb
      obtain ⟨m5, hm5⟩ : ∃ m, l5.length = m := ⟨_, rfl⟩
      have HM5 := Lib.hid hm5
      rw [hm5]
      clear hp5 hl5 hb hm5
      go_wp2_with fail
      have hbr := block_r T tx A1 A2 n1 c1 n2 c2 _ b (Nat.le_refl _) bA A3 bc n3 c3 w5 lo (HEN.out w5 HB5.out) (HWB.out w5 HB5.out) HN.out.1 HN.out.2
      rw [HM.out] at hbr
      refine hbr.mono ?_
      clear hbr
      rintro e w6 ⟨A6, c6, l6, rfl, hp6, hl6, hb⟩
      have HL6 := Lib.hid hl6
      have HP6 := Lib.hid hp6
      have HB6 := Lib.hid (HB5.out.trans (hb.mono HB5.out.size))
      have HL56 := Lib.hid (show Ls top w6 A5 c5 l5 from Lg.keep stays_s (Keep.trans (Keep.weak fun _ _ _ => trivial) (Keep.below hb)) HL5.out)
      obtain ⟨m6, hm6⟩ : ∃ m, l6.length = m := ⟨_, rfl⟩
      have HM6 := Lib.hid hm6
      rw [hm6]
      clear hp6 hl6 hb hm6
      go_wp2_with fail
      have hss := sameB_t _ l5 (Nat.le_refl _) (by rw [HP5.out]; exact Nat.le_trans (nB_rowI T tx _ lo) HN.out.1) l6 w6 A5 A6 c5 c6 HL56.out (Lg.keep stays_s (Keep.weak fun _ _ _ => trivial) HL6.out) (by rw [HP5.out, HP6.out, row_eq _ lo HPK.out.ok])
      rw [HM5.out, HM6.out] at hss
      refine hss.mono ?_
      clear hss
      rintro e w7 ⟨rfl, hb⟩
      have HB7 := Lib.hid (HB6.out.trans (hb.mono HB6.out.size))
      clear hb
      go_wp2_with fail
      go_loopw [12] (fun iv wr => ∃ q : Nat, q ≤ 1 ∧ iv = .int .i64 (q : Int) ∧ Below w4.heap.size w4 wr) (fun iv _ => 1 - (intOf iv).toNat)
      case atStart => exact ⟨0, by omega, rfl, HB7.out⟩
      case round =>
        obtain ⟨q, hq, rfl, hb⟩ := hrel
        have HB := Lib.hid hb
        clear hb
        by_cases hqm : q < m
        · by_cases hq1 : q < 1
          · obtain rfl : 0 = q := by omega
            have hl0 : 0 < b.length := by rw [HM.out]; exact hqm
            obtain ⟨b_, o_, he, hbz, hc⟩ := Lg.at_ stE_len (HWB.out w4 (Below.refl _ _)) hl0
            subst he
            have hmem : b[0] ∈ b := List.getElem_mem hl0
            have hsm := sum_mem (m := fun x : St => nS x.p) b _ hmem
            rw [← nB_sum] at hsm
            have hrx := ((HWB.out w4 (Below.refl _ _)).2 _ hmem)
            have hok : okS b[0].p := by
              have h := HPK.out.ok
              have h2 : ∀ l : List St, okB (stPs l) → ∀ x ∈ l, okS x.p := by
                intro l
                induction l with
                | nil => intro _ x hx; cases hx
                | cons a l ih =>
                  intro h x hx
                  simp only [stPs, okB] at h
                  rcases List.mem_cons.1 hx with rfl | hx
                  · exact h.1
                  · exact ih h.2 x hx
              exact h2 b h _ hmem
            obtain ⟨y, hy⟩ : ∃ y, b[0] = y := ⟨_, rfl⟩
            rw [hy] at hc hsm hrx hok
            obtain ⟨sk, sn, ss, aA, ac, ar, Ab, cb, sb, Ae, ce, se⟩ := y
            have hap := hrx.open_.1
            simp only [St.p, okS] at hok
            simp only [St.p, nS] at hsm
            have hnn := HN.out.1
            have har : ar.length ≤ nEs (exPs ar) := by
              have h1 := sum_len (m := fun x : Ex => nE x.p) (fun x => nE_pos x.p) ar
              rw [← nEs_sum] at h1
              exact h1
            have zar : ar.length ≤ 1048576 := by omega
            have HAR := Lib.hid (show Lx top w4 aA ac ar ∧ okEs (exPs ar) ∧ nEs (exPs ar) ≤ 1048576 from ⟨hap, hok.2.1, by omega⟩)
            have HC3 := Lib.hid (show ∀ U, Below w4.heap.size w4 U → U.cell? ⟨b_, o_ + 3, none⟩ = some (.slice aA ar.length ac) from fun U hU => (hU.cell (p := ⟨b_, _, none⟩) hbz).trans (by have h := hc 3 _ rfl; simpa using h))
            have hm0 : (0 : Int) < (m : Int) := by omega
            clear hc hsm hrx hok hap hnn har hbz hl0 hmem hy
            have d3 := HC3.out wr HB.out
            go_wp2_with fail
            go_loopw [13] (fun iv wr => ∃ r : Nat, r ≤ ar.length ∧ iv = .int .i64 (r : Int) ∧ Below w4.heap.size w4 wr) (fun iv _ => ar.length - (intOf iv).toNat)
            case atStart => exact ⟨0, Nat.zero_le _, rfl, HB.out⟩
            case round =>
              clear d3
              obtain ⟨r, hrr, rfl, hb⟩ := hrel
              have HBR := Lib.hid hb
              clear hb
              have d3 := HC3.out wr HBR.out
              have k0 : (0 : Int) ≤ (r : Int) := by omega
              by_cases hra : r < ar.length
              · have k1 : (r : Int) < (ar.length : Int) := by omega
                obtain ⟨b2, o2, he, hb2, hc⟩ := Lg.at_ exE_len HAR.out.1 hra
                subst he
                have hmem : ar[r] ∈ ar := List.getElem_mem hra
                have hrx := HAR.out.1.2 _ hmem
                have hsm := sum_mem (m := fun x : Ex => nE x.p) ar _ hmem
                rw [← nEs_sum] at hsm
                have hok : okE ar[r].p := by
                  have h2 : ∀ l : List Ex, okEs (exPs l) → ∀ x ∈ l, okE x.p := by
                    intro l
                    induction l with
                    | nil => intro _ x hx; cases hx
                    | cons a l ih =>
                      intro h x hx
                      simp only [exPs, okEs] at h
                      rcases List.mem_cons.1 hx with rfl | hx
                      · exact h.1
                      · exact ih h.2 x hx
                  exact h2 ar HAR.out.2.1 _ hmem
                obtain ⟨⟨ek, ep, en, es, eA, ec, el⟩, hy⟩ : ∃ y, ar[r] = y := ⟨_, rfl⟩
                rw [hy] at hc hrx hsm hok
                obtain ⟨Y, hY⟩ : ∃ Y, Y = Ex.mk ek ep en es eA ec el := ⟨_, rfl⟩
                have HYA := Lib.hid (show (exE Y).toArray = #[.int .i64 ek, .int .i64 ep, .int .i64 en, .string (str es), .slice eA el.length ec] by rw [hY]; rfl)
                have HYR := Lib.hid (show RdX top w4 Y ∧ nE Y.p ≤ 1048576 ∧ okE Y.p by rw [hY]; exact ⟨hrx, by have := HAR.out.2.2; omega, hok⟩)
                have HSc := Lib.hid (show ∀ U, Below w4.heap.size w4 U → (U.cell? ⟨b2, o2 + r * 5, none⟩ = some (.int .i64 ek) ∧ U.cell? ⟨b2, o2 + r * 5 + 1, none⟩ = some (.int .i64 ep) ∧ U.cell? ⟨b2, o2 + r * 5 + 2, none⟩ = some (.int .i64 en) ∧ U.cell? ⟨b2, o2 + r * 5 + 3, none⟩ = some (.string (str es)) ∧ U.cell? ⟨b2, o2 + r * 5 + 4, none⟩ = some (.slice eA el.length ec)) from fun U hU => ⟨(hU.cell (p := ⟨b2, _, none⟩) hb2).trans (hc 0 _ rfl), (hU.cell (p := ⟨b2, _, none⟩) hb2).trans (hc 1 _ rfl), (hU.cell (p := ⟨b2, _, none⟩) hb2).trans (hc 2 _ rfl), (hU.cell (p := ⟨b2, _, none⟩) hb2).trans (hc 3 _ rfl), (hU.cell (p := ⟨b2, _, none⟩) hb2).trans (hc 4 _ rfl)⟩)
                have HBY := Lib.hid (show ∀ U, Below wr.heap.size wr U → Below w4.heap.size w4 U from fun U h => HBR.out.trans (h.mono HBR.out.size))
                have HW1 := Lib.hid (fun U (hU : Below w4.heap.size w4 U) => expr_w T HUP.out tx lo A1 A2 A3 n1 c1 n2 c2 n3 c3 Y U (HEN.out U hU) (HYR.out.1.keep (Keep.below hU)) HYR.out.2.1)
                have HW2 := Lib.hid (fun U (hU : Below w4.heap.size w4 U) => expr_r T tx lo A1 A2 A3 n1 c1 n2 c2 n3 c3 Y U (HEN.out U hU) (HYR.out.1.keep (Keep.below hU)) HYR.out.2.1)
                rw [HYA.out] at HW1 HW2
                clear hc hrx hsm hok hy hY hb2 hmem
                go_upto_region 22 with fail
                clear d3
                have hS0 : Below wr.heap.size wr wr.drew := Below.drew (Below.refl _ _)
                refine RgD.begin_ [] (fun U => Below wr.heap.size wr U) (by kernel_rfl) hS0 (fun hHeld => ?_)
                refine RgD.take (i := 0) (t := 134) rfl rfl (by kernel_rfl) (by kernel_rfl) (by kernel_rfl) (by kernel_rfl) (fun _ _ _ h => h) (by rfl) (by intro w0 hSw; first | (go_simp; done) | (go_simp; with_reducible rfl) | (go_simp; intro hc; exfalso; omega)) (by assumption) ?_
                simp only [List.setIfInBounds_toArray, List.set_cons_zero, List.set_cons_succ]
                refine RgD.take (i := 1) (t := 135) rfl rfl (by kernel_rfl) (by kernel_rfl) (by kernel_rfl) (by kernel_rfl) (fun _ _ _ h => h) (by rfl) (by intro w0 hSw; first | (go_simp; done) | (go_simp; with_reducible rfl) | (go_simp; intro hc; exfalso; omega)) (by assumption) ?_
                simp only [List.setIfInBounds_toArray, List.set_cons_zero, List.set_cons_succ]
                refine RgD.take (i := 2) (t := 136) rfl rfl (by kernel_rfl) (by kernel_rfl) (by kernel_rfl) (by kernel_rfl) (fun _ _ _ h => h) (by rfl) (by intro w0 hSw; first | (go_simp; done) | (go_simp; with_reducible rfl) | (go_simp; intro hc; exfalso; omega)) (by assumption) ?_
                simp only [List.setIfInBounds_toArray, List.set_cons_zero, List.set_cons_succ]
                refine RgD.take (i := 3) (t := 137) rfl rfl (by kernel_rfl) (by kernel_rfl) (by kernel_rfl) (by kernel_rfl) (fun _ _ _ h => h) (by rfl) (by intro w0 hSw; first | (go_simp; done) | (go_simp; with_reducible rfl) | (go_simp; intro hc; exfalso; omega)) (by assumption) ?_
                simp only [List.setIfInBounds_toArray, List.set_cons_zero, List.set_cons_succ]
                refine RgD.take (i := 4) (t := 138) rfl rfl (by kernel_rfl) (by kernel_rfl) (by kernel_rfl) (by kernel_rfl) (fun _ _ _ h => h) (by rfl) (by intro w0 hSw; first | (go_simp; done) | (go_simp; with_reducible rfl) | (go_simp; intro hc; exfalso; omega)) (by assumption) ?_
                simp only [List.setIfInBounds_toArray, List.set_cons_zero, List.set_cons_succ]
                refine RgD.take (i := 5) (t := 139) rfl rfl (by kernel_rfl) (by kernel_rfl) (by kernel_rfl) (by kernel_rfl) (fun _ _ _ h => h) (by rfl) (by intro w0 hSw; first | (go_simp; done) | (go_simp; with_reducible rfl) | (go_simp; intro hc; exfalso; omega)) (by assumption) ?_
                simp only [List.setIfInBounds_toArray, List.set_cons_zero, List.set_cons_succ]
                refine RgD.take (i := 6) (t := 140) rfl rfl (by kernel_rfl) (by kernel_rfl) (by kernel_rfl) (by kernel_rfl) (fun _ _ _ h => h) (by rfl) (by intro w0 hSw; first | (go_simp; done) | (go_simp; with_reducible rfl) | (go_simp; intro hc; exfalso; omega)) (by assumption) ?_
                simp only [List.setIfInBounds_toArray, List.set_cons_zero, List.set_cons_succ]
                refine RgD.take (i := 7) (t := 141) (v := .slice (some ⟨b2, o2, none⟩) ar.length ac) rfl rfl (by kernel_rfl) (by kernel_rfl) (by kernel_rfl) (by kernel_rfl) (fun _ _ _ h => h) (by rfl) (by intro w0 hSw; have d3 := HC3.out _ (HBY.out _ hSw); first | (go_simp; done) | (go_simp; with_reducible rfl) | (go_simp; intro hc; exfalso; omega)) (by assumption) ?_
                simp only [List.setIfInBounds_toArray, List.set_cons_zero, List.set_cons_succ]
                refine RgD.take (i := 8) (t := 142) rfl rfl (by kernel_rfl) (by kernel_rfl) (by kernel_rfl) (by kernel_rfl) (fun _ _ _ h => h) (by rfl) (by intro w0 hSw; first | (go_simp; done) | (go_simp; with_reducible rfl) | (go_simp; intro hc; exfalso; omega)) (by assumption) ?_
                simp only [List.setIfInBounds_toArray, List.set_cons_zero, List.set_cons_succ]
                refine RgD.take (i := 9) (t := 143) rfl rfl (by kernel_rfl) (by kernel_rfl) (by kernel_rfl) (by kernel_rfl) (fun _ _ _ h => h) (by rfl) (by intro w0 hSw; first | (go_simp; done) | (go_simp; with_reducible rfl) | (go_simp; intro hc; exfalso; omega)) (by assumption) ?_
                simp only [List.setIfInBounds_toArray, List.set_cons_zero, List.set_cons_succ]
                refine RgD.take (i := 10) (t := 144) (v := .agg #[.int .i64 ek, .int .i64 ep, .int .i64 en, .string (str es), .slice eA el.length ec]) rfl rfl (by kernel_rfl) (by kernel_rfl) (by kernel_rfl) (by kernel_rfl) (fun _ _ _ h => h) (by rfl) (by intro w0 hSw; obtain ⟨z0, z1, z2, z3, z4⟩ := HSc.out _ (HBY.out _ hSw); first | (go_simp; done) | (go_simp; with_reducible rfl) | (go_simp; intro hc; exfalso; omega)) (by assumption) ?_
                simp only [List.setIfInBounds_toArray, List.set_cons_zero, List.set_cons_succ]
                refine RgD.take (i := 12) (t := 146) rfl rfl (by kernel_rfl) (by kernel_rfl) (by kernel_rfl) (by kernel_rfl) (fun _ _ _ h => h) (by rfl) (by intro w0 hSw; first | (go_simp; done) | (go_simp; with_reducible rfl) | (go_simp; intro hc; exfalso; omega)) (by assumption) ?_
                simp only [List.setIfInBounds_toArray, List.set_cons_zero, List.set_cons_succ]
                refine RgD.take (i := 13) (t := 147) rfl rfl (by kernel_rfl) (by kernel_rfl) (by kernel_rfl) (by kernel_rfl) (fun _ _ _ h => h) (by rfl) (by intro w0 hSw; first | (go_simp; done) | (go_simp; with_reducible rfl) | (go_simp; intro hc; exfalso; omega)) (by assumption) ?_
                simp only [List.setIfInBounds_toArray, List.set_cons_zero, List.set_cons_succ]
                refine RgD.take (i := 14) (t := 148) rfl rfl (by kernel_rfl) (by kernel_rfl) (by kernel_rfl) (by kernel_rfl) (fun _ _ _ h => h) (by rfl) (by intro w0 hSw; first | (go_simp; done) | (go_simp; with_reducible rfl) | (go_simp; intro hc; exfalso; omega)) (by assumption) ?_
                simp only [List.setIfInBounds_toArray, List.set_cons_zero, List.set_cons_succ]
                refine RgD.take (i := 15) (t := 149) rfl rfl (by kernel_rfl) (by kernel_rfl) (by kernel_rfl) (by kernel_rfl) (fun _ _ _ h => h) (by rfl) (by intro w0 hSw; first | (go_simp; done) | (go_simp; with_reducible rfl) | (go_simp; intro hc; exfalso; omega)) (by assumption) ?_
                simp only [List.setIfInBounds_toArray, List.set_cons_zero, List.set_cons_succ]
                refine RgD.take (i := 16) (t := 150) rfl rfl (by kernel_rfl) (by kernel_rfl) (by kernel_rfl) (by kernel_rfl) (fun _ _ _ h => h) (by rfl) (by intro w0 hSw; first | (go_simp; done) | (go_simp; with_reducible rfl) | (go_simp; intro hc; exfalso; omega)) (by assumption) ?_
                simp only [List.setIfInBounds_toArray, List.set_cons_zero, List.set_cons_succ]
                refine RgD.take (i := 17) (t := 151) rfl rfl (by kernel_rfl) (by kernel_rfl) (by kernel_rfl) (by kernel_rfl) (fun _ _ _ h => h) (by rfl) (by intro w0 hSw; first | (go_simp; done) | (go_simp; with_reducible rfl) | (go_simp; intro hc; exfalso; omega)) (by assumption) ?_
                simp only [List.setIfInBounds_toArray, List.set_cons_zero, List.set_cons_succ]
                refine RgD.take (i := 18) (t := 152) rfl rfl (by kernel_rfl) (by kernel_rfl) (by kernel_rfl) (by kernel_rfl) (fun _ _ _ h => h) (by rfl) (by intro w0 hSw; first | (go_simp; done) | (go_simp; with_reducible rfl) | (go_simp; intro hc; exfalso; omega)) (by assumption) ?_
                simp only [List.setIfInBounds_toArray, List.set_cons_zero, List.set_cons_succ]
                refine RgD.take (i := 19) (t := 153) (v := .slice (some ⟨b2, o2, none⟩) ar.length ac) rfl rfl (by kernel_rfl) (by kernel_rfl) (by kernel_rfl) (by kernel_rfl) (fun _ _ _ h => h) (by rfl) (by intro w0 hSw; have d3 := HC3.out _ (HBY.out _ hSw); first | (go_simp; done) | (go_simp; with_reducible rfl) | (go_simp; intro hc; exfalso; omega)) (by assumption) ?_
                simp only [List.setIfInBounds_toArray, List.set_cons_zero, List.set_cons_succ]
                refine RgD.take (i := 20) (t := 154) rfl rfl (by kernel_rfl) (by kernel_rfl) (by kernel_rfl) (by kernel_rfl) (fun _ _ _ h => h) (by rfl) (by intro w0 hSw; first | (go_simp; done) | (go_simp; with_reducible rfl) | (go_simp; intro hc; exfalso; omega)) (by assumption) ?_
                simp only [List.setIfInBounds_toArray, List.set_cons_zero, List.set_cons_succ]
                refine RgD.take (i := 21) (t := 155) rfl rfl (by kernel_rfl) (by kernel_rfl) (by kernel_rfl) (by kernel_rfl) (fun _ _ _ h => h) (by rfl) (by intro w0 hSw; first | (go_simp; done) | (go_simp; with_reducible rfl) | (go_simp; intro hc; exfalso; omega)) (by assumption) ?_
                simp only [List.setIfInBounds_toArray, List.set_cons_zero, List.set_cons_succ]
                refine RgD.take (i := 22) (t := 156) (v := .agg #[.int .i64 ek, .int .i64 ep, .int .i64 en, .string (str es), .slice eA el.length ec]) rfl rfl (by kernel_rfl) (by kernel_rfl) (by kernel_rfl) (by kernel_rfl) (fun _ _ _ h => h) (by rfl) (by intro w0 hSw; obtain ⟨z0, z1, z2, z3, z4⟩ := HSc.out _ (HBY.out _ hSw); first | (go_simp; done) | (go_simp; with_reducible rfl) | (go_simp; intro hc; exfalso; omega)) (by assumption) ?_
                simp only [List.setIfInBounds_toArray, List.set_cons_zero, List.set_cons_succ]
                refine RgD.one (i := 11) (by kernel_rfl) ?_
                refine RgD.call (i := 11) (t := 145) rfl rfl (by rfl) (by go_simp; exact ⟨rfl, rfl⟩) ?_
                refine (HW1.out wr.drew (HBY.out _ (hS0))).mono ?_
                rintro r_ u1 ⟨x1, rfl, hx, hp, hb⟩
                have HP1 := Lib.hid hp
                have hS1 := (hS0).trans (hb.mono (hS0).size)
                have HS1 := Lib.hid hS1
                have HX1 := Lib.hid (show RdX top u1 x1 from RdX.keep (Keep.weak fun _ _ _ => trivial) hx)
                clear hb hp hx
                refine ⟨_, rfl, hS1, ?_⟩
                simp only [List.setIfInBounds_toArray, List.set_cons_zero, List.set_cons_succ]
                refine RgD.one (i := 23) (by kernel_rfl) ?_
                refine RgD.call (i := 23) (t := 157) rfl rfl (by rfl) (by go_simp; exact ⟨rfl, rfl⟩) ?_
                refine (HW2.out u1 (HBY.out _ (HS1.out))).mono ?_
                rintro r_ u2 ⟨x2, rfl, hx, hp, hb⟩
                have HP2 := Lib.hid hp
                have hS2 := (HS1.out).trans (hb.mono (HS1.out).size)
                have HS2 := Lib.hid hS2
                have HX2 := Lib.hid (show RdX top u2 x2 from RdX.keep (Keep.weak fun _ _ _ => trivial) hx)
                have HX1 := Lib.hid (show RdX top u2 x1 from RdX.keep (Keep.below hb) HX1.out)
                clear hb hp hx
                refine ⟨_, rfl, hS2, ?_⟩
                simp only [List.setIfInBounds_toArray, List.set_cons_zero, List.set_cons_succ]
                refine RgD.one (i := 24) (by kernel_rfl) ?_
                refine RgD.call (i := 24) (t := 158) rfl rfl (by rfl) (by go_simp; exact ⟨rfl, rfl⟩) ?_
                refine (same_t x1 x2 u2 HX1.out HX2.out (by rw [HP1.out, HP2.out, bind_eq _ HYR.out.2.2]) (by rw [HP1.out]; exact Nat.le_trans (nE_bind (exI_le T tx lo) _) HYR.out.2.1)).mono ?_
                rintro r_ u3 ⟨rfl, hb⟩
                have hS3 := (HS2.out).trans (hb.mono (HS2.out).size)
                have HS3 := Lib.hid hS3
                clear hb
                refine ⟨_, rfl, hS3, ?_⟩
                simp only [List.setIfInBounds_toArray, List.set_cons_zero, List.set_cons_succ]
                refine RgD.take (i := 25) (t := 159) rfl rfl (by kernel_rfl) (by kernel_rfl) (by kernel_rfl) (by kernel_rfl) (fun _ _ _ h => h) (by rfl) (by intro w0 hSw; first | (go_simp; done) | (go_simp; with_reducible rfl) | (go_simp; intro hc; exfalso; omega)) (by assumption) ?_
                simp only [List.setIfInBounds_toArray, List.set_cons_zero, List.set_cons_succ]
                refine RgD.done (by kernel_rfl) ?_ _
                go_wp2_with fail
                go_roundw
                case rel => exact ⟨r + 1, by omega, by go_num, HBY.out _ HS3.out⟩
                case measure => simp [intOf]; omega
              · have hre : r = ar.length := by omega
                go_wp2_with fail
                go_roundw
                case rel => exact ⟨1, by omega, rfl, HBR.out⟩
                case measure => simp [intOf]
          · have hq2 : q = 1 := by omega
            have hqb : decide (q < 1) = false := decide_eq_false hq1
            go_wp2_with fail
            refine (HAW.out wr (HB4.out.trans (HB.out.mono HB4.out.size))).mono ?_
            rintro e w9 ⟨rfl, hb⟩
            have HBE := Lib.hid hb
            clear hb
            go_wp2_with fail
            go_ret
            exact ⟨rfl, HBE.out⟩
        · have hqb : decide (q < m) = false := decide_eq_false hqm
          go_wp2_with fail
          refine (HAW.out wr (HB4.out.trans (HB.out.mono HB4.out.size))).mono ?_
          rintro e w9 ⟨rfl, hb⟩
          have HBE := Lib.hid hb
          clear hb
          go_wp2_with fail
          go_ret
          exact ⟨rfl, HBE.out⟩

theorem own : ownKnob Try.prog.godebug = none := by kernel_rfl
set_option maxRecDepth 100000 in
theorem contract (H : Type) (enc : TypeId × Value → H) (W : World) (base : Nat) (args : Array Value) (ds gs : List (DataW H)) (before : List MemPlace)
    (hval : ∀ (j : Nat) t v, Try.f4.params[j]? = some t → args[j]? = some v → Value.okWide Try.prog W .any base t v)
    (hW : DataW.Whole enc Try.prog Try.f4.params.toList Rows.bindBlockSpec.vars false W args.toList ds gs before) (hk : Rows.uptoSmall H (ds ++ gs) = true) :
    Calls Try.prog 4 args W fun e W' => ∃ v, e = .returned v ∧ Rows.bindBlockSpec.post enc Try.prog Try.f4 false true false false W args v W' := by
  have hW' := hW
  obtain ⟨p, q, hA0, hV, rfl, hfz, hnd⟩ := hW
  have hA : DataW.TrodAll enc Try.prog W 0 (fun _ => true) true Try.f4.params.toList args.toList ds p := hA0
  rw [Try.params4] at hA hval
  obtain ⟨v0, vs0, d0, ds0, p0, q0, hargs, rfl, rfl, h0, r0⟩ := trodAll_cons hA
  obtain ⟨v1, vs1, d1, ds1, p1, q1, rfl, rfl, rfl, h1, r1⟩ := trodAll_cons r0
  obtain ⟨rfl, rfl, rfl⟩ := trodAll_nil r1
  obtain rfl : args = #[v0, v1] := by cases args; simp_all
  have hb : Rows.uptoBulkAll ([d0, d1] ++ gs) ≤ 1048576 := of_decide_eq_true hk
  clear hV
  obtain ⟨t, rfl, hr, hm⟩ := open_source (hval 0 29 v0 rfl rfl) h0
  obtain ⟨a1, rfl, rfl, rfl, w1⟩ := open_int Try.underlying3 (hval 1 3 v1 rfl rfl) h1
  have hm2 : So.m t ≤ 1048576 := by
    simp only [List.cons_append, Rows.uptoBulkAll] at hb
    omega
  clear hA0
  refine (walk t a1 W hr hm2).mono fun e W' ⟨he, hg⟩ => ?_
  subst he
  exact ⟨_, rfl, Law.post (by kernel_rfl) (by kernel_rfl) Try.underlying4 rfl rfl hW' hg ⟨rfl, rfl, rfl⟩⟩
set_option maxRecDepth 100000 in
theorem lifted (os : Os) (started : os.Started) (H : Type) (enc : TypeId × Value → H) (F : Stop.Interp) :
    ReturnsInHanded {} Try.checked os 4 .any ((Rows.OpenSpec.upto Rows.bindBlockSpec).pre6 enc Try.prog Try.f4 Rows.bindBlockUptoRow.domain false) (((Rows.OpenSpec.upto Rows.bindBlockSpec).at F).post enc Try.prog Try.f4 false true false false) := by
  refine returnsInHanded_of_cond (C := Try.checked) (s := Rows.OpenSpec.upto Rows.bindBlockSpec) (k := Rows.uptoSmall) rfl own started (by kernel_rfl) Try.func4
    (OpenSpec.witness (enc := enc) (C := Try.checked) (s := Rows.OpenSpec.upto Rows.bindBlockSpec) (k := Rows.uptoSmall) rfl false ⟨#[], #[.agg #[.string .empty, .string .empty, .string .empty, .int .i64 0, .int .i64 0, .slice none 0 0, .slice none 0 0, .slice none 0 0, .slice none 0 0, .slice none 0 0, .slice none 0 0, .slice none 0 0, .slice none 0 0], .int .i64 0], []⟩ 8 (by kernel_rfl) (by kernel_rfl) (by kernel_rfl)
      (x := ([.agg [.lit (.string []), .lit (.string []), .lit (.string []), .lit (.int .i64 0), .lit (.int .i64 0), .nil, .nil, .nil, .nil, .nil, .nil, .nil, .nil], .lit (.int .i64 0)], [], [])) (by kernel_rfl) rfl (by kernel_rfl)) ?_
  intro W base args ds gs before hval hW _ hk _
  exact contract H enc W base args ds gs before hval hW hk

theorem proved : Rows.BindBlockUptoSaid :=
  OpenClaim.holds_of_cond 4 Try.f4 rfl rfl rfl rfl rfl rfl rfl ⟨rfl, rfl, rfl, rfl, rfl⟩ rfl rfl rfl rfl rfl (by kernel_rfl) Try.func4 (by kernel_rfl)
    (of_decide_eq_true (by kernel_rfl)) (by unfold Func.isWrapper; first | (rw [if_pos (by decide +kernel)]; kernel_rfl) | (rw [if_neg (by decide +kernel)]; exact ⟨rfl, rfl⟩))
    (fun os started H enc _ F => lifted os started H enc F)
#print axioms proved

end Go.Proofs.Yteibcfpepdbflaa.bindBlock
