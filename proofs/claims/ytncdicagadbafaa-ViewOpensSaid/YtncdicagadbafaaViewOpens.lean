/- ViewOpens: with all open, and nothing hidden, what was seen is still seen, in the same order; and so is all that is in the room, if it is lit. Conditions: none beyond what every reading of the arguments gives. -/
import Derived.Test.YtncdicagadbafaaVB
import Derived.Test.YtncdicagadbafaaLaw
import Derived.Test.YtncdicagadbafaaViewF
import Derived.Test.YtncdicagadbafaaViewY
import Derived.Test.YtncdicagadbafaaVER
import Derived.Test.YtncdicagadbafaaVOU
import Derived.Test.YtncdicagadbafaaViewV
import Derived.Test.YtncdicagadbafaaVNA
import Derived.Laws.Rows
namespace Go.Proofs.Ytncdicagadbafaa.viewOpens
open Go.ChangeShapes Go.WideShapes Go.ChangeAt
open Go Go.RowKit NestP NestW NestX NestY ValP ValW ValX ValR Sq WorldD CopP MoveP LvP MvA AttrP AttrW AttrX AttrY AttrZ AttrU AttrV AttrQ TabD TabW TabX TabB TabR MixP AwkP WoC ViewP ViewW ViewK ViewC ViewS ViewD ViewE ViewF ViewY ViewR ViewU ViewQ ViewO

theorem ow_agg {w : World} {B : Nat} {v : Value} {g : Wd} (h : Ow w B v g) : ∃ (B0 B1 B2 B3 B4 B5 B6 : Option Addr) (p0 r0 p1 r1 p2 r2 p3 r3 p4 r4 p5 r5 p6 r6 : Nat), v = .agg #[.slice B0 p0 r0, .slice B1 p1 r1, .slice B2 p2 r2, .slice B3 p3 r3, .slice B4 p4 r4, .slice B5 p5 r5, .slice B6 p6 r6, .int .u64 g.seed, .int .i64 g.sc, .int .i64 g.tu, .int .i64 g.ov, .int .i64 g.it, .int .i64 g.go] := by
  obtain ⟨A0, A1, A2, A3, A4, A5, A6, n0, c0, n, c1, n2, c2, n3, c3, n4, c4, n5, c5, n6, c6, rfl, _⟩ := h
  exact ⟨_, _, _, _, _, _, _, _, _, _, _, _, _, _, _, _, _, _, _, _, _, rfl⟩
def Lp (g : Wd) (B ob : Nat) (u : Value) (cs : Array Value) (w0 : World) (k : Nat) (wr : World) : Prop := Ow wr B u (flG g (opens g.fl k)) ∧ wr.heap[ob]? = some (.cells cs 31 (0, 0)) ∧ Below w0.heap.size w0 wr
theorem ow_flag {w : World} {B : Nat} {v : Value} {g : Wd} (h : Ow w B v g) (h1 : 1 ≤ g.fl.length) : ∃ fb fc, flagOf v = .slice (some ⟨fb, 0, none⟩) g.fl.length fc ∧ B ≤ fb ∧ fb < w.heap.size := by
  have ho := ow_own h
  obtain ⟨A, c, e, _, _⟩ := ho.shape
  rw [e] at ho ⊢
  obtain ⟨fb, rfl, h2, h3, _⟩ := ho.at_ h1
  exact ⟨fb, c, rfl, h2, h3⟩
theorem Lp.cell {g : Wd} {B ob k fb nf fc : Nat} {u : Value} {cs : Array Value} {w0 wr : World} (h : Lp g B ob u cs w0 k wr) (hv : flagOf u = .slice (some ⟨fb, 0, none⟩) nf fc) (h1 : 1 ≤ k) (hk : k < g.fl.length) : wr.cell? ⟨fb, k, none⟩ = some (.int .i64 g.fl[k]) ∧ wr.frozen? ⟨fb, k, none⟩ = false := by
  have ho := ow_own h.1
  rw [hv] at ho
  have hl : (opens g.fl k).length = g.fl.length := opens_len _ _
  have hn : nf = (opens g.fl k).length := ho.rd.len
  obtain ⟨fb', e, _, _, hc, hf⟩ := ho.at_ (show 0 < nf by omega)
  injection e with e
  injection e with e
  subst e
  refine ⟨?_, hf k⟩
  have h2 := hc k (show k < (opens g.fl k).length by omega)
  rw [h2]
  have h3 := opens_get g.fl k k
  rw [List.getElem?_eq_getElem (show k < (opens g.fl k).length by omega), List.getElem?_eq_getElem hk, Option.map_some, if_neg (by omega)] at h3
  injection h3 with h3
  show some (Value.int .i64 (opens g.fl k)[k]) = _
  rw [h3]
theorem Lp.step {g : Wd} {B ob k fb nf fc : Nat} {u : Value} {cs : Array Value} {w0 wr : World} (h : Lp g B ob u cs w0 k wr) (hv : flagOf u = .slice (some ⟨fb, 0, none⟩) nf fc) (h1 : 1 ≤ k) (hk : k < g.fl.length) (hne : fb ≠ ob) (hB : w0.heap.size ≤ fb) :
    Lp g B ob u cs w0 (k + 1) (wr.setCell ⟨fb, k, none⟩ (.int .i64 (opn g.fl[k]))) := by
  refine ⟨?_, (Below.heap_setCell _ _ _ _ (by simpa using Ne.symm hne)).trans h.2.1, h.2.2.setCell (p := ⟨fb, k, none⟩) hB _⟩
  have h2 := ow_set h.1 hv k (opn g.fl[k])
  have h3 : (opens g.fl k).set k (opn g.fl[k]) = opens g.fl (k + 1) := opens_set h1 hk
  rw [← h3]
  exact h2
theorem Lp.drew {g : Wd} {B ob k : Nat} {u : Value} {cs : Array Value} {w0 wr : World} (h : Lp g B ob u cs w0 k wr) : Lp g B ob u cs w0 k wr.drew := ⟨h.1, h.2.1, h.2.2.drew⟩
theorem and8 {m : Int} (hm : 0 ≤ m ∧ m ≤ 65535) : bits .andNot .i64 m 8 = down m 3 := andNot_i (f := 3) hm (by omega) (by omega)
theorem or2 {m : Int} (hm : 0 ≤ m ∧ m ≤ 65535) : bits .or .i64 (down m 3) 2 = opn m := or_i (f := 1) (down_bd hm (by omega) (by omega)) (by omega) (by omega)
def nth : Nat → Code → Code
  | 0, c => c
  | n + 1, .seq _ b => nth n b
  | _, c => c
def fst : Code → Code
  | .seq a _ => a
  | c => c
def snd1 : Code → Code
  | .seq _ b => b
  | c => c
noncomputable def body19 : Code := Try.f19.body.getD .skip
set_option maxRecDepth 100000 in
set_option maxHeartbeats 16000000 in
/-- What stands behind the second look. -/
theorem tail (w : World) (t : TbV) (g : Wd) {w0 w1 wc : World} {S : World → Prop} {T V2 : Value} {L M : List Int} {m q : Nat} {Ar A2r : Option Addr} {cr c2r : Nat} {B0 B1 B2 B3 B5 B6 : Option Addr} {p0 r0 p1 r1 p2 r2 p3 r3 p4 r4 p5 r5 p6 r6 fb : Nat}
    (hT : (.agg #[.int .i64 t.ti, .int .i64 t.au, .int .i64 t.rl, .int .i64 t.mx, .slice t.tx.a t.tx.n t.tx.c, .int .i64 t.fl, .slice t.pr.a t.pr.n t.pr.c, .slice t.gl.a t.gl.n t.gl.c, .slice t.th.a t.th.n t.th.c, .slice t.ac.a t.ac.n t.ac.c, .slice t.de.a t.de.n t.de.c, .slice t.fu.a t.fu.n t.fu.c, .slice t.da.a t.da.n t.da.c, .slice t.pm.a t.pm.n t.pm.c, .slice t.lo.a t.lo.n t.lo.c] : Value) = T) (hV2 : (.agg #[.slice B0 p0 r0, .slice B1 p1 r1, .slice B2 p2 r2, .slice B3 p3 r3, .slice (some ⟨fb, 0, none⟩) p4 r4, .slice B5 p5 r5, .slice B6 p6 r6, .int .u64 g.seed, .int .i64 g.sc, .int .i64 g.tu, .int .i64 g.ov, .int .i64 g.it, .int .i64 g.go] : Value) = V2) (HB : Hid (Below w.heap.size w w0)) (HS : Hid (Sane g)) (HS2 : Hid (Sane (openG g))) (hm128 : m ≤ 128) (hq128 : q ≤ 128) (HL : Hid (visible g = L)) (HM : Hid (L.length = m)) (HM2 : Hid (visible (openG g) = M ∧ M.length = q))
    (HSB : Hid (∀ U, Below w0.heap.size w0 U → S U)) (HTC : Hid (∀ U, S U → ∀ (j : Nat) (v : Value), (#[.int .i64 t.ti, .int .i64 t.au, .int .i64 t.rl, .int .i64 t.mx, .slice t.tx.a t.tx.n t.tx.c, .int .i64 t.fl, .slice t.pr.a t.pr.n t.pr.c, .slice t.gl.a t.gl.n t.gl.c, .slice t.th.a t.th.n t.th.c, .slice t.ac.a t.ac.n t.ac.c, .slice t.de.a t.de.n t.de.c, .slice t.fu.a t.fu.n t.fu.c, .slice t.da.a t.da.n t.da.c, .slice t.pm.a t.pm.n t.pm.c, .slice t.lo.a t.lo.n t.lo.c] : Array Value)[j]? = some v → U.cell? ⟨w.heap.size, 0 + j, none⟩ = some v))
    (HC2_lit : Hid (∀ U, Wo U V2 (openG g) → Calls Try.prog 70 #[T, V2] U fun e w' => e = .returned (.bool (litB (openG g))) ∧ Below U.heap.size U w'))
    (HK1 : Hid (Below w0.heap.size w0 w1)) (HR1 : Hid (Sq.Rd I w1 Ar m L)) (HR2 : Hid (Sq.Rd I w1 A2r q M)) (HX1 : Hid (w1.heap[wc.heap.size]? = some (.cells #[.slice B0 p0 r0, .slice B1 p1 r1, .slice B2 p2 r2, .slice B3 p3 r3, .slice (some ⟨fb, 0, none⟩) p4 r4, .slice B5 p5 r5, .slice B6 p6 r6, .int .u64 g.seed, .int .i64 g.sc, .int .i64 g.tu, .int .i64 g.ov, .int .i64 g.it, .int .i64 g.go] 31 (0, 0)))) (HW3 : Hid (Wo w1 V2 (openG g))) (HSZ1 : Hid (wc.heap.size < w1.heap.size))
    (K3 : Act → World → Prop) (a3 : ∀ a w', Code.wp Try.prog (nth 9 body19) (bodyPost Try.prog Try.f19 fun e w' => e = .returned (.bool true) ∧ Below w.heap.size w w') a w' → K3 a w') (v0 v2 v6 v9 v10 v11 v12 v13 v14 v15 v16 v17 v18 v19 v20 v21 v22 v23 v24 v25 v26 v27 v28 v29 v30 v31 v32 v33 v34 v35 v36 v37 v38 v39 v40 v41 v42 v43 v44 v45 v46 v47 v48 v49 v50 v51 v52 v53 v54 v55 v56 v57 v58 v59 v60 v61 v62 v63 v64 v65 v66 v67 v68 v69 v70 v71 v72 v73 v74 v75 v76 v77 v78 v79 v80 v81 v82 v83 v84 v85 v86 v87 v88 v89 v90 v91 v92 v93 v94 v95 v96 v97 v98 v99 : Value) :
    Code.wp Try.prog (fst (fst (nth 8 body19))) (Exit.then (Code.wp Try.prog (snd1 (fst (nth 8 body19))) (Exit.then K3 (bodyPost Try.prog Try.f19 fun e w' => e = .returned (.bool true) ∧ Below w.heap.size w w'))) (Exit.then K3 (bodyPost Try.prog Try.f19 fun e w' => e = .returned (.bool true) ∧ Below w.heap.size w w'))) ⟨#[v0, .pointer (some ⟨w.heap.size, 0, none⟩), v2, .slice Ar m cr, .bool (litB g), .pointer (some ⟨wc.heap.size, 0, none⟩), v6, .slice A2r q c2r, .int .i64 0, v9, v10, v11, v12, v13, v14, v15, v16, v17, v18, v19, v20, v21, v22, v23, v24, v25, v26, v27, v28, v29, v30, v31, v32, v33, v34, v35, v36, v37, v38, v39, v40, v41, v42, v43, v44, v45, v46, v47, v48, v49, v50, v51, v52, v53, v54, v55, v56, v57, v58, v59, v60, v61, v62, v63, v64, v65, v66, v67, v68, v69, v70, v71, v72, v73, v74, v75, v76, v77, v78, v79, v80, v81, v82, v83, v84, v85, v86, v87, v88, v89, v90, v91, v92, v93, v94, v95, v96, v97, v98, v99], []⟩ w1 := by
  conv => arg 2; whnf
  go_wp2_with fail
  conv => arg 2; whnf
  go_wp2_with fail
  go_loopw [8, 52] (fun iv jv wr => ∃ j i : Nat, j ≤ q ∧ Hid (i = (M.take j).foldl (goAlong L) 0) ∧ i ≤ m ∧ iv = .int .i64 (i : Int) ∧ jv = .int .i64 (j : Int) ∧ Below w1.heap.size w1 wr) (fun _ jv _ => q - (intOf jv).toNat)
  case atStart => exact ⟨0, 0, Nat.zero_le _, Lib.hid rfl, Nat.zero_le _, rfl, rfl, Below.refl _ _⟩
  case round =>
    obtain ⟨j, i, hj, HI, him, rfl, rfl, hBq⟩ := hrel
    have HBq := Lib.hid hBq
    clear hBq
    by_cases hlj : j < q
    · obtain ⟨b, o, rfl, hbb, hl, hcell⟩ := HR2.out.at_ hlj
      obtain ⟨y, hy⟩ : ∃ y, M[j] = y := ⟨_, rfl⟩
      rw [hy] at hcell
      unfold I at hcell
      have hcw : ∀ wz, Below w1.heap.size w1 wz → wz.cell? ⟨b, o + j, none⟩ = some (.int .i64 y) := fun wz h2 => (bcell h2 b _ hbb).trans hcell
      have hcw := hcw _ HBq.out
      obtain ⟨k0, k1, k2, k3⟩ := rnd hlj hq128
      have HNX := Lib.hid (show (M.take (j + 1)).foldl (goAlong L) 0 = goAlong L i y by
        rw [List.take_succ_eq_append_getElem hl, List.foldl_append, ← HI.out, hy]; rfl)
      clear hl hy hcell
      by_cases hli : i < m
      · obtain ⟨b5, o5, rfl, hb5, hl5, hc5⟩ := HR1.out.at_ hli
        obtain ⟨x, hx⟩ : ∃ x, L[i] = x := ⟨_, rfl⟩
        rw [hx] at hc5
        unfold I at hc5
        have hcx : wr.cell? ⟨b5, o5 + i, none⟩ = some (.int .i64 x) := (bcell HBq.out b5 _ hb5).trans hc5
        obtain ⟨i0, i1, i2, i3⟩ := rnd hli hm128
        have HGA := Lib.hid (show goAlong L i y = if x = y then i + 1 else i by
          unfold goAlong
          rw [List.getElem?_eq_getElem hl5, hx]
          by_cases e : x = y
          · rw [if_pos (by rw [e]), if_pos e]
          · rw [if_neg (fun c => e (by injection c)), if_neg e])
        clear hl5 hx hc5
        by_cases hxy : x = y
        · subst hxy
          have rr : (x == x) = true := by simp
          go_wp2_with fail
          go_roundw
          case rel => exact ⟨j + 1, i + 1, hlj, Lib.hid (by rw [HNX.out, HGA.out, if_pos rfl]), hli, by go_num, by go_num, HBq.out⟩
          case measure => simp [intOf]; omega
        · have rr : (x == y) = false := by simpa using hxy
          go_wp2_with fail
          go_roundw
          case rel => exact ⟨j + 1, i, hlj, Lib.hid (by rw [HNX.out, HGA.out, if_neg hxy]), him, rfl, by go_num, HBq.out⟩
          case measure => simp [intOf]; omega
      · have hie : i = m := by omega
        have HGA := Lib.hid (show goAlong L i y = i by
          unfold goAlong
          rw [List.getElem?_eq_none (by rw [HM.out]; omega), if_neg (by simp)])
        have i1 : ¬ (i : Int) < (m : Int) := by omega
        have i2 : decide ((i : Int) < (m : Int)) = false := decide_eq_false i1
        go_wp2_with fail
        go_roundw
        case rel => exact ⟨j + 1, i, hlj, Lib.hid (by rw [HNX.out, HGA.out]), him, rfl, by go_num, HBq.out⟩
        case measure => simp [intOf]; omega
    · obtain rfl : q = j := by omega
      have HKq := Lib.hid (HK1.out.trans (HBq.out.mono HK1.out.size))
      have HXq := Lib.hid ((HBq.out.block _ HSZ1.out).trans HX1.out)
      have HWq := Lib.hid (SamW.wo_below HW3.out HBq.out)
      have HLTq := Lib.hid (Nat.lt_of_lt_of_le HSZ1.out HBq.out.size)
      obtain ⟨S2, hS2d⟩ : ∃ S2 : World → Prop, (fun U => U.heap[wc.heap.size]? = some (.cells #[.slice B0 p0 r0, .slice B1 p1 r1, .slice B2 p2 r2, .slice B3 p3 r3, .slice (some ⟨fb, 0, none⟩) p4 r4, .slice B5 p5 r5, .slice B6 p6 r6, .int .u64 g.seed, .int .i64 g.sc, .int .i64 g.tu, .int .i64 g.ov, .int .i64 g.it, .int .i64 g.go] 31 (0, 0))) = S2 := ⟨_, rfl⟩
      have HS2B := Lib.hid (show ∀ U, Below wr.heap.size wr U → S2 U from fun U h => by rw [← hS2d]; exact (h.block _ HLTq.out).trans HXq.out)
      have HS2C := Lib.hid (show ∀ U, S2 U → U.cell? ⟨wc.heap.size, 0, none⟩ = some (.slice B0 p0 r0) ∧ U.cell? ⟨wc.heap.size, 1, none⟩ = some (.slice B1 p1 r1) ∧ U.cell? ⟨wc.heap.size, 2, none⟩ = some (.slice B2 p2 r2) ∧ U.cell? ⟨wc.heap.size, 3, none⟩ = some (.slice B3 p3 r3) ∧ U.cell? ⟨wc.heap.size, 4, none⟩ = some (.slice (some ⟨fb, 0, none⟩) p4 r4) ∧ U.cell? ⟨wc.heap.size, 5, none⟩ = some (.slice B5 p5 r5) ∧ U.cell? ⟨wc.heap.size, 6, none⟩ = some (.slice B6 p6 r6) ∧ U.cell? ⟨wc.heap.size, 7, none⟩ = some (.int .u64 g.seed) ∧ U.cell? ⟨wc.heap.size, 8, none⟩ = some (.int .i64 g.sc) ∧ U.cell? ⟨wc.heap.size, 9, none⟩ = some (.int .i64 g.tu) ∧ U.cell? ⟨wc.heap.size, 10, none⟩ = some (.int .i64 g.ov) ∧ U.cell? ⟨wc.heap.size, 11, none⟩ = some (.int .i64 g.it) ∧ U.cell? ⟨wc.heap.size, 12, none⟩ = some (.int .i64 g.go) ∧ U.frozen? ⟨wc.heap.size, 0, none⟩ = false from fun U h => by rw [← hS2d] at h; obtain ⟨z0, z1, z2, z3, z4, z5, z6, z7, z8, z9, z10, z11, z12, zf⟩ := cells13 h; exact ⟨z0, z1, z2, z3, z4, z5, z6, z7, z8, z9, z10, z11, z12, zf 0⟩)
      clear hS2d
      go_wp2_with fail
      conv => arg 2; whnf
      go_upto_region 18 with fail
      cases hlit : litB g with
      | true =>
        have hVO := visible_open HS.out hlit
        rw [HM2.out.1, HM2.out.2] at hVO
        have hie : i = m := by
          rw [HI.out, List.take_of_length_le (by rw [HM2.out.2]; exact Nat.le_refl _), ← HM.out]
          exact along M 0 (Nat.zero_le _) (by rw [List.drop_zero, ← HL.out]; exact hVO.1)
        subst hie
        obtain ⟨bl, hbl⟩ : ∃ bl, (below (openG g) (openG g).n (here (openG g))).length = bl := ⟨_, rfl⟩
        have hbq : q + 1 = bl := by rw [← hbl]; exact hVO.2
        have HBL := Lib.hid hbl
        have zb : (bl : Int) - 1 = (q : Int) := by omega
        have zb0 : bl ≤ 129 := by omega
        have z1 : decide ((i : Int) < (i : Int)) = false := decide_eq_false (by omega)
        have z2 : ((q : Int) != (q : Int)) = false := by simp
        have zw : IntKind.i64.wrap (q : Int) = (q : Int) := by rw [IntKind.wrap_i64]; omega
        clear hVO hbl
        have HK0 := Lib.hid (Below.drew (Below.refl wr.heap.size wr))
        have hS0 : S2 wr.drew := HS2B.out _ HK0.out
        refine wp_region_held_drew (S := S2) (by as_aux_lemma => kernel_rfl) hS0 (fun hHeld => ?_)
        refine Rg.take (i := 0) (t := 71) (v := .bool true) rfl rfl (by as_aux_lemma => kernel_rfl) (by as_aux_lemma => kernel_rfl) (by as_aux_lemma => kernel_rfl) (fun _ _ _ h => h) (by rfl) (by as_aux_lemma => intro w0 hSw; first | (go_simp; done) | (go_simp; with_reducible rfl)) (by assumption) ?_
        simp only [List.setIfInBounds_toArray, List.set_cons_zero, List.set_cons_succ]
        refine Rg.take (i := 1) (t := 72) (v := .bool true) rfl rfl (by as_aux_lemma => kernel_rfl) (by as_aux_lemma => kernel_rfl) (by as_aux_lemma => kernel_rfl) (fun _ _ _ h => h) (by rfl) (by as_aux_lemma => intro w0 hSw; first | (go_simp; done) | (go_simp; with_reducible rfl)) (by assumption) ?_
        simp only [List.setIfInBounds_toArray, List.set_cons_zero, List.set_cons_succ]
        refine Rg.take (i := 2) (t := 73) (v := .int .i64 (i : Int)) rfl rfl (by as_aux_lemma => kernel_rfl) (by as_aux_lemma => kernel_rfl) (by as_aux_lemma => kernel_rfl) (fun _ _ _ h => h) (by rfl) (by as_aux_lemma => intro w0 hSw; first | (go_simp; done) | (go_simp; with_reducible rfl)) (by assumption) ?_
        simp only [List.setIfInBounds_toArray, List.set_cons_zero, List.set_cons_succ]
        refine Rg.take (i := 3) (t := 74) (v := .slice Ar i cr) rfl rfl (by as_aux_lemma => kernel_rfl) (by as_aux_lemma => kernel_rfl) (by as_aux_lemma => kernel_rfl) (fun _ _ _ h => h) (by rfl) (by as_aux_lemma => intro w0 hSw; first | (go_simp; done) | (go_simp; with_reducible rfl)) (by assumption) ?_
        simp only [List.setIfInBounds_toArray, List.set_cons_zero, List.set_cons_succ]
        refine Rg.take (i := 4) (t := 75) (v := .int .i64 (i : Int)) rfl rfl (by as_aux_lemma => kernel_rfl) (by as_aux_lemma => kernel_rfl) (by as_aux_lemma => kernel_rfl) (fun _ _ _ h => h) (by rfl) (by as_aux_lemma => intro w0 hSw; first | (go_simp; done) | (go_simp; with_reducible rfl)) (by assumption) ?_
        simp only [List.setIfInBounds_toArray, List.set_cons_zero, List.set_cons_succ]
        refine Rg.take (i := 5) (t := 76) (v := .bool false) rfl rfl (by as_aux_lemma => kernel_rfl) (by as_aux_lemma => kernel_rfl) (by as_aux_lemma => kernel_rfl) (fun _ _ _ h => h) (by rfl) (by as_aux_lemma => intro w0 hSw; first | (go_simp; done) | (go_simp; with_reducible rfl)) (by assumption) ?_
        simp only [List.setIfInBounds_toArray, List.set_cons_zero, List.set_cons_succ]
        refine Rg.take (i := 6) (t := 77) (v := .bool false) rfl rfl (by as_aux_lemma => kernel_rfl) (by as_aux_lemma => kernel_rfl) (by as_aux_lemma => kernel_rfl) (fun _ _ _ h => h) (by rfl) (by as_aux_lemma => intro w0 hSw; first | (go_simp; done) | (go_simp; with_reducible rfl)) (by assumption) ?_
        simp only [List.setIfInBounds_toArray, List.set_cons_zero, List.set_cons_succ]
        refine Rg.take (i := 7) (t := 78) (v := .slice A2r q c2r) rfl rfl (by as_aux_lemma => kernel_rfl) (by as_aux_lemma => kernel_rfl) (by as_aux_lemma => kernel_rfl) (fun _ _ _ h => h) (by rfl) (by as_aux_lemma => intro w0 hSw; first | (go_simp; done) | (go_simp; with_reducible rfl)) (by assumption) ?_
        simp only [List.setIfInBounds_toArray, List.set_cons_zero, List.set_cons_succ]
        refine Rg.take (i := 8) (t := 79) (v := .int .i64 (q : Int)) rfl rfl (by as_aux_lemma => kernel_rfl) (by as_aux_lemma => kernel_rfl) (by as_aux_lemma => kernel_rfl) (fun _ _ _ h => h) (by rfl) (by as_aux_lemma => intro w0 hSw; first | (go_simp; done) | (go_simp; with_reducible rfl)) (by assumption) ?_
        simp only [List.setIfInBounds_toArray, List.set_cons_zero, List.set_cons_succ]
        refine Rg.take (i := 9) (t := 80) (v := V2) rfl rfl (by as_aux_lemma => kernel_rfl) (by as_aux_lemma => kernel_rfl) (by as_aux_lemma => kernel_rfl) (fun _ _ _ h => h) (by rfl) (by as_aux_lemma => intro w0 hSw; obtain ⟨y0, y1, y2, y3, y4, y5, y6, y7, y8, y9, y10, y11, y12, yf⟩ := HS2C.out _ hSw; first | (go_simp; done) | (go_simp; with_reducible rfl)) (by assumption) ?_
        simp only [List.setIfInBounds_toArray, List.set_cons_zero, List.set_cons_succ]
        refine Rg.take (i := 10) (t := 81) (v := V2) rfl rfl (by as_aux_lemma => kernel_rfl) (by as_aux_lemma => kernel_rfl) (by as_aux_lemma => kernel_rfl) (fun _ _ _ h => h) (by rfl) (by as_aux_lemma => intro w0 hSw; obtain ⟨y0, y1, y2, y3, y4, y5, y6, y7, y8, y9, y10, y11, y12, yf⟩ := HS2C.out _ hSw; first | (go_simp; done) | (go_simp; with_reducible rfl)) (by assumption) ?_
        simp only [List.setIfInBounds_toArray, List.set_cons_zero, List.set_cons_succ]
        refine Rg.one (i := 11) (by as_aux_lemma => kernel_rfl) ?_
        refine Rg.call (i := 11) (t := 82) rfl rfl (by rfl) (by go_simp; exact ⟨rfl, rfl⟩) ?_
        refine (here_v (openG g) wr.drew (SamW.wo_below HWq.out HK0.out)).mono ?_
        rintro e w2 ⟨rfl, hb⟩
        have HK2 := Lib.hid (HK0.out.trans (hb.mono HK0.out.size))
        have hS2 : S2 w2 := HS2B.out _ HK2.out
        clear hS0 hb
        refine ⟨_, rfl, S2, fun _ h => h, hS2, ?_⟩
        simp only [List.setIfInBounds_toArray, List.set_cons_zero, List.set_cons_succ]
        refine Rg.one (i := 12) (by as_aux_lemma => kernel_rfl) ?_
        refine Rg.call (i := 12) (t := 83) rfl rfl (by rfl) (by go_simp; exact ⟨rfl, rfl⟩) ?_
        refine (below_w (openG g) HS2.out.good (by have := HS2.out.hi; omega) (here (openG g)) (SamW.wo_below HWq.out HK2.out)).mono ?_
        rintro e w3 ⟨Ab, cb, rfl, _, hb⟩
        rw [HBL.out]
        have HK3 := Lib.hid (HK2.out.trans (hb.mono HK2.out.size))
        have hS3 : S2 w3 := HS2B.out _ HK3.out
        clear hS2 hb
        refine ⟨_, rfl, S2, fun _ h => h, hS3, ?_⟩
        simp only [List.setIfInBounds_toArray, List.set_cons_zero, List.set_cons_succ]
        refine Rg.take (i := 13) (t := 84) (v := .int .i64 (bl : Int)) rfl rfl (by as_aux_lemma => kernel_rfl) (by as_aux_lemma => kernel_rfl) (by as_aux_lemma => kernel_rfl) (fun _ _ _ h => h) (by rfl) (by as_aux_lemma => intro w0 hSw; first | (go_simp; done) | (go_simp; with_reducible rfl)) (by assumption) ?_
        simp only [List.setIfInBounds_toArray, List.set_cons_zero, List.set_cons_succ]
        refine Rg.take (i := 14) (t := 85) (v := .int .i64 (q : Int)) rfl rfl (by as_aux_lemma => kernel_rfl) (by as_aux_lemma => kernel_rfl) (by as_aux_lemma => kernel_rfl) (fun _ _ _ h => h) (by rfl) (by as_aux_lemma => intro w0 hSw; first | (go_simp; done) | (go_simp; with_reducible rfl)) (by assumption) ?_
        simp only [List.setIfInBounds_toArray, List.set_cons_zero, List.set_cons_succ]
        refine Rg.take (i := 15) (t := 86) (v := .bool false) rfl rfl (by as_aux_lemma => kernel_rfl) (by as_aux_lemma => kernel_rfl) (by as_aux_lemma => kernel_rfl) (fun _ _ _ h => h) (by rfl) (by as_aux_lemma => intro w0 hSw; first | (go_simp; done) | (go_simp; with_reducible rfl)) (by assumption) ?_
        simp only [List.setIfInBounds_toArray, List.set_cons_zero, List.set_cons_succ]
        refine Rg.take (i := 16) (t := 87) (v := .bool false) rfl rfl (by as_aux_lemma => kernel_rfl) (by as_aux_lemma => kernel_rfl) (by as_aux_lemma => kernel_rfl) (fun _ _ _ h => h) (by rfl) (by as_aux_lemma => intro w0 hSw; first | (go_simp; done) | (go_simp; with_reducible rfl)) (by assumption) ?_
        simp only [List.setIfInBounds_toArray, List.set_cons_zero, List.set_cons_succ]
        refine Rg.take (i := 17) (t := 88) (v := .bool false) rfl rfl (by as_aux_lemma => kernel_rfl) (by as_aux_lemma => kernel_rfl) (by as_aux_lemma => kernel_rfl) (fun _ _ _ h => h) (by rfl) (by as_aux_lemma => intro w0 hSw; first | (go_simp; done) | (go_simp; with_reducible rfl)) (by assumption) ?_
        simp only [List.setIfInBounds_toArray, List.set_cons_zero, List.set_cons_succ]
        refine wpAnyH_done (by as_aux_lemma => kernel_rfl) ?_ _
        clear hS3
        have HKn := Lib.hid (HKq.out.trans (HK3.out.mono HKq.out.size))
        have HXn := Lib.hid ((HK3.out.block _ HLTq.out).trans HXq.out)
        have HWn := Lib.hid (SamW.wo_below HWq.out HK3.out)
        have hSc : S w3 := HSB.out _ HKn.out
        have HLO := Lib.hid (litB_open HS.out hlit)
        obtain ⟨y0, y1, y2, y3, y4, y5, y6, y7, y8, y9, y10, y11, y12, yf⟩ := cells13 HXn.out
        have t0 : w3.cell? ⟨w.heap.size, 0, none⟩ = some (.int .i64 t.ti) := by have h := HTC.out _ hSc 0 _ rfl; simpa using h
        have t1 : w3.cell? ⟨w.heap.size, 1, none⟩ = some (.int .i64 t.au) := by have h := HTC.out _ hSc 1 _ rfl; simpa using h
        have t2 : w3.cell? ⟨w.heap.size, 2, none⟩ = some (.int .i64 t.rl) := by have h := HTC.out _ hSc 2 _ rfl; simpa using h
        have t3 : w3.cell? ⟨w.heap.size, 3, none⟩ = some (.int .i64 t.mx) := by have h := HTC.out _ hSc 3 _ rfl; simpa using h
        have t4 : w3.cell? ⟨w.heap.size, 4, none⟩ = some (.slice t.tx.a t.tx.n t.tx.c) := by have h := HTC.out _ hSc 4 _ rfl; simpa using h
        have t5 : w3.cell? ⟨w.heap.size, 5, none⟩ = some (.int .i64 t.fl) := by have h := HTC.out _ hSc 5 _ rfl; simpa using h
        have t6 : w3.cell? ⟨w.heap.size, 6, none⟩ = some (.slice t.pr.a t.pr.n t.pr.c) := by have h := HTC.out _ hSc 6 _ rfl; simpa using h
        have t7 : w3.cell? ⟨w.heap.size, 7, none⟩ = some (.slice t.gl.a t.gl.n t.gl.c) := by have h := HTC.out _ hSc 7 _ rfl; simpa using h
        have t8 : w3.cell? ⟨w.heap.size, 8, none⟩ = some (.slice t.th.a t.th.n t.th.c) := by have h := HTC.out _ hSc 8 _ rfl; simpa using h
        have t9 : w3.cell? ⟨w.heap.size, 9, none⟩ = some (.slice t.ac.a t.ac.n t.ac.c) := by have h := HTC.out _ hSc 9 _ rfl; simpa using h
        have t10 : w3.cell? ⟨w.heap.size, 10, none⟩ = some (.slice t.de.a t.de.n t.de.c) := by have h := HTC.out _ hSc 10 _ rfl; simpa using h
        have t11 : w3.cell? ⟨w.heap.size, 11, none⟩ = some (.slice t.fu.a t.fu.n t.fu.c) := by have h := HTC.out _ hSc 11 _ rfl; simpa using h
        have t12 : w3.cell? ⟨w.heap.size, 12, none⟩ = some (.slice t.da.a t.da.n t.da.c) := by have h := HTC.out _ hSc 12 _ rfl; simpa using h
        have t13 : w3.cell? ⟨w.heap.size, 13, none⟩ = some (.slice t.pm.a t.pm.n t.pm.c) := by have h := HTC.out _ hSc 13 _ rfl; simpa using h
        have t14 : w3.cell? ⟨w.heap.size, 14, none⟩ = some (.slice t.lo.a t.lo.n t.lo.c) := by have h := HTC.out _ hSc 14 _ rfl; simpa using h
        clear hSc
        go_wp2_with fail
        refine (HC2_lit.out w3 HWn.out).mono ?_
        rintro e w8 ⟨rfl, hb⟩
        rw [HLO.out]
        have HK8 := Lib.hid (HKn.out.trans (hb.mono HKn.out.size))
        clear hb
        go_wp2_with (go_at_call 67; refine (AwkV.awake _).mono ?_; rintro e w99 ⟨rfl, hb⟩; have hz := HB.out.trans ((HK8.out.trans (hb.mono HK8.out.size)).mono HB.out.size))
        go_ret
        exact ⟨rfl, hz⟩
      | false =>
        have HK0 := Lib.hid (Below.drew (Below.refl wr.heap.size wr))
        have hS0 : S2 wr.drew := HS2B.out _ HK0.out
        refine wp_region_held_drew (S := S2) (by as_aux_lemma => kernel_rfl) hS0 (fun hHeld => ?_)
        refine Rg.take (i := 0) (t := 71) (v := .bool false) rfl rfl (by as_aux_lemma => kernel_rfl) (by as_aux_lemma => kernel_rfl) (by as_aux_lemma => kernel_rfl) (fun _ _ _ h => h) (by rfl) (by as_aux_lemma => intro w0 hSw; first | (go_simp; done) | (go_simp; with_reducible rfl)) (by assumption) ?_
        simp only [List.setIfInBounds_toArray, List.set_cons_zero, List.set_cons_succ]
        refine Rg.take (i := 1) (t := 72) (v := .bool false) rfl rfl (by as_aux_lemma => kernel_rfl) (by as_aux_lemma => kernel_rfl) (by as_aux_lemma => kernel_rfl) (fun _ _ _ h => h) (by rfl) (by as_aux_lemma => intro w0 hSw; first | (go_simp; done) | (go_simp; with_reducible rfl)) (by assumption) ?_
        simp only [List.setIfInBounds_toArray, List.set_cons_zero, List.set_cons_succ]
        refine Rg.pass (i := 2) (t := 73) rfl rfl (by as_aux_lemma => kernel_rfl) (by as_aux_lemma => kernel_rfl) (by as_aux_lemma => kernel_rfl) (fun _ _ _ h => h) (by rfl) (by assumption) ?_
        simp only [List.setIfInBounds_toArray, List.set_cons_zero, List.set_cons_succ]
        refine Rg.pass (i := 3) (t := 74) rfl rfl (by as_aux_lemma => kernel_rfl) (by as_aux_lemma => kernel_rfl) (by as_aux_lemma => kernel_rfl) (fun _ _ _ h => h) (by rfl) (by assumption) ?_
        simp only [List.setIfInBounds_toArray, List.set_cons_zero, List.set_cons_succ]
        refine Rg.pass (i := 4) (t := 75) rfl rfl (by as_aux_lemma => kernel_rfl) (by as_aux_lemma => kernel_rfl) (by as_aux_lemma => kernel_rfl) (fun _ _ _ h => h) (by rfl) (by assumption) ?_
        simp only [List.setIfInBounds_toArray, List.set_cons_zero, List.set_cons_succ]
        refine Rg.pass (i := 5) (t := 76) rfl rfl (by as_aux_lemma => kernel_rfl) (by as_aux_lemma => kernel_rfl) (by as_aux_lemma => kernel_rfl) (fun _ _ _ h => h) (by rfl) (by assumption) ?_
        simp only [List.setIfInBounds_toArray, List.set_cons_zero, List.set_cons_succ]
        refine Rg.pass (i := 6) (t := 77) rfl rfl (by as_aux_lemma => kernel_rfl) (by as_aux_lemma => kernel_rfl) (by as_aux_lemma => kernel_rfl) (fun _ _ _ h => h) (by rfl) (by assumption) ?_
        simp only [List.setIfInBounds_toArray, List.set_cons_zero, List.set_cons_succ]
        refine Rg.pass (i := 7) (t := 78) rfl rfl (by as_aux_lemma => kernel_rfl) (by as_aux_lemma => kernel_rfl) (by as_aux_lemma => kernel_rfl) (fun _ _ _ h => h) (by rfl) (by assumption) ?_
        simp only [List.setIfInBounds_toArray, List.set_cons_zero, List.set_cons_succ]
        refine Rg.pass (i := 8) (t := 79) rfl rfl (by as_aux_lemma => kernel_rfl) (by as_aux_lemma => kernel_rfl) (by as_aux_lemma => kernel_rfl) (fun _ _ _ h => h) (by rfl) (by assumption) ?_
        simp only [List.setIfInBounds_toArray, List.set_cons_zero, List.set_cons_succ]
        refine Rg.pass (i := 9) (t := 80) rfl rfl (by as_aux_lemma => kernel_rfl) (by as_aux_lemma => kernel_rfl) (by as_aux_lemma => kernel_rfl) (fun _ _ _ h => h) (by rfl) (by assumption) ?_
        simp only [List.setIfInBounds_toArray, List.set_cons_zero, List.set_cons_succ]
        refine Rg.pass (i := 10) (t := 81) rfl rfl (by as_aux_lemma => kernel_rfl) (by as_aux_lemma => kernel_rfl) (by as_aux_lemma => kernel_rfl) (fun _ _ _ h => h) (by rfl) (by assumption) ?_
        simp only [List.setIfInBounds_toArray, List.set_cons_zero, List.set_cons_succ]
        refine Rg.pass (i := 11) (t := 82) rfl rfl (by as_aux_lemma => kernel_rfl) (by as_aux_lemma => kernel_rfl) (by as_aux_lemma => kernel_rfl) (fun _ _ _ h => h) (by rfl) (by assumption) ?_
        simp only [List.setIfInBounds_toArray, List.set_cons_zero, List.set_cons_succ]
        refine Rg.pass (i := 12) (t := 83) rfl rfl (by as_aux_lemma => kernel_rfl) (by as_aux_lemma => kernel_rfl) (by as_aux_lemma => kernel_rfl) (fun _ _ _ h => h) (by rfl) (by assumption) ?_
        simp only [List.setIfInBounds_toArray, List.set_cons_zero, List.set_cons_succ]
        refine Rg.pass (i := 13) (t := 84) rfl rfl (by as_aux_lemma => kernel_rfl) (by as_aux_lemma => kernel_rfl) (by as_aux_lemma => kernel_rfl) (fun _ _ _ h => h) (by rfl) (by assumption) ?_
        simp only [List.setIfInBounds_toArray, List.set_cons_zero, List.set_cons_succ]
        refine Rg.pass (i := 14) (t := 85) rfl rfl (by as_aux_lemma => kernel_rfl) (by as_aux_lemma => kernel_rfl) (by as_aux_lemma => kernel_rfl) (fun _ _ _ h => h) (by rfl) (by assumption) ?_
        simp only [List.setIfInBounds_toArray, List.set_cons_zero, List.set_cons_succ]
        refine Rg.pass (i := 15) (t := 86) rfl rfl (by as_aux_lemma => kernel_rfl) (by as_aux_lemma => kernel_rfl) (by as_aux_lemma => kernel_rfl) (fun _ _ _ h => h) (by rfl) (by assumption) ?_
        simp only [List.setIfInBounds_toArray, List.set_cons_zero, List.set_cons_succ]
        refine Rg.pass (i := 16) (t := 87) rfl rfl (by as_aux_lemma => kernel_rfl) (by as_aux_lemma => kernel_rfl) (by as_aux_lemma => kernel_rfl) (fun _ _ _ h => h) (by rfl) (by assumption) ?_
        simp only [List.setIfInBounds_toArray, List.set_cons_zero, List.set_cons_succ]
        refine Rg.take (i := 17) (t := 88) (v := .bool false) rfl rfl (by as_aux_lemma => kernel_rfl) (by as_aux_lemma => kernel_rfl) (by as_aux_lemma => kernel_rfl) (fun _ _ _ h => h) (by rfl) (by as_aux_lemma => intro w0 hSw; first | (go_simp; done) | (go_simp; with_reducible rfl)) (by assumption) ?_
        simp only [List.setIfInBounds_toArray, List.set_cons_zero, List.set_cons_succ]
        refine wpAnyH_done (by as_aux_lemma => kernel_rfl) ?_ _
        clear hS0
        have HKd := Lib.hid (Below.drew HKq.out)
        go_wp2_with (go_at_call 67; refine (AwkV.awake _).mono ?_; rintro e w99 ⟨rfl, hb⟩; have hz := HB.out.trans ((HKd.out.trans (hb.mono HKd.out.size)).mono HB.out.size))
        go_ret
        exact ⟨rfl, hz⟩
set_option maxRecDepth 100000 in
set_option maxHeartbeats 16000000 in
theorem walk (w : World) (t : TbV) (rt : TbR w t) (cs : List Value) (g : Wd) (ho : Wo w (.agg cs.toArray) g)  :
    Calls Try.prog 19 #[ScE t cs] w fun e w' => e = .returned (.bool true) ∧ Below w.heap.size w w' := by
  have ho2 := ho
  obtain ⟨A0, A1, A2, A3, A4, A5, A6, n0, c0, n, c1, n2, c2, n3, c3, n4, c4, n5, c5, n6, c6, he, _⟩ := ho2
  obtain rfl : cs = [.slice A0 n0 c0, .slice A1 n c1, .slice A2 n2 c2, .slice A3 n3 c3, .slice A4 n4 c4, .slice A5 n5 c5, .slice A6 n6 c6, .int .u64 g.seed, .int .i64 g.sc, .int .i64 g.tu, .int .i64 g.ov, .int .i64 g.it, .int .i64 g.go] := by
    have h2 : cs.toArray = #[.slice A0 n0 c0, .slice A1 n c1, .slice A2 n2 c2, .slice A3 n3 c3, .slice A4 n4 c4, .slice A5 n5 c5, .slice A6 n6 c6, .int .u64 g.seed, .int .i64 g.sc, .int .i64 g.tu, .int .i64 g.ov, .int .i64 g.it, .int .i64 g.go] := by injection he
    exact congrArg Array.toList h2
  clear he
  show Calls Try.prog 19 #[.agg #[.int .i64 t.ti, .int .i64 t.au, .int .i64 t.rl, .int .i64 t.mx, .slice t.tx.a t.tx.n t.tx.c, .int .i64 t.fl, .slice t.pr.a t.pr.n t.pr.c, .slice t.gl.a t.gl.n t.gl.c, .slice t.th.a t.th.n t.th.c, .slice t.ac.a t.ac.n t.ac.c, .slice t.de.a t.de.n t.de.c, .slice t.fu.a t.fu.n t.fu.c, .slice t.da.a t.da.n t.da.c, .slice t.pm.a t.pm.n t.pm.c, .slice t.lo.a t.lo.n t.lo.c, .slice A0 n0 c0, .slice A1 n c1, .slice A2 n2 c2, .slice A3 n3 c3, .slice A4 n4 c4, .slice A5 n5 c5, .slice A6 n6 c6, .int .u64 g.seed, .int .i64 g.sc, .int .i64 g.tu, .int .i64 g.ov, .int .i64 g.it, .int .i64 g.go]] w _
  go_enter Try.func19, Try.ntmps19
  obtain ⟨w00, hW⟩ : ∃ w0, w.alloc (.cells #[.int .i64 t.ti, .int .i64 t.au, .int .i64 t.rl, .int .i64 t.mx, .slice t.tx.a t.tx.n t.tx.c, .int .i64 t.fl, .slice t.pr.a t.pr.n t.pr.c, .slice t.gl.a t.gl.n t.gl.c, .slice t.th.a t.th.n t.th.c, .slice t.ac.a t.ac.n t.ac.c, .slice t.de.a t.de.n t.de.c, .slice t.fu.a t.fu.n t.fu.c, .slice t.da.a t.da.n t.da.c, .slice t.pm.a t.pm.n t.pm.c, .slice t.lo.a t.lo.n t.lo.c, .slice A0 n0 c0, .slice A1 n c1, .slice A2 n2 c2, .slice A3 n3 c3, .slice A4 n4 c4, .slice A5 n5 c5, .slice A6 n6 c6, .int .u64 g.seed, .int .i64 g.sc, .int .i64 g.tu, .int .i64 g.ov, .int .i64 g.it, .int .i64 g.go] 69) = w0 := ⟨_, rfl⟩
  have HA0 : w00.heap[w.heap.size]? = some (.cells #[.int .i64 t.ti, .int .i64 t.au, .int .i64 t.rl, .int .i64 t.mx, .slice t.tx.a t.tx.n t.tx.c, .int .i64 t.fl, .slice t.pr.a t.pr.n t.pr.c, .slice t.gl.a t.gl.n t.gl.c, .slice t.th.a t.th.n t.th.c, .slice t.ac.a t.ac.n t.ac.c, .slice t.de.a t.de.n t.de.c, .slice t.fu.a t.fu.n t.fu.c, .slice t.da.a t.da.n t.da.c, .slice t.pm.a t.pm.n t.pm.c, .slice t.lo.a t.lo.n t.lo.c, .slice A0 n0 c0, .slice A1 n c1, .slice A2 n2 c2, .slice A3 n3 c3, .slice A4 n4 c4, .slice A5 n5 c5, .slice A6 n6 c6, .int .u64 g.seed, .int .i64 g.sc, .int .i64 g.tu, .int .i64 g.ov, .int .i64 g.it, .int .i64 g.go] 69 (0, 0)) := by rw [← hW]; exact World.alloc_heap_new w _
  have LA0 : w.heap.size < w00.heap.size := by rw [← hW]; simp
  have hB : Below w.heap.size w w00 := by rw [← hW]; exact (Below.refl _ _).alloc (Nat.le_refl _) _
  have HB0 := Lib.hid hB
  have HT0 := Lib.hid rt
  have HO0 := Lib.hid ho
  clear hB rt ho
  go_upto_region 1 with (fail)
  generalize hX : (.agg #[.int .i64 t.ti, .int .i64 t.au, .int .i64 t.rl, .int .i64 t.mx, .slice t.tx.a t.tx.n t.tx.c, .int .i64 t.fl, .slice t.pr.a t.pr.n t.pr.c, .slice t.gl.a t.gl.n t.gl.c, .slice t.th.a t.th.n t.th.c, .slice t.ac.a t.ac.n t.ac.c, .slice t.de.a t.de.n t.de.c, .slice t.fu.a t.fu.n t.fu.c, .slice t.da.a t.da.n t.da.c, .slice t.pm.a t.pm.n t.pm.c, .slice t.lo.a t.lo.n t.lo.c, .slice A0 n0 c0, .slice A1 n c1, .slice A2 n2 c2, .slice A3 n3 c3, .slice A4 n4 c4, .slice A5 n5 c5, .slice A6 n6 c6, .int .u64 g.seed, .int .i64 g.sc, .int .i64 g.tu, .int .i64 g.ov, .int .i64 g.it, .int .i64 g.go] : Value) = X0
  generalize hT : (.agg #[.int .i64 t.ti, .int .i64 t.au, .int .i64 t.rl, .int .i64 t.mx, .slice t.tx.a t.tx.n t.tx.c, .int .i64 t.fl, .slice t.pr.a t.pr.n t.pr.c, .slice t.gl.a t.gl.n t.gl.c, .slice t.th.a t.th.n t.th.c, .slice t.ac.a t.ac.n t.ac.c, .slice t.de.a t.de.n t.de.c, .slice t.fu.a t.fu.n t.fu.c, .slice t.da.a t.da.n t.da.c, .slice t.pm.a t.pm.n t.pm.c, .slice t.lo.a t.lo.n t.lo.c] : Value) = T
  generalize hV : (.agg #[.slice A0 n0 c0, .slice A1 n c1, .slice A2 n2 c2, .slice A3 n3 c3, .slice A4 n4 c4, .slice A5 n5 c5, .slice A6 n6 c6, .int .u64 g.seed, .int .i64 g.sc, .int .i64 g.tu, .int .i64 g.ov, .int .i64 g.it, .int .i64 g.go] : Value) = V at HO0
  have HCR0 := fun (U : World) (h1 : TbR U t) (h2 : Wo U V g) => right_v t g A0 A1 A2 A3 A4 A5 A6 n0 c0 n c1 n2 c2 n3 c3 n4 c4 n5 c5 n6 c6 U h1 (hV ▸ h2)
  rw [hX] at HCR0
  have HCR := Lib.hid HCR0
  clear HCR0
  have hinfo : (Try.prog.info? 69).map (·.size) = some 28 := by kernel_rfl
  go_upto_if 13 with (first
    | (refine wpList_load_row rfl 69 _ rfl w.heap.size ?_ 69 #[.int .i64 t.ti, .int .i64 t.au, .int .i64 t.rl, .int .i64 t.mx, .slice t.tx.a t.tx.n t.tx.c, .int .i64 t.fl, .slice t.pr.a t.pr.n t.pr.c, .slice t.gl.a t.gl.n t.gl.c, .slice t.th.a t.th.n t.th.c, .slice t.ac.a t.ac.n t.ac.c, .slice t.de.a t.de.n t.de.c, .slice t.fu.a t.fu.n t.fu.c, .slice t.da.a t.da.n t.da.c, .slice t.pm.a t.pm.n t.pm.c, .slice t.lo.a t.lo.n t.lo.c, .slice A0 n0 c0, .slice A1 n c1, .slice A2 n2 c2, .slice A3 n3 c3, .slice A4 n4 c4, .slice A5 n5 c5, .slice A6 n6 c6, .int .u64 g.seed, .int .i64 g.sc, .int .i64 g.tu, .int .i64 g.ov, .int .i64 g.it, .int .i64 g.go] (0, 0) _ HA0 Try.underlying69 ?_ ?_ ?_; rfl; rfl; exact hinfo; rw [hX])
    | (go_at_call 66; (with_reducible refine (HCR.out _ (TbR.below HT0.out HB0.out) (SamW.wo_below HO0.out HB0.out)).mono ?_); rintro e w0 ⟨q, rfl, hp, hb⟩; have HA := (hb.block _ LA0).trans HA0; have LA := Nat.lt_of_lt_of_le LA0 hb.size; have HB := Lib.hid (HB0.out.trans (hb.mono HB0.out.size)); clear hW HA0 LA0 hb; cases q))
  · go_wp2_with (go_at_call 67; refine (AwkV.awake _).mono ?_; rintro e w99 ⟨rfl, hb⟩; have hz := HB.out.trans (hb.mono HB.out.size))
    go_ret
    exact ⟨rfl, hz⟩
  have HP := Lib.hid (hp (by simp))
  clear hp
  have HR := Lib.hid HP.out.1
  have HS := Lib.hid (sane HR.out HP.out.2)
  have HTB := Lib.hid (TbR.below HT0.out HB.out)
  have HOv := Lib.hid (SamW.wo_below HO0.out HB.out)
  clear HP HT0 HO0 HB0 HCR
  obtain ⟨S, hSd⟩ : ∃ S : World → Prop, (fun U => U.heap[w.heap.size]? = some (.cells #[.int .i64 t.ti, .int .i64 t.au, .int .i64 t.rl, .int .i64 t.mx, .slice t.tx.a t.tx.n t.tx.c, .int .i64 t.fl, .slice t.pr.a t.pr.n t.pr.c, .slice t.gl.a t.gl.n t.gl.c, .slice t.th.a t.th.n t.th.c, .slice t.ac.a t.ac.n t.ac.c, .slice t.de.a t.de.n t.de.c, .slice t.fu.a t.fu.n t.fu.c, .slice t.da.a t.da.n t.da.c, .slice t.pm.a t.pm.n t.pm.c, .slice t.lo.a t.lo.n t.lo.c, .slice A0 n0 c0, .slice A1 n c1, .slice A2 n2 c2, .slice A3 n3 c3, .slice A4 n4 c4, .slice A5 n5 c5, .slice A6 n6 c6, .int .u64 g.seed, .int .i64 g.sc, .int .i64 g.tu, .int .i64 g.ov, .int .i64 g.it, .int .i64 g.go] 69 (0, 0))) = S := ⟨_, rfl⟩
  have HSB := Lib.hid (show ∀ U, Below w0.heap.size w0 U → S U from fun U h => by rw [← hSd]; exact (h.block _ LA).trans HA)
  have HSC := Lib.hid (show ∀ U, S U → U.cell? ⟨w.heap.size, 0, none⟩ = some (.int .i64 t.ti) ∧ U.cell? ⟨w.heap.size, 1, none⟩ = some (.int .i64 t.au) ∧ U.cell? ⟨w.heap.size, 2, none⟩ = some (.int .i64 t.rl) ∧ U.cell? ⟨w.heap.size, 3, none⟩ = some (.int .i64 t.mx) ∧ U.cell? ⟨w.heap.size, 4, none⟩ = some (.slice t.tx.a t.tx.n t.tx.c) ∧ U.cell? ⟨w.heap.size, 5, none⟩ = some (.int .i64 t.fl) ∧ U.cell? ⟨w.heap.size, 6, none⟩ = some (.slice t.pr.a t.pr.n t.pr.c) ∧ U.cell? ⟨w.heap.size, 7, none⟩ = some (.slice t.gl.a t.gl.n t.gl.c) ∧ U.cell? ⟨w.heap.size, 8, none⟩ = some (.slice t.th.a t.th.n t.th.c) ∧ U.cell? ⟨w.heap.size, 9, none⟩ = some (.slice t.ac.a t.ac.n t.ac.c) ∧ U.cell? ⟨w.heap.size, 10, none⟩ = some (.slice t.de.a t.de.n t.de.c) ∧ U.cell? ⟨w.heap.size, 11, none⟩ = some (.slice t.fu.a t.fu.n t.fu.c) ∧ U.cell? ⟨w.heap.size, 12, none⟩ = some (.slice t.da.a t.da.n t.da.c) ∧ U.cell? ⟨w.heap.size, 13, none⟩ = some (.slice t.pm.a t.pm.n t.pm.c) ∧ U.cell? ⟨w.heap.size, 14, none⟩ = some (.slice t.lo.a t.lo.n t.lo.c) ∧ U.cell? ⟨w.heap.size, 15, none⟩ = some (.slice A0 n0 c0) ∧ U.cell? ⟨w.heap.size, 16, none⟩ = some (.slice A1 n c1) ∧ U.cell? ⟨w.heap.size, 17, none⟩ = some (.slice A2 n2 c2) ∧ U.cell? ⟨w.heap.size, 18, none⟩ = some (.slice A3 n3 c3) ∧ U.cell? ⟨w.heap.size, 19, none⟩ = some (.slice A4 n4 c4) ∧ U.cell? ⟨w.heap.size, 20, none⟩ = some (.slice A5 n5 c5) ∧ U.cell? ⟨w.heap.size, 21, none⟩ = some (.slice A6 n6 c6) ∧ U.cell? ⟨w.heap.size, 22, none⟩ = some (.int .u64 g.seed) ∧ U.cell? ⟨w.heap.size, 23, none⟩ = some (.int .i64 g.sc) ∧ U.cell? ⟨w.heap.size, 24, none⟩ = some (.int .i64 g.tu) ∧ U.cell? ⟨w.heap.size, 25, none⟩ = some (.int .i64 g.ov) ∧ U.cell? ⟨w.heap.size, 26, none⟩ = some (.int .i64 g.it) ∧ U.cell? ⟨w.heap.size, 27, none⟩ = some (.int .i64 g.go) from fun U h => by rw [← hSd] at h; exact cells28 h)
  have i15 : (Try.prog.info? 28).map (·.size) = some 15 := by kernel_rfl
  have i13 : (Try.prog.info? 31).map (·.size) = some 13 := by kernel_rfl
  have HTC := Lib.hid (show ∀ U, S U → ∀ (j : Nat) (v : Value), (#[.int .i64 t.ti, .int .i64 t.au, .int .i64 t.rl, .int .i64 t.mx, .slice t.tx.a t.tx.n t.tx.c, .int .i64 t.fl, .slice t.pr.a t.pr.n t.pr.c, .slice t.gl.a t.gl.n t.gl.c, .slice t.th.a t.th.n t.th.c, .slice t.ac.a t.ac.n t.ac.c, .slice t.de.a t.de.n t.de.c, .slice t.fu.a t.fu.n t.fu.c, .slice t.da.a t.da.n t.da.c, .slice t.pm.a t.pm.n t.pm.c, .slice t.lo.a t.lo.n t.lo.c] : Array Value)[j]? = some v → U.cell? ⟨w.heap.size, 0 + j, none⟩ = some v from fun U h => by rw [← hSd] at h; exact ViewV.part_l (L := [.int .i64 t.ti, .int .i64 t.au, .int .i64 t.rl, .int .i64 t.mx, .slice t.tx.a t.tx.n t.tx.c, .int .i64 t.fl, .slice t.pr.a t.pr.n t.pr.c, .slice t.gl.a t.gl.n t.gl.c, .slice t.th.a t.th.n t.th.c, .slice t.ac.a t.ac.n t.ac.c, .slice t.de.a t.de.n t.de.c, .slice t.fu.a t.fu.n t.fu.c, .slice t.da.a t.da.n t.da.c, .slice t.pm.a t.pm.n t.pm.c, .slice t.lo.a t.lo.n t.lo.c]) (M := [.slice A0 n0 c0, .slice A1 n c1, .slice A2 n2 c2, .slice A3 n3 c3, .slice A4 n4 c4, .slice A5 n5 c5, .slice A6 n6 c6, .int .u64 g.seed, .int .i64 g.sc, .int .i64 g.tu, .int .i64 g.ov, .int .i64 g.it, .int .i64 g.go]) h)
  have HVC := Lib.hid (show ∀ U, S U → ∀ (j : Nat) (v : Value), (#[.slice A0 n0 c0, .slice A1 n c1, .slice A2 n2 c2, .slice A3 n3 c3, .slice A4 n4 c4, .slice A5 n5 c5, .slice A6 n6 c6, .int .u64 g.seed, .int .i64 g.sc, .int .i64 g.tu, .int .i64 g.ov, .int .i64 g.it, .int .i64 g.go] : Array Value)[j]? = some v → U.cell? ⟨w.heap.size, 15 + j, none⟩ = some v from fun U h => by rw [← hSd] at h; exact ViewV.part_r (L := [.int .i64 t.ti, .int .i64 t.au, .int .i64 t.rl, .int .i64 t.mx, .slice t.tx.a t.tx.n t.tx.c, .int .i64 t.fl, .slice t.pr.a t.pr.n t.pr.c, .slice t.gl.a t.gl.n t.gl.c, .slice t.th.a t.th.n t.th.c, .slice t.ac.a t.ac.n t.ac.c, .slice t.de.a t.de.n t.de.c, .slice t.fu.a t.fu.n t.fu.c, .slice t.da.a t.da.n t.da.c, .slice t.pm.a t.pm.n t.pm.c, .slice t.lo.a t.lo.n t.lo.c]) (M := [.slice A0 n0 c0, .slice A1 n c1, .slice A2 n2 c2, .slice A3 n3 c3, .slice A4 n4 c4, .slice A5 n5 c5, .slice A6 n6 c6, .int .u64 g.seed, .int .i64 g.sc, .int .i64 g.tu, .int .i64 g.ov, .int .i64 g.it, .int .i64 g.go]) h rfl)
  clear hSd
  have HC0 := fun (U : World) (h : Wo U V g) => visible_v t g HS.out.good HS.out.fl HS.out.hi U h
  rw [hT] at HC0
  have HC_visible_v := Lib.hid HC0
  clear HC0
  have HC0 := fun (U : World) (h : Wo U V g) => lit_v t g HS.out.good HS.out.fl HS.out.hi U h
  rw [hT] at HC0
  have HC_lit_v := Lib.hid HC0
  clear HC0
  obtain ⟨L, hL⟩ : ∃ L, visible g = L := ⟨_, rfl⟩
  obtain ⟨m, hm⟩ : ∃ m, L.length = m := ⟨_, rfl⟩
  have hm128 : m ≤ 128 := by rw [← hm, ← hL]; exact visible_len HS.out
  have HL := Lib.hid hL
  have HM := Lib.hid hm
  clear hL hm
  have hSc : S w0 := HSB.out _ (Below.refl _ _)
  go_wp2_with (first | (refine ViewV.load_sub ?_ 28 _ rfl w.heap.size 0 ?_ #[.int .i64 t.ti, .int .i64 t.au, .int .i64 t.rl, .int .i64 t.mx, .slice t.tx.a t.tx.n t.tx.c, .int .i64 t.fl, .slice t.pr.a t.pr.n t.pr.c, .slice t.gl.a t.gl.n t.gl.c, .slice t.th.a t.th.n t.th.c, .slice t.ac.a t.ac.n t.ac.c, .slice t.de.a t.de.n t.de.c, .slice t.fu.a t.fu.n t.fu.c, .slice t.da.a t.da.n t.da.c, .slice t.pm.a t.pm.n t.pm.c, .slice t.lo.a t.lo.n t.lo.c] _ (HTC.out _ hSc) Try.underlying28 ?_ ?_ ?_; rfl; rfl; rfl; exact i15; rw [hT]) | (refine ViewV.load_sub ?_ 31 _ rfl w.heap.size 15 ?_ #[.slice A0 n0 c0, .slice A1 n c1, .slice A2 n2 c2, .slice A3 n3 c3, .slice A4 n4 c4, .slice A5 n5 c5, .slice A6 n6 c6, .int .u64 g.seed, .int .i64 g.sc, .int .i64 g.tu, .int .i64 g.ov, .int .i64 g.it, .int .i64 g.go] _ (HVC.out _ hSc) Try.underlying31 ?_ ?_ ?_; rfl; rfl; rfl; exact i13; rw [hV]))
  refine (HC_visible_v.out w0 HOv.out).mono ?_
  rintro e wa ⟨u, rfl, ho, hb⟩
  rw [HL.out] at ho
  obtain ⟨Ar, cr, rfl, hc1, hc2⟩ := ho.shape
  rw [HM.out] at ho hc1
  rw [HM.out]
  have HR := Lib.hid ho.rd
  have HKa := Lib.hid hb
  clear hSc ho hb hc2
  have hSc : S wa := HSB.out _ HKa.out
  go_wp2_with (first | (refine ViewV.load_sub ?_ 28 _ rfl w.heap.size 0 ?_ #[.int .i64 t.ti, .int .i64 t.au, .int .i64 t.rl, .int .i64 t.mx, .slice t.tx.a t.tx.n t.tx.c, .int .i64 t.fl, .slice t.pr.a t.pr.n t.pr.c, .slice t.gl.a t.gl.n t.gl.c, .slice t.th.a t.th.n t.th.c, .slice t.ac.a t.ac.n t.ac.c, .slice t.de.a t.de.n t.de.c, .slice t.fu.a t.fu.n t.fu.c, .slice t.da.a t.da.n t.da.c, .slice t.pm.a t.pm.n t.pm.c, .slice t.lo.a t.lo.n t.lo.c] _ (HTC.out _ hSc) Try.underlying28 ?_ ?_ ?_; rfl; rfl; rfl; exact i15; rw [hT]) | (refine ViewV.load_sub ?_ 31 _ rfl w.heap.size 15 ?_ #[.slice A0 n0 c0, .slice A1 n c1, .slice A2 n2 c2, .slice A3 n3 c3, .slice A4 n4 c4, .slice A5 n5 c5, .slice A6 n6 c6, .int .u64 g.seed, .int .i64 g.sc, .int .i64 g.tu, .int .i64 g.ov, .int .i64 g.it, .int .i64 g.go] _ (HVC.out _ hSc) Try.underlying31 ?_ ?_ ?_; rfl; rfl; rfl; exact i13; rw [hV]))
  refine (HC_lit_v.out wa (SamW.wo_below HOv.out HKa.out)).mono ?_
  rintro e wb ⟨rfl, hb⟩
  have HKb := Lib.hid (HKa.out.trans (hb.mono HKa.out.size))
  have HRb := Lib.hid (HR.out.below hb)
  clear hSc hb
  have hSc : S wb := HSB.out _ HKb.out
  go_wp2_with (first | (refine ViewV.load_sub ?_ 28 _ rfl w.heap.size 0 ?_ #[.int .i64 t.ti, .int .i64 t.au, .int .i64 t.rl, .int .i64 t.mx, .slice t.tx.a t.tx.n t.tx.c, .int .i64 t.fl, .slice t.pr.a t.pr.n t.pr.c, .slice t.gl.a t.gl.n t.gl.c, .slice t.th.a t.th.n t.th.c, .slice t.ac.a t.ac.n t.ac.c, .slice t.de.a t.de.n t.de.c, .slice t.fu.a t.fu.n t.fu.c, .slice t.da.a t.da.n t.da.c, .slice t.pm.a t.pm.n t.pm.c, .slice t.lo.a t.lo.n t.lo.c] _ (HTC.out _ hSc) Try.underlying28 ?_ ?_ ?_; rfl; rfl; rfl; exact i15; rw [hT]) | (refine ViewV.load_sub ?_ 31 _ rfl w.heap.size 15 ?_ #[.slice A0 n0 c0, .slice A1 n c1, .slice A2 n2 c2, .slice A3 n3 c3, .slice A4 n4 c4, .slice A5 n5 c5, .slice A6 n6 c6, .int .u64 g.seed, .int .i64 g.sc, .int .i64 g.tu, .int .i64 g.ov, .int .i64 g.it, .int .i64 g.go] _ (HVC.out _ hSc) Try.underlying31 ?_ ?_ ?_; rfl; rfl; rfl; exact i13; rw [hV]))
  refine (copy_r g wb (SamW.wo_below HOv.out HKb.out)).mono ?_
  rintro e wc ⟨u, rfl, hOw, hb⟩
  obtain ⟨B0, B1, B2, B3, B4, B5, B6, p0, r0, p1, r1, p2, r2, p3, r3, p4, r4, p5, r5, p6, r6, hu⟩ := ow_agg hOw
  subst hu
  have HKc := Lib.hid (HKb.out.trans (hb.mono HKb.out.size))
  have HRc := Lib.hid (HRb.out.below hb)
  have HOw := Lib.hid hOw
  have HSZ := Lib.hid (Nat.le_trans HKb.out.size hb.size)
  have hfl : 1 ≤ g.fl.length := by rw [HS.out.fl.1]; have := HS.out.lo; omega
  obtain ⟨nf, hnf⟩ : ∃ nf, g.fl.length = nf := ⟨_, rfl⟩
  have HNF := Lib.hid hnf
  obtain ⟨fb, fc, ha4, hfb1, hfb2⟩ := ow_flag HOw.out hfl
  rw [hnf] at ha4 hfl
  have ha5 : Value.slice B4 p4 r4 = .slice (some ⟨fb, 0, none⟩) nf fc := ha4
  injection ha5 with z1 z2 z3
  subst z1 z2 z3
  clear ha4
  have HA4 := Lib.hid (show flagOf (.agg #[.slice B0 p0 r0, .slice B1 p1 r1, .slice B2 p2 r2, .slice B3 p3 r3, .slice (some ⟨fb, 0, none⟩) p4 r4, .slice B5 p5 r5, .slice B6 p6 r6, .int .u64 g.seed, .int .i64 g.sc, .int .i64 g.tu, .int .i64 g.ov, .int .i64 g.it, .int .i64 g.go]) = .slice (some ⟨fb, 0, none⟩) p4 r4 from rfl)
  have HFB := Lib.hid (show fb ≠ wc.heap.size ∧ wb.heap.size ≤ fb from ⟨Nat.ne_of_lt hfb2, hfb1⟩)
  have hnf128 : p4 ≤ 128 := by rw [← hnf, HS.out.fl.1]; exact HS.out.hi
  obtain ⟨we, hwe⟩ : ∃ W, wc.alloc (.cells #[.slice none 0 0, .slice none 0 0, .slice none 0 0, .slice none 0 0, .slice none 0 0, .slice none 0 0, .slice none 0 0, .int .u64 0, .int .i64 0, .int .i64 0, .int .i64 0, .int .i64 0, .int .i64 0] 31) = W := ⟨_, rfl⟩
  have HZ : we.heap[wc.heap.size]? = some (.cells #[.slice none 0 0, .slice none 0 0, .slice none 0 0, .slice none 0 0, .slice none 0 0, .slice none 0 0, .slice none 0 0, .int .u64 0, .int .i64 0, .int .i64 0, .int .i64 0, .int .i64 0, .int .i64 0] 31 (0, 0)) := by rw [← hwe]; exact World.alloc_heap_new wc _
  have hGe : Below wc.heap.size wc we := by rw [← hwe]; exact (Below.refl _ _).alloc (Nat.le_refl _) _
  obtain ⟨wf, hwf⟩ : ∃ W, CopP.set13w we wc.heap.size (.slice B0 p0 r0) (.slice B1 p1 r1) (.slice B2 p2 r2) (.slice B3 p3 r3) (.slice (some ⟨fb, 0, none⟩) p4 r4) (.slice B5 p5 r5) (.slice B6 p6 r6) (.int .u64 g.seed) (.int .i64 g.sc) (.int .i64 g.tu) (.int .i64 g.ov) (.int .i64 g.it) (.int .i64 g.go) = W := ⟨_, rfl⟩
  have HX0 := Lib.hid (show wf.heap[wc.heap.size]? = some (.cells #[.slice B0 p0 r0, .slice B1 p1 r1, .slice B2 p2 r2, .slice B3 p3 r3, .slice (some ⟨fb, 0, none⟩) p4 r4, .slice B5 p5 r5, .slice B6 p6 r6, .int .u64 g.seed, .int .i64 g.sc, .int .i64 g.tu, .int .i64 g.ov, .int .i64 g.it, .int .i64 g.go] 31 (0, 0)) by rw [← hwf]; exact set13 HZ)
  have hbf : Below wc.heap.size wc wf := by rw [← hwf]; exact CopP.set13_below hGe (Nat.le_refl _) (Nat.zero_le _)
  have HPf := Lib.hid (show Lp g wb.heap.size wc.heap.size (.agg #[.slice B0 p0 r0, .slice B1 p1 r1, .slice B2 p2 r2, .slice B3 p3 r3, .slice (some ⟨fb, 0, none⟩) p4 r4, .slice B5 p5 r5, .slice B6 p6 r6, .int .u64 g.seed, .int .i64 g.sc, .int .i64 g.tu, .int .i64 g.ov, .int .i64 g.it, .int .i64 g.go]) #[.slice B0 p0 r0, .slice B1 p1 r1, .slice B2 p2 r2, .slice B3 p3 r3, .slice (some ⟨fb, 0, none⟩) p4 r4, .slice B5 p5 r5, .slice B6 p6 r6, .int .u64 g.seed, .int .i64 g.sc, .int .i64 g.tu, .int .i64 g.ov, .int .i64 g.it, .int .i64 g.go] wb 1 wf from ⟨by rw [opens_one _ (Nat.le_refl _)]; exact Ow.below HOw.out hbf, HX0.out, hb.trans (hbf.mono hb.size)⟩)
  have HRf := Lib.hid (HRc.out.below hbf)
  have HSW := Lib.hid hbf
  obtain ⟨y0, y1, y2, y3, y4, y5, y6, y7, y8, y9, y10, y11, y12, yf⟩ := cells13 HZ
  clear hSc hb hOw hGe HZ hbf hnf hfb1 hfb2
  go_wp2_with fail
  unfold CopP.set13w at hwf
  rw [hwf]
  clear hwf y0 y1 y2 y3 y4 y5 y6 y7 y8 y9 y10 y11 y12 yf hwe
  go_loopw [6] (fun iv wr => ∃ k : Nat, 1 ≤ k ∧ k ≤ p4 ∧ iv = .int .i64 (k : Int) ∧ Lp g wb.heap.size wc.heap.size (.agg #[.slice B0 p0 r0, .slice B1 p1 r1, .slice B2 p2 r2, .slice B3 p3 r3, .slice (some ⟨fb, 0, none⟩) p4 r4, .slice B5 p5 r5, .slice B6 p6 r6, .int .u64 g.seed, .int .i64 g.sc, .int .i64 g.tu, .int .i64 g.ov, .int .i64 g.it, .int .i64 g.go]) #[.slice B0 p0 r0, .slice B1 p1 r1, .slice B2 p2 r2, .slice B3 p3 r3, .slice (some ⟨fb, 0, none⟩) p4 r4, .slice B5 p5 r5, .slice B6 p6 r6, .int .u64 g.seed, .int .i64 g.sc, .int .i64 g.tu, .int .i64 g.ov, .int .i64 g.it, .int .i64 g.go] wb k wr) (fun iv _ => p4 - (intOf iv).toNat)
  case atStart => exact ⟨1, Nat.le_refl _, hfl, rfl, HPf.out⟩
  case round =>
    obtain ⟨k, hk1, hk2, rfl, hlp⟩ := hrel
    have HLP := Lib.hid hlp
    obtain ⟨y0, y1, y2, y3, y4, y5, y6, y7, y8, y9, y10, y11, y12, yf⟩ := cells13 hlp.2.1
    clear hlp
    by_cases hlt : k < p4
    · have HLT := Lib.hid (show k < g.fl.length by rw [HNF.out]; exact hlt)
      obtain ⟨cf, ff⟩ := HLP.out.cell HA4.out hk1 HLT.out
      obtain ⟨mk, hmk⟩ : ∃ x, g.fl[k]'HLT.out = x := ⟨_, rfl⟩
      have hmb := HS.out.fl.2 _ (List.getElem_mem HLT.out)
      rw [hmk] at cf hmb
      have HST := Lib.hid (show Lp g wb.heap.size wc.heap.size (.agg #[.slice B0 p0 r0, .slice B1 p1 r1, .slice B2 p2 r2, .slice B3 p3 r3, .slice (some ⟨fb, 0, none⟩) p4 r4, .slice B5 p5 r5, .slice B6 p6 r6, .int .u64 g.seed, .int .i64 g.sc, .int .i64 g.tu, .int .i64 g.ov, .int .i64 g.it, .int .i64 g.go]) #[.slice B0 p0 r0, .slice B1 p1 r1, .slice B2 p2 r2, .slice B3 p3 r3, .slice (some ⟨fb, 0, none⟩) p4 r4, .slice B5 p5 r5, .slice B6 p6 r6, .int .u64 g.seed, .int .i64 g.sc, .int .i64 g.tu, .int .i64 g.ov, .int .i64 g.it, .int .i64 g.go] wb (k + 1) (wr.setCell ⟨fb, k, none⟩ (.int .i64 (opn mk))) by rw [← hmk]; exact HLP.out.step HA4.out hk1 HLT.out HFB.out.1 HFB.out.2)
      have q0 : (0 : Int) ≤ (k : Int) := Int.natCast_nonneg _
      have q1 : (k : Int) < (p4 : Int) := by omega
      have q2 := and8 hmb
      have q3 := or2 hmb
      clear hmk hmb
      go_upto_region 9 with fail
      clear y0 y1 y2 y3 y5 y6 y7 y8 y9 y10 y11 y12
      go_region
      go_wp2_with fail
      go_roundw
      case rel => exact ⟨k + 1, by omega, by omega, by go_num, HST.out.drew⟩
      case measure => simp [intOf]; omega
    · obtain rfl : p4 = k := by omega
      have HS2 := Lib.hid (sane_open HS.out)
      have HFO := Lib.hid (show flG g (opens g.fl p4) = openG g by unfold openG flG; rw [HNF.out])
      obtain ⟨V2, hV2⟩ : ∃ V2, (.agg #[.slice B0 p0 r0, .slice B1 p1 r1, .slice B2 p2 r2, .slice B3 p3 r3, .slice (some ⟨fb, 0, none⟩) p4 r4, .slice B5 p5 r5, .slice B6 p6 r6, .int .u64 g.seed, .int .i64 g.sc, .int .i64 g.tu, .int .i64 g.ov, .int .i64 g.it, .int .i64 g.go] : Value) = V2 := ⟨_, rfl⟩
      have HW2 := Lib.hid (show Wo wr V2 (openG g) by rw [← hV2, ← HFO.out]; exact Ow.wo HLP.out.1 HOv.out (opens_len _ _))
      have HC0 := fun (U : World) (h : Wo U V2 (openG g)) => visible_v t (openG g) HS2.out.good HS2.out.fl HS2.out.hi U h
      rw [hT] at HC0
      have HC2_visible := Lib.hid HC0
      clear HC0
      have HC0 := fun (U : World) (h : Wo U V2 (openG g)) => lit_v t (openG g) HS2.out.good HS2.out.fl HS2.out.hi U h
      rw [hT] at HC0
      have HC2_lit := Lib.hid HC0
      clear HC0
      have HKr := Lib.hid (HKb.out.trans (HLP.out.2.2.mono HKb.out.size))
      have hSc : S wr := HSB.out _ HKr.out
      go_upto_region 10 with fail
      clear y0 y1 y2 y3 y4 y5 y6 y7 y8 y9 y10 y11 y12 yf
      go_wp2_with (first | (refine ViewV.load_sub ?_ 28 _ rfl w.heap.size 0 ?_ #[.int .i64 t.ti, .int .i64 t.au, .int .i64 t.rl, .int .i64 t.mx, .slice t.tx.a t.tx.n t.tx.c, .int .i64 t.fl, .slice t.pr.a t.pr.n t.pr.c, .slice t.gl.a t.gl.n t.gl.c, .slice t.th.a t.th.n t.th.c, .slice t.ac.a t.ac.n t.ac.c, .slice t.de.a t.de.n t.de.c, .slice t.fu.a t.fu.n t.fu.c, .slice t.da.a t.da.n t.da.c, .slice t.pm.a t.pm.n t.pm.c, .slice t.lo.a t.lo.n t.lo.c] _ (HTC.out _ hSc) Try.underlying28 ?_ ?_ ?_; rfl; rfl; rfl; exact i15; rw [hT]) | (refine wpList_load_row rfl 31 _ rfl wc.heap.size ?_ 31 #[.slice B0 p0 r0, .slice B1 p1 r1, .slice B2 p2 r2, .slice B3 p3 r3, .slice (some ⟨fb, 0, none⟩) p4 r4, .slice B5 p5 r5, .slice B6 p6 r6, .int .u64 g.seed, .int .i64 g.sc, .int .i64 g.tu, .int .i64 g.ov, .int .i64 g.it, .int .i64 g.go] (0, 0) _ HLP.out.2.1 Try.underlying31 ?_ ?_ ?_; rfl; rfl; exact i13; rw [hV2]))
      refine (HC2_visible.out wr HW2.out).mono ?_
      rintro e w1 ⟨u2, rfl, ho, hb⟩
      obtain ⟨M, hM⟩ : ∃ M, visible (openG g) = M := ⟨_, rfl⟩
      obtain ⟨q, hq⟩ : ∃ q, M.length = q := ⟨_, rfl⟩
      have hq128 : q ≤ 128 := by rw [← hq, ← hM]; exact visible_len HS2.out
      have HM2 := Lib.hid (show visible (openG g) = M ∧ M.length = q from ⟨hM, hq⟩)
      rw [HM2.out.1] at ho
      obtain ⟨A2r, c2r, rfl, hd1, hd2⟩ := ho.shape
      rw [HM2.out.2] at ho hd1
      rw [HM2.out.2]
      have HR2 := Lib.hid ho.rd
      have HK1 := Lib.hid (HKr.out.trans (hb.mono HKr.out.size))
      have HR1 := Lib.hid ((HRb.out.below HLP.out.2.2).below hb)
      have HX1 := Lib.hid ((hb.block _ (Array.getElem?_eq_some_iff.1 HLP.out.2.1).1).trans HLP.out.2.1)
      have HW3 := Lib.hid (SamW.wo_below HW2.out hb)
      have HSZ1 := Lib.hid (Nat.lt_of_lt_of_le (Array.getElem?_eq_some_iff.1 HLP.out.2.1).1 hb.size)
      clear hM hq ho hb hd2 hSc
      go_upto_region 12 with fail
      rename_i K3 a3 K2 a2
      refine Code.wp_mono (fun e a w h => ?_) (tail w t g hT hV2 HB HS HS2 hm128 hq128 HL HM HM2 HSB HTC HC2_lit HK1 HR1 HR2 HX1 HW3 HSZ1 K3 a3 _ _ _ _ _ _ _ _ _ _ _ _ _ _ _ _ _ _ _ _ _ _ _ _ _ _ _ _ _ _ _ _ _ _ _ _ _ _ _ _ _ _ _ _ _ _ _ _ _ _ _ _ _ _ _ _ _ _ _ _ _ _ _ _ _ _ _ _ _ _ _ _ _ _ _ _ _ _ _ _ _ _ _ _ _ _ _ _ _ _ _ _ _ _)
      cases e <;> first | exact h | exact a2 _ _ h

theorem own : ownKnob Try.prog.godebug = none := by kernel_rfl

set_option maxRecDepth 100000 in
set_option maxHeartbeats 2000000 in
theorem lifted (os : Os) (started : os.Started) (H : Type) (enc : TypeId × Value → H) :
    ReturnsInHanded {} Try.checked os 19 .any (Rows.viewOpensSpec.pre6 enc Try.prog Try.f19 Rows.viewOpensRow.domain false) (Rows.viewOpensSpec.post enc Try.prog Try.f19 false true false false) := by
  refine returnsInHanded_of_change_sized (C := Try.checked) own started (by kernel_rfl) Try.func19
    (ChangeSpec.witness6 (enc := enc) (C := Try.checked) false ⟨#[], #[.agg #[.int .i64 0, .int .i64 0, .int .i64 0, .int .i64 0, .slice none 0 0, .int .i64 0, .slice none 0 0, .slice none 0 0, .slice none 0 0, .slice none 0 0, .slice none 0 0, .slice none 0 0, .slice none 0 0, .slice none 0 0, .slice none 0 0, .slice none 0 0, .slice none 0 0, .slice none 0 0, .slice none 0 0, .slice none 0 0, .slice none 0 0, .slice none 0 0, .int .u64 0, .int .i64 0, .int .i64 0, .int .i64 0, .int .i64 0, .int .i64 0]], []⟩ 8 (by kernel_rfl) (by kernel_rfl) (by kernel_rfl) (by kernel_rfl)) ?_
  intro W base args ds gs before hval0 hW hcnd hsz0 _
  have hval : ∀ (j : Nat) t v, Try.f19.params[j]? = some t → args[j]? = some v → Value.okWide Try.prog W .any base t v := hval0
  have hW' := hW
  obtain ⟨p, q, hA0, hV, rfl, hfz, hnd⟩ := hW
  have hA : DataW.TrodAll enc Try.prog W 0 (fun _ => true) true Try.f19.params.toList args.toList ds p := hA0
  rw [Try.params19] at hA hval
  obtain ⟨v0, vs0, d0, ds0, p0, q0, hargs, rfl, rfl, h0, r0⟩ := trodAll_cons hA
  obtain ⟨rfl, rfl, rfl⟩ := trodAll_nil r0
  obtain rfl : args = #[v0] := by cases args; simp_all
  clear hV
  have hsz : (DataW.weightsEach Try.prog (69 :: _) (d0 :: _)).all (· ≤ reachBytes) = true := hsz0
  have f0 : WorldD.Fitting d0 69 := by have z := hsz; simp only [DataW.weightsEach, List.all_append, Bool.and_eq_true] at z; exact z.1
  obtain ⟨t0, cs0, g0, rfl, rt0, _, o0⟩ := open_scene (hval 0 69 v0 rfl rfl) h0 f0
  clear hA0 hval0
  refine (walk W t0 rt0 cs0 g0 o0).mono fun e W' ⟨he, hg⟩ => ?_
  subst he
  exact ⟨_, rfl, Law.post (by kernel_rfl) (by kernel_rfl) Try.underlying4 rfl rfl hW' hg ⟨rfl, rfl, rfl⟩⟩

theorem over : Rows.viewOpensRow.holds Try.pinned (OpenSpec.ofChange Rows.viewOpensSpec) :=
  OpenClaim.holds_of_wide 19 Try.f19 rfl rfl rfl rfl rfl rfl rfl ⟨rfl, rfl, rfl, rfl, rfl⟩ rfl rfl rfl rfl rfl (by kernel_rfl) Try.func19 (by kernel_rfl)
    (of_decide_eq_true (by kernel_rfl)) (by unfold Func.isWrapper; first | (rw [if_pos (by decide +kernel)]; kernel_rfl) | (rw [if_neg (by decide +kernel)]; exact ⟨rfl, rfl⟩))
    (fun os started H enc _ => lifted os started H enc)

/-- The statement. -/
theorem proved : Rows.ViewOpensSaid := over
#print axioms proved
end Go.Proofs.Ytncdicagadbafaa.viewOpens
