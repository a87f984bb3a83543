/- clewref17.Texts: the texts of a source, each once. Conditions: the source is of bulk at most 1048576. -/
import Derived.Test.YteibcfpepdbflaaTxA
import Derived.Test.YteibcfpepdbflaaTxS
namespace Go.Proofs.Yteibcfpepdbflaa.TxB
open Go Go.RowKit BindP BindD BindO BindW BindS BindG BindX BindB BindT BindI BindJ BindU TxW TxA TxS
open Byt (str)

set_option maxRecDepth 100000 in
theorem with_g (s : S) (l : List S) (v : Value) (w : World) (B : Nat) (ho : Sq.Own sv 9 w B v l) (hB : B ≤ w.heap.size) (hn : l.length ≤ 4194304) :
    Calls Try.prog 33 #[v, .string (str s)] w fun e w' => ∃ v', e = .returned v' ∧ Sq.Own sv 9 w' B v' (wth l s) ∧ Below B w w' ∧ ∀ b, b < w.heap.size → v.ownBlock ≠ some b → w'.heap[b]? = w.heap[b]? := by
  obtain ⟨A, c, rfl, _, _⟩ := ho.shape
  obtain ⟨n, hn2⟩ : ∃ n, l.length = n := ⟨_, rfl⟩
  rw [hn2] at ho hn ⊢
  have HO := Lib.hid ho
  have HR := Lib.hid ho.rd
  have HN := Lib.hid hn2
  have HB := Lib.hid hB
  clear ho hn2 hB
  go_enter Try.func33, Try.ntmps33
  go_wp2_with fail
  go_loop [5] (fun i => ∃ j : Nat, j ≤ n ∧ i = .int .i64 (j : Int) ∧ Hid (∀ k x, k < j → l[k]? = some x → x ≠ s)) (fun i => n - (intOf i).toNat)
  case atStart => exact ⟨0, Nat.zero_le _, rfl, Lib.hid fun k x hk => by omega⟩
  case round =>
    obtain ⟨j, hj, rfl, HT⟩ := hrel
    by_cases hlt : j < n
    · obtain ⟨b, o, rfl, hb, hl, hc⟩ := HR.out.at_ hlt
      obtain ⟨y, hy⟩ : ∃ y, l[j] = y := ⟨_, rfl⟩
      rw [hy] at hc
      unfold sv at hc
      have HLY := Lib.hid (show l[j]? = some y by rw [List.getElem?_eq_getElem hl, hy])
      have k0 : (0 : Int) ≤ (j : Int) := by omega
      have k1 : (j : Int) < (n : Int) := by omega
      clear hy hl
      by_cases hys : y = s
      · subst hys
        have HW := Lib.hid (show wth l y = l by unfold wth; rw [if_pos (List.mem_of_getElem? HLY.out)])
        have q := eq_q (rfl : y = y)
        go_wp2_with fail
        go_ret
        exact ⟨_, rfl, by rw [HW.out]; exact HO.out, Below.refl _ _, fun _ _ _ => rfl⟩
      · have q := ne_q hys
        have HT2 := Lib.hid (show ∀ k x, k < j + 1 → l[k]? = some x → x ≠ s from fun k x hk hx => by
          rcases Nat.lt_or_eq_of_le (Nat.le_of_lt_succ hk) with e | e
          · exact HT.out k x e hx
          · subst e
            rw [HLY.out] at hx
            injection hx with hx
            rw [← hx]; exact hys)
        go_wp2_with fail
        go_round
        case rel => exact ⟨j + 1, by omega, by go_num, HT2⟩
        case measure => simp [intOf]; omega
    · obtain rfl : n = j := by omega
      have HW := Lib.hid (show wth l s = l ++ [s] by
        unfold wth
        rw [if_neg]
        intro hm
        obtain ⟨k, hk, e⟩ := List.getElem_of_mem hm
        exact HT.out k s (by rw [← HN.out]; exact hk) (by rw [List.getElem?_eq_getElem hk, e]) rfl)
      go_wp2_with (at_builtin; refine Sq.wpList_append elS rfl _ _ rfl rfl (HO.out.alloc (.cells #[.string (str s)] 9)) (some ⟨w.heap.size, 0, none⟩) 1 1 [s] rfl (Sq.rd_lit (enc := sv) w 9 [s] _ rfl 1 rfl) (by have := HN.out; unfold maxLen; omega) (by have := HN.out; omega) (by have := HB.out; simp; omega) ?_; intro v3 w3 ho3 hb3 hg3 _; have HG3 := Lib.hid hg3; have HO3 := Lib.hid ho3; have HB3 := Lib.hid (((Below.refl B w).alloc HB.out _).trans hb3); clear ho3 hb3 hg3)
      go_ret
      exact ⟨_, rfl, by rw [HW.out]; exact HO3.out, HB3.out, fun b hb hv => (HG3.out.block b (by simp; omega) (Ne.symm hv)).trans (Below.heap_alloc w _ b hb)⟩
structure Rx (V : World) (l : List S) (v : Value) (w : World) : Prop where
  own : Sq.Own sv 9 w V.heap.size v (l.foldl wth [])
  low : Below V.heap.size V w
  len : l.length ≤ 4194304
theorem Rx.grown {V : World} {l : List S} {v : Value} {w w' : World} (h : Rx V l v w) (hb : Below w.heap.size w w') : Rx V l v w' := ⟨h.own.below hb, h.low.trans (hb.mono h.low.size), h.len⟩
def RxV (V : World) (l : List S) (w : World) (e : Ending) (w' : World) : Prop := ∃ v', e = .returned v' ∧ Rx V l v' w' ∧ ∀ (b : Nat) (cs : Array Value) (t : TypeId), w.heap[b]? = some (.cells cs t (0, 0)) → t ≠ 9 → w'.heap[b]? = some (.cells cs t (0, 0))
theorem with_s {V : World} {l : List S} {v : Value} {w : World} (s : S) (h : Rx V l v w) (hl : (l ++ [s]).length ≤ 4194304) : Calls Try.prog 33 #[v, .string (str s)] w (RxV V (l ++ [s]) w) := by
  have h1 := wths_len l []
  have h2 := h.len
  refine (with_g s _ v w V.heap.size h.own h.low.size (by simp at h1; omega)).mono ?_
  rintro e w' ⟨v', rfl, ho, hb, hk⟩
  refine ⟨v', rfl, ⟨by rw [List.foldl_append]; exact ho, h.low.trans hb, hl⟩, fun b cs t hc ht => ?_⟩
  exact (hk b (Array.getElem?_eq_some_iff.1 hc).1 (own_ne h.own hc (fun cs' c => by injection c with _ c _; exact ht c))).trans hc
theorem said_s {V : World} {l : List S} {v : Value} {w : World} (sl : List St) (A : Option Addr) (c : Nat) (hsl : Ls top V A c sl) (hn : nB (stPs sl) ≤ 1048576) (h : Rx V l v w) (hl : l.length + nB (stPs sl) ≤ 4194304) :
    Calls Try.prog 34 #[v, .slice A sl.length c] w fun e w' => ∃ v', e = .returned v' ∧ Rx V (l ++ said (stPs sl)) v' w' := by
  have h1 := wths_len l []
  have h2 := said_le.2 (stPs sl)
  refine (said_r V _ sl (Nat.le_refl _) hn A c v w _ h.own h.low hsl (by simp at h1; omega)).mono ?_
  rintro e w' ⟨v', rfl, ho, hb⟩
  exact ⟨v', rfl, by rw [List.foldl_append]; exact ho, h.low.trans hb, by rw [List.length_append]; omega⟩

set_option maxRecDepth 100000 in
set_option maxHeartbeats 16000000 in
theorem texts_r (t : So) (w : World) (hr : So.R top w t) (hm : So.m t ≤ 1048576) :
    Calls Try.prog 10 #[.agg (So.e t).toArray] w fun e w' => ∃ A c, e = .returned (.slice A ((adds t).foldl wth []).length c) ∧ Sq.Rd sv w' A ((adds t).foldl wth []).length ((adds t).foldl wth []) ∧ Below w.heap.size w w' := by
  obtain ⟨ti, by_, st, re, mx, ⟨fA, fc, fl⟩, ⟨pA, pc, pr⟩, ⟨gA, gc, gl⟩, ⟨oA, oc, ob⟩, ⟨vA, vc, vb⟩, ⟨rA, rc, ru⟩, ⟨nA, nc, fn⟩, ⟨dA, dc, dm⟩⟩ := t
  simp only [So.m] at hm
  have HAD := Lib.hid (show adds ⟨ti, by_, st, re, mx, ⟨fA, fc, fl⟩, ⟨pA, pc, pr⟩, ⟨gA, gc, gl⟩, ⟨oA, oc, ob⟩, ⟨vA, vc, vb⟩, ⟨rA, rc, ru⟩, ⟨nA, nc, fn⟩, ⟨dA, dc, dm⟩⟩ = [ti, by_, you] ++ ob.flatMap obT ++ ruT ru ++ fnT fn ++ fnT dm from rfl)
  have lo := sum_len (m := Ob.m) (fun x => by unfold Ob.m; omega) ob
  have lr := sum_len (m := Rl.m) (fun x => by unfold Rl.m; omega) ru
  have ln := sum_len (m := BindO.Fn.m) (fun x => by unfold BindO.Fn.m; omega) fn
  have ld := sum_len (m := BindO.Fn.m) (fun x => by unfold BindO.Fn.m; omega) dm
  have zO : ob.length ≤ 1048576 := by omega
  have zR : ru.length ≤ 1048576 := by omega
  have zN : fn.length ≤ 1048576 := by omega
  have zD : dm.length ≤ 1048576 := by omega
  have hao := flat_len obT_len ob
  have har := ruT_len ru
  have han := fnT_len fn
  have had := fnT_len dm
  have HLA := Lib.hid (show (ob.flatMap obT).length + (ruT ru).length + (fnT fn).length + (fnT dm).length ≤ 1048576 by omega)
  have HSO := Lib.hid (show (ob.map Ob.m).sum ≤ 1048576 ∧ (ru.map Rl.m).sum ≤ 1048576 ∧ (fn.map BindO.Fn.m).sum ≤ 1048576 ∧ (dm.map BindO.Fn.m).sum ≤ 1048576 by omega)
  clear hm lo lr ln ld hao har han had
  show Calls Try.prog 10 #[.agg #[.string (str ti), .string (str by_), .string (str st), .int .i64 re, .int .i64 mx, .slice fA fl.length fc, .slice pA pr.length pc, .slice gA gl.length gc, .slice oA ob.length oc, .slice vA vb.length vc, .slice rA ru.length rc, .slice nA fn.length nc, .slice dA dm.length dc]] w _
  go_enter Try.func10, Try.ntmps10
  obtain ⟨V, hV⟩ : ∃ W, w.alloc (.cells #[.string (str ti), .string (str by_), .string (str st), .int .i64 re, .int .i64 mx, .slice fA fl.length fc, .slice pA pr.length pc, .slice gA gl.length gc, .slice oA ob.length oc, .slice vA vb.length vc, .slice rA ru.length rc, .slice nA fn.length nc, .slice dA dm.length dc] 29) = W := ⟨_, rfl⟩
  obtain ⟨mv, sv_, bv⟩ := made hV
  obtain ⟨Bs, hBs⟩ : ∃ q, w.heap.size = q := ⟨_, rfl⟩
  have HR := Lib.hid (So.stays _ _ _ _ _ (Keep.below bv) hr)
  have HBV := Lib.hid bv
  rw [hBs] at mv
  have HBX := Lib.hid (show ∀ U, Below V.heap.size V U → U.heap[Bs]? = some (.cells #[.string (str ti), .string (str by_), .string (str st), .int .i64 re, .int .i64 mx, .slice fA fl.length fc, .slice pA pr.length pc, .slice gA gl.length gc, .slice oA ob.length oc, .slice vA vb.length vc, .slice rA ru.length rc, .slice nA fn.length nc, .slice dA dm.length dc] 29 (0, 0)) from fun U hU => (hU.block _ (Array.getElem?_eq_some_iff.1 mv).1).trans mv)
  obtain ⟨x0, x1, x2, x3, x4, x5, x6, x7, x8, x9, x10, x11, x12, xf⟩ := cellz13 mv
  clear mv sv_ bv hr
  go_upto_region 1 with fail
  obtain ⟨Sx, hSx⟩ : ∃ Sx : World → Prop, (fun U : World => U.heap[Bs]? = some (.cells #[.string (str ti), .string (str by_), .string (str st), .int .i64 re, .int .i64 mx, .slice fA fl.length fc, .slice pA pr.length pc, .slice gA gl.length gc, .slice oA ob.length oc, .slice vA vb.length vc, .slice rA ru.length rc, .slice nA fn.length nc, .slice dA dm.length dc] 29 (0, 0))) = Sx := ⟨_, rfl⟩
  have HSB := Lib.hid (show ∀ U, Below V.heap.size V U → Sx U from fun U hU => by rw [← hSx]; exact HBX.out U hU)
  have HSy := Lib.hid (show ∀ U, Sx U → U.heap[Bs]? = some (.cells #[.string (str ti), .string (str by_), .string (str st), .int .i64 re, .int .i64 mx, .slice fA fl.length fc, .slice pA pr.length pc, .slice gA gl.length gc, .slice oA ob.length oc, .slice vA vb.length vc, .slice rA ru.length rc, .slice nA fn.length nc, .slice dA dm.length dc] 29 (0, 0)) from fun U h => by rw [← hSx] at h; exact h)
  have HR0 := Lib.hid (show Rx V [] (.slice none 0 0) V.drew from ⟨Sq.own_nil _ _, Below.drew (Below.refl _ _), by simp⟩)
  have hS0 : Sx V.drew := HSB.out _ HR0.out.low
  clear hSx x0 x1 x2 x3 x4 x5 x6 x7 x8 x9 x10 x11 x12 xf
  refine RgD.begin_ [] Sx (by kernel_rfl) hS0 (fun hHeld => ?_)
  refine RgD.take (i := 0) (t := 10) rfl rfl (by kernel_rfl) (by kernel_rfl) (by kernel_rfl) (by kernel_rfl) (fun _ _ _ h => h) (by rfl) (by intro w0 hSw; first | (go_simp; done) | (go_simp; with_reducible rfl) | (go_simp; intro hc; exfalso; omega)) (by assumption) ?_
  simp only [List.setIfInBounds_toArray, List.set_cons_zero, List.set_cons_succ]
  refine RgD.take (i := 1) (t := 11) (v := .string (str ti)) rfl rfl (by kernel_rfl) (by kernel_rfl) (by kernel_rfl) (by kernel_rfl) (fun _ _ _ h => h) (by rfl) (by intro w0 hSw; obtain ⟨z0, z1, z2, z3, z4, z5, z6, z7, z8, z9, z10, z11, z12, zf⟩ := cellz13 (HSy.out _ hSw); first | (go_simp; done) | (go_simp; with_reducible rfl) | (go_simp; intro hc; exfalso; omega)) (by assumption) ?_
  simp only [List.setIfInBounds_toArray, List.set_cons_zero, List.set_cons_succ]
  refine RgD.take (i := 3) (t := 13) rfl rfl (by kernel_rfl) (by kernel_rfl) (by kernel_rfl) (by kernel_rfl) (fun _ _ _ h => h) (by rfl) (by intro w0 hSw; first | (go_simp; done) | (go_simp; with_reducible rfl) | (go_simp; intro hc; exfalso; omega)) (by assumption) ?_
  simp only [List.setIfInBounds_toArray, List.set_cons_zero, List.set_cons_succ]
  refine RgD.take (i := 4) (t := 14) (v := .string (str by_)) rfl rfl (by kernel_rfl) (by kernel_rfl) (by kernel_rfl) (by kernel_rfl) (fun _ _ _ h => h) (by rfl) (by intro w0 hSw; obtain ⟨z0, z1, z2, z3, z4, z5, z6, z7, z8, z9, z10, z11, z12, zf⟩ := cellz13 (HSy.out _ hSw); first | (go_simp; done) | (go_simp; with_reducible rfl) | (go_simp; intro hc; exfalso; omega)) (by assumption) ?_
  simp only [List.setIfInBounds_toArray, List.set_cons_zero, List.set_cons_succ]
  refine RgD.one (i := 2) (by kernel_rfl) ?_
  refine RgD.call (i := 2) (t := 12) rfl rfl (by rfl) (by go_simp; exact ⟨rfl, rfl⟩) ?_
  refine (with_s ti HR0.out (by simp)).mono ?_
  rintro r W1 ⟨v1, rfl, hs, _⟩
  have HR1 := Lib.hid hs
  have gS1 := HSB.out _ hs.low
  clear hs
  refine ⟨_, rfl, gS1, ?_⟩
  simp only [List.setIfInBounds_toArray, List.set_cons_zero, List.set_cons_succ]
  refine RgD.one (i := 5) (by kernel_rfl) ?_
  refine RgD.call (i := 5) (t := 15) rfl rfl (by rfl) (by go_simp; exact ⟨rfl, rfl⟩) ?_
  refine (with_s by_ HR1.out (by simp)).mono ?_
  rintro r W2 ⟨v2, rfl, hs, _⟩
  have HR2 := Lib.hid hs
  have gS2 := HSB.out _ hs.low
  clear hs
  refine ⟨_, rfl, gS2, ?_⟩
  simp only [List.setIfInBounds_toArray, List.set_cons_zero, List.set_cons_succ]
  refine RgD.one (i := 6) (by kernel_rfl) ?_
  refine RgD.call (i := 6) (t := 16) rfl rfl (by rfl) (by go_simp; exact ⟨rfl, rfl⟩) ?_
  refine (with_s you HR2.out (by simp)).mono ?_
  rintro r W3 ⟨v3, rfl, hs, _⟩
  have HR3 := Lib.hid hs
  have gS3 := HSB.out _ hs.low
  clear hs
  refine ⟨_, rfl, gS3, ?_⟩
  simp only [List.setIfInBounds_toArray, List.set_cons_zero, List.set_cons_succ]
  refine RgD.take (i := 7) (t := 3) rfl rfl (by kernel_rfl) (by kernel_rfl) (by kernel_rfl) (by kernel_rfl) (fun _ _ _ h => h) (by rfl) (by intro w0 hSw; first | (go_simp; done) | (go_simp; with_reducible rfl) | (go_simp; intro hc; exfalso; omega)) (by assumption) ?_
  simp only [List.setIfInBounds_toArray, List.set_cons_zero, List.set_cons_succ]
  refine RgD.done (by kernel_rfl) ?_ _
  clear gS1 gS2 gS3 hS0
  go_wp2_with fail
  go_loopw [3, 4] (fun v iv wr => ∃ j : Nat, j ≤ ob.length ∧ iv = .int .i64 (j : Int) ∧ Rx V ([ti, by_, you] ++ (ob.take j).flatMap obT) v wr) (fun _ iv _ => ob.length - (intOf iv).toNat)
  case atStart => exact ⟨0, Nat.zero_le _, rfl, by simpa using HR3.out⟩
  case round =>
    obtain ⟨j, hj, rfl, hs⟩ := hrel
    obtain ⟨v4, rfl⟩ : ∃ q, q = u3 := ⟨_, rfl⟩
    have HR4 := Lib.hid hs
    clear hs HR0 HR1 HR2 HR3
    obtain ⟨x0, x1, x2, x3, x4, x5, x6, x7, x8, x9, x10, x11, x12, xf⟩ := cellz13 (HBX.out _ HR4.out.low)
    by_cases hlt : j < ob.length
    · obtain ⟨b1, o1, rfl, hb1, hc⟩ := Lg.at_ Ob.len (Lg.keep Ob.stays (Keep.below HR4.out.low) HR.out.2.2.2.1) hlt
      obtain ⟨⟨onm, oti, oin, otx, orm, ⟨a1, c1_, l1⟩, ⟨a2, c2_, l2⟩, ⟨a3, c3_, l3⟩, ⟨a4, c4_, l4⟩, ⟨xA, xc, xl⟩⟩, hy⟩ : ∃ y, ob[j] = y := ⟨_, rfl⟩
      have HRD := Lib.hid (HR.out.2.2.2.1.2 _ (List.getElem_mem hlt))
      have HNX := Lib.hid (show (ob.take (j + 1)).flatMap obT = (ob.take j).flatMap obT ++ (oti :: (someT otx ++ xtT xl)) by rw [take_flat _ hlt, hy]; rfl)
      have hxl := sum_len (m := Xt.m) (fun x => by unfold Xt.m; omega) xl
      have hx2 := xtT_len xl
      have htk := take_sum Ob.m hlt
      have hlj := flat_len obT_len (ob.take j)
      rw [hy] at htk hc HRD
      have HZ := Lib.hid (show oti.length ≤ 1048576 ∧ otx.length ≤ 1048576 ∧ (xl.map Xt.m).sum ≤ 1048576 ∧ ((ob.take j).flatMap obT).length ≤ 1048576 by
        have h2 := HSO.out.1
        have h3 : oti.length ≤ Ob.m ⟨onm, oti, oin, otx, orm, ⟨a1, c1_, l1⟩, ⟨a2, c2_, l2⟩, ⟨a3, c3_, l3⟩, ⟨a4, c4_, l4⟩, ⟨xA, xc, xl⟩⟩ ∧ otx.length ≤ Ob.m ⟨onm, oti, oin, otx, orm, ⟨a1, c1_, l1⟩, ⟨a2, c2_, l2⟩, ⟨a3, c3_, l3⟩, ⟨a4, c4_, l4⟩, ⟨xA, xc, xl⟩⟩ ∧ (xl.map Xt.m).sum ≤ Ob.m ⟨onm, oti, oin, otx, orm, ⟨a1, c1_, l1⟩, ⟨a2, c2_, l2⟩, ⟨a3, c3_, l3⟩, ⟨a4, c4_, l4⟩, ⟨xA, xc, xl⟩⟩ := by unfold Ob.m; simp only []; omega
        refine ⟨?_, ?_, ?_, ?_⟩ <;> omega)
      have zx : xl.length ≤ 1048576 := by have := HZ.out.2.2.1; omega
      clear hxl hx2
      have c0 : wr.cell? ⟨b1, o1 + j * 10, none⟩ = some (.string (str onm)) := hc 0 _ rfl
      have c1 : wr.cell? ⟨b1, o1 + j * 10 + 1, none⟩ = some (.string (str oti)) := hc 1 _ rfl
      have c2 : wr.cell? ⟨b1, o1 + j * 10 + 2, none⟩ = some (.string (str oin)) := hc 2 _ rfl
      have c3 : wr.cell? ⟨b1, o1 + j * 10 + 3, none⟩ = some (.string (str otx)) := hc 3 _ rfl
      have c4 : wr.cell? ⟨b1, o1 + j * 10 + 4, none⟩ = some (.bool orm) := hc 4 _ rfl
      have c5 : wr.cell? ⟨b1, o1 + j * 10 + 5, none⟩ = some (.slice a1 l1.length c1_) := hc 5 _ rfl
      have c6 : wr.cell? ⟨b1, o1 + j * 10 + 6, none⟩ = some (.slice a2 l2.length c2_) := hc 6 _ rfl
      have c7 : wr.cell? ⟨b1, o1 + j * 10 + 7, none⟩ = some (.slice a3 l3.length c3_) := hc 7 _ rfl
      have c8 : wr.cell? ⟨b1, o1 + j * 10 + 8, none⟩ = some (.slice a4 l4.length c4_) := hc 8 _ rfl
      have c9 : wr.cell? ⟨b1, o1 + j * 10 + 9, none⟩ = some (.slice xA xl.length xc) := hc 9 _ rfl
      have k0 : (0 : Int) ≤ (j : Int) := by omega
      have k1 : (j : Int) < (ob.length : Int) := by omega
      obtain ⟨wa, hwa⟩ : ∃ W1, wr.alloc (.cells #[.string (str onm), .string (str oti), .string (str oin), .string (str otx), .bool orm, .slice a1 l1.length c1_, .slice a2 l2.length c2_, .slice a3 l3.length c3_, .slice a4 l4.length c4_, .slice xA xl.length xc] 64) = W1 := ⟨_, rfl⟩
      obtain ⟨m1, s1, b1'⟩ := made hwa
      obtain ⟨pb, hpb⟩ : ∃ q, wr.heap.size = q := ⟨_, rfl⟩
      rw [hpb] at m1
      have HRA := Lib.hid (HR4.out.grown b1')
      have HOB := Lib.hid m1
      obtain ⟨y0, y1, y2, y3, y4, y5, y6, y7, y8, y9, yf⟩ := cellz10 m1
      clear hc hy htk hlj b1' s1 m1
      go_wp2_with fail
      refine (with_s oti HRA.out (by have := HZ.out.2.2.2; simp only [List.length_append, List.length_cons, List.length_nil]; omega)).mono ?_
      rintro e Wb ⟨v5, rfl, hs, hk⟩
      have HRB := Lib.hid hs
      have HOB2 := Lib.hid (hk _ _ _ HOB.out (by decide))
      clear hs hk y0 y1 y2 y3 y4 y5 y6 y7 y8 y9 yf
      obtain ⟨y0, y1, y2, y3, y4, y5, y6, y7, y8, y9, yf⟩ := cellz10 HOB2.out
      by_cases he : otx = []
      · subst he
        have HEO := Lib.hid (show someT [] = [] from rfl)
        have q0 := emp_q (s := []) (b := true) rfl
        have q1 := toList_str []
        go_wp2_with fail
        go_loopw [3, 6] (fun v iv wr => ∃ i : Nat, i ≤ xl.length ∧ iv = .int .i64 (i : Int) ∧ Rx V ([ti, by_, you] ++ (ob.take j).flatMap obT ++ [oti] ++ someT ([] : S) ++ xtT (xl.take i)) v wr ∧ wr.heap[pb]? = some (.cells #[.string (str onm), .string (str oti), .string (str oin), .string (str []), .bool orm, .slice a1 l1.length c1_, .slice a2 l2.length c2_, .slice a3 l3.length c3_, .slice a4 l4.length c4_, .slice xA xl.length xc] 64 (0, 0))) (fun _ iv _ => xl.length - (intOf iv).toNat)
        case atStart => exact ⟨0, Nat.zero_le _, rfl, by simpa [xtT, HEO.out] using HRB.out, HOB2.out⟩
        case round =>
          clear y0 y1 y2 y3 y4 y5 y6 y7 y8 y9 yf
          obtain ⟨i, hi, rfl, hs, hob⟩ := hrel
          obtain ⟨v7, rfl⟩ : ∃ q, q = u3 := ⟨_, rfl⟩
          have HRE := Lib.hid hs
          have HOE := Lib.hid hob
          obtain ⟨y0, y1, y2, y3, y4, y5, y6, y7, y8, y9, yf⟩ := cellz10 hob
          clear hs hob
          by_cases hlt2 : i < xl.length
          · obtain ⟨b2, o2, rfl, hb2, hc⟩ := Lg.at_ Xt.len (Lg.keep Xt.stays (Keep.below HRE.out.low) HRD.out.2.2.2.2) hlt2
            obtain ⟨⟨xd, xto, xel, ⟨hA, hc_, hl⟩⟩, hy⟩ : ∃ y, xl[i] = y := ⟨_, rfl⟩
            have HNY := Lib.hid (show xtT (xl.take (i + 1)) = xtT (xl.take i) ++ someT xel by unfold xtT; rw [take_flat _ hlt2, hy])
            have htk := take_sum Xt.m hlt2
            have hlj := xtT_len (xl.take i)
            have hsl := someT_len ([] : S)
            rw [hy] at htk hc
            have HZ2 := Lib.hid (show (xtT (xl.take i)).length ≤ 1048576 by
              have h2 := HZ.out.2.2.1
              omega)
            have HSL := Lib.hid hsl
            have d0 : wr.cell? ⟨b2, o2 + i * 4, none⟩ = some (.int .i64 xd) := hc 0 _ rfl
            have d1 : wr.cell? ⟨b2, o2 + i * 4 + 1, none⟩ = some (.string (str xto)) := hc 1 _ rfl
            have d2 : wr.cell? ⟨b2, o2 + i * 4 + 2, none⟩ = some (.string (str xel)) := hc 2 _ rfl
            have d3 : wr.cell? ⟨b2, o2 + i * 4 + 3, none⟩ = some (.slice hA hl.length hc_) := hc 3 _ rfl
            have k2 : (0 : Int) ≤ (i : Int) := by omega
            have k3 : (i : Int) < (xl.length : Int) := by omega
            clear hc hy htk hlj hsl
            by_cases he2 : xel = []
            · subst he2
              have HEE := Lib.hid (show someT [] = [] from rfl)
              have q2 := emp_q (s := []) (b := true) rfl
              have q3 := toList_str []
              go_wp2_with fail
              go_roundw
              case rel => exact ⟨i + 1, by omega, by go_num, by rw [HNY.out]; simpa only [HEE.out, List.append_nil] using HRE.out, HOE.out⟩
              case measure => simp [intOf]; omega
            · have q2 := emp_q (s := xel) (b := false) (by simpa using he2)
              have HEE := Lib.hid (show someT xel = [xel] from if_neg he2)
              clear he2
              go_wp2_with fail
              refine (with_s xel HRE.out (by have := HZ.out.2.2.2; have := HZ2.out; have := HSL.out; simp only [List.length_append, List.length_cons, List.length_nil]; omega)).mono ?_
              rintro e We ⟨v8, rfl, hs, hk⟩
              have HRF := Lib.hid hs
              have HOF := Lib.hid (hk _ _ _ HOE.out (by decide))
              clear hs hk
              go_wp2_with fail
              go_roundw
              case rel => exact ⟨i + 1, by omega, by go_num, by rw [HNY.out, HEE.out, ← List.append_assoc]; exact HRF.out, HOF.out⟩
              case measure => simp [intOf]; omega
          · obtain rfl : i = xl.length := by omega
            have hs := HRE.out
            rw [List.take_length] at hs
            have HRG := Lib.hid hs
            clear hs
            go_wp2_with fail
            go_roundw
            case rel => exact ⟨j + 1, by omega, by go_num, by rw [HNX.out]; simpa only [List.append_assoc, List.cons_append, List.nil_append] using HRG.out⟩
            case measure => simp [intOf]; omega
      · have q0 := emp_q (s := otx) (b := false) (by simpa using he)
        have HEO := Lib.hid (show someT otx = [otx] from if_neg he)
        clear he
        go_wp2_with fail
        refine (with_s otx HRB.out (by have := HZ.out.2.2.2; simp only [List.length_append, List.length_cons, List.length_nil]; omega)).mono ?_
        rintro e Wc ⟨v6, rfl, hs, hk⟩
        have HRC := Lib.hid hs
        have HOB3 := Lib.hid (hk _ _ _ HOB2.out (by decide))
        clear hs hk y0 y1 y2 y3 y4 y5 y6 y7 y8 y9 yf
        obtain ⟨y0, y1, y2, y3, y4, y5, y6, y7, y8, y9, yf⟩ := cellz10 HOB3.out
        go_wp2_with fail
        go_loopw [3, 6] (fun v iv wr => ∃ i : Nat, i ≤ xl.length ∧ iv = .int .i64 (i : Int) ∧ Rx V ([ti, by_, you] ++ (ob.take j).flatMap obT ++ [oti] ++ someT otx ++ xtT (xl.take i)) v wr ∧ wr.heap[pb]? = some (.cells #[.string (str onm), .string (str oti), .string (str oin), .string (str otx), .bool orm, .slice a1 l1.length c1_, .slice a2 l2.length c2_, .slice a3 l3.length c3_, .slice a4 l4.length c4_, .slice xA xl.length xc] 64 (0, 0))) (fun _ iv _ => xl.length - (intOf iv).toNat)
        case atStart => exact ⟨0, Nat.zero_le _, rfl, by simpa [xtT, HEO.out] using HRC.out, HOB3.out⟩
        case round =>
          clear y0 y1 y2 y3 y4 y5 y6 y7 y8 y9 yf
          obtain ⟨i, hi, rfl, hs, hob⟩ := hrel
          obtain ⟨v7, rfl⟩ : ∃ q, q = u3 := ⟨_, rfl⟩
          have HRE := Lib.hid hs
          have HOE := Lib.hid hob
          obtain ⟨y0, y1, y2, y3, y4, y5, y6, y7, y8, y9, yf⟩ := cellz10 hob
          clear hs hob
          by_cases hlt2 : i < xl.length
          · obtain ⟨b2, o2, rfl, hb2, hc⟩ := Lg.at_ Xt.len (Lg.keep Xt.stays (Keep.below HRE.out.low) HRD.out.2.2.2.2) hlt2
            obtain ⟨⟨xd, xto, xel, ⟨hA, hc_, hl⟩⟩, hy⟩ : ∃ y, xl[i] = y := ⟨_, rfl⟩
            have HNY := Lib.hid (show xtT (xl.take (i + 1)) = xtT (xl.take i) ++ someT xel by unfold xtT; rw [take_flat _ hlt2, hy])
            have htk := take_sum Xt.m hlt2
            have hlj := xtT_len (xl.take i)
            have hsl := someT_len otx
            rw [hy] at htk hc
            have HZ2 := Lib.hid (show (xtT (xl.take i)).length ≤ 1048576 by
              have h2 := HZ.out.2.2.1
              omega)
            have HSL := Lib.hid hsl
            have d0 : wr.cell? ⟨b2, o2 + i * 4, none⟩ = some (.int .i64 xd) := hc 0 _ rfl
            have d1 : wr.cell? ⟨b2, o2 + i * 4 + 1, none⟩ = some (.string (str xto)) := hc 1 _ rfl
            have d2 : wr.cell? ⟨b2, o2 + i * 4 + 2, none⟩ = some (.string (str xel)) := hc 2 _ rfl
            have d3 : wr.cell? ⟨b2, o2 + i * 4 + 3, none⟩ = some (.slice hA hl.length hc_) := hc 3 _ rfl
            have k2 : (0 : Int) ≤ (i : Int) := by omega
            have k3 : (i : Int) < (xl.length : Int) := by omega
            clear hc hy htk hlj hsl
            by_cases he2 : xel = []
            · subst he2
              have HEE := Lib.hid (show someT [] = [] from rfl)
              have q2 := emp_q (s := []) (b := true) rfl
              have q3 := toList_str []
              go_wp2_with fail
              go_roundw
              case rel => exact ⟨i + 1, by omega, by go_num, by rw [HNY.out]; simpa only [HEE.out, List.append_nil] using HRE.out, HOE.out⟩
              case measure => simp [intOf]; omega
            · have q2 := emp_q (s := xel) (b := false) (by simpa using he2)
              have HEE := Lib.hid (show someT xel = [xel] from if_neg he2)
              clear he2
              go_wp2_with fail
              refine (with_s xel HRE.out (by have := HZ.out.2.2.2; have := HZ2.out; have := HSL.out; simp only [List.length_append, List.length_cons, List.length_nil]; omega)).mono ?_
              rintro e We ⟨v8, rfl, hs, hk⟩
              have HRF := Lib.hid hs
              have HOF := Lib.hid (hk _ _ _ HOE.out (by decide))
              clear hs hk
              go_wp2_with fail
              go_roundw
              case rel => exact ⟨i + 1, by omega, by go_num, by rw [HNY.out, HEE.out, ← List.append_assoc]; exact HRF.out, HOF.out⟩
              case measure => simp [intOf]; omega
          · obtain rfl : i = xl.length := by omega
            have hs := HRE.out
            rw [List.take_length] at hs
            have HRG := Lib.hid hs
            clear hs
            go_wp2_with fail
            go_roundw
            case rel => exact ⟨j + 1, by omega, by go_num, by rw [HNX.out]; simpa only [List.append_assoc, List.cons_append, List.nil_append] using HRG.out⟩
            case measure => simp [intOf]; omega
    · obtain rfl : j = ob.length := by omega
      have hs := HR4.out
      rw [List.take_length] at hs
      have HR5 := Lib.hid hs
      clear hs HR4
      go_wp2_with fail
      go_loopw [3, 7] (fun v iv wr => ∃ j : Nat, j ≤ ru.length ∧ iv = .int .i64 (j : Int) ∧ Rx V ([ti, by_, you] ++ ob.flatMap obT ++ ruT (ru.take j)) v wr) (fun _ iv _ => ru.length - (intOf iv).toNat)
      case atStart => exact ⟨0, Nat.zero_le _, rfl, by simpa [ruT] using HR5.out⟩
      case round =>
        clear x0 x1 x2 x3 x4 x5 x6 x7 x8 x9 x10 x11 x12 xf
        obtain ⟨j, hj, rfl, hs⟩ := hrel
        obtain ⟨v4, rfl⟩ : ∃ q, q = u3 := ⟨_, rfl⟩
        have HR6 := Lib.hid hs
        clear hs HR5
        obtain ⟨x0, x1, x2, x3, x4, x5, x6, x7, x8, x9, x10, x11, x12, xf⟩ := cellz13 (HBX.out _ HR6.out.low)
        by_cases hlt : j < ru.length
        · obtain ⟨b1, o1, rfl, hb1, hc⟩ := Lg.at_ Rl.len (Lg.keep Rl.stays (Keep.below HR6.out.low) HR.out.2.2.2.2.2.1) hlt
          obtain ⟨⟨rvb, rph, rno, rse, ⟨wA, wc, wl⟩, ⟨bA, bc, bl⟩⟩, hy⟩ : ∃ y, ru[j] = y := ⟨_, rfl⟩
          have HRD := Lib.hid (HR.out.2.2.2.2.2.1.2 _ (List.getElem_mem hlt))
          have HNX := Lib.hid (show ruT (ru.take (j + 1)) = ruT (ru.take j) ++ said (stPs bl) by unfold ruT; rw [take_flat _ hlt, hy])
          have htk := take_sum Rl.m hlt
          have hlj := ruT_len (ru.take j)
          rw [hy] at htk hc HRD
          have HZ := Lib.hid (show nB (stPs bl) ≤ 1048576 ∧ ([ti, by_, you] ++ ob.flatMap obT ++ ruT (ru.take j)).length + nB (stPs bl) ≤ 4194304 by
            have h1 := HLA.out
            have h2 := HSO.out
            have h3 : nB (stPs bl) ≤ Rl.m ⟨rvb, rph, rno, rse, ⟨wA, wc, wl⟩, ⟨bA, bc, bl⟩⟩ := by unfold Rl.m; simp only []; omega
            simp only [List.length_append, List.length_cons, List.length_nil] at h1 ⊢
            constructor <;> omega)
          have c0 : wr.cell? ⟨b1, o1 + j * 6, none⟩ = some (.string (str rvb)) := hc 0 _ rfl
          have c1 : wr.cell? ⟨b1, o1 + j * 6 + 1, none⟩ = some (.int .i64 rph) := hc 1 _ rfl
          have c2 : wr.cell? ⟨b1, o1 + j * 6 + 2, none⟩ = some (.string (str rno)) := hc 2 _ rfl
          have c3 : wr.cell? ⟨b1, o1 + j * 6 + 3, none⟩ = some (.string (str rse)) := hc 3 _ rfl
          have c4 : wr.cell? ⟨b1, o1 + j * 6 + 4, none⟩ = some (.slice wA wl.length wc) := hc 4 _ rfl
          have c5 : wr.cell? ⟨b1, o1 + j * 6 + 5, none⟩ = some (.slice bA bl.length bc) := hc 5 _ rfl
          have k0 : (0 : Int) ≤ (j : Int) := by omega
          have k1 : (j : Int) < (ru.length : Int) := by omega
          clear hc hy htk hlj
          go_wp2_with fail
          refine (said_s bl bA bc (Lg.keep stays_s (Keep.weak fun _ _ _ => trivial) HRD.out.2) HZ.out.1 HR6.out HZ.out.2).mono ?_
          rintro e W' ⟨v5, rfl, hs⟩
          have HRB := Lib.hid hs
          clear hs
          go_wp2_with fail
          go_roundw
          case rel => exact ⟨j + 1, by omega, by go_num, by rw [HNX.out, ← List.append_assoc]; exact HRB.out⟩
          case measure => simp [intOf]; omega
        · obtain rfl : j = ru.length := by omega
          have hs := HR6.out
          rw [List.take_length] at hs
          have HR7 := Lib.hid hs
          clear hs HR6
          go_wp2_with fail
          go_loopw [3, 8] (fun v iv wr => ∃ j : Nat, j ≤ fn.length ∧ iv = .int .i64 (j : Int) ∧ Rx V ([ti, by_, you] ++ ob.flatMap obT ++ ruT ru ++ fnT (fn.take j)) v wr) (fun _ iv _ => fn.length - (intOf iv).toNat)
          case atStart => exact ⟨0, Nat.zero_le _, rfl, by simpa [fnT] using HR7.out⟩
          case round =>
            clear x0 x1 x2 x3 x4 x5 x6 x7 x8 x9 x10 x11 x12 xf
            obtain ⟨j, hj, rfl, hs⟩ := hrel
            obtain ⟨v4, rfl⟩ : ∃ q, q = u3 := ⟨_, rfl⟩
            have HR8 := Lib.hid hs
            clear hs HR7
            obtain ⟨x0, x1, x2, x3, x4, x5, x6, x7, x8, x9, x10, x11, x12, xf⟩ := cellz13 (HBX.out _ HR8.out.low)
            by_cases hlt : j < fn.length
            · obtain ⟨b1, o1, rfl, hb1, hc⟩ := Lg.at_ BindO.Fn.len (Lg.keep BindO.Fn.stays (Keep.below HR8.out.low) HR.out.2.2.2.2.2.2.1) hlt
              obtain ⟨⟨fnm, ⟨pA_, pc_, pl⟩, ⟨bA, bc, bl⟩⟩, hy⟩ : ∃ y, fn[j] = y := ⟨_, rfl⟩
              have HRD := Lib.hid (HR.out.2.2.2.2.2.2.1.2 _ (List.getElem_mem hlt))
              have HNX := Lib.hid (show fnT (fn.take (j + 1)) = fnT (fn.take j) ++ said (stPs bl) by unfold fnT; rw [take_flat _ hlt, hy])
              have htk := take_sum BindO.Fn.m hlt
              have hlj := fnT_len (fn.take j)
              rw [hy] at htk hc HRD
              have HZ := Lib.hid (show nB (stPs bl) ≤ 1048576 ∧ ([ti, by_, you] ++ ob.flatMap obT ++ ruT ru ++ fnT (fn.take j)).length + nB (stPs bl) ≤ 4194304 by
                have h1 := HLA.out
                have h2 := HSO.out
                have h3 : nB (stPs bl) ≤ BindO.Fn.m ⟨fnm, ⟨pA_, pc_, pl⟩, ⟨bA, bc, bl⟩⟩ := by unfold BindO.Fn.m; simp only []; omega
                simp only [List.length_append, List.length_cons, List.length_nil] at h1 ⊢
                constructor <;> omega)
              have c0 : wr.cell? ⟨b1, o1 + j * 3, none⟩ = some (.string (str fnm)) := hc 0 _ rfl
              have c1 : wr.cell? ⟨b1, o1 + j * 3 + 1, none⟩ = some (.slice pA_ pl.length pc_) := hc 1 _ rfl
              have c2 : wr.cell? ⟨b1, o1 + j * 3 + 2, none⟩ = some (.slice bA bl.length bc) := hc 2 _ rfl
              have k0 : (0 : Int) ≤ (j : Int) := by omega
              have k1 : (j : Int) < (fn.length : Int) := by omega
              clear hc hy htk hlj
              go_wp2_with fail
              refine (said_s bl bA bc (Lg.keep stays_s (Keep.weak fun _ _ _ => trivial) HRD.out.2) HZ.out.1 HR8.out HZ.out.2).mono ?_
              rintro e W' ⟨v5, rfl, hs⟩
              have HRB := Lib.hid hs
              clear hs
              go_wp2_with fail
              go_roundw
              case rel => exact ⟨j + 1, by omega, by go_num, by rw [HNX.out, ← List.append_assoc]; exact HRB.out⟩
              case measure => simp [intOf]; omega
            · obtain rfl : j = fn.length := by omega
              have hs := HR8.out
              rw [List.take_length] at hs
              have HR9 := Lib.hid hs
              clear hs HR8
              go_wp2_with fail
              go_loopw [3, 9] (fun v iv wr => ∃ j : Nat, j ≤ dm.length ∧ iv = .int .i64 (j : Int) ∧ Rx V ([ti, by_, you] ++ ob.flatMap obT ++ ruT ru ++ fnT fn ++ fnT (dm.take j)) v wr) (fun _ iv _ => dm.length - (intOf iv).toNat)
              case atStart => exact ⟨0, Nat.zero_le _, rfl, by simpa [fnT] using HR9.out⟩
              case round =>
                clear x0 x1 x2 x3 x4 x5 x6 x7 x8 x9 x10 x11 x12 xf
                obtain ⟨j, hj, rfl, hs⟩ := hrel
                obtain ⟨v4, rfl⟩ : ∃ q, q = u3 := ⟨_, rfl⟩
                have HR10 := Lib.hid hs
                clear hs HR9
                obtain ⟨x0, x1, x2, x3, x4, x5, x6, x7, x8, x9, x10, x11, x12, xf⟩ := cellz13 (HBX.out _ HR10.out.low)
                by_cases hlt : j < dm.length
                · obtain ⟨b1, o1, rfl, hb1, hc⟩ := Lg.at_ BindO.Fn.len (Lg.keep BindO.Fn.stays (Keep.below HR10.out.low) HR.out.2.2.2.2.2.2.2) hlt
                  obtain ⟨⟨fnm, ⟨pA_, pc_, pl⟩, ⟨bA, bc, bl⟩⟩, hy⟩ : ∃ y, dm[j] = y := ⟨_, rfl⟩
                  have HRD := Lib.hid (HR.out.2.2.2.2.2.2.2.2 _ (List.getElem_mem hlt))
                  have HNX := Lib.hid (show fnT (dm.take (j + 1)) = fnT (dm.take j) ++ said (stPs bl) by unfold fnT; rw [take_flat _ hlt, hy])
                  have htk := take_sum BindO.Fn.m hlt
                  have hlj := fnT_len (dm.take j)
                  rw [hy] at htk hc HRD
                  have HZ := Lib.hid (show nB (stPs bl) ≤ 1048576 ∧ ([ti, by_, you] ++ ob.flatMap obT ++ ruT ru ++ fnT fn ++ fnT (dm.take j)).length + nB (stPs bl) ≤ 4194304 by
                    have h1 := HLA.out
                    have h2 := HSO.out
                    have h3 : nB (stPs bl) ≤ BindO.Fn.m ⟨fnm, ⟨pA_, pc_, pl⟩, ⟨bA, bc, bl⟩⟩ := by unfold BindO.Fn.m; simp only []; omega
                    simp only [List.length_append, List.length_cons, List.length_nil] at h1 ⊢
                    constructor <;> omega)
                  have c0 : wr.cell? ⟨b1, o1 + j * 3, none⟩ = some (.string (str fnm)) := hc 0 _ rfl
                  have c1 : wr.cell? ⟨b1, o1 + j * 3 + 1, none⟩ = some (.slice pA_ pl.length pc_) := hc 1 _ rfl
                  have c2 : wr.cell? ⟨b1, o1 + j * 3 + 2, none⟩ = some (.slice bA bl.length bc) := hc 2 _ rfl
                  have k0 : (0 : Int) ≤ (j : Int) := by omega
                  have k1 : (j : Int) < (dm.length : Int) := by omega
                  clear hc hy htk hlj
                  go_wp2_with fail
                  refine (said_s bl bA bc (Lg.keep stays_s (Keep.weak fun _ _ _ => trivial) HRD.out.2) HZ.out.1 HR10.out HZ.out.2).mono ?_
                  rintro e W' ⟨v5, rfl, hs⟩
                  have HRB := Lib.hid hs
                  clear hs
                  go_wp2_with fail
                  go_roundw
                  case rel => exact ⟨j + 1, by omega, by go_num, by rw [HNX.out, ← List.append_assoc]; exact HRB.out⟩
                  case measure => simp [intOf]; omega
                · obtain rfl : j = dm.length := by omega
                  have hs := HR10.out
                  rw [List.take_length] at hs
                  have HR11 := Lib.hid hs
                  clear hs HR10
                  have hs := HR11.out
                  have had := HAD.out
                  generalize [ti, by_, you] ++ ob.flatMap obT ++ ruT ru ++ fnT fn ++ fnT dm = fin at hs had
                  have HFS := Lib.hid hs
                  have HFA := Lib.hid had
                  obtain ⟨vA_, vc_, rfl, _, _⟩ := hs.own.shape
                  clear hs had HR11
                  go_wp2_with fail
                  go_ret
                  rw [HFA.out]
                  exact ⟨vA_, vc_, rfl, HFS.out.own.rd, HBV.out.trans (HFS.out.low.mono HBV.out.size)⟩
end Go.Proofs.Yteibcfpepdbflaa.TxB
