/- Texts returns the specified texts of every Right source, each once. Condition: the argument is of bulk at most 1048576. -/
import Derived.Test.YteibcfpepdbflaaTxL
import Derived.Test.YteibcfpepdbflaaRtF
import Derived.Test.YteibcfpepdbflaaLawS
namespace Go.Proofs.Yteibcfpepdbflaa.bindTexts
open Go Go.RowKit Go.ChangeShapes Go.WideShapes Go.ChangeAt BindP BindD BindO BindW BindG BindX BindB BindT BindU BindE RtY RtF TxA TxB TxL LawS
open Byt (str)

set_option maxRecDepth 100000 in
set_option maxHeartbeats 8000000 in
theorem walk (t : So) (w : World) (hr : So.R top w t) (hm : So.m t ≤ 1048576) : Calls Try.prog 3 #[.agg (So.e t).toArray] w fun e w' => e = .returned (.bool true) ∧ Below w.heap.size w w' := by
  have HT := Lib.hid (fun u (hu : Below w.heap.size w u) => texts_i t u (So.stays _ _ _ _ _ (Keep.below hu) hr) hm)
  have HTR := Lib.hid (fun u (hu : Below w.heap.size w u) => texts_r t u (So.stays _ _ _ _ _ (Keep.below hu) hr) hm)
  have HRI := Lib.hid (fun u (hu : Below w.heap.size w u) => (right_s t u (So.stays _ _ _ _ _ (Keep.below hu) hr) hm).mono (R' := fun e w' => ∃ b, e = .returned (.bool b) ∧ Below u.heap.size u w') (by rintro e w' ⟨b, rfl, _, hb⟩; exact ⟨b, rfl, hb⟩))
  have hND : ((adds t).foldl wth []).Nodup := wths_nodup (adds t) List.nodup_nil
  have hLN : ((adds t).foldl wth []).length ≤ 4194304 := by
    have h1 := wths_len (adds t) []
    have h2 := flat_len obT_len t.ob.l
    have h3 := ruT_len t.ru.l
    have h4 := fnT_len t.fn.l
    have h5 := fnT_len t.dm.l
    unfold So.m at hm
    unfold adds at h1 ⊢
    simp only [List.length_append, List.length_cons, List.length_nil] at h1
    omega
  obtain ⟨L, hL⟩ : ∃ L, (adds t).foldl wth [] = L := ⟨_, rfl⟩
  rw [hL] at HT HTR hND hLN
  obtain ⟨n, hn⟩ : ∃ n, L.length = n := ⟨_, rfl⟩
  have HN := Lib.hid hn
  rw [hn] at HT HTR hLN
  have HND := Lib.hid hND
  clear hL hND hn
  have hzo : t.ob.l.length ≤ 1048576 := Nat.le_trans (sum_len (m := Ob.m) (fun _ => by unfold Ob.m; omega) t.ob.l) (by unfold So.m at hm; omega)
  have hzr : t.ru.l.length ≤ 1048576 := Nat.le_trans (sum_len (m := Rl.m) (fun _ => by unfold Rl.m; omega) t.ru.l) (by unfold So.m at hm; omega)
  obtain ⟨ti, by_, st, re, mx, ⟨fA, fc, fl⟩, ⟨pA, pc, pr⟩, ⟨gA, gc, gl⟩, ⟨oA, oc, ob⟩, ⟨vA, vc, vb⟩, ⟨rA, rc, ru⟩, ⟨nA, nc, fn⟩, ⟨dA, dc, dm⟩⟩ := t
  have hzo : ob.length ≤ 1048576 := hzo
  have hzr : ru.length ≤ 1048576 := hzr
  clear hr hm
  show Calls Try.prog 3 #[.agg #[.string (str ti), .string (str by_), .string (str st), .int .i64 re, .int .i64 mx, .slice fA fl.length fc, .slice pA pr.length pc, .slice gA gl.length gc, .slice oA ob.length oc, .slice vA vb.length vc, .slice rA ru.length rc, .slice nA fn.length nc, .slice dA dm.length dc]] w _
  go_enter Try.func3, Try.ntmps3
  obtain ⟨w1, hw1⟩ : ∃ W, w.alloc (.cells #[.string (str ti), .string (str by_), .string (str st), .int .i64 re, .int .i64 mx, .slice fA fl.length fc, .slice pA pr.length pc, .slice gA gl.length gc, .slice oA ob.length oc, .slice vA vb.length vc, .slice rA ru.length rc, .slice nA fn.length nc, .slice dA dm.length dc] 29) = W := ⟨_, rfl⟩
  have HBX := Lib.hid (show RtX.Bz w #[.string (str ti), .string (str by_), .string (str st), .int .i64 re, .int .i64 mx, .slice fA fl.length fc, .slice pA pr.length pc, .slice gA gl.length gc, .slice oA ob.length oc, .slice vA vb.length vc, .slice rA ru.length rc, .slice nA fn.length nc, .slice dA dm.length dc] 29 w1 by rw [← hw1]; exact RtX.Bz.new _ _ _)
  obtain ⟨x0, x1, x2, x3, x4, x5, x6, x7, x8, x9, x10, x11, x12, xf⟩ := cellz13 HBX.out.box
  by_cases h1 : 130 < ob.length
  · have q : decide ((130 : Int) < (ob.length : Int)) = true := decide_eq_true (by omega)
    clear h1
    go_wp2_with fail
    refine (awake_i _).mono ?_
    rintro e w2 ⟨rfl, hb⟩
    have HB2 := Lib.hid (HBX.out.low.trans (hb.mono HBX.out.low.size))
    clear hb
    go_wp2_with fail
    go_ret
    exact ⟨rfl, HB2.out⟩
  have q1 : decide ((130 : Int) < (ob.length : Int)) = false := decide_eq_false (by omega)
  clear h1
  by_cases h2 : 520 < ru.length
  · have q : decide ((520 : Int) < (ru.length : Int)) = true := decide_eq_true (by omega)
    clear h2
    go_wp2_with fail
    refine (awake_i _).mono ?_
    rintro e w2 ⟨rfl, hb⟩
    have HB2 := Lib.hid (HBX.out.low.trans (hb.mono HBX.out.low.size))
    clear hb
    go_wp2_with fail
    go_ret
    exact ⟨rfl, HB2.out⟩
  have q2 : decide ((520 : Int) < (ru.length : Int)) = false := decide_eq_false (by omega)
  clear h2
  go_wp2_with fail
  refine (HRI.out w1 HBX.out.low).mono ?_
  rintro e w2 ⟨b, rfl, hb⟩
  have HB2 := Lib.hid (HBX.out.on hb)
  clear hb hw1 x0 x1 x2 x3 x4 x5 x6 x7 x8 x9 x10 x11 x12 xf
  cases b
  · go_wp2_with fail
    refine (awake_i _).mono ?_
    rintro e w3 ⟨rfl, hb⟩
    have HB3 := Lib.hid (HB2.out.low.trans (hb.mono HB2.out.low.size))
    clear hb
    go_wp2_with fail
    go_ret
    exact ⟨rfl, HB3.out⟩
  obtain ⟨x0, x1, x2, x3, x4, x5, x6, x7, x8, x9, x10, x11, x12, xf⟩ := cellz13 HB2.out.box
  go_wp2_with fail
  refine (HT.out w2 HB2.out.low).mono ?_
  rintro e w3 ⟨A3, c3, rfl, hr3, hb⟩
  have HB3 := Lib.hid (HB2.out.on hb)
  have HR3 := Lib.hid hr3
  clear hb hr3 x0 x1 x2 x3 x4 x5 x6 x7 x8 x9 x10 x11 x12 xf
  obtain ⟨x0, x1, x2, x3, x4, x5, x6, x7, x8, x9, x10, x11, x12, xf⟩ := cellz13 HB3.out.box
  go_wp2_with fail
  refine (HTR.out w3 HB3.out.low).mono ?_
  rintro e w4 ⟨A4, c4, rfl, hr4, hb⟩
  have HB4 := Lib.hid (HB3.out.on hb)
  have HR4 := Lib.hid hr4
  have HR5 := Lib.hid (HR3.out.below hb)
  clear hb hr4 x0 x1 x2 x3 x4 x5 x6 x7 x8 x9 x10 x11 x12 xf
  go_wp2_with fail
  refine (sameTexts_t L w4 HR5.out HR4.out (by omega)).mono ?_
  rintro e w5 ⟨rfl, hb⟩
  have HB5 := Lib.hid (HB4.out.low.trans (hb.mono HB4.out.low.size))
  have HR6 := Lib.hid (HR5.out.below hb)
  clear hb
  go_wp2_with fail
  go_loopw [4] (fun iv wr => ∃ i : Nat, i ≤ n ∧ iv = .int .i64 (i : Int) ∧ Below w.heap.size w wr ∧ Sq.Rd sv wr A3 n L) (fun iv _ => n - (intOf iv).toNat)
  case atStart => exact ⟨0, Nat.zero_le _, rfl, HB5.out, HR6.out⟩
  case round =>
    obtain ⟨i, hi, rfl, hb, hrd⟩ := hrel
    have HB := Lib.hid hb
    have HRD := Lib.hid hrd
    clear hb hrd
    by_cases hlt : i < n
    · by_cases h100 : n < 100
      · have q100 : decide ((n : Int) < 100) = true := decide_eq_true (by omega)
        go_wp2_with fail
        go_loopw [5] (fun iv wr => ∃ k : Nat, k ≤ i ∧ iv = .int .i64 (k : Int) ∧ Below w.heap.size w wr ∧ Sq.Rd sv wr A3 n L) (fun iv _ => i - (intOf iv).toNat)
        case atStart => exact ⟨0, Nat.zero_le _, rfl, HB.out, HRD.out⟩
        case round =>
          obtain ⟨k, hk, rfl, hb, hrd⟩ := hrel
          have HBK := Lib.hid hb
          have HRK := Lib.hid hrd
          clear hb hrd
          by_cases hlt2 : k < i
          · obtain ⟨b1, o1, rfl, _, hl1, hc1⟩ := HRK.out.at_ (show k < n by omega)
            obtain ⟨b2, o2, he, _, hl2, hc2⟩ := HRK.out.at_ (show i < n by omega)
            injection he with he
            injection he with he1 he2
            subst he1 he2
            have hne : L[k] ≠ L[i] := (List.pairwise_iff_getElem.1 HND.out) k i hl1 hl2 hlt2
            obtain ⟨y1, hy1⟩ : ∃ y, L[k] = y := ⟨_, rfl⟩
            obtain ⟨y2, hy2⟩ : ∃ y, L[i] = y := ⟨_, rfl⟩
            rw [hy1] at hc1 hne
            rw [hy2] at hc2 hne
            unfold sv at hc1 hc2
            have q := ne_q hne
            have k0 : (0 : Int) ≤ (k : Int) := by omega
            have k1 : (k : Int) < (n : Int) := by omega
            have k2 : (0 : Int) ≤ (i : Int) := by omega
            have k3 : (i : Int) < (n : Int) := by omega
            clear hne hy1 hy2 hl1 hl2
            go_wp2_with fail
            go_quiet (fail)
            go_wp2_with fail
            go_roundw
            case rel => exact ⟨k + 1, by omega, by go_num, Sq.belowN HBK.out _, HRK.out.drewN _⟩
            case measure => simp [intOf]; omega
          · obtain rfl : k = i := by omega
            go_wp2_with fail
            go_roundw
            case rel => exact ⟨k + 1, by omega, by go_num, HBK.out, HRK.out⟩
            case measure => simp [intOf]; omega
      · have q100 : decide ((n : Int) < 100) = false := decide_eq_false (by omega)
        go_wp2_with fail
        refine (awake_i _).mono ?_
        rintro e w7 ⟨rfl, hb⟩
        have HB7 := Lib.hid (HB.out.trans (hb.mono HB.out.size))
        clear hb
        go_wp2_with fail
        go_ret
        exact ⟨rfl, HB7.out⟩
    · obtain rfl : n = i := by omega
      go_wp2_with fail
      refine (awake_i _).mono ?_
      rintro e w7 ⟨rfl, hb⟩
      have HB7 := Lib.hid (HB.out.trans (hb.mono HB.out.size))
      clear hb
      go_wp2_with fail
      go_ret
      exact ⟨rfl, HB7.out⟩

theorem own : ownKnob Try.prog.godebug = none := by kernel_rfl
set_option maxRecDepth 100000 in
theorem contract (H : Type) (enc : TypeId × Value → H) (W : World) (base : Nat) (args : Array Value) (ds gs : List (DataW H)) (before : List MemPlace)
    (hval : ∀ (j : Nat) t v, Try.f3.params[j]? = some t → args[j]? = some v → Value.okWide Try.prog W .any base t v)
    (hW : DataW.Whole enc Try.prog Try.f3.params.toList Rows.bindTextsSpec.vars false W args.toList ds gs before) (hk : Rows.uptoSmall H (ds ++ gs) = true) :
    Calls Try.prog 3 args W fun e W' => ∃ v, e = .returned v ∧ Rows.bindTextsSpec.post enc Try.prog Try.f3 false true false false W args v W' := by
  have hW' := hW
  obtain ⟨p, q, hA0, hV, rfl, hfz, hnd⟩ := hW
  have hA : DataW.TrodAll enc Try.prog W 0 (fun _ => true) true Try.f3.params.toList args.toList ds p := hA0
  rw [Try.params3] at hA hval
  obtain ⟨v0, vs0, d0, ds0, p0, q0, hargs, rfl, rfl, h0, r0⟩ := trodAll_cons hA
  obtain ⟨rfl, rfl, rfl⟩ := trodAll_nil r0
  obtain rfl : args = #[v0] := by cases args; simp_all
  have hb : Rows.uptoBulkAll ([d0] ++ gs) ≤ 1048576 := of_decide_eq_true hk
  clear hV
  obtain ⟨t, rfl, hr, hm⟩ := open_source (hval 0 29 v0 rfl rfl) h0
  have hm2 : So.m t ≤ 1048576 := by
    simp only [List.cons_append, Rows.uptoBulkAll] at hb
    omega
  clear hA0
  refine (walk t W hr hm2).mono fun e W' ⟨he, hg⟩ => ?_
  subst he
  exact ⟨_, rfl, Law.post (by kernel_rfl) (by kernel_rfl) Try.underlying4 rfl rfl hW' hg ⟨rfl, rfl, rfl⟩⟩
set_option maxRecDepth 100000 in
theorem lifted (os : Os) (started : os.Started) (H : Type) (enc : TypeId × Value → H) (F : Stop.Interp) :
    ReturnsInHanded {} Try.checked os 3 .any ((Rows.OpenSpec.upto Rows.bindTextsSpec).pre6 enc Try.prog Try.f3 Rows.bindTextsUptoRow.domain false) (((Rows.OpenSpec.upto Rows.bindTextsSpec).at F).post enc Try.prog Try.f3 false true false false) := by
  refine returnsInHanded_of_cond (C := Try.checked) (s := Rows.OpenSpec.upto Rows.bindTextsSpec) (k := Rows.uptoSmall) rfl own started (by kernel_rfl) Try.func3
    (OpenSpec.witness (enc := enc) (C := Try.checked) (s := Rows.OpenSpec.upto Rows.bindTextsSpec) (k := Rows.uptoSmall) rfl false ⟨#[], #[.agg #[.string .empty, .string .empty, .string .empty, .int .i64 0, .int .i64 0, .slice none 0 0, .slice none 0 0, .slice none 0 0, .slice none 0 0, .slice none 0 0, .slice none 0 0, .slice none 0 0, .slice none 0 0]], []⟩ 8 (by kernel_rfl) (by kernel_rfl) (by kernel_rfl)
      (x := ([.agg [.lit (.string []), .lit (.string []), .lit (.string []), .lit (.int .i64 0), .lit (.int .i64 0), .nil, .nil, .nil, .nil, .nil, .nil, .nil, .nil]], [], [])) (by kernel_rfl) rfl (by kernel_rfl)) ?_
  intro W base args ds gs before hval hW _ hk _
  exact contract H enc W base args ds gs before hval hW hk

/-- The statement. -/
theorem proved : Rows.BindTextsUptoSaid :=
  OpenClaim.holds_of_cond 3 Try.f3 rfl rfl rfl rfl rfl rfl rfl ⟨rfl, rfl, rfl, rfl, rfl⟩ rfl rfl rfl rfl rfl (by kernel_rfl) Try.func3 (by kernel_rfl)
    (of_decide_eq_true (by kernel_rfl)) (by unfold Func.isWrapper; first | (rw [if_pos (by decide +kernel)]; kernel_rfl) | (rw [if_neg (by decide +kernel)]; exact ⟨rfl, rfl⟩))
    (fun os started H enc _ F => lifted os started H enc F)
#print axioms proved
end Go.Proofs.Yteibcfpepdbflaa.bindTexts
