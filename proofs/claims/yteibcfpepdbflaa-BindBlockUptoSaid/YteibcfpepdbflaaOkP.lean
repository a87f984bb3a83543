/- Right statements are bound alike in both ways, and what is bound is not greater than what it was. No walk here. -/
import Derived.Test.YteibcfpepdbflaaCkM
import Derived.Test.YteibcfpepdbflaaCkD
import Derived.Test.YteibcfpepdbflaaMkC
import Derived.Test.YteibcfpepdbflaaRtF
import Derived.Test.YteibcfpepdbflaaRtC
import Derived.Test.YteibcfpepdbflaaBindO
namespace Go.Proofs.Yteibcfpepdbflaa.CkN
open Go Go.RowKit BindP BindD BindO BindW BindG BindX BindB BindT BindU TxA RtS RtX RtY RtD RtF MkA MkB MkP MkC CkP CkA CkB CkD CkE CkM
open Byt (str)

theorem ens_nu (so : So) (hz : So.m so ≤ 1048576) : ∀ y ∈ ens so, 0 ≤ y.nu ∧ y.nu ≤ 2097152 := by
  have h1 : ∀ (ki pa fr mo : Int) (l : List S), 0 ≤ fr → fr ≤ 4 → l.length ≤ 1048576 → ∀ y ∈ ens1 ki pa fr mo l, 0 ≤ y.nu ∧ y.nu ≤ 2097152 := by
    intro ki pa fr mo l h0 h4 hl y hy
    unfold ens1 at hy
    obtain ⟨i, hi, rfl⟩ := List.mem_mapIdx.1 hy
    simp only
    omega
  have hl := ens_len so hz
  intro y hy
  unfold ens at hy hl
  simp only [List.length_append, ens1_len, List.length_map] at hl
  simp only [List.mem_append] at hy
  rcases hy with (((((hy | hy) | hy) | hy) | hy) | hy) | hy
  all_goals exact h1 _ _ _ _ _ (by omega) (by omega) (by first | omega | (simp only [List.length_map]; omega)) y hy
theorem mk_nb {so : So} {T : List Nm} (h : Mk (ens so) T) (hz : So.m so ≤ 1048576) : ∀ k s, 0 ≤ ofN T k s ∧ ofN T k s ≤ 2097152 := by
  intro k s
  unfold ofN
  cases hf : findN T s with
  | none =>
    show 0 ≤ (0 : Int) ∧ (0 : Int) ≤ 2097152
    decide
  | some x =>
    have hx : x ∈ T := List.mem_of_find?_eq_some hf
    simp only
    split
    · rcases (h.mem x).1 hx with hb | ⟨y, hy, rfl⟩
      · simp only [base, List.mem_cons, List.not_mem_nil, or_false] at hb
        rcases hb with rfl | rfl | rfl | rfl <;> exact ⟨by decide, by decide⟩
      · exact ens_nu so hz y hy
    · exact ⟨Int.le_refl _, by decide⟩
def FineV (so : So) (w : World) (e : Ending) (w' : World) : Prop := ∃ (A : Option Addr) (T : List Nm) (c : Nat) (b : Bool), e = .returned (.tuple #[.slice A T.length c, .bool b]) ∧ (b = true → T.length ≤ c ∧ Sk.Rd nmE w' A T.length T ∧ Mk (ens so) T ∧ SoP so ∧ SoC T so) ∧ Below w.heap.size w w'
theorem cell4v {w : World} {g : Nat} {x0 x1 x2 x3 : Value} {t : TypeId} (h : w.heap[g]? = some (.cells #[x0, x1, x2, x3] t (0, 0))) : w.cell? ⟨g, 0, none⟩ = some x0 ∧ w.cell? ⟨g, 1, none⟩ = some x1 ∧ w.cell? ⟨g, 2, none⟩ = some x2 ∧ w.cell? ⟨g, 3, none⟩ = some x3 := ⟨(cellz4 h).1, (cellz4 h).2.1, (cellz4 h).2.2.1, (cellz4 h).2.2.2.1⟩
set_option maxRecDepth 100000 in
set_option maxHeartbeats 64000000 in
theorem fine_c (so : So) (w : World) (hr : So.R top w so) (hz : So.m so ≤ 1048576) :
    Calls Try.prog 11 #[.agg (So.e so).toArray] w (FineV so w) := by
  have HRI := Lib.hid (fun u (hu : Below w.heap.size w u) => right_s so u (So.stays _ _ _ _ _ (Keep.below hu) hr) hz)
  have HMK := Lib.hid (fun u (hu : Below w.heap.size w u) => make_r so u (So.stays _ _ _ _ _ (Keep.below hu) hr) hz)
  have HCK := Lib.hid (fun u (hu : Below w.heap.size w u) (T : List Nm) (A : Option Addr) (c : Nat) (ht : Sk.Rd nmE u A T.length T) (hm : Mk (ens so) T) => check_c T so A T.length c u (So.stays _ _ _ _ _ (Keep.below hu) hr) hz ht (by have h1 := hm.len; have h2 := ens_len so hz; omega) (mk_nb hm hz))
  obtain ⟨FV, hFV⟩ : ∃ p, p = FineV so w := ⟨_, rfl⟩
  have HFV := Lib.hid (show ∀ e w', (∃ (A : Option Addr) (T : List Nm) (c : Nat) (b : Bool), e = .returned (.tuple #[.slice A T.length c, .bool b]) ∧ (b = true → T.length ≤ c ∧ Sk.Rd nmE w' A T.length T ∧ Mk (ens so) T ∧ SoP so ∧ SoC T so) ∧ Below w.heap.size w w') → FV e w' from fun e w' h => by rw [hFV]; exact h)
  have HNO := Lib.hid (show ∀ w', Below w.heap.size w w' → FV (.returned (.tuple #[.slice none 0 0, .bool false])) w' from fun w' h => HFV.out _ _ ⟨none, [], 0, false, rfl, (fun h => by cases h), h⟩)
  obtain ⟨SP, hSP⟩ : ∃ p, p = SoP so := ⟨_, rfl⟩
  have HSP := Lib.hid hSP
  rw [← hSP] at HRI
  obtain ⟨so0, hso0⟩ : ∃ x, x = so := ⟨_, rfl⟩
  have HSO := Lib.hid hso0
  rw [← hFV]
  rw [← hso0] at HFV HCK HMK HRI HSP
  obtain ⟨ti, by_, st, re, mx, ⟨fA, fc, fl⟩, ⟨pA, pc, pr⟩, ⟨gA, gc, gl⟩, ⟨oA, oc, ob⟩, ⟨vA, vc, vb⟩, ⟨rA, rc, ru⟩, ⟨nA, nc, fn⟩, ⟨dA, dc, dm⟩⟩ := so
  have zR : ru.length ≤ 1048576 := Nat.le_trans (sum_len (m := Rl.m) (fun _ => by unfold Rl.m; omega) ru) (by unfold So.m at hz; simp only at hz; omega)
  have zO : ob.length ≤ 1048576 := Nat.le_trans (sum_len (m := Ob.m) (fun _ => by unfold Ob.m; omega) ob) (by unfold So.m at hz; simp only at hz; omega)
  have HZ := Lib.hid (show (ru.map Rl.m).sum ≤ 1048576 by unfold So.m at hz; simp only at hz; omega)
  have HRU := Lib.hid (show Lg Rl.e Rl.R top w rA rc ru from hr.2.2.2.2.2.1)
  have HAG : (So.e so0).toArray = #[.string (str ti), .string (str by_), .string (str st), .int .i64 re, .int .i64 mx, .slice fA fl.length fc, .slice pA pr.length pc, .slice gA gl.length gc, .slice oA ob.length oc, .slice vA vb.length vc, .slice rA ru.length rc, .slice nA fn.length nc, .slice dA dm.length dc] := by rw [hso0]; rfl
  rw [HAG] at HRI HMK HCK
  clear hr hz hFV hSP HAG hso0 HSO
  show Calls Try.prog 11 #[.agg #[.string (str ti), .string (str by_), .string (str st), .int .i64 re, .int .i64 mx, .slice fA fl.length fc, .slice pA pr.length pc, .slice gA gl.length gc, .slice oA ob.length oc, .slice vA vb.length vc, .slice rA ru.length rc, .slice nA fn.length nc, .slice dA dm.length dc]] w _
  obtain ⟨V, hV⟩ : ∃ W, w.alloc (.cells #[.string (str ti), .string (str by_), .string (str st), .int .i64 re, .int .i64 mx, .slice fA fl.length fc, .slice pA pr.length pc, .slice gA gl.length gc, .slice oA ob.length oc, .slice vA vb.length vc, .slice rA ru.length rc, .slice nA fn.length nc, .slice dA dm.length dc] 29) = W := ⟨_, rfl⟩
  obtain ⟨m1, s1, b1⟩ := made hV
  have HO0 := Lib.hid (show ∀ U, Below V.heap.size V U → U.heap[w.heap.size]? = some (.cells #[.string (str ti), .string (str by_), .string (str st), .int .i64 re, .int .i64 mx, .slice fA fl.length fc, .slice pA pr.length pc, .slice gA gl.length gc, .slice oA ob.length oc, .slice vA vb.length vc, .slice rA ru.length rc, .slice nA fn.length nc, .slice dA dm.length dc] 29 (0, 0)) from fun U h => (h.block _ (Array.getElem?_eq_some_iff.1 m1).1).trans m1)
  have HBV := Lib.hid b1
  have HBT := Lib.hid (show ∀ U, Below V.heap.size V U → Below w.heap.size w U from fun U h => HBV.out.trans (h.mono HBV.out.size))
  obtain ⟨p0, hp0⟩ : ∃ p, w.heap.size = p := ⟨_, rfl⟩
  rw [hp0] at HO0
  clear m1 s1 b1
  go_enter Try.func11, Try.ntmps11
  go_wp2_with fail
  clear hV hp0
  go_loopw [4, 5] (fun nv iv wr => ∃ (j z : Nat), j ≤ ru.length ∧ nv = .int .i64 (z : Int) ∧ iv = .int .i64 (j : Int) ∧ Hid (z ≤ ((ru.take j).map Rl.m).sum) ∧ Below V.heap.size V wr) (fun _ iv _ => ru.length - (intOf iv).toNat)
  case atStart => exact ⟨0, 0, Nat.zero_le _, rfl, rfl, Lib.hid (by simp), Below.refl _ _⟩
  case round =>
    obtain ⟨j, z, hj, rfl, rfl, HQ, hb⟩ := hrel
    have HB := Lib.hid hb
    clear hb
    have k0 : (0 : Int) ≤ (j : Int) := by omega
    obtain ⟨x0, x1, x2, x3, x4, x5, x6, x7, x8, x9, x10, x11, x12, xf⟩ := cellz13 (HO0.out wr HB.out)
    by_cases hlt : j < ru.length
    · have k1 : (j : Int) < (ru.length : Int) := by omega
      obtain ⟨b, o, he, hbz, hc⟩ := Lg.at_ Rl.len (Lg.keep Rl.stays (Keep.below (HBT.out wr HB.out)) HRU.out) hlt
      have hmem : ru[j] ∈ ru := List.getElem_mem hlt
      have hts := take_sum Rl.m hlt
      have htm : ((ru.take (j + 1)).map Rl.m).sum = ((ru.take j).map Rl.m).sum + Rl.m ru[j] := by rw [List.take_succ_eq_append_getElem hlt, List.map_append, List.sum_append]; simp only [List.map_cons, List.map_nil, List.sum_cons, List.sum_nil, Nat.add_zero]
      have hrd := (Lg.keep Rl.stays (Keep.below (HBT.out wr HB.out)) HRU.out).2 _ hmem
      obtain ⟨y, hy⟩ : ∃ y, ru[j] = y := ⟨_, rfl⟩
      rw [hy] at hc hts htm hrd
      obtain ⟨rvb, rph, rno, rse, ⟨wA, cw, wl⟩, ⟨bA, bc, bl⟩⟩ := y
      have hmm : nB (stPs bl) ≤ Rl.m ⟨rvb, rph, rno, rse, ⟨wA, cw, wl⟩, ⟨bA, bc, bl⟩⟩ := by unfold Rl.m; simp only; omega
      have hz2 := HZ.out
      have hq := HQ.out
      have hcl := cnt_le (stPs bl)
      have HBL := Lib.hid (show nB (stPs bl) ≤ 1048576 ∧ Ls top wr bA bc bl from ⟨by omega, hrd.2⟩)
      obtain ⟨cn, hcn⟩ : ∃ x, cnt (stPs bl) = x := ⟨_, rfl⟩
      have HCN := Lib.hid hcn
      have hb1 : z + cn ≤ 1048576 := by omega
      have HQ2 := Lib.hid (show z + cn ≤ ((ru.take (j + 1)).map Rl.m).sum by omega)
      have x10b : wr.cell? ⟨p0, 10, none⟩ = some (.slice (some ⟨b, o, none⟩) ru.length rc) := by rw [x10, he]
      have c5 : wr.cell? ⟨b, o + j * 6 + 5, none⟩ = some (.slice bA bl.length bc) := hc 5 _ rfl
      clear hc hy hmem hbz he x10 hts htm hrd hmm hz2 hq hcl hcn
      go_wp2_with (go_at_call 35; refine (size_r _ bl (Nat.le_refl _) HBL.out.1 bA bc wr HBL.out.2).mono ?_; rintro e w3 ⟨rfl, hb⟩; rw [HCN.out]; have HB3 := Lib.hid (HB.out.trans (hb.mono HB.out.size)); clear hb x0 x1 x2 x3 x4 x5 x6 x7 x8 x9 x10b x11 x12 xf c5)
      go_roundw
      case rel => exact ⟨j + 1, z + cn, by omega, by go_num, by go_num, HQ2, HB3.out⟩
      case measure => simp [intOf]; omega
    · have hjm : j = ru.length := by omega
      have HZZ := Lib.hid hjm
      have hzz : z ≤ 1048576 := by have h := HQ.out; rw [hjm, List.take_length] at h; have := HZ.out; omega
      clear hjm
      by_cases h1 : 130 < ob.length
      · have q1 : decide ((130 : Int) < (ob.length : Int)) = true := decide_eq_true (by omega)
        have q1b : decide (130 < ob.length) = true := decide_eq_true h1
        go_wp2_with fail
        exact HNO.out _ (HBT.out wr HB.out)
      have q1 : decide ((130 : Int) < (ob.length : Int)) = false := decide_eq_false (by omega)
      have q1b : decide (130 < ob.length) = false := decide_eq_false h1
      by_cases h2 : 520 < ru.length
      · have q2 : decide ((520 : Int) < (ru.length : Int)) = true := decide_eq_true (by omega)
        have q2b : decide (520 < ru.length) = true := decide_eq_true h2
        go_wp2_with fail
        exact HNO.out _ (HBT.out wr HB.out)
      have q2 : decide ((520 : Int) < (ru.length : Int)) = false := decide_eq_false (by omega)
      have q2b : decide (520 < ru.length) = false := decide_eq_false h2
      by_cases h3 : 600 < z
      · have q3 : decide ((600 : Int) < (z : Int)) = true := decide_eq_true (by omega)
        have q3b : decide (600 < z) = true := decide_eq_true h3
        go_wp2_with fail
        exact HNO.out _ (HBT.out wr HB.out)
      have q3 : decide ((600 : Int) < (z : Int)) = false := decide_eq_false (by omega)
      have q3b : decide (600 < z) = false := decide_eq_false h3
      clear h1 h2 h3
      go_wp2_with fail
      refine (HRI.out wr (HBT.out wr HB.out)).mono ?_
      rintro e w3 ⟨b3, rfl, hp, hb⟩
      have HP3 := Lib.hid hp
      have HB3 := Lib.hid (HB.out.trans (hb.mono HB.out.size))
      clear hp hb x0 x1 x2 x3 x4 x5 x6 x7 x8 x9 x10 x11 x12 xf
      obtain ⟨x0, x1, x2, x3, x4, x5, x6, x7, x8, x9, x10, x11, x12, xf⟩ := cellz13 (HO0.out w3 HB3.out)
      cases b3
      · skip
        go_wp2_with fail
        exact HNO.out _ (HBT.out w3 HB3.out)
      go_wp2_with fail
      refine (HMK.out w3 (HBT.out w3 HB3.out)).mono ?_
      rintro e w4 ⟨hb, hmk⟩
      have HB4 := Lib.hid (HB3.out.trans (hb.mono HB3.out.size))
      clear hb x0 x1 x2 x3 x4 x5 x6 x7 x8 x9 x10 x11 x12 xf
      rcases hmk with ⟨A, c, T, rfl, hTc, hrd, hmk⟩ | ⟨er, pa, at_, s, hne, rfl⟩
      · skip
        go_upto_region 9 with fail
        obtain ⟨V5, hV5⟩ : ∃ W, w4.alloc (.cells #[.int .i64 0, .int .i64 0, .int .i64 0, .string ⟨#[]⟩] 94) = W := ⟨_, rfl⟩
        obtain ⟨m5, z5, b5⟩ := made hV5
        have HB5 := Lib.hid (HB4.out.trans (b5.mono HB4.out.size))
        obtain ⟨g0, g1, g2, g3, gf⟩ := cellz4 m5
        rw [hV5]
        clear hV5
        have HRT := Lib.hid (hrd.below b5)
        have HMKT := Lib.hid (And.intro hTc hmk)
        clear hrd hmk hTc m5 z5 b5
        obtain ⟨x0, x1, x2, x3, x4, x5, x6, x7, x8, x9, x10, x11, x12, xf⟩ := cellz13 (HO0.out V5 HB5.out)
        go_wp2_with fail
        refine (HCK.out V5 (HBT.out V5 HB5.out) T A c HRT.out HMKT.out.2).mono ?_
        rintro e w6 ⟨er, pa, nu, s, rfl, hp, hb⟩
        have HP6 := Lib.hid hp
        have HB6 := Lib.hid (HB5.out.trans (hb.mono HB5.out.size))
        have HRT6 := Lib.hid (HRT.out.below hb)
        clear hp hb
        by_cases he0 : er = 0
        · subst he0
          obtain ⟨rfl, rfl, rfl, hsc⟩ := HP6.out rfl
          have HSC := Lib.hid hsc
          clear hsc HP6
          have e0 : str ([] : S) = ⟨#[]⟩ := rfl
          rw [e0]
          go_wp2_with fail
          refine HFV.out _ _ ⟨A, T, c, true, rfl, fun _ => ⟨HMKT.out.1, HRT6.out, HMKT.out.2, by rw [← HSP.out]; exact HP3.out (by trivial), HSC.out⟩, HBT.out _ HB6.out⟩
        · have qe : (er == 0) = false := beq_eq_false_iff_ne.2 he0
          have qf : (er != 0) = true := by simp [he0]
          clear he0
          go_wp2_with fail
          exact HNO.out _ (HBT.out _ HB6.out)
      · have qe : (er == 0) = false := beq_eq_false_iff_ne.2 hne
        have qf : (er != 0) = true := by simp [hne]
        clear hne
        obtain ⟨V5, hV5⟩ : ∃ W, w4.alloc (.cells #[.int .i64 er, .int .i64 pa, .int .i64 at_, .string (str s)] 94) = W := ⟨_, rfl⟩
        obtain ⟨m5, z5, b5⟩ := made hV5
        have HB5 := Lib.hid (HB4.out.trans (b5.mono HB4.out.size))
        obtain ⟨g0, g1, g2, g3, gf⟩ := cellz4 m5
        clear m5 z5 b5
        go_wp2_with fail
        exact HNO.out _ (HBT.out _ HB5.out)
end Go.Proofs.Yteibcfpepdbflaa.CkN
namespace Go.Proofs.Yteibcfpepdbflaa.OkP
open Go Go.RowKit BindP BindD BindO RtY RtZ RtC
open Byt (str)

theorem kind_okX {sd : Bool} {k o n : Int} {s : S} {m : Nat} (h : KindOk sd k o n s m) : okX k o s := by
  cases h with
  | num h1 h2 => exact .inr ⟨by decide, by decide, by decide, by decide, by decide, rfl⟩
  | text => exact .inl ⟨.inl rfl, rfl⟩
  | name h => exact .inl ⟨.inr (.inl rfl), rfl⟩
  | neg => exact .inr ⟨by decide, by decide, by decide, by decide, by decide, rfl⟩
  | not => exact .inr ⟨by decide, by decide, by decide, by decide, by decide, rfl⟩
  | random => exact .inr ⟨by decide, by decide, by decide, by decide, by decide, rfl⟩
  | title => exact .inr ⟨by decide, by decide, by decide, by decide, by decide, rfl⟩
  | bin h1 h2 => exact .inr ⟨by decide, by decide, by decide, by decide, by decide, rfl⟩
  | has h => exact .inl ⟨.inr (.inr (.inl rfl)), rfl⟩
  | prop h => exact .inl ⟨.inr (.inr (.inr (.inl rfl))), rfl⟩
  | call h1 h2 => exact .inl ⟨.inr (.inr (.inr (.inr rfl))), rfl⟩
  | tree h1 h2 => exact .inr ⟨by decide, by decide, by decide, by decide, by decide, rfl⟩
  | self h1 h2 => exact .inr ⟨by decide, by decide, by decide, by decide, by decide, rfl⟩
mutual
theorem x_okE : ∀ (e : Pe) (sd : Bool), xOk sd e → okE e
  | .mk k o n s ar, sd, h => by
    unfold xOk at h
    unfold okE
    exact ⟨kind_okX h.1, xs_okE ar h.2⟩
theorem xs_okE : ∀ l : List Pe, xsOk l → okEs l
  | [], _ => by unfold okEs; trivial
  | a :: l, h => by
    unfold xsOk at h
    unfold okEs
    exact ⟨x_okE a false h.1, xs_okE l h.2⟩
end
theorem shape_okK {k n : Int} {s : S} {m : Nat} {b e : List Ps} {nm : Bool} (h : ShOk k n s m b.length e.length nm) : okK k b e := by
  generalize hb : b.length = nb at h
  generalize he : e.length = ne at h
  unfold okK
  cases h with
  | say h1 h2 => exact ⟨fun c => by omega, fun c => by omega⟩
  | named h => exact ⟨fun _ => List.eq_nil_of_length_eq_zero hb, fun _ => List.eq_nil_of_length_eq_zero he⟩
  | put => exact ⟨fun _ => List.eq_nil_of_length_eq_zero hb, fun _ => List.eq_nil_of_length_eq_zero he⟩
  | move => exact ⟨fun c => by omega, fun c => by omega⟩
  | one h => exact ⟨fun c => by omega, fun c => by omega⟩
  | if_ => exact ⟨fun c => by omega, fun c => by omega⟩
  | while_ => exact ⟨fun c => by omega, fun c => by omega⟩
  | each => exact ⟨fun c => by omega, fun _ => List.eq_nil_of_length_eq_zero he⟩
  | halt => exact ⟨fun _ => List.eq_nil_of_length_eq_zero hb, fun _ => List.eq_nil_of_length_eq_zero he⟩
  | none h => exact ⟨fun c => by omega, fun c => by omega⟩
theorem list_okE {l : List Pe} {b : Bool} (h : ∀ a ∈ l, xOk b a) : okEs l := okEs_mem l fun a ha => x_okE a b (h a ha)
mutual
theorem s_okS : ∀ p : Ps, sOk p → okS p
  | .mk k n s ar b e, h => by
    unfold sOk at h
    unfold okS
    obtain ⟨⟨_, _, ⟨nm, h1, _⟩, _⟩, h2, h3, h4⟩ := h
    exact ⟨shape_okK h1, list_okE h2, b_okB b h3.1, b_okB e h4.1⟩
theorem b_okB : ∀ l : List Ps, bOk l → okB l
  | [], _ => by unfold okB; trivial
  | a :: l, h => by
    unfold bOk at h
    unfold okB
    exact ⟨s_okS a h.1, b_okB l h.2⟩
end
theorem right_okB {l : List Ps} (h : RightB l) : okB l := b_okB l h.2.1

theorem exI_le (t : List Nm) (tx lo : List S) (k o n : Int) (s : S) (ar : List Pe) : nE (exI t tx lo k o n s ar) ≤ s.length + nEs ar + 1 := by
  unfold exI
  repeat' split
  all_goals (unfold nE; simp)
theorem exR_le (t : List Nm) (tx lo : List S) (k o n : Int) (s : S) (ar : List Pe) : nE (exR t tx lo k o n s ar) ≤ s.length + nEs ar + 1 := by
  unfold exR
  repeat' split
  all_goals (unfold nE; simp)
mutual
theorem nE_bind {f : Ex1} (hf : ∀ k o n s ar, nE (f k o n s ar) ≤ s.length + nEs ar + 1) : ∀ e : Pe, nE (bindE f e) ≤ nE e
  | .mk k o n s ar => by
    unfold bindE
    have h1 := hf k o n s (bindEs f ar)
    have h2 := nEs_bind hf ar
    rw [show nE (.mk k o n s ar) = s.length + nEs ar + 1 by unfold nE; rfl]
    omega
theorem nEs_bind {f : Ex1} (hf : ∀ k o n s ar, nE (f k o n s ar) ≤ s.length + nEs ar + 1) : ∀ l : List Pe, nEs (bindEs f l) ≤ nEs l
  | [] => by unfold bindEs; exact Nat.le_refl _
  | a :: l => by
    unfold bindEs nEs
    have h1 := nE_bind hf a
    have h2 := nEs_bind hf l
    omega
end
mutual
theorem nS_stI (t : List Nm) (tx : List S) : ∀ (p : Ps) (lo : List S), nS (stI t tx lo p).1 ≤ nS p
  | .mk k n s ar b e, lo => by
    unfold stI
    simp only
    have h1 := nEs_bind (f := exI t tx lo) (exI_le t tx lo) ar
    have h2 := nB_rowI t tx b (lo ++ ext k s)
    have h3 := nB_rowI t tx e (BindP.blank (lo ++ ext k s).length (rowI t tx (lo ++ ext k s) b).2)
    rw [show ∀ k2 n2 s2 a2 b2 e2, nS (.mk k2 n2 s2 a2 b2 e2) = s2.length + nEs a2 + nB b2 + nB e2 + 1 from fun _ _ _ _ _ _ => by unfold nS; rfl, show ∀ k2 n2 s2 a2 b2 e2, nS (.mk k2 n2 s2 a2 b2 e2) = s2.length + nEs a2 + nB b2 + nB e2 + 1 from fun _ _ _ _ _ _ => by unfold nS; rfl]
    simp only [List.length_nil]
    omega
theorem nB_rowI (t : List Nm) (tx : List S) : ∀ (l : List Ps) (lo : List S), nB (rowI t tx lo l).1 ≤ nB l
  | [], lo => by unfold rowI; exact Nat.le_refl _
  | a :: l, lo => by
    unfold rowI
    simp only [nB]
    have h1 := nS_stI t tx a lo
    have h2 := nB_rowI t tx l (stI t tx lo a).2
    omega
end
end Go.Proofs.Yteibcfpepdbflaa.OkP
