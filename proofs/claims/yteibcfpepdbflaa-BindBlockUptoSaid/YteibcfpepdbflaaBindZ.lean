/- The reference's Block: statements bound in the reference's way. Conditions: lengths and sizes within the reach. -/
import Derived.Test.YteibcfpepdbflaaBindL
import Derived.Test.YteibcfpepdbflaaBindA
import Derived.Test.YteibcfpepdbflaaBindY
namespace Go.Proofs.Yteibcfpepdbflaa.BindZ
open Go Go.RowKit BindP BindD BindO BindW BindN BindG BindX BindB BindS BindK BindT BindV BindL BindA BindY
open Byt (str)

structure Lc (wr : World) (sb xb B : Nat) (scs : Array Value) (x0 x1 x2 : Value) (Aa : Option Addr) (ca : Nat) (al : List Ex) (x4 x5 : Value) (U : World) : Prop where
  s : U.heap[sb]? = some (.cells scs 46 (0, 0))
  x : U.heap[xb]? = some (.cells #[x0, x1, x2, .slice Aa al.length ca, x4, x5] 46 (0, 0))
  args : Lx (fun b => B ≤ b) U Aa ca al
  low : Below wr.heap.size wr U
  lt : wr.heap.size ≤ sb ∧ sb < xb ∧ xb < B
  sz : B ≤ U.heap.size
section
variable {wr : World} {sb xb B : Nat} {scs : Array Value} {x0 x1 x2 : Value} {Aa : Option Addr} {ca : Nat} {al : List Ex} {x4 x5 : Value} {U U' : World}
theorem Lc.of (h : La wr sb xb B scs x0 x1 x2 (.slice Aa al.length ca) x4 x5 al U) : Lc wr sb xb B scs x0 x1 x2 Aa ca al x4 x5 U := by
  obtain ⟨A', c', e, hg⟩ := h.own.list stays_x
  injection e with e1 e2 e3
  subst e1 e3
  exact ⟨h.s, h.x, hg, h.low, h.lt, h.sz⟩
theorem Lc.below (h : Lc wr sb xb B scs x0 x1 x2 Aa ca al x4 x5 U) (hb : Below U.heap.size U U') : Lc wr sb xb B scs x0 x1 x2 Aa ca al x4 x5 U' := by
  obtain ⟨l1, l2, l3⟩ := h.lt
  have := h.sz
  exact ⟨(hb.block _ (by omega)).trans h.s, (hb.block _ (by omega)).trans h.x, h.args.below stays_x hb, h.low.trans (hb.mono h.low.size), h.lt, Nat.le_trans h.sz hb.size⟩
theorem Lc.set0 (h : Lc wr sb xb B scs x0 x1 x2 Aa ca al x4 x5 U) (y : Value) : Lc wr sb xb B scs y x1 x2 Aa ca al x4 x5 (U.setCell ⟨xb, 0, none⟩ y) := by
  obtain ⟨l1, l2, l3⟩ := h.lt
  refine ⟨?_, ?_, h.args.keep stays_x (keep_set 0 _ (by omega)), h.low.setCell (p := ⟨xb, 0, none⟩) (by simp; omega) _, h.lt, by have := h.sz; simp [World.setCell]; exact this⟩
  · rw [Below.heap_setCell _ _ _ _ (by simp; omega)]; exact h.s
  · simp [World.setCell, Array.getElem?_modify, h.x]
theorem Lc.set1 (h : Lc wr sb xb B scs x0 x1 x2 Aa ca al x4 x5 U) (y : Value) : Lc wr sb xb B scs x0 y x2 Aa ca al x4 x5 (U.setCell ⟨xb, 1, none⟩ y) := by
  obtain ⟨l1, l2, l3⟩ := h.lt
  refine ⟨?_, ?_, h.args.keep stays_x (keep_set 1 _ (by omega)), h.low.setCell (p := ⟨xb, 1, none⟩) (by simp; omega) _, h.lt, by have := h.sz; simp [World.setCell]; exact this⟩
  · rw [Below.heap_setCell _ _ _ _ (by simp; omega)]; exact h.s
  · simp [World.setCell, Array.getElem?_modify, h.x]
theorem Lc.set4 (h : Lc wr sb xb B scs x0 x1 x2 Aa ca al x4 x5 U) (y : Value) : Lc wr sb xb B scs x0 x1 x2 Aa ca al y x5 (U.setCell ⟨xb, 4, none⟩ y) := by
  obtain ⟨l1, l2, l3⟩ := h.lt
  refine ⟨?_, ?_, h.args.keep stays_x (keep_set 4 _ (by omega)), h.low.setCell (p := ⟨xb, 4, none⟩) (by simp; omega) _, h.lt, by have := h.sz; simp [World.setCell]; exact this⟩
  · rw [Below.heap_setCell _ _ _ _ (by simp; omega)]; exact h.s
  · simp [World.setCell, Array.getElem?_modify, h.x]
theorem Lc.set5 (h : Lc wr sb xb B scs x0 x1 x2 Aa ca al x4 x5 U) (y : Value) : Lc wr sb xb B scs x0 x1 x2 Aa ca al x4 y (U.setCell ⟨xb, 5, none⟩ y) := by
  obtain ⟨l1, l2, l3⟩ := h.lt
  refine ⟨?_, ?_, h.args.keep stays_x (keep_set 5 _ (by omega)), h.low.setCell (p := ⟨xb, 5, none⟩) (by simp; omega) _, h.lt, by have := h.sz; simp [World.setCell]; exact this⟩
  · rw [Below.heap_setCell _ _ _ _ (by simp; omega)]; exact h.s
  · simp [World.setCell, Array.getElem?_modify, h.x]
end
mutual
theorem stR_len (t : List Nm) (tx : List S) : ∀ (a : Ps) (lo : List S), (stR t tx lo a).2.length ≤ lo.length + locs1 a
  | .mk k n s ar b e, lo => by
    unfold stR locs1 mine
    by_cases c2 : k = 2
    · rw [if_pos c2, if_pos c2]; simp
    rw [if_neg c2, if_neg c2]
    by_cases c3 : k = 3
    · rw [if_pos c3]; simp
    rw [if_neg c3]
    by_cases c4 : k = 4
    · rw [if_pos c4]; simp
    rw [if_neg c4]
    by_cases c5 : k = 5
    · rw [if_pos c5]; simp
    rw [if_neg c5]
    by_cases c6 : k = 6
    · rw [if_pos c6]; simp
    rw [if_neg c6]
    by_cases c17 : k = 17
    · rw [if_pos c17]; simp
    rw [if_neg c17]
    by_cases c18 : k = 18
    · rw [if_pos c18]; simp
    rw [if_neg c18]
    by_cases c11 : k = 11
    · rw [if_pos c11, if_pos c11]; simp
    rw [if_neg c11, if_neg c11]
    simp
theorem rowR_len (t : List Nm) (tx : List S) : ∀ (l : List Ps) (lo : List S), (rowR t tx lo l).2.length ≤ lo.length + locs l
  | [], lo => by simp [rowR]
  | a :: l, lo => by
    have h1 := stR_len t tx a lo
    have h2 := rowR_len t tx l (stR t tx lo a).2
    simp only [rowR, locs]
    omega
end
theorem rowR_snoc (t : List Nm) (tx : List S) : ∀ (l : List Ps) (lo : List S) (x : Ps), rowR t tx lo (l ++ [x]) = ((rowR t tx lo l).1 ++ [(stR t tx (rowR t tx lo l).2 x).1], (stR t tx (rowR t tx lo l).2 x).2)
  | [], lo, x => by simp [rowR]
  | a :: l, lo, x => by
    rw [List.cons_append]
    unfold rowR
    rw [rowR_snoc t tx l]
    rfl
theorem keep_rd {A : Option Addr} {q : Nat} {l : List S} {w w' : World} {v : Value} (h : Sq.Rd sv w A q l) (hg : w.grownBy w' v.ownBlock) (hn : ∀ a, A = some a → 0 < q → v.ownBlock ≠ some a.block) : Sq.Rd sv w' A q l :=
  ⟨h.1, fun h0 => by
    obtain ⟨b, o, e, hb, hc⟩ := h.2 h0
    exact ⟨b, o, e, Nat.lt_of_lt_of_le hb hg.size, fun i x hx => (World.cell?_of_block (hg.block b hb (fun c => hn _ e h0 c.symm))).trans (hc i x hx)⟩⟩
theorem keep_nb {A : Option Addr} {q : Nat} {l : List S} {w : World} {v v' : Value} (h : Sq.Rd sv w A q l) (hv : v'.ownBlock = v.ownBlock ∨ v'.ownBlock = some w.heap.size) (hn : ∀ a, A = some a → 0 < q → v.ownBlock ≠ some a.block) : ∀ a, A = some a → 0 < q → v'.ownBlock ≠ some a.block := fun a ha h0 c => by
  obtain ⟨b, o, e, hb, _⟩ := h.2 h0
  rw [ha] at e
  injection e with e
  subst e
  rcases hv with e | e
  · rw [e] at c; exact hn _ ha h0 c
  · rw [e] at c
    injection c with c
    have c2 : w.heap.size = b := c
    omega
theorem new_nb {A : Option Addr} {q c : Nat} {l : List S} {w w' : World} {vo : Value} (ho : Sq.Own sv 9 w' w.heap.size (.slice A q c) l) (h : ∀ g, vo.ownBlock = some g → g < w.heap.size) : ∀ a, A = some a → 0 < q → vo.ownBlock ≠ some a.block := fun a ha _ cc => by
  have h1 := (World.ownsRow.lt ho a.block (by rw [ha]; rfl)).1
  have := h _ cc
  omega
def BlkR (t : List Nm) (tx : List S) (A1 A2 : Option Addr) (n1 c1 n2 c2 : Nat) (l : List St) : Prop := ∀ (A A3 : Option Addr) (c n3 c3 : Nat) (w : World) (lo : List S), Env w A1 n1 t A2 n2 tx A3 n3 lo → Ls top w A c l → nB (stPs l) ≤ 1048576 → lo.length + 2 * nB (stPs l) ≤ 4194304 →
  Calls Try.prog 14 #[.slice A1 n1 c1, .slice A2 n2 c2, .slice A3 n3 c3, .slice A l.length c] w (StV (rowR t tx lo (stPs l)).1 w)
set_option maxRecDepth 100000 in
set_option maxHeartbeats 16000000 in
theorem block_r (t : List Nm) (tx : List S) (A1 A2 : Option Addr) (n1 c1 n2 c2 : Nat) : ∀ (N : Nat) (l : List St), nB (stPs l) ≤ N → BlkR t tx A1 A2 n1 c1 n2 c2 l := by
  intro N
  induction N using Nat.strongRecOn with
  | _ N ihN =>
    intro l hlN A A3' c n3 c3' w lo henv0 hl0 hnB hszl
    have HE := Lib.hid henv0
    have HL := Lib.hid hl0
    have HIH := Lib.hid (show ∀ l' : List St, nB (stPs l') < N → BlkR t tx A1 A2 n1 c1 n2 c2 l' from fun l' h => ihN _ h l' (Nat.le_refl _))
    have HSZ := Lib.hid (show nB (stPs l) ≤ N ∧ nB (stPs l) ≤ 1048576 ∧ lo.length + 2 * nB (stPs l) ≤ 4194304 from ⟨hlN, hnB, hszl⟩)
    have hll : l.length ≤ 1048576 := by
      have h1 := sum_len (m := fun x : St => nS x.p) (fun x => by cases x; unfold St.p nS; omega) l
      rw [← nB_sum] at h1
      omega
    obtain ⟨m, hm⟩ : ∃ m, l.length = m := ⟨_, rfl⟩
    have HM := Lib.hid hm
    rw [hm] at hll ⊢
    clear hm ihN hlN henv0 hl0 hnB hszl
    go_enter Try.func14, Try.ntmps14
    go_wp2_with fail
    go_loopw [2, 9, 10] (fun lv vo iv wr => ∃ (j : Nat) (A3 : Option Addr) (q3 c3 : Nat) (vw : Value) (out : List St), j ≤ m ∧ Value.slice A3 q3 c3 = lv ∧ vw = vo ∧ Hid (∀ a, A3 = some a → 0 < q3 → vw.ownBlock ≠ some a.block) ∧ iv = .int .i64 (j : Int) ∧ Sq.Rd sv wr A3 q3 (rowR t tx lo (stPs (l.take j))).2 ∧ Ow stE RdS 6 46 (fun b => w.heap.size ≤ b) wr w.heap.size vw out ∧ stPs out = (rowR t tx lo (stPs (l.take j))).1 ∧ out.length = j ∧ Below w.heap.size w wr) (fun _ _ iv _ => m - (intOf iv).toNat)
    case atStart =>
      refine ⟨0, A3', n3, c3', _, [], Nat.zero_le _, rfl, rfl, Lib.hid (fun _ _ _ h => by simp [Value.ownBlock] at h), rfl, ?_, Ow.nil _ _, ?_, rfl, Below.refl _ _⟩
      · simp only [List.take_zero, stPs, rowR]; exact HE.out.l
      · simp only [List.take_zero, stPs, rowR]
    case round =>
      obtain ⟨j, A3, q3, c3, vo, out, hj, rfl, rfl, HNB, rfl, hlr, how, hps, hol, hlow⟩ := hrel
      obtain ⟨wh, rfl⟩ : ∃ W, W = wr := ⟨_, rfl⟩
      have HOW := Lib.hid how
      have HPS := Lib.hid hps
      have HLW := Lib.hid hlow
      have HOL := Lib.hid hol
      clear how hps hlow hol
      by_cases hlt : j < m
      · have hjl : j < l.length := by rw [HM.out]; exact hlt
        obtain ⟨bl_, ol, rfl, hbl, hc⟩ := Lg.at_ stE_len (HL.out.keep stays_s (Keep.below HLW.out)) hjl
        obtain ⟨⟨k, n, s, Aa, ca, ar, Ab, cb, b, Ae, ce, e⟩, hy⟩ : ∃ y, l[j] = y := ⟨_, rfl⟩
        have hmem : l[j] ∈ l := List.getElem_mem hjl
        have htk := take_nB hjl
        have HNX := Lib.hid (show rowR t tx lo (stPs (l.take (j + 1))) = ((rowR t tx lo (stPs (l.take j))).1 ++ [(stR t tx (rowR t tx lo (stPs (l.take j))).2 (St.mk k n s Aa ca ar Ab cb b Ae ce e).p).1], (stR t tx (rowR t tx lo (stPs (l.take j))).2 (St.mk k n s Aa ca ar Ab cb b Ae ce e).p).2) by
          rw [List.take_succ_eq_append_getElem hjl, stPs_app, hy, ← rowR_snoc]; rfl)
        rw [hy] at hc hmem htk
        have HOP := Lib.hid ((HL.out.2 _ hmem).open_)
        have c0 : wh.cell? ⟨bl_, ol + j * 6, none⟩ = some (.int .i64 k) := hc 0 _ rfl
        have c1' : wh.cell? ⟨bl_, ol + j * 6 + 1, none⟩ = some (.int .i64 n) := hc 1 _ rfl
        have c2' : wh.cell? ⟨bl_, ol + j * 6 + 2, none⟩ = some (.string (str s)) := hc 2 _ rfl
        have c3'' : wh.cell? ⟨bl_, ol + j * 6 + 3, none⟩ = some (.slice Aa ar.length ca) := hc 3 _ rfl
        have c4' : wh.cell? ⟨bl_, ol + j * 6 + 4, none⟩ = some (.slice Ab b.length cb) := hc 4 _ rfl
        have c5' : wh.cell? ⟨bl_, ol + j * 6 + 5, none⟩ = some (.slice Ae e.length ce) := hc 5 _ rfl
        have k0 : (0 : Int) ≤ (j : Int) := by omega
        have k1 : (j : Int) < (m : Int) := by omega
        have hge := rowR_len t tx (stPs (l.take j)) lo
        have hgl := locs_le.2 (stPs (l.take j))
        obtain ⟨lo1, hlo1⟩ : ∃ lo1, (rowR t tx lo (stPs (l.take j))).2 = lo1 := ⟨_, rfl⟩
        rw [hlo1] at hge HNX hlr
        have hq3 : q3 = lo1.length := hlr.len
        have HQ3 := Lib.hid hq3
        unfold St.p nS at htk
        have hsz2 := HSZ.out
        have hlb := locs_le.2 (stPs b)
        have hle := locs_le.2 (stPs e)
        have HZ := Lib.hid (show q3 + 2 + 2 * nB (stPs b) + 2 * nB (stPs e) ≤ 4194304 ∧ nEs (exPs ar) ≤ 1048576 ∧ nB (stPs b) < N ∧ nB (stPs e) < N ∧ nB (stPs b) ≤ 1048576 ∧ nB (stPs e) ≤ 1048576 ∧ locs (stPs b) ≤ 2 * nB (stPs b) ∧ locs (stPs e) ≤ 2 * nB (stPs e) by omega)
        have har : ar.length ≤ 1048576 := by
          have h1 := sum_len (m := fun x : Ex => nE x.p) (fun x => nE_pos x.p) ar
          rw [← nEs_sum] at h1
          have := HZ.out.2.1
          omega
        have HLR := Lib.hid hlr
        have HEN := Lib.hid (show Env wh A1 n1 t A2 n2 tx A3 q3 lo1 from ⟨HE.out.t.below HLW.out, HE.out.x.below HLW.out, hlr, HE.out.n1, HE.out.n2, by have := HZ.out.1; omega⟩)
        obtain ⟨w1, hw1⟩ : ∃ W, wh.alloc (.cells #[.int .i64 k, .int .i64 n, .string (str s), .slice Aa ar.length ca, .slice Ab b.length cb, .slice Ae e.length ce] 46) = W := ⟨_, rfl⟩
        obtain ⟨m1, s1, b1⟩ := made hw1
        have HM1 := Lib.hid (And.intro m1 (And.intro s1 b1))
        obtain ⟨x0, x1, x2, x3, x4, x5, xf⟩ := cells6 m1
        clear hc hy hmem htk hge hgl hq3 hsz2 hlb hle m1 s1 b1 hjl hlr
        go_upto_region 7 with fail
        clear c0 c1' c2' c3'' c4' c5' x0 x1 x2 x3 x4 x5 xf
        obtain ⟨w2, hw2⟩ : ∃ W, w1.alloc (.cells #[.int .i64 k, .int .i64 n, .string ⟨#[]⟩, .slice none 0 0, .slice none 0 0, .slice none 0 0] 46) = W := ⟨_, rfl⟩
        rw [hw2]
        have HA0 := Lib.hid (show La wh wh.heap.size w1.heap.size w2.heap.size #[.int .i64 k, .int .i64 n, .string (str s), .slice Aa ar.length ca, .slice Ab b.length cb, .slice Ae e.length ce] (.int .i64 k) (.int .i64 n) (.string ⟨#[]⟩) (.slice none 0 0) (.slice none 0 0) (.slice none 0 0) [] w2 by
          obtain ⟨m1, s1, b1⟩ := HM1.out
          obtain ⟨m2, s2, b2⟩ := made hw2
          exact ⟨(b2.block _ (by omega)).trans m1, m2, Ow.nil _ _, b1.trans (b2.mono (by omega)), Nat.le_refl _, ⟨Nat.le_refl _, by omega, by omega⟩⟩)
        clear hw1 hw2 hlo1
        generalize w1.heap.size = xb at HA0
        generalize hBq : w2.heap.size = B at HA0
        clear hBq
        go_wp2_with fail
        go_loopw [13] (fun iv wr => ∃ (i : Nat) (v : Value) (al : List Ex), i ≤ ar.length ∧ iv = .int .i64 (i : Int) ∧ al.length = i ∧ Hid (al.map Ex.p = (ar.take i).map fun x => bindE (exR t tx lo1) x.p) ∧ La wh wh.heap.size xb B #[.int .i64 k, .int .i64 n, .string (str s), .slice Aa ar.length ca, .slice Ab b.length cb, .slice Ae e.length ce] (.int .i64 k) (.int .i64 n) (.string ⟨#[]⟩) v (.slice none 0 0) (.slice none 0 0) al wr) (fun iv _ => ar.length - (intOf iv).toNat)
        case atStart => exact ⟨0, _, [], Nat.zero_le _, rfl, rfl, Lib.hid rfl, HA0.out⟩
        case round =>
          obtain ⟨i, v, al, hi, rfl, hal, HP, hla⟩ := hrel
          have HLA := Lib.hid hla
          clear hla
          obtain rfl : al.length = i := hal
          obtain ⟨Av, cv, rfl, _, _⟩ := HLA.out.own.own.shape
          obtain ⟨x0, x1, x2, x3, x4, x5, xf⟩ := cells6 HLA.out.s
          by_cases hlt2 : al.length < ar.length
          · have HWU := Lib.hid (HLW.out.trans (HLA.out.low.mono HLW.out.size))
            obtain ⟨b2, o2, rfl, hbb, hc⟩ := Lg.at_ exE_len (show Lx top w Aa ca ar from HOP.out.1) hlt2
            obtain ⟨⟨k2, p2, q2, s2, A4, c4, ar2⟩, hy⟩ : ∃ y, ar[al.length] = y := ⟨_, rfl⟩
            have hmem : ar[al.length] ∈ ar := List.getElem_mem hlt2
            have HNY := Lib.hid (show (ar.take (al.length + 1)).map (fun x => bindE (exR t tx lo1) x.p) = (ar.take al.length).map (fun x => bindE (exR t tx lo1) x.p) ++ [bindE (exR t tx lo1) (Ex.mk k2 p2 q2 s2 A4 c4 ar2).p] by
              rw [List.take_succ_eq_append_getElem hlt2, List.map_append, hy]; rfl)
            rw [hy] at hc hmem
            have HME := Lib.hid (show RdX top w (Ex.mk k2 p2 q2 s2 A4 c4 ar2) ∧ nE (Ex.mk k2 p2 q2 s2 A4 c4 ar2).p ≤ 1048576 from ⟨HOP.out.1.2 _ hmem, by
              have h1 := sum_mem (m := fun x : Ex => nE x.p) ar _ hmem
              rw [← nEs_sum] at h1
              have := HZ.out.2.1
              omega⟩)
            have hc0 := (show w.cell? ⟨b2, o2 + al.length * 5, none⟩ = some (.int .i64 k2) ∧ w.cell? ⟨b2, o2 + al.length * 5 + 1, none⟩ = some (.int .i64 p2) ∧ w.cell? ⟨b2, o2 + al.length * 5 + 2, none⟩ = some (.int .i64 q2) ∧ w.cell? ⟨b2, o2 + al.length * 5 + 3, none⟩ = some (.string (str s2)) ∧ w.cell? ⟨b2, o2 + al.length * 5 + 4, none⟩ = some (.slice A4 ar2.length c4) from ⟨hc 0 _ rfl, hc 1 _ rfl, hc 2 _ rfl, hc 3 _ rfl, hc 4 _ rfl⟩)
            have i0 : (0 : Int) ≤ (al.length : Int) := by omega
            have i1 : (al.length : Int) < (ar.length : Int) := by omega
            clear hc hy hmem
            go_upto_region 10 with fail
            clear x0 x1 x2 x3 x4 x5 xf
            have hlA := HLA.out.lt
            have hszA := HLA.out.sz
            have hww := HLW.out.size
            obtain ⟨Sx, hSx⟩ : ∃ Sx : World → Prop, (fun U : World => U.heap[xb]? = some (.cells #[.int .i64 k, .int .i64 n, .string ⟨#[]⟩, .slice Av al.length cv, .slice none 0 0, .slice none 0 0] 46 (0, 0)) ∧ U.heap[wh.heap.size]? = some (.cells #[.int .i64 k, .int .i64 n, .string (str s), .slice (some ⟨b2, o2, none⟩) ar.length ca, .slice Ab b.length cb, .slice Ae e.length ce] 46 (0, 0)) ∧ (U.cell? ⟨b2, o2 + al.length * 5, none⟩ = some (.int .i64 k2) ∧ U.cell? ⟨b2, o2 + al.length * 5 + 1, none⟩ = some (.int .i64 p2) ∧ U.cell? ⟨b2, o2 + al.length * 5 + 2, none⟩ = some (.int .i64 q2) ∧ U.cell? ⟨b2, o2 + al.length * 5 + 3, none⟩ = some (.string (str s2)) ∧ U.cell? ⟨b2, o2 + al.length * 5 + 4, none⟩ = some (.slice A4 ar2.length c4))) = Sx := ⟨_, rfl⟩
            have HSB := Lib.hid (show ∀ U, Below B wr U → Sx U from fun U hU => by
              rw [← hSx]
              refine ⟨(hU.block _ (by omega)).trans HLA.out.x, (hU.block _ (by omega)).trans HLA.out.s, ?_⟩
              have hcell : ∀ p, U.cell? ⟨b2, p, none⟩ = w.cell? ⟨b2, p, none⟩ := fun p => (hU.cell (p := ⟨b2, p, none⟩) (by show b2 < B; omega)).trans (HWU.out.cell (p := ⟨b2, p, none⟩) hbb)
              rw [hcell, hcell, hcell, hcell, hcell]
              exact hc0)
            have HSa := Lib.hid (show ∀ U, Sx U → U.heap[xb]? = some (.cells #[.int .i64 k, .int .i64 n, .string ⟨#[]⟩, .slice Av al.length cv, .slice none 0 0, .slice none 0 0] 46 (0, 0)) from fun U h => by rw [← hSx] at h; exact h.1)
            have HSe := Lib.hid (show ∀ U, Sx U → U.heap[wh.heap.size]? = some (.cells #[.int .i64 k, .int .i64 n, .string (str s), .slice (some ⟨b2, o2, none⟩) ar.length ca, .slice Ab b.length cb, .slice Ae e.length ce] 46 (0, 0)) from fun U h => by rw [← hSx] at h; exact h.2.1)
            have HSc := Lib.hid (show ∀ U, Sx U → (U.cell? ⟨b2, o2 + al.length * 5, none⟩ = some (.int .i64 k2) ∧ U.cell? ⟨b2, o2 + al.length * 5 + 1, none⟩ = some (.int .i64 p2) ∧ U.cell? ⟨b2, o2 + al.length * 5 + 2, none⟩ = some (.int .i64 q2) ∧ U.cell? ⟨b2, o2 + al.length * 5 + 3, none⟩ = some (.string (str s2)) ∧ U.cell? ⟨b2, o2 + al.length * 5 + 4, none⟩ = some (.slice A4 ar2.length c4)) from fun U h => by rw [← hSx] at h; exact h.2.2)
            have hB0 : Below B wr wr.drew := Below.drew (Below.refl _ _)
            have hO0 := HLA.out.own.below stays_x (Below.drew (Below.refl wr.heap.size wr))
            have hS0 : Sx wr.drew := HSB.out _ hB0
            have hlo : ∀ g, (Value.slice Av al.length cv).ownBlock = some g → g < wr.heap.size := fun g hg => (HLA.out.own.lt hg).2
            have HD0 := Lib.hid (show al.length ≤ 1048576 by omega)
            have HWB := Lib.hid (show w.heap.size ≤ B ∧ wh.heap.size ≤ B from ⟨by omega, by omega⟩)
            clear hSx hc0
            refine RgD.begin_ [13, 14] Sx (by kernel_rfl) hS0 (fun hHeld => ?_)
            refine RgD.take (i := 0) (t := 36) rfl rfl (by kernel_rfl) (by kernel_rfl) (by kernel_rfl) (by kernel_rfl) (fun _ _ _ h => h) (by rfl) (by intro w0 hSw; first | (go_simp; done) | (go_simp; with_reducible rfl) | (go_simp; intro hc; exfalso; omega)) (by assumption) ?_
            simp only [List.setIfInBounds_toArray, List.set_cons_zero, List.set_cons_succ]
            refine RgD.take (i := 1) (t := 37) (v := .slice Av al.length cv) rfl rfl (by kernel_rfl) (by kernel_rfl) (by kernel_rfl) (by kernel_rfl) (fun _ _ _ h => h) (by rfl) (by intro w0 hSw; obtain ⟨z0, z1, z2, z3, z4, z5, zf⟩ := cells6 (HSa.out _ hSw); first | (go_simp; done) | (go_simp; with_reducible rfl) | (go_simp; intro hc; exfalso; omega)) (by assumption) ?_
            simp only [List.setIfInBounds_toArray, List.set_cons_zero, List.set_cons_succ]
            refine RgD.take (i := 2) (t := 38) rfl rfl (by kernel_rfl) (by kernel_rfl) (by kernel_rfl) (by kernel_rfl) (fun _ _ _ h => h) (by rfl) (by intro w0 hSw; first | (go_simp; done) | (go_simp; with_reducible rfl) | (go_simp; intro hc; exfalso; omega)) (by assumption) ?_
            simp only [List.setIfInBounds_toArray, List.set_cons_zero, List.set_cons_succ]
            refine RgD.take (i := 3) (t := 39) rfl rfl (by kernel_rfl) (by kernel_rfl) (by kernel_rfl) (by kernel_rfl) (fun _ _ _ h => h) (by rfl) (by intro w0 hSw; first | (go_simp; done) | (go_simp; with_reducible rfl) | (go_simp; intro hc; exfalso; omega)) (by assumption) ?_
            simp only [List.setIfInBounds_toArray, List.set_cons_zero, List.set_cons_succ]
            refine RgD.take (i := 4) (t := 40) rfl rfl (by kernel_rfl) (by kernel_rfl) (by kernel_rfl) (by kernel_rfl) (fun _ _ _ h => h) (by rfl) (by intro w0 hSw; first | (go_simp; done) | (go_simp; with_reducible rfl) | (go_simp; intro hc; exfalso; omega)) (by assumption) ?_
            simp only [List.setIfInBounds_toArray, List.set_cons_zero, List.set_cons_succ]
            refine RgD.take (i := 5) (t := 41) rfl rfl (by kernel_rfl) (by kernel_rfl) (by kernel_rfl) (by kernel_rfl) (fun _ _ _ h => h) (by rfl) (by intro w0 hSw; first | (go_simp; done) | (go_simp; with_reducible rfl) | (go_simp; intro hc; exfalso; omega)) (by assumption) ?_
            simp only [List.setIfInBounds_toArray, List.set_cons_zero, List.set_cons_succ]
            refine RgD.take (i := 6) (t := 42) (v := .slice (some ⟨b2, o2, none⟩) ar.length ca) rfl rfl (by kernel_rfl) (by kernel_rfl) (by kernel_rfl) (by kernel_rfl) (fun _ _ _ h => h) (by rfl) (by intro w0 hSw; obtain ⟨z0, z1, z2, z3, z4, z5, zf⟩ := cells6 (HSe.out _ hSw); first | (go_simp; done) | (go_simp; with_reducible rfl) | (go_simp; intro hc; exfalso; omega)) (by assumption) ?_
            simp only [List.setIfInBounds_toArray, List.set_cons_zero, List.set_cons_succ]
            refine RgD.take (i := 7) (t := 43) rfl rfl (by kernel_rfl) (by kernel_rfl) (by kernel_rfl) (by kernel_rfl) (fun _ _ _ h => h) (by rfl) (by intro w0 hSw; first | (go_simp; done) | (go_simp; with_reducible rfl) | (go_simp; intro hc; exfalso; omega)) (by assumption) ?_
            simp only [List.setIfInBounds_toArray, List.set_cons_zero, List.set_cons_succ]
            refine RgD.take (i := 8) (t := 44) (v := .pointer (some ⟨b2, o2 + al.length * 5, none⟩)) rfl rfl (by kernel_rfl) (by kernel_rfl) (by kernel_rfl) (by kernel_rfl) (fun _ _ _ h => h) (by rfl) (by intro w0 hSw; first | (go_simp; done) | (go_simp; with_reducible rfl) | (go_simp; intro hc; exfalso; omega)) (by assumption) ?_
            simp only [List.setIfInBounds_toArray, List.set_cons_zero, List.set_cons_succ]
            refine RgD.take (i := 9) (t := 45) (v := .agg #[.int .i64 k2, .int .i64 p2, .int .i64 q2, .string (str s2), .slice A4 ar2.length c4]) rfl rfl (by kernel_rfl) (by kernel_rfl) (by kernel_rfl) (by kernel_rfl) (fun _ _ _ h => h) (by rfl) (by intro w0 hSw; obtain ⟨z0, z1, z2, z3, z4⟩ := HSc.out _ hSw; first | (go_simp; done) | (go_simp; with_reducible rfl) | (go_simp; intro hc; exfalso; omega)) (by assumption) ?_
            simp only [List.setIfInBounds_toArray, List.set_cons_zero, List.set_cons_succ]
            refine RgD.one (i := 10) (by kernel_rfl) ?_
            refine RgD.call (i := 10) (t := 46) rfl rfl (by rfl) (by go_simp; exact ⟨rfl, rfl⟩) ?_
            refine (expr_r t tx lo1 A1 A2 A3 n1 c1 n2 c2 q3 c3 _ wr.drew (HEN.out.below (HLA.out.low.trans (hB0.mono HWB.out.2))) (HME.out.1.keep (Keep.below (HWU.out.trans (hB0.mono HWB.out.1)))) HME.out.2).mono ?_
            rintro r w5 ⟨x, rfl, hx, hpx, hb⟩
            have hs0 : wr.heap.size ≤ wr.drew.heap.size := Nat.le_refl _
            have hB1 := hB0.trans (hb.mono (by omega))
            have hO1 := hO0.below stays_x hb
            have hS1 := HSB.out _ hB1
            have hz1 := hb.size
            have hx1 : RdX (fun b => B ≤ b ∧ (Value.slice Av al.length cv).ownBlock ≠ some b) w5 x := hx.keep (Keep.weak fun b hb1 _ => ⟨by omega, fun hc => by have := hlo b hc; omega⟩)
            have HPX := Lib.hid hpx
            clear hb hx hpx
            obtain ⟨xk, xo, xn, xs, xA, xc, xr⟩ := x
            refine ⟨.agg #[.int .i64 xk, .int .i64 xo, .int .i64 xn, .string (str xs), .slice xA xr.length xc], rfl, hS1, ?_⟩
            simp only [List.setIfInBounds_toArray, List.set_cons_zero, List.set_cons_succ]
            refine RgD.one (i := 11) (by kernel_rfl) ?_
            obtain ⟨w6, hw⟩ : ∃ W, w5.alloc (.cells #[.int .i64 xk, .int .i64 xo, .int .i64 xn, .string (str xs), .slice xA xr.length xc] 49) = W := ⟨_, rfl⟩
            have hb := (made hw).2.2
            have hB2 := hB1.trans (hb.mono (by omega))
            have hO2 := hO1.below stays_x hb
            have hS2 := HSB.out _ hB2
            have hx2 := hx1.keep (Keep.below hb)
            have hz2 := hb.size
            have hz : Sk.Rd exE w6 (some ⟨w5.heap.size, 0, none⟩) 1 [Ex.mk xk xo xn xs xA xc xr] := by rw [← hw]; exact Sk.rd_lit (enc := exE) _ 49 [Ex.mk xk xo xn xs xA xc xr] _ rfl 1 rfl
            refine RgD.eff (i := 11) (t := 47) (v := .slice (some ⟨w5.heap.size, 0, none⟩) 1 1) (w1 := w6) rfl rfl (by rfl) (by first | (go_simp; done) | (go_simp; with_reducible rfl) | (go_simp; rw [hw]; rfl)) hS2 ?_
            simp only [List.setIfInBounds_toArray, List.set_cons_zero, List.set_cons_succ]
            clear hb hw
            refine RgD.one (i := 12) (by kernel_rfl) ?_
            refine RgD.app elX (i := 12) (t := 48) (.tmp 37) (.tmp 47) rfl rfl (by rfl) rfl rfl hO2.own (some ⟨w5.heap.size, 0, none⟩) 1 1 [Ex.mk xk xo xn xs xA xc xr] rfl hz (by have := HD0.out; unfold maxLen; omega) (by have := HD0.out; omega) (by omega) ?_
            intro v7 w7 ho7 hb7 hg7 hv7
            have hO3 := Ow.append stays_x hO2 ho7 hg7 hv7 (show B ≤ w6.heap.size by omega) (fun y hy => by obtain rfl : y = Ex.mk xk xo xn xs xA xc xr := (by simpa using hy); exact hx2)
            have hB3 := hB2.trans hb7
            have hS3 := HSB.out _ hB3
            refine ⟨hS3, ?_⟩
            simp only [List.setIfInBounds_toArray, List.set_cons_zero, List.set_cons_succ]
            obtain ⟨A7, c7, rfl, _, _⟩ := ho7.shape
            have e7 : (al ++ [Ex.mk xk xo xn xs xA xc xr]).length = al.length + 1 := by simp
            rw [e7] at hO3 ⊢
            have HNL := Lib.hid (HLA.out.next hB3 hO3)
            obtain ⟨a0, a1, a2, a3, a4, a5, af⟩ := cells6 (HSa.out _ hS3)
            refine RgD.take0 (i := 13) (t := 49) rfl rfl (by kernel_rfl) (by kernel_rfl) (by kernel_rfl) (by kernel_rfl) (fun _ _ _ h => h) (by rfl) (by intro w0; first | (go_simp; done) | (go_simp; with_reducible rfl) | (go_simp; intro hc; exfalso; omega)) ?_
            simp only [List.setIfInBounds_toArray, List.set_cons_zero, List.set_cons_succ]
            refine RgD.one (i := 14) (by kernel_rfl) ?_
            refine RgD.store (i := 14) (w1 := w7.setCell ⟨xb, 3, none⟩ (.slice A7 (al.length + 1) c7)) rfl rfl (by rfl) (by kernel_rfl) (by first | (go_simp; done) | (go_simp; with_reducible rfl)) ?_
            refine RgD.done (by kernel_rfl) ?_ _
            clear a0 a1 a2 a3 a4 a5 af
            go_wp2_with fail
            go_roundw
            case rel => exact ⟨al.length + 1, _, al ++ [Ex.mk xk xo xn xs xA xc xr], by omega, by go_num, by simp, Lib.hid (by rw [List.map_append, HP.out, HNY.out, ← HPX.out]; rfl), HNL.out⟩
            case measure => simp [intOf]; omega
          · obtain hie : al.length = ar.length := by omega
            have HQ := Lib.hid (show exPs al = bindEs (exR t tx lo1) (exPs ar) by
              rw [exPs_map, HP.out, List.take_of_length_le (by omega), bindEs_map, exPs_map, List.map_map]; rfl)
            obtain ⟨u6, rfl⟩ : ∃ W, W = wr := ⟨_, rfl⟩
            have HC6 := Lib.hid (Lc.of HLA.out)
            have HXL := Lib.hid (show wh.heap.size < xb ∧ xb < B ∧ B ≤ u6.heap.size from ⟨HLA.out.lt.2.1, HLA.out.lt.2.2, HLA.out.sz⟩)
            obtain ⟨y0, y1, y2, y3, y4, y5, yf⟩ := cells6 HC6.out.x
            have k9 : ¬ ((al.length : Int) < (ar.length : Int)) := by omega
            have HE6 := Lib.hid (HEN.out.below HC6.out.low)
            clear hie
            by_cases h2 : k = 2
            · subst h2
              obtain ⟨u7, hu7⟩ : ∃ W, u6.setCell ⟨xb, 1, none⟩ (.int .i64 (q3 : Int)) = W := ⟨_, rfl⟩
              have HC7 := Lib.hid (hu7 ▸ HC6.out.set1 (.int .i64 (q3 : Int)))
              obtain ⟨z0, z1, z2, z3, z4, z5, zf⟩ := cells6 HC7.out.s
              have HLR7 := Lib.hid (HLR.out.below HC7.out.low)
              go_upto_region 17 with fail
              clear z0 z1 z2 z3 z4 z5 zf
              clear x0 x1 x2 x3 x4 x5 xf y0 y1 y2 y3 y4 y5 yf
              obtain ⟨z0, z1, z2, z3, z4, z5, zf⟩ := cells6 HC7.out.s
              go_wp2_with fail
              refine (seen_r lo1 s q3 _ HLR7.out (by have h1 := HQ3.out; have h2 := HZ.out.1; omega)).mono ?_
              rintro r u8 ⟨A8, c8, rfl, ho, hb⟩
              have e8 : (lo1 ++ [s]).length = lo1.length + 1 := by simp
              rw [e8] at ho ⊢
              have HC8 := Lib.hid (HC7.out.below hb)
              have HLO8 := Lib.hid ho.rd
              have HNB8 := Lib.hid (new_nb (vo := vo) ho (fun g hg => by have h2 := (HOW.out.lt hg).2; have h3 := HC7.out.low.size; omega))
              clear ho hb z0 z1 z2 z3 z4 z5 zf
              obtain ⟨ud, hud⟩ : ∃ W, u8.alloc (.cells #[.int .i64 2, .int .i64 (q3 : Int), .string ⟨#[]⟩, .slice Av al.length cv, .slice none 0 0, .slice none 0 0] 46) = W := ⟨_, rfl⟩
              have hbd := (made hud).2.2
              have hlowU := HLW.out.trans (HC8.out.low.mono HLW.out.size)
              have hOd := (HOW.out.below stays_s HC8.out.low).below stays_s hbd
              have hvo : ∀ b, wh.heap.size ≤ b → vo.ownBlock ≠ some b := fun b hb c => by have := (HOW.out.lt c).2; omega
              have hww := HLW.out.size
              have hxl := HXL.out
              have hyd : RdS (fun b => w.heap.size ≤ b ∧ vo.ownBlock ≠ some b) ud (St.mk 2 (q3 : Int) [] Av cv al none 0 [] none 0 []) := by
                have ka := (HC8.out.args.keep stays_x (Keep.below hbd)).keep stays_x (Keep.weak (K' := fun b => w.heap.size ≤ b ∧ vo.ownBlock ≠ some b) fun b hb _ => ⟨by omega, hvo b (by omega)⟩)
                exact .mk ka.1 ka.2 (Sl.nil _) (fun _ h => by cases h) (Sl.nil _) (fun _ h => by cases h)
              have HYD := Lib.hid hyd
              have HOD := Lib.hid hOd
              have HBD := Lib.hid (hlowU.trans (hbd.mono hlowU.size))
              have HLN := Lib.hid (HLO8.out.below hbd)
              have hzd : Sk.Rd stE ud (some ⟨u8.heap.size, 0, none⟩) 1 [(St.mk 2 (q3 : Int) [] Av cv al none 0 [] none 0 [])] := by rw [← hud]; exact Sk.rd_lit (enc := stE) _ 46 [(St.mk 2 (q3 : Int) [] Av cv al none 0 [] none 0 [])] _ rfl 1 rfl
              have HZD := Lib.hid hzd
              have HJ := Lib.hid (show out.length ≤ 1048576 by have := HOL.out; omega)
              clear hyd hOd hbd hzd hlowU hvo hww hxl
              obtain ⟨f0, f1, f2, f3, f4, f5, ff⟩ := cells6 HC8.out.x
              go_wp2_with (at_builtin; refine Sk.wpList_append elT rfl _ _ rfl rfl HOD.out.own (some ⟨u8.heap.size, 0, none⟩) 1 1 [(St.mk 2 (q3 : Int) [] Av cv al none 0 [] none 0 [])] rfl HZD.out (by have := HJ.out; unfold maxLen; omega) (by have := HJ.out; omega) HBD.out.size ?_; intro v9 w9 ho9 hb9 hg9 _ hv9; have HO9 := Lib.hid ho9; have HG9 := Lib.hid hg9; have HV9 := Lib.hid hv9; have HB9 := Lib.hid (HBD.out.trans hb9); clear ho9 hb9 hg9 hv9)
              go_roundw
              case rel =>
                obtain ⟨hl1, hl2⟩ := HLN.out
                have hrd := keep_rd HLN.out HG9.out HNB8.out
                have hnb := keep_nb HLN.out HV9.out HNB8.out
                have e9 : stR t tx lo1 (Ps.mk 2 n s (exPs ar) (stPs b) (stPs e)) = (St.p (St.mk 2 (q3 : Int) [] Av cv al none 0 [] none 0 []), lo1 ++ [s]) := by
                  show _ = (Ps.mk 2 (q3 : Int) [] (exPs al) (stPs []) (stPs []), lo1 ++ [s])
                  rw [HQ.out]
                  simp only [stR, stPs]
                  rw [if_pos trivial]
                  rw [HQ3.out]
                refine ⟨j + 1, _, _, _, _, out ++ [(St.mk 2 (q3 : Int) [] Av cv al none 0 [] none 0 [])], by omega, rfl, rfl, Lib.hid hnb, by go_num, ?_, ?_, ?_, by rw [List.length_append, HOL.out]; rfl, HB9.out⟩
                · rw [HNX.out]; exact (show (stR t tx lo1 (Ps.mk 2 n s (exPs ar) (stPs b) (stPs e))).2 = lo1 ++ [s] from congrArg Prod.snd e9) ▸ hrd
                · exact Ow.append stays_s HOD.out HO9.out HG9.out HV9.out HBD.out.size (fun y hy => by obtain rfl : y = (St.mk 2 (q3 : Int) [] Av cv al none 0 [] none 0 []) := (by simpa using hy); exact HYD.out)
                · rw [HNX.out, stPs_app, HPS.out]; exact congrArg (fun z => _ ++ [z]) (congrArg Prod.fst e9).symm
              case measure => simp [intOf]; omega
            by_cases h3 : k = 3
            · subst h3
              obtain ⟨pl, hpl⟩ : ∃ pl, place lo1 s = pl := ⟨_, rfl⟩
              have HPL := Lib.hid hpl
              clear hpl
              obtain ⟨x0, x1, x2, x3, x4, x5, xf⟩ := cells6 HC6.out.s
              obtain ⟨u7, hu7⟩ : ∃ W, u6.setCell ⟨xb, 1, none⟩ (.int .i64 pl) = W := ⟨_, rfl⟩
              have HC7 := Lib.hid (hu7 ▸ HC6.out.set1 (.int .i64 pl))
              obtain ⟨z0, z1, z2, z3, z4, z5, zf⟩ := cells6 HC7.out.x
              obtain ⟨g0, g1, g2, g3, g4, g5, gf⟩ := cells6 HC7.out.s
              by_cases hp : pl < 0
              · have hp2 : decide (pl < 0) = true := decide_eq_true hp
                obtain ⟨u8, hu8⟩ : ∃ W, u7.setCell ⟨xb, 0, none⟩ (.int .i64 23) = W := ⟨_, rfl⟩
                have HC8 := Lib.hid (hu8 ▸ HC7.out.set0 (.int .i64 23))
                obtain ⟨p0, p1, p2, p3, p4, p5, pf⟩ := cells6 HC8.out.x
                obtain ⟨r0, r1, r2, r3, r4, r5, rf⟩ := cells6 HC8.out.s
                have HE8 := Lib.hid (HEN.out.below HC8.out.low)
                go_upto_region 22 with (go_at_call 41; refine (place_r lo1 s _ HE6.out.l HEN.out.n3).mono ?_; rintro r u7_ ⟨rfl, rfl⟩; rw [HPL.out])
                clear z0 z1 z2 z3 z4 z5 zf g0 g1 g2 g3 g4 g5 gf x0 x1 x2 x3 x4 x5 xf y0 y1 y2 y3 y4 y5 yf
                go_wp2_with fail
                refine (number_r t 3 s _ HE8.out.t HEN.out.n1).mono ?_
                rintro r u9 ⟨rfl, hb⟩
                have HC9 := Lib.hid (HC8.out.below hb)
                clear hb p0 p1 p2 p3 p4 p5 pf r0 r1 r2 r3 r4 r5 rf
                obtain ⟨q_0, q_1, q_2, q_3, q_4, q_5, q_f⟩ := cells6 HC9.out.x
                obtain ⟨ua, hua⟩ : ∃ W, u9.setCell ⟨xb, 1, none⟩ (.int .i64 (ofN t 3 s)) = W := ⟨_, rfl⟩
                have HCa := Lib.hid (hua ▸ HC9.out.set1 (.int .i64 (ofN t 3 s)))
                have HLRa := Lib.hid (HLR.out.below HCa.out.low)
                obtain ⟨ud, hud⟩ : ∃ W, ua.alloc (.cells #[.int .i64 23, .int .i64 (ofN t 3 s), .string ⟨#[]⟩, .slice Av al.length cv, .slice none 0 0, .slice none 0 0] 46) = W := ⟨_, rfl⟩
                have hbd := (made hud).2.2
                have hlowU := HLW.out.trans (HCa.out.low.mono HLW.out.size)
                have hOd := (HOW.out.below stays_s HCa.out.low).below stays_s hbd
                have hvo : ∀ b, wh.heap.size ≤ b → vo.ownBlock ≠ some b := fun b hb c => by have := (HOW.out.lt c).2; omega
                have hww := HLW.out.size
                have hxl := HXL.out
                have hyd : RdS (fun b => w.heap.size ≤ b ∧ vo.ownBlock ≠ some b) ud (St.mk 23 (ofN t 3 s) [] Av cv al none 0 [] none 0 []) := by
                  have ka := (HCa.out.args.keep stays_x (Keep.below hbd)).keep stays_x (Keep.weak (K' := fun b => w.heap.size ≤ b ∧ vo.ownBlock ≠ some b) fun b hb _ => ⟨by omega, hvo b (by omega)⟩)
                  exact .mk ka.1 ka.2 (Sl.nil _) (fun _ h => by cases h) (Sl.nil _) (fun _ h => by cases h)
                have HYD := Lib.hid hyd
                have HOD := Lib.hid hOd
                have HBD := Lib.hid (hlowU.trans (hbd.mono hlowU.size))
                have HLN := Lib.hid (HLRa.out.below hbd)
                have hzd : Sk.Rd stE ud (some ⟨ua.heap.size, 0, none⟩) 1 [(St.mk 23 (ofN t 3 s) [] Av cv al none 0 [] none 0 [])] := by rw [← hud]; exact Sk.rd_lit (enc := stE) _ 46 [(St.mk 23 (ofN t 3 s) [] Av cv al none 0 [] none 0 [])] _ rfl 1 rfl
                have HZD := Lib.hid hzd
                have HJ := Lib.hid (show out.length ≤ 1048576 by have := HOL.out; omega)
                clear hyd hOd hbd hzd hlowU hvo hww hxl
                obtain ⟨f0, f1, f2, f3, f4, f5, ff⟩ := cells6 HCa.out.x
                go_wp2_with (at_builtin; refine Sk.wpList_append elT rfl _ _ rfl rfl HOD.out.own (some ⟨ua.heap.size, 0, none⟩) 1 1 [(St.mk 23 (ofN t 3 s) [] Av cv al none 0 [] none 0 [])] rfl HZD.out (by have := HJ.out; unfold maxLen; omega) (by have := HJ.out; omega) HBD.out.size ?_; intro v9 w9 ho9 hb9 hg9 _ hv9; have HO9 := Lib.hid ho9; have HG9 := Lib.hid hg9; have HV9 := Lib.hid hv9; have HB9 := Lib.hid (HBD.out.trans hb9); clear ho9 hb9 hg9 hv9)
                go_roundw
                case rel =>
                  obtain ⟨hl1, hl2⟩ := HLN.out
                  have hrd := keep_rd HLN.out HG9.out HNB.out
                  have hnb := keep_nb HLN.out HV9.out HNB.out
                  have e9 : stR t tx lo1 (Ps.mk 3 n s (exPs ar) (stPs b) (stPs e)) = (St.p (St.mk 23 (ofN t 3 s) [] Av cv al none 0 [] none 0 []), lo1) := by
                    show _ = (Ps.mk 23 (ofN t 3 s) [] (exPs al) (stPs []) (stPs []), lo1)
                    rw [HQ.out]
                    simp only [stR, stPs]
                    rw [if_neg (by decide), if_pos trivial]
                    rw [HPL.out, if_neg (by omega)]
                  refine ⟨j + 1, _, _, _, _, out ++ [(St.mk 23 (ofN t 3 s) [] Av cv al none 0 [] none 0 [])], by omega, rfl, rfl, Lib.hid hnb, by go_num, ?_, ?_, ?_, by rw [List.length_append, HOL.out]; rfl, HB9.out⟩
                  · rw [HNX.out]; exact (show (stR t tx lo1 (Ps.mk 3 n s (exPs ar) (stPs b) (stPs e))).2 = lo1 from congrArg Prod.snd e9) ▸ hrd
                  · exact Ow.append stays_s HOD.out HO9.out HG9.out HV9.out HBD.out.size (fun y hy => by obtain rfl : y = (St.mk 23 (ofN t 3 s) [] Av cv al none 0 [] none 0 []) := (by simpa using hy); exact HYD.out)
                  · rw [HNX.out, stPs_app, HPS.out]; exact congrArg (fun z => _ ++ [z]) (congrArg Prod.fst e9).symm
                case measure => simp [intOf]; omega
              · have hp2 : decide (pl < 0) = false := decide_eq_false hp
                go_upto_region 35 with (go_at_call 41; refine (place_r lo1 s _ HE6.out.l HEN.out.n3).mono ?_; rintro r u7_ ⟨rfl, rfl⟩; rw [HPL.out])
                clear z0 z1 z2 z3 z4 z5 zf g0 g1 g2 g3 g4 g5 gf x0 x1 x2 x3 x4 x5 xf y0 y1 y2 y3 y4 y5 yf
                have HLR7 := Lib.hid (HLR.out.below HC7.out.low)
                obtain ⟨ud, hud⟩ : ∃ W, u7.alloc (.cells #[.int .i64 3, .int .i64 pl, .string ⟨#[]⟩, .slice Av al.length cv, .slice none 0 0, .slice none 0 0] 46) = W := ⟨_, rfl⟩
                have hbd := (made hud).2.2
                have hlowU := HLW.out.trans (HC7.out.low.mono HLW.out.size)
                have hOd := (HOW.out.below stays_s HC7.out.low).below stays_s hbd
                have hvo : ∀ b, wh.heap.size ≤ b → vo.ownBlock ≠ some b := fun b hb c => by have := (HOW.out.lt c).2; omega
                have hww := HLW.out.size
                have hxl := HXL.out
                have hyd : RdS (fun b => w.heap.size ≤ b ∧ vo.ownBlock ≠ some b) ud (St.mk 3 pl [] Av cv al none 0 [] none 0 []) := by
                  have ka := (HC7.out.args.keep stays_x (Keep.below hbd)).keep stays_x (Keep.weak (K' := fun b => w.heap.size ≤ b ∧ vo.ownBlock ≠ some b) fun b hb _ => ⟨by omega, hvo b (by omega)⟩)
                  exact .mk ka.1 ka.2 (Sl.nil _) (fun _ h => by cases h) (Sl.nil _) (fun _ h => by cases h)
                have HYD := Lib.hid hyd
                have HOD := Lib.hid hOd
                have HBD := Lib.hid (hlowU.trans (hbd.mono hlowU.size))
                have HLN := Lib.hid (HLR7.out.below hbd)
                have hzd : Sk.Rd stE ud (some ⟨u7.heap.size, 0, none⟩) 1 [(St.mk 3 pl [] Av cv al none 0 [] none 0 [])] := by rw [← hud]; exact Sk.rd_lit (enc := stE) _ 46 [(St.mk 3 pl [] Av cv al none 0 [] none 0 [])] _ rfl 1 rfl
                have HZD := Lib.hid hzd
                have HJ := Lib.hid (show out.length ≤ 1048576 by have := HOL.out; omega)
                clear hyd hOd hbd hzd hlowU hvo hww hxl
                obtain ⟨f0, f1, f2, f3, f4, f5, ff⟩ := cells6 HC7.out.x
                go_wp2_with (at_builtin; refine Sk.wpList_append elT rfl _ _ rfl rfl HOD.out.own (some ⟨u7.heap.size, 0, none⟩) 1 1 [(St.mk 3 pl [] Av cv al none 0 [] none 0 [])] rfl HZD.out (by have := HJ.out; unfold maxLen; omega) (by have := HJ.out; omega) HBD.out.size ?_; intro v9 w9 ho9 hb9 hg9 _ hv9; have HO9 := Lib.hid ho9; have HG9 := Lib.hid hg9; have HV9 := Lib.hid hv9; have HB9 := Lib.hid (HBD.out.trans hb9); clear ho9 hb9 hg9 hv9)
                go_roundw
                case rel =>
                  obtain ⟨hl1, hl2⟩ := HLN.out
                  have hrd := keep_rd HLN.out HG9.out HNB.out
                  have hnb := keep_nb HLN.out HV9.out HNB.out
                  have e9 : stR t tx lo1 (Ps.mk 3 n s (exPs ar) (stPs b) (stPs e)) = (St.p (St.mk 3 pl [] Av cv al none 0 [] none 0 []), lo1) := by
                    show _ = (Ps.mk 3 pl [] (exPs al) (stPs []) (stPs []), lo1)
                    rw [HQ.out]
                    simp only [stR, stPs]
                    rw [if_neg (by decide), if_pos trivial]
                    rw [HPL.out, if_pos (by omega)]
                  refine ⟨j + 1, _, _, _, _, out ++ [(St.mk 3 pl [] Av cv al none 0 [] none 0 [])], by omega, rfl, rfl, Lib.hid hnb, by go_num, ?_, ?_, ?_, by rw [List.length_append, HOL.out]; rfl, HB9.out⟩
                  · rw [HNX.out]; exact (show (stR t tx lo1 (Ps.mk 3 n s (exPs ar) (stPs b) (stPs e))).2 = lo1 from congrArg Prod.snd e9) ▸ hrd
                  · exact Ow.append stays_s HOD.out HO9.out HG9.out HV9.out HBD.out.size (fun y hy => by obtain rfl : y = (St.mk 3 pl [] Av cv al none 0 [] none 0 []) := (by simpa using hy); exact HYD.out)
                  · rw [HNX.out, stPs_app, HPS.out]; exact congrArg (fun z => _ ++ [z]) (congrArg Prod.fst e9).symm
                case measure => simp [intOf]; omega
            by_cases h4 : k = 4
            · subst h4
              obtain ⟨x0, x1, x2, x3, x4, x5, xf⟩ := cells6 HC6.out.s
              go_upto_region 24 with fail
              go_wp2_with fail
              refine (number_r t 2 s _ HE6.out.t HEN.out.n1).mono ?_
              rintro r u7 ⟨rfl, hb⟩
              have HC7 := Lib.hid (HC6.out.below hb)
              clear hb x0 x1 x2 x3 x4 x5 xf y0 y1 y2 y3 y4 y5 yf
              obtain ⟨z0, z1, z2, z3, z4, z5, zf⟩ := cells6 HC7.out.x
              obtain ⟨u8, hu8⟩ : ∃ W, u7.setCell ⟨xb, 1, none⟩ (.int .i64 (ofN t 2 s)) = W := ⟨_, rfl⟩
              have HC8 := Lib.hid (hu8 ▸ HC7.out.set1 (.int .i64 (ofN t 2 s)))
              have HLR8 := Lib.hid (HLR.out.below HC8.out.low)
              obtain ⟨ud, hud⟩ : ∃ W, u8.alloc (.cells #[.int .i64 4, .int .i64 (ofN t 2 s), .string ⟨#[]⟩, .slice Av al.length cv, .slice none 0 0, .slice none 0 0] 46) = W := ⟨_, rfl⟩
              have hbd := (made hud).2.2
              have hlowU := HLW.out.trans (HC8.out.low.mono HLW.out.size)
              have hOd := (HOW.out.below stays_s HC8.out.low).below stays_s hbd
              have hvo : ∀ b, wh.heap.size ≤ b → vo.ownBlock ≠ some b := fun b hb c => by have := (HOW.out.lt c).2; omega
              have hww := HLW.out.size
              have hxl := HXL.out
              have hyd : RdS (fun b => w.heap.size ≤ b ∧ vo.ownBlock ≠ some b) ud (St.mk 4 (ofN t 2 s) [] Av cv al none 0 [] none 0 []) := by
                have ka := (HC8.out.args.keep stays_x (Keep.below hbd)).keep stays_x (Keep.weak (K' := fun b => w.heap.size ≤ b ∧ vo.ownBlock ≠ some b) fun b hb _ => ⟨by omega, hvo b (by omega)⟩)
                exact .mk ka.1 ka.2 (Sl.nil _) (fun _ h => by cases h) (Sl.nil _) (fun _ h => by cases h)
              have HYD := Lib.hid hyd
              have HOD := Lib.hid hOd
              have HBD := Lib.hid (hlowU.trans (hbd.mono hlowU.size))
              have HLN := Lib.hid (HLR8.out.below hbd)
              have hzd : Sk.Rd stE ud (some ⟨u8.heap.size, 0, none⟩) 1 [(St.mk 4 (ofN t 2 s) [] Av cv al none 0 [] none 0 [])] := by rw [← hud]; exact Sk.rd_lit (enc := stE) _ 46 [(St.mk 4 (ofN t 2 s) [] Av cv al none 0 [] none 0 [])] _ rfl 1 rfl
              have HZD := Lib.hid hzd
              have HJ := Lib.hid (show out.length ≤ 1048576 by have := HOL.out; omega)
              clear hyd hOd hbd hzd hlowU hvo hww hxl
              obtain ⟨f0, f1, f2, f3, f4, f5, ff⟩ := cells6 HC8.out.x
              go_wp2_with (at_builtin; refine Sk.wpList_append elT rfl _ _ rfl rfl HOD.out.own (some ⟨u8.heap.size, 0, none⟩) 1 1 [(St.mk 4 (ofN t 2 s) [] Av cv al none 0 [] none 0 [])] rfl HZD.out (by have := HJ.out; unfold maxLen; omega) (by have := HJ.out; omega) HBD.out.size ?_; intro v9 w9 ho9 hb9 hg9 _ hv9; have HO9 := Lib.hid ho9; have HG9 := Lib.hid hg9; have HV9 := Lib.hid hv9; have HB9 := Lib.hid (HBD.out.trans hb9); clear ho9 hb9 hg9 hv9)
              go_roundw
              case rel =>
                obtain ⟨hl1, hl2⟩ := HLN.out
                have hrd := keep_rd HLN.out HG9.out HNB.out
                have hnb := keep_nb HLN.out HV9.out HNB.out
                have e9 : stR t tx lo1 (Ps.mk 4 n s (exPs ar) (stPs b) (stPs e)) = (St.p (St.mk 4 (ofN t 2 s) [] Av cv al none 0 [] none 0 []), lo1) := by
                  show _ = (Ps.mk 4 (ofN t 2 s) [] (exPs al) (stPs []) (stPs []), lo1)
                  rw [HQ.out]
                  simp only [stR, stPs]
                  rw [if_neg (by decide), if_neg (by decide), if_pos trivial]
                refine ⟨j + 1, _, _, _, _, out ++ [(St.mk 4 (ofN t 2 s) [] Av cv al none 0 [] none 0 [])], by omega, rfl, rfl, Lib.hid hnb, by go_num, ?_, ?_, ?_, by rw [List.length_append, HOL.out]; rfl, HB9.out⟩
                · rw [HNX.out]; exact (show (stR t tx lo1 (Ps.mk 4 n s (exPs ar) (stPs b) (stPs e))).2 = lo1 from congrArg Prod.snd e9) ▸ hrd
                · exact Ow.append stays_s HOD.out HO9.out HG9.out HV9.out HBD.out.size (fun y hy => by obtain rfl : y = (St.mk 4 (ofN t 2 s) [] Av cv al none 0 [] none 0 []) := (by simpa using hy); exact HYD.out)
                · rw [HNX.out, stPs_app, HPS.out]; exact congrArg (fun z => _ ++ [z]) (congrArg Prod.fst e9).symm
              case measure => simp [intOf]; omega
            by_cases h5 : k = 5
            · subst h5
              obtain ⟨x0, x1, x2, x3, x4, x5, xf⟩ := cells6 HC6.out.s
              go_upto_region 27 with fail
              go_wp2_with fail
              refine (number_r t 1 s _ HE6.out.t HEN.out.n1).mono ?_
              rintro r u7 ⟨rfl, hb⟩
              have HC7 := Lib.hid (HC6.out.below hb)
              clear hb x0 x1 x2 x3 x4 x5 xf y0 y1 y2 y3 y4 y5 yf
              obtain ⟨z0, z1, z2, z3, z4, z5, zf⟩ := cells6 HC7.out.x
              obtain ⟨u8, hu8⟩ : ∃ W, u7.setCell ⟨xb, 1, none⟩ (.int .i64 (ofN t 1 s)) = W := ⟨_, rfl⟩
              have HC8 := Lib.hid (hu8 ▸ HC7.out.set1 (.int .i64 (ofN t 1 s)))
              have HLR8 := Lib.hid (HLR.out.below HC8.out.low)
              obtain ⟨ud, hud⟩ : ∃ W, u8.alloc (.cells #[.int .i64 5, .int .i64 (ofN t 1 s), .string ⟨#[]⟩, .slice Av al.length cv, .slice none 0 0, .slice none 0 0] 46) = W := ⟨_, rfl⟩
              have hbd := (made hud).2.2
              have hlowU := HLW.out.trans (HC8.out.low.mono HLW.out.size)
              have hOd := (HOW.out.below stays_s HC8.out.low).below stays_s hbd
              have hvo : ∀ b, wh.heap.size ≤ b → vo.ownBlock ≠ some b := fun b hb c => by have := (HOW.out.lt c).2; omega
              have hww := HLW.out.size
              have hxl := HXL.out
              have hyd : RdS (fun b => w.heap.size ≤ b ∧ vo.ownBlock ≠ some b) ud (St.mk 5 (ofN t 1 s) [] Av cv al none 0 [] none 0 []) := by
                have ka := (HC8.out.args.keep stays_x (Keep.below hbd)).keep stays_x (Keep.weak (K' := fun b => w.heap.size ≤ b ∧ vo.ownBlock ≠ some b) fun b hb _ => ⟨by omega, hvo b (by omega)⟩)
                exact .mk ka.1 ka.2 (Sl.nil _) (fun _ h => by cases h) (Sl.nil _) (fun _ h => by cases h)
              have HYD := Lib.hid hyd
              have HOD := Lib.hid hOd
              have HBD := Lib.hid (hlowU.trans (hbd.mono hlowU.size))
              have HLN := Lib.hid (HLR8.out.below hbd)
              have hzd : Sk.Rd stE ud (some ⟨u8.heap.size, 0, none⟩) 1 [(St.mk 5 (ofN t 1 s) [] Av cv al none 0 [] none 0 [])] := by rw [← hud]; exact Sk.rd_lit (enc := stE) _ 46 [(St.mk 5 (ofN t 1 s) [] Av cv al none 0 [] none 0 [])] _ rfl 1 rfl
              have HZD := Lib.hid hzd
              have HJ := Lib.hid (show out.length ≤ 1048576 by have := HOL.out; omega)
              clear hyd hOd hbd hzd hlowU hvo hww hxl
              obtain ⟨f0, f1, f2, f3, f4, f5, ff⟩ := cells6 HC8.out.x
              go_wp2_with (at_builtin; refine Sk.wpList_append elT rfl _ _ rfl rfl HOD.out.own (some ⟨u8.heap.size, 0, none⟩) 1 1 [(St.mk 5 (ofN t 1 s) [] Av cv al none 0 [] none 0 [])] rfl HZD.out (by have := HJ.out; unfold maxLen; omega) (by have := HJ.out; omega) HBD.out.size ?_; intro v9 w9 ho9 hb9 hg9 _ hv9; have HO9 := Lib.hid ho9; have HG9 := Lib.hid hg9; have HV9 := Lib.hid hv9; have HB9 := Lib.hid (HBD.out.trans hb9); clear ho9 hb9 hg9 hv9)
              go_roundw
              case rel =>
                obtain ⟨hl1, hl2⟩ := HLN.out
                have hrd := keep_rd HLN.out HG9.out HNB.out
                have hnb := keep_nb HLN.out HV9.out HNB.out
                have e9 : stR t tx lo1 (Ps.mk 5 n s (exPs ar) (stPs b) (stPs e)) = (St.p (St.mk 5 (ofN t 1 s) [] Av cv al none 0 [] none 0 []), lo1) := by
                  show _ = (Ps.mk 5 (ofN t 1 s) [] (exPs al) (stPs []) (stPs []), lo1)
                  rw [HQ.out]
                  simp only [stR, stPs]
                  rw [if_neg (by decide), if_neg (by decide), if_neg (by decide), if_pos trivial]
                refine ⟨j + 1, _, _, _, _, out ++ [(St.mk 5 (ofN t 1 s) [] Av cv al none 0 [] none 0 [])], by omega, rfl, rfl, Lib.hid hnb, by go_num, ?_, ?_, ?_, by rw [List.length_append, HOL.out]; rfl, HB9.out⟩
                · rw [HNX.out]; exact (show (stR t tx lo1 (Ps.mk 5 n s (exPs ar) (stPs b) (stPs e))).2 = lo1 from congrArg Prod.snd e9) ▸ hrd
                · exact Ow.append stays_s HOD.out HO9.out HG9.out HV9.out HBD.out.size (fun y hy => by obtain rfl : y = (St.mk 5 (ofN t 1 s) [] Av cv al none 0 [] none 0 []) := (by simpa using hy); exact HYD.out)
                · rw [HNX.out, stPs_app, HPS.out]; exact congrArg (fun z => _ ++ [z]) (congrArg Prod.fst e9).symm
              case measure => simp [intOf]; omega
            by_cases h6 : k = 6
            · subst h6
              obtain ⟨x0, x1, x2, x3, x4, x5, xf⟩ := cells6 HC6.out.s
              go_upto_region 27 with fail
              go_wp2_with fail
              refine (number_r t 1 s _ HE6.out.t HEN.out.n1).mono ?_
              rintro r u7 ⟨rfl, hb⟩
              have HC7 := Lib.hid (HC6.out.below hb)
              clear hb x0 x1 x2 x3 x4 x5 xf y0 y1 y2 y3 y4 y5 yf
              obtain ⟨z0, z1, z2, z3, z4, z5, zf⟩ := cells6 HC7.out.x
              obtain ⟨u8, hu8⟩ : ∃ W, u7.setCell ⟨xb, 1, none⟩ (.int .i64 (ofN t 1 s)) = W := ⟨_, rfl⟩
              have HC8 := Lib.hid (hu8 ▸ HC7.out.set1 (.int .i64 (ofN t 1 s)))
              have HLR8 := Lib.hid (HLR.out.below HC8.out.low)
              obtain ⟨ud, hud⟩ : ∃ W, u8.alloc (.cells #[.int .i64 6, .int .i64 (ofN t 1 s), .string ⟨#[]⟩, .slice Av al.length cv, .slice none 0 0, .slice none 0 0] 46) = W := ⟨_, rfl⟩
              have hbd := (made hud).2.2
              have hlowU := HLW.out.trans (HC8.out.low.mono HLW.out.size)
              have hOd := (HOW.out.below stays_s HC8.out.low).below stays_s hbd
              have hvo : ∀ b, wh.heap.size ≤ b → vo.ownBlock ≠ some b := fun b hb c => by have := (HOW.out.lt c).2; omega
              have hww := HLW.out.size
              have hxl := HXL.out
              have hyd : RdS (fun b => w.heap.size ≤ b ∧ vo.ownBlock ≠ some b) ud (St.mk 6 (ofN t 1 s) [] Av cv al none 0 [] none 0 []) := by
                have ka := (HC8.out.args.keep stays_x (Keep.below hbd)).keep stays_x (Keep.weak (K' := fun b => w.heap.size ≤ b ∧ vo.ownBlock ≠ some b) fun b hb _ => ⟨by omega, hvo b (by omega)⟩)
                exact .mk ka.1 ka.2 (Sl.nil _) (fun _ h => by cases h) (Sl.nil _) (fun _ h => by cases h)
              have HYD := Lib.hid hyd
              have HOD := Lib.hid hOd
              have HBD := Lib.hid (hlowU.trans (hbd.mono hlowU.size))
              have HLN := Lib.hid (HLR8.out.below hbd)
              have hzd : Sk.Rd stE ud (some ⟨u8.heap.size, 0, none⟩) 1 [(St.mk 6 (ofN t 1 s) [] Av cv al none 0 [] none 0 [])] := by rw [← hud]; exact Sk.rd_lit (enc := stE) _ 46 [(St.mk 6 (ofN t 1 s) [] Av cv al none 0 [] none 0 [])] _ rfl 1 rfl
              have HZD := Lib.hid hzd
              have HJ := Lib.hid (show out.length ≤ 1048576 by have := HOL.out; omega)
              clear hyd hOd hbd hzd hlowU hvo hww hxl
              obtain ⟨f0, f1, f2, f3, f4, f5, ff⟩ := cells6 HC8.out.x
              go_wp2_with (at_builtin; refine Sk.wpList_append elT rfl _ _ rfl rfl HOD.out.own (some ⟨u8.heap.size, 0, none⟩) 1 1 [(St.mk 6 (ofN t 1 s) [] Av cv al none 0 [] none 0 [])] rfl HZD.out (by have := HJ.out; unfold maxLen; omega) (by have := HJ.out; omega) HBD.out.size ?_; intro v9 w9 ho9 hb9 hg9 _ hv9; have HO9 := Lib.hid ho9; have HG9 := Lib.hid hg9; have HV9 := Lib.hid hv9; have HB9 := Lib.hid (HBD.out.trans hb9); clear ho9 hb9 hg9 hv9)
              go_roundw
              case rel =>
                obtain ⟨hl1, hl2⟩ := HLN.out
                have hrd := keep_rd HLN.out HG9.out HNB.out
                have hnb := keep_nb HLN.out HV9.out HNB.out
                have e9 : stR t tx lo1 (Ps.mk 6 n s (exPs ar) (stPs b) (stPs e)) = (St.p (St.mk 6 (ofN t 1 s) [] Av cv al none 0 [] none 0 []), lo1) := by
                  show _ = (Ps.mk 6 (ofN t 1 s) [] (exPs al) (stPs []) (stPs []), lo1)
                  rw [HQ.out]
                  simp only [stR, stPs]
                  rw [if_neg (by decide), if_neg (by decide), if_neg (by decide), if_neg (by decide), if_pos trivial]
                refine ⟨j + 1, _, _, _, _, out ++ [(St.mk 6 (ofN t 1 s) [] Av cv al none 0 [] none 0 [])], by omega, rfl, rfl, Lib.hid hnb, by go_num, ?_, ?_, ?_, by rw [List.length_append, HOL.out]; rfl, HB9.out⟩
                · rw [HNX.out]; exact (show (stR t tx lo1 (Ps.mk 6 n s (exPs ar) (stPs b) (stPs e))).2 = lo1 from congrArg Prod.snd e9) ▸ hrd
                · exact Ow.append stays_s HOD.out HO9.out HG9.out HV9.out HBD.out.size (fun y hy => by obtain rfl : y = (St.mk 6 (ofN t 1 s) [] Av cv al none 0 [] none 0 []) := (by simpa using hy); exact HYD.out)
                · rw [HNX.out, stPs_app, HPS.out]; exact congrArg (fun z => _ ++ [z]) (congrArg Prod.fst e9).symm
              case measure => simp [intOf]; omega
            by_cases h17 : k = 17
            · subst h17
              obtain ⟨x0, x1, x2, x3, x4, x5, xf⟩ := cells6 HC6.out.s
              go_upto_region 30 with fail
              go_wp2_with fail
              refine (number_r t 7 s _ HE6.out.t HEN.out.n1).mono ?_
              rintro r u7 ⟨rfl, hb⟩
              have HC7 := Lib.hid (HC6.out.below hb)
              clear hb x0 x1 x2 x3 x4 x5 xf y0 y1 y2 y3 y4 y5 yf
              obtain ⟨z0, z1, z2, z3, z4, z5, zf⟩ := cells6 HC7.out.x
              obtain ⟨u8, hu8⟩ : ∃ W, u7.setCell ⟨xb, 1, none⟩ (.int .i64 (ofN t 7 s)) = W := ⟨_, rfl⟩
              have HC8 := Lib.hid (hu8 ▸ HC7.out.set1 (.int .i64 (ofN t 7 s)))
              have HLR8 := Lib.hid (HLR.out.below HC8.out.low)
              obtain ⟨ud, hud⟩ : ∃ W, u8.alloc (.cells #[.int .i64 17, .int .i64 (ofN t 7 s), .string ⟨#[]⟩, .slice Av al.length cv, .slice none 0 0, .slice none 0 0] 46) = W := ⟨_, rfl⟩
              have hbd := (made hud).2.2
              have hlowU := HLW.out.trans (HC8.out.low.mono HLW.out.size)
              have hOd := (HOW.out.below stays_s HC8.out.low).below stays_s hbd
              have hvo : ∀ b, wh.heap.size ≤ b → vo.ownBlock ≠ some b := fun b hb c => by have := (HOW.out.lt c).2; omega
              have hww := HLW.out.size
              have hxl := HXL.out
              have hyd : RdS (fun b => w.heap.size ≤ b ∧ vo.ownBlock ≠ some b) ud (St.mk 17 (ofN t 7 s) [] Av cv al none 0 [] none 0 []) := by
                have ka := (HC8.out.args.keep stays_x (Keep.below hbd)).keep stays_x (Keep.weak (K' := fun b => w.heap.size ≤ b ∧ vo.ownBlock ≠ some b) fun b hb _ => ⟨by omega, hvo b (by omega)⟩)
                exact .mk ka.1 ka.2 (Sl.nil _) (fun _ h => by cases h) (Sl.nil _) (fun _ h => by cases h)
              have HYD := Lib.hid hyd
              have HOD := Lib.hid hOd
              have HBD := Lib.hid (hlowU.trans (hbd.mono hlowU.size))
              have HLN := Lib.hid (HLR8.out.below hbd)
              have hzd : Sk.Rd stE ud (some ⟨u8.heap.size, 0, none⟩) 1 [(St.mk 17 (ofN t 7 s) [] Av cv al none 0 [] none 0 [])] := by rw [← hud]; exact Sk.rd_lit (enc := stE) _ 46 [(St.mk 17 (ofN t 7 s) [] Av cv al none 0 [] none 0 [])] _ rfl 1 rfl
              have HZD := Lib.hid hzd
              have HJ := Lib.hid (show out.length ≤ 1048576 by have := HOL.out; omega)
              clear hyd hOd hbd hzd hlowU hvo hww hxl
              obtain ⟨f0, f1, f2, f3, f4, f5, ff⟩ := cells6 HC8.out.x
              go_wp2_with (at_builtin; refine Sk.wpList_append elT rfl _ _ rfl rfl HOD.out.own (some ⟨u8.heap.size, 0, none⟩) 1 1 [(St.mk 17 (ofN t 7 s) [] Av cv al none 0 [] none 0 [])] rfl HZD.out (by have := HJ.out; unfold maxLen; omega) (by have := HJ.out; omega) HBD.out.size ?_; intro v9 w9 ho9 hb9 hg9 _ hv9; have HO9 := Lib.hid ho9; have HG9 := Lib.hid hg9; have HV9 := Lib.hid hv9; have HB9 := Lib.hid (HBD.out.trans hb9); clear ho9 hb9 hg9 hv9)
              go_roundw
              case rel =>
                obtain ⟨hl1, hl2⟩ := HLN.out
                have hrd := keep_rd HLN.out HG9.out HNB.out
                have hnb := keep_nb HLN.out HV9.out HNB.out
                have e9 : stR t tx lo1 (Ps.mk 17 n s (exPs ar) (stPs b) (stPs e)) = (St.p (St.mk 17 (ofN t 7 s) [] Av cv al none 0 [] none 0 []), lo1) := by
                  show _ = (Ps.mk 17 (ofN t 7 s) [] (exPs al) (stPs []) (stPs []), lo1)
                  rw [HQ.out]
                  simp only [stR, stPs]
                  rw [if_neg (by decide), if_neg (by decide), if_neg (by decide), if_neg (by decide), if_neg (by decide), if_pos trivial]
                refine ⟨j + 1, _, _, _, _, out ++ [(St.mk 17 (ofN t 7 s) [] Av cv al none 0 [] none 0 [])], by omega, rfl, rfl, Lib.hid hnb, by go_num, ?_, ?_, ?_, by rw [List.length_append, HOL.out]; rfl, HB9.out⟩
                · rw [HNX.out]; exact (show (stR t tx lo1 (Ps.mk 17 n s (exPs ar) (stPs b) (stPs e))).2 = lo1 from congrArg Prod.snd e9) ▸ hrd
                · exact Ow.append stays_s HOD.out HO9.out HG9.out HV9.out HBD.out.size (fun y hy => by obtain rfl : y = (St.mk 17 (ofN t 7 s) [] Av cv al none 0 [] none 0 []) := (by simpa using hy); exact HYD.out)
                · rw [HNX.out, stPs_app, HPS.out]; exact congrArg (fun z => _ ++ [z]) (congrArg Prod.fst e9).symm
              case measure => simp [intOf]; omega
            by_cases h18 : k = 18
            · subst h18
              obtain ⟨x0, x1, x2, x3, x4, x5, xf⟩ := cells6 HC6.out.s
              go_upto_region 30 with fail
              go_wp2_with fail
              refine (number_r t 7 s _ HE6.out.t HEN.out.n1).mono ?_
              rintro r u7 ⟨rfl, hb⟩
              have HC7 := Lib.hid (HC6.out.below hb)
              clear hb x0 x1 x2 x3 x4 x5 xf y0 y1 y2 y3 y4 y5 yf
              obtain ⟨z0, z1, z2, z3, z4, z5, zf⟩ := cells6 HC7.out.x
              obtain ⟨u8, hu8⟩ : ∃ W, u7.setCell ⟨xb, 1, none⟩ (.int .i64 (ofN t 7 s)) = W := ⟨_, rfl⟩
              have HC8 := Lib.hid (hu8 ▸ HC7.out.set1 (.int .i64 (ofN t 7 s)))
              have HLR8 := Lib.hid (HLR.out.below HC8.out.low)
              obtain ⟨ud, hud⟩ : ∃ W, u8.alloc (.cells #[.int .i64 18, .int .i64 (ofN t 7 s), .string ⟨#[]⟩, .slice Av al.length cv, .slice none 0 0, .slice none 0 0] 46) = W := ⟨_, rfl⟩
              have hbd := (made hud).2.2
              have hlowU := HLW.out.trans (HC8.out.low.mono HLW.out.size)
              have hOd := (HOW.out.below stays_s HC8.out.low).below stays_s hbd
              have hvo : ∀ b, wh.heap.size ≤ b → vo.ownBlock ≠ some b := fun b hb c => by have := (HOW.out.lt c).2; omega
              have hww := HLW.out.size
              have hxl := HXL.out
              have hyd : RdS (fun b => w.heap.size ≤ b ∧ vo.ownBlock ≠ some b) ud (St.mk 18 (ofN t 7 s) [] Av cv al none 0 [] none 0 []) := by
                have ka := (HC8.out.args.keep stays_x (Keep.below hbd)).keep stays_x (Keep.weak (K' := fun b => w.heap.size ≤ b ∧ vo.ownBlock ≠ some b) fun b hb _ => ⟨by omega, hvo b (by omega)⟩)
                exact .mk ka.1 ka.2 (Sl.nil _) (fun _ h => by cases h) (Sl.nil _) (fun _ h => by cases h)
              have HYD := Lib.hid hyd
              have HOD := Lib.hid hOd
              have HBD := Lib.hid (hlowU.trans (hbd.mono hlowU.size))
              have HLN := Lib.hid (HLR8.out.below hbd)
              have hzd : Sk.Rd stE ud (some ⟨u8.heap.size, 0, none⟩) 1 [(St.mk 18 (ofN t 7 s) [] Av cv al none 0 [] none 0 [])] := by rw [← hud]; exact Sk.rd_lit (enc := stE) _ 46 [(St.mk 18 (ofN t 7 s) [] Av cv al none 0 [] none 0 [])] _ rfl 1 rfl
              have HZD := Lib.hid hzd
              have HJ := Lib.hid (show out.length ≤ 1048576 by have := HOL.out; omega)
              clear hyd hOd hbd hzd hlowU hvo hww hxl
              obtain ⟨f0, f1, f2, f3, f4, f5, ff⟩ := cells6 HC8.out.x
              go_wp2_with (at_builtin; refine Sk.wpList_append elT rfl _ _ rfl rfl HOD.out.own (some ⟨u8.heap.size, 0, none⟩) 1 1 [(St.mk 18 (ofN t 7 s) [] Av cv al none 0 [] none 0 [])] rfl HZD.out (by have := HJ.out; unfold maxLen; omega) (by have := HJ.out; omega) HBD.out.size ?_; intro v9 w9 ho9 hb9 hg9 _ hv9; have HO9 := Lib.hid ho9; have HG9 := Lib.hid hg9; have HV9 := Lib.hid hv9; have HB9 := Lib.hid (HBD.out.trans hb9); clear ho9 hb9 hg9 hv9)
              go_roundw
              case rel =>
                obtain ⟨hl1, hl2⟩ := HLN.out
                have hrd := keep_rd HLN.out HG9.out HNB.out
                have hnb := keep_nb HLN.out HV9.out HNB.out
                have e9 : stR t tx lo1 (Ps.mk 18 n s (exPs ar) (stPs b) (stPs e)) = (St.p (St.mk 18 (ofN t 7 s) [] Av cv al none 0 [] none 0 []), lo1) := by
                  show _ = (Ps.mk 18 (ofN t 7 s) [] (exPs al) (stPs []) (stPs []), lo1)
                  rw [HQ.out]
                  simp only [stR, stPs]
                  rw [if_neg (by decide), if_neg (by decide), if_neg (by decide), if_neg (by decide), if_neg (by decide), if_neg (by decide), if_pos trivial]
                refine ⟨j + 1, _, _, _, _, out ++ [(St.mk 18 (ofN t 7 s) [] Av cv al none 0 [] none 0 [])], by omega, rfl, rfl, Lib.hid hnb, by go_num, ?_, ?_, ?_, by rw [List.length_append, HOL.out]; rfl, HB9.out⟩
                · rw [HNX.out]; exact (show (stR t tx lo1 (Ps.mk 18 n s (exPs ar) (stPs b) (stPs e))).2 = lo1 from congrArg Prod.snd e9) ▸ hrd
                · exact Ow.append stays_s HOD.out HO9.out HG9.out HV9.out HBD.out.size (fun y hy => by obtain rfl : y = (St.mk 18 (ofN t 7 s) [] Av cv al none 0 [] none 0 []) := (by simpa using hy); exact HYD.out)
                · rw [HNX.out, stPs_app, HPS.out]; exact congrArg (fun z => _ ++ [z]) (congrArg Prod.fst e9).symm
              case measure => simp [intOf]; omega
            by_cases h11 : k = 11
            · subst h11
              obtain ⟨u7, hu7⟩ : ∃ W, u6.setCell ⟨xb, 1, none⟩ (.int .i64 (q3 : Int)) = W := ⟨_, rfl⟩
              have HC7 := Lib.hid (hu7 ▸ HC6.out.set1 (.int .i64 (q3 : Int)))
              obtain ⟨x0, x1, x2, x3, x4, x5, xf⟩ := cells6 HC6.out.s
              go_upto_region 33 with fail
              clear x0 x1 x2 x3 x4 x5 xf y0 y1 y2 y3 y4 y5 yf
              obtain ⟨Sx, hSx⟩ : ∃ Sx : World → Prop, (fun U : World => U.heap[wh.heap.size]? = some (.cells #[.int .i64 11, .int .i64 n, .string (str s), .slice Aa ar.length ca, .slice Ab b.length cb, .slice Ae e.length ce] 46 (0, 0))) = Sx := ⟨_, rfl⟩
              have HSx := Lib.hid (show ∀ U, U.heap[wh.heap.size]? = some (.cells #[.int .i64 11, .int .i64 n, .string (str s), .slice Aa ar.length ca, .slice Ab b.length cb, .slice Ae e.length ce] 46 (0, 0)) → Sx U from fun U h => by rw [← hSx]; exact h)
              have HSy := Lib.hid (show ∀ U, Sx U → U.heap[wh.heap.size]? = some (.cells #[.int .i64 11, .int .i64 n, .string (str s), .slice Aa ar.length ca, .slice Ab b.length cb, .slice Ae e.length ce] 46 (0, 0)) from fun U h => by rw [← hSx] at h; exact h)
              clear hSx
              have HC8 := Lib.hid (HC7.out.below (Below.drew (Below.refl u7.heap.size u7)))
              have hS0 : Sx u7.drew := HSx.out _ HC8.out.s
              refine RgD.begin_ [10, 11] Sx (by kernel_rfl) hS0 (fun hHeld => ?_)
              refine RgD.take (i := 0) (t := 132) rfl rfl (by kernel_rfl) (by kernel_rfl) (by kernel_rfl) (by kernel_rfl) (fun _ _ _ h => h) (by rfl) (by intro w0 hSw; first | (go_simp; done) | (go_simp; with_reducible rfl) | (go_simp; intro hc; exfalso; omega)) (by assumption) ?_
              simp only [List.setIfInBounds_toArray, List.set_cons_zero, List.set_cons_succ]
              refine RgD.take (i := 1) (t := 133) rfl rfl (by kernel_rfl) (by kernel_rfl) (by kernel_rfl) (by kernel_rfl) (fun _ _ _ h => h) (by rfl) (by intro w0 hSw; first | (go_simp; done) | (go_simp; with_reducible rfl) | (go_simp; intro hc; exfalso; omega)) (by assumption) ?_
              simp only [List.setIfInBounds_toArray, List.set_cons_zero, List.set_cons_succ]
              refine RgD.take (i := 2) (t := 134) rfl rfl (by kernel_rfl) (by kernel_rfl) (by kernel_rfl) (by kernel_rfl) (fun _ _ _ h => h) (by rfl) (by intro w0 hSw; first | (go_simp; done) | (go_simp; with_reducible rfl) | (go_simp; intro hc; exfalso; omega)) (by assumption) ?_
              simp only [List.setIfInBounds_toArray, List.set_cons_zero, List.set_cons_succ]
              refine RgD.take (i := 3) (t := 135) rfl rfl (by kernel_rfl) (by kernel_rfl) (by kernel_rfl) (by kernel_rfl) (fun _ _ _ h => h) (by rfl) (by intro w0 hSw; first | (go_simp; done) | (go_simp; with_reducible rfl) | (go_simp; intro hc; exfalso; omega)) (by assumption) ?_
              simp only [List.setIfInBounds_toArray, List.set_cons_zero, List.set_cons_succ]
              refine RgD.take (i := 4) (t := 136) (v := .string (str s)) rfl rfl (by kernel_rfl) (by kernel_rfl) (by kernel_rfl) (by kernel_rfl) (fun _ _ _ h => h) (by rfl) (by intro w0 hSw; obtain ⟨z0, z1, z2, z3, z4, z5, zf⟩ := cells6 (HSy.out _ hSw); first | (go_simp; done) | (go_simp; with_reducible rfl) | (go_simp; intro hc; exfalso; omega)) (by assumption) ?_
              simp only [List.setIfInBounds_toArray, List.set_cons_zero, List.set_cons_succ]
              refine RgD.take (i := 7) (t := 139) rfl rfl (by kernel_rfl) (by kernel_rfl) (by kernel_rfl) (by kernel_rfl) (fun _ _ _ h => h) (by rfl) (by intro w0 hSw; first | (go_simp; done) | (go_simp; with_reducible rfl) | (go_simp; intro hc; exfalso; omega)) (by assumption) ?_
              simp only [List.setIfInBounds_toArray, List.set_cons_zero, List.set_cons_succ]
              refine RgD.take (i := 8) (t := 140) (v := .slice Ab b.length cb) rfl rfl (by kernel_rfl) (by kernel_rfl) (by kernel_rfl) (by kernel_rfl) (fun _ _ _ h => h) (by rfl) (by intro w0 hSw; obtain ⟨z0, z1, z2, z3, z4, z5, zf⟩ := cells6 (HSy.out _ hSw); first | (go_simp; done) | (go_simp; with_reducible rfl) | (go_simp; intro hc; exfalso; omega)) (by assumption) ?_
              simp only [List.setIfInBounds_toArray, List.set_cons_zero, List.set_cons_succ]
              refine RgD.one (i := 5) (by kernel_rfl) ?_
              refine RgD.call (i := 5) (t := 137) rfl rfl (by rfl) (by go_simp; exact ⟨rfl, rfl⟩) ?_
              refine (seen_r lo1 s q3 _ (HLR.out.below HC8.out.low) (by have h1 := HQ3.out; have h2 := HZ.out.1; omega)).mono ?_
              rintro r u9 ⟨A9, c9, rfl, ho9, hb⟩
              obtain ⟨q9, hq9⟩ : ∃ q, (lo1 ++ [s]).length = q := ⟨_, rfl⟩
              rw [hq9] at ho9 ⊢
              have HQ9 := Lib.hid hq9
              clear hq9
              have HC9 := Lib.hid (HC8.out.below hb)
              have HO9 := Lib.hid ho9
              have gS9 := HSx.out _ HC9.out.s
              clear hb ho9
              refine ⟨_, rfl, gS9, ?_⟩
              simp only [List.setIfInBounds_toArray, List.set_cons_zero, List.set_cons_succ]
              refine RgD.one (i := 6) (by kernel_rfl) ?_
              refine RgD.call (i := 6) (t := 138) rfl rfl (by rfl) (by go_simp; exact ⟨rfl, rfl⟩) ?_
              refine (unseen_r (lo1 ++ [s]) 1 q9 u9 HO9.out.rd (by have h1 := HQ3.out; have h2 := HZ.out.1; simp; omega)).mono ?_
              rintro r ua ⟨Aa_, ca_, rfl, hoa, hb⟩
              obtain ⟨qa, hqa⟩ : ∃ q, (lo1 ++ [s] ++ List.replicate 1 ([] : S)).length = q := ⟨_, rfl⟩
              rw [hqa] at hoa ⊢
              have HQa := Lib.hid hqa
              clear hqa
              have HCa := Lib.hid (HC9.out.below hb)
              have HOa := Lib.hid hoa
              have gSa := HSx.out _ HCa.out.s
              clear hb hoa
              refine ⟨_, rfl, gSa, ?_⟩
              simp only [List.setIfInBounds_toArray, List.set_cons_zero, List.set_cons_succ]
              refine RgD.one (i := 9) (by kernel_rfl) ?_
              refine RgD.call (i := 9) (t := 141) rfl rfl (by rfl) (by go_simp; exact ⟨rfl, rfl⟩) ?_
              refine (HIH.out b HZ.out.2.2.1 Ab Aa_ cb qa ca_ ua (lo1 ++ [s] ++ List.replicate 1 []) ⟨HEN.out.t.below HCa.out.low, HEN.out.x.below HCa.out.low, HOa.out.rd, HEN.out.n1, HEN.out.n2, by have h1 := HQ3.out; have h2 := HZ.out.1; have h3 := HQa.out; simp at h3; omega⟩ (Lg.keep stays_s (Keep.below (HLW.out.trans (HCa.out.low.mono HLW.out.size))) HOP.out.2.1) HZ.out.2.2.2.2.1 (by have h1 := HQ3.out; have h2 := HZ.out.1; simp; omega)).mono ?_
              rintro r ub ⟨Ab2, cb2, b2, rfl, hpb, hls, hb⟩
              have HCb := Lib.hid (HCa.out.below hb)
              have HPB := Lib.hid hpb
              have HLSc := Lib.hid hls
              have gSb := HSx.out _ HCb.out.s
              clear hb hpb hls
              refine ⟨_, rfl, gSb, ?_⟩
              simp only [List.setIfInBounds_toArray, List.set_cons_zero, List.set_cons_succ]
              refine RgD.take0 (i := 10) (t := 142) (v := .pointer (some ⟨xb, 4, none⟩)) rfl rfl (by kernel_rfl) (by kernel_rfl) (by kernel_rfl) (by kernel_rfl) (fun _ _ _ h => h) (by rfl) (by intro w0; first | (go_simp; done) | (go_simp; with_reducible rfl) | (go_simp; intro hc; exfalso; omega)) ?_
              simp only [List.setIfInBounds_toArray, List.set_cons_zero, List.set_cons_succ]
              refine RgD.one (i := 11) (by kernel_rfl) ?_
              obtain ⟨uc, huc⟩ : ∃ W, ub.setCell ⟨xb, 4, none⟩ (.slice Ab2 b2.length cb2) = W := ⟨_, rfl⟩
              have HCd := Lib.hid (huc ▸ HCb.out.set4 (.slice Ab2 b2.length cb2))
              have HUB := Lib.hid HCb.out.sz
              obtain ⟨g0, g1, g2, g3, g4, g5, gf⟩ := cells6 HCb.out.x
              refine RgD.store (i := 11) (w1 := uc) rfl rfl (by rfl) (by kernel_rfl) (by first | (go_simp; done) | (go_simp; exact huc)) ?_
              refine RgD.done (by kernel_rfl) ?_ _
              have HLSd := Lib.hid (show Ls (fun b => wh.heap.size ≤ b) uc Ab2 cb2 b2 from huc ▸ (HLSc.out.keep stays_s (keep_set (K := fun b => ua.heap.size ≤ b) 4 _ (by have h1 := HXL.out; have h2 := HCa.out.sz; omega))).keep stays_s (Keep.weak fun b hb2 _ => by have := HCa.out.low.size; omega))
              clear g0 g1 g2 g3 g4 g5 gf huc gS9 gSa gSb hS0
              obtain ⟨lb, hlb⟩ : ∃ x, locs (stPs b) = x := ⟨_, rfl⟩
              have HLB := Lib.hid hlb
              obtain ⟨z, hz⟩ : ∃ z : Nat, 2 + lb = z := ⟨_, rfl⟩
              have HZZ := Lib.hid hz
              have hz2 : (2 : Int) + (lb : Int) = (z : Int) := by omega
              have hzb : z ≤ 4194304 := by have := HZ.out; omega
              clear hlb hz
              obtain ⟨x0, x1, x2, x3, x4, x5, xf⟩ := cells6 HCd.out.s
              go_upto_region 34 with fail
              go_wp2_with fail
              refine (locals_r _ b (Nat.le_refl _) HZ.out.2.2.2.2.1 Ab cb uc (Lg.keep stays_s (Keep.below (HLW.out.trans (HCd.out.low.mono HLW.out.size))) HOP.out.2.1)).mono ?_
              rintro r ue ⟨rfl, hb⟩
              rw [HLB.out]
              have HCe := Lib.hid (HCd.out.below hb)
              have HLSe := Lib.hid (HLSd.out.below stays_s hb)
              clear hb x0 x1 x2 x3 x4 x5 xf
              go_wp2_with fail
              refine (unseen_r lo1 z q3 _ (HLR.out.below HCe.out.low) (by have h1 := HQ3.out; have h2 := HZ.out; omega)).mono ?_
              rintro r uf ⟨Af, cf, rfl, ho, hb⟩
              have ef : (lo1 ++ List.replicate z ([] : S)).length = lo1.length + z := by simp
              rw [ef] at ho ⊢
              have HCf := Lib.hid (HCe.out.below hb)
              have HLSf := Lib.hid (HLSe.out.below stays_s hb)
              have HLOf := Lib.hid ho.rd
              have HNBf := Lib.hid (new_nb (vo := vo) ho (fun g hg => by have h2 := (HOW.out.lt hg).2; have h3 := HCe.out.low.size; omega))
              clear ho hb
              obtain ⟨ud, hud⟩ : ∃ W, uf.alloc (.cells #[.int .i64 11, .int .i64 (q3 : Int), .string ⟨#[]⟩, .slice Av al.length cv, .slice Ab2 b2.length cb2, .slice none 0 0] 46) = W := ⟨_, rfl⟩
              have hbd := (made hud).2.2
              have hlowU := HLW.out.trans (HCf.out.low.mono HLW.out.size)
              have hOd := (HOW.out.below stays_s HCf.out.low).below stays_s hbd
              have hvo : ∀ b, wh.heap.size ≤ b → vo.ownBlock ≠ some b := fun b hb c => by have := (HOW.out.lt c).2; omega
              have hww := HLW.out.size
              have hxl := HXL.out
              have hyd : RdS (fun b => w.heap.size ≤ b ∧ vo.ownBlock ≠ some b) ud (St.mk 11 (q3 : Int) [] Av cv al Ab2 cb2 b2 none 0 []) := by
                have ka := (HCf.out.args.keep stays_x (Keep.below hbd)).keep stays_x (Keep.weak (K' := fun b => w.heap.size ≤ b ∧ vo.ownBlock ≠ some b) fun b hb _ => ⟨by omega, hvo b (by omega)⟩)
                have kb := (HLSf.out.keep stays_s (Keep.below hbd)).keep stays_s (Keep.weak (K' := fun b => w.heap.size ≤ b ∧ vo.ownBlock ≠ some b) fun b hb _ => ⟨by omega, hvo b (by omega)⟩)
                exact .mk ka.1 ka.2 kb.1 kb.2 (Sl.nil _) (fun _ h => by cases h)
              have HYD := Lib.hid hyd
              have HOD := Lib.hid hOd
              have HBD := Lib.hid (hlowU.trans (hbd.mono hlowU.size))
              have HLN := Lib.hid (HLOf.out.below hbd)
              have hzd : Sk.Rd stE ud (some ⟨uf.heap.size, 0, none⟩) 1 [(St.mk 11 (q3 : Int) [] Av cv al Ab2 cb2 b2 none 0 [])] := by rw [← hud]; exact Sk.rd_lit (enc := stE) _ 46 [(St.mk 11 (q3 : Int) [] Av cv al Ab2 cb2 b2 none 0 [])] _ rfl 1 rfl
              have HZD := Lib.hid hzd
              have HJ := Lib.hid (show out.length ≤ 1048576 by have := HOL.out; omega)
              clear hyd hOd hbd hzd hlowU hvo hww hxl
              obtain ⟨f0, f1, f2, f3, f4, f5, ff⟩ := cells6 HCf.out.x
              go_wp2_with (at_builtin; refine Sk.wpList_append elT rfl _ _ rfl rfl HOD.out.own (some ⟨uf.heap.size, 0, none⟩) 1 1 [(St.mk 11 (q3 : Int) [] Av cv al Ab2 cb2 b2 none 0 [])] rfl HZD.out (by have := HJ.out; unfold maxLen; omega) (by have := HJ.out; omega) HBD.out.size ?_; intro v9 w9 ho9 hb9 hg9 _ hv9; have HO9 := Lib.hid ho9; have HG9 := Lib.hid hg9; have HV9 := Lib.hid hv9; have HB9 := Lib.hid (HBD.out.trans hb9); clear ho9 hb9 hg9 hv9)
              go_roundw
              case rel =>
                obtain ⟨hl1, hl2⟩ := HLN.out
                have hrd := keep_rd HLN.out HG9.out HNBf.out
                have hnb := keep_nb HLN.out HV9.out HNBf.out
                have e9 : stR t tx lo1 (Ps.mk 11 n s (exPs ar) (stPs b) (stPs e)) = (St.p (St.mk 11 (q3 : Int) [] Av cv al Ab2 cb2 b2 none 0 []), lo1 ++ List.replicate z []) := by
                  show _ = (Ps.mk 11 (q3 : Int) [] (exPs al) (stPs b2) (stPs []), lo1 ++ List.replicate z [])
                  rw [HQ.out]
                  simp only [stR, stPs]
                  rw [if_neg (by decide), if_neg (by decide), if_neg (by decide), if_neg (by decide), if_neg (by decide), if_neg (by decide), if_neg (by decide), if_pos trivial]
                  rw [HPB.out, HLB.out, HZZ.out, HQ3.out]
                refine ⟨j + 1, _, _, _, _, out ++ [(St.mk 11 (q3 : Int) [] Av cv al Ab2 cb2 b2 none 0 [])], by omega, rfl, rfl, Lib.hid hnb, by go_num, ?_, ?_, ?_, by rw [List.length_append, HOL.out]; rfl, HB9.out⟩
                · rw [HNX.out]; exact (show (stR t tx lo1 (Ps.mk 11 n s (exPs ar) (stPs b) (stPs e))).2 = lo1 ++ List.replicate z [] from congrArg Prod.snd e9) ▸ hrd
                · exact Ow.append stays_s HOD.out HO9.out HG9.out HV9.out HBD.out.size (fun y hy => by obtain rfl : y = (St.mk 11 (q3 : Int) [] Av cv al Ab2 cb2 b2 none 0 []) := (by simpa using hy); exact HYD.out)
                · rw [HNX.out, stPs_app, HPS.out]; exact congrArg (fun z => _ ++ [z]) (congrArg Prod.fst e9).symm
              case measure => simp [intOf]; omega
            obtain ⟨x0, x1, x2, x3, x4, x5, xf⟩ := cells6 HC6.out.s
            obtain ⟨Sx, hSx⟩ : ∃ Sx : World → Prop, (fun U : World => U.heap[wh.heap.size]? = some (.cells #[.int .i64 k, .int .i64 n, .string (str s), .slice Aa ar.length ca, .slice Ab b.length cb, .slice Ae e.length ce] 46 (0, 0))) = Sx := ⟨_, rfl⟩
            have HSx := Lib.hid (show ∀ U, U.heap[wh.heap.size]? = some (.cells #[.int .i64 k, .int .i64 n, .string (str s), .slice Aa ar.length ca, .slice Ab b.length cb, .slice Ae e.length ce] 46 (0, 0)) → Sx U from fun U h => by rw [← hSx]; exact h)
            have HSy := Lib.hid (show ∀ U, Sx U → U.heap[wh.heap.size]? = some (.cells #[.int .i64 k, .int .i64 n, .string (str s), .slice Aa ar.length ca, .slice Ab b.length cb, .slice Ae e.length ce] 46 (0, 0)) from fun U h => by rw [← hSx] at h; exact h)
            clear hSx
            obtain ⟨lb, hlb⟩ : ∃ x, locs (stPs b) = x := ⟨_, rfl⟩
            obtain ⟨le, hle⟩ : ∃ x, locs (stPs e) = x := ⟨_, rfl⟩
            have HLB := Lib.hid (And.intro hlb hle)
            obtain ⟨z, hz⟩ : ∃ z : Nat, lb + le = z := ⟨_, rfl⟩
            have HZZ := Lib.hid hz
            have HZB := Lib.hid (show lb ≤ 2097152 ∧ le ≤ 2097152 ∧ lo1.length + 2 * nB (stPs b) + 2 * nB (stPs e) ≤ 4194302 ∧ lb ≤ 2 * nB (stPs b) ∧ le ≤ 2 * nB (stPs e) by have h1 := HZ.out; have h2 := HQ3.out; omega)
            have hz2 : (lb : Int) + (le : Int) = (z : Int) := by omega
            have hzw : IntKind.i64.wrap (z : Int) = (z : Int) := by rw [IntKind.wrap_i64]; have := HZB.out; omega
            clear hlb hle hz
            go_upto_region 12 with fail
            go_wp2_with fail
            refine (HIH.out b HZ.out.2.2.1 Ab A3 cb q3 c3 u6 lo1 HE6.out (Lg.keep stays_s (Keep.below (HLW.out.trans (HC6.out.low.mono HLW.out.size))) HOP.out.2.1) HZ.out.2.2.2.2.1 (by have := HZB.out; omega)).mono ?_
            rintro r u7 ⟨Ab2, cb2, b2, rfl, hpb, hls, hb⟩
            have HC7 := Lib.hid (HC6.out.below hb)
            have HPB := Lib.hid hpb
            clear x0 x1 x2 x3 x4 x5 xf y0 y1 y2 y3 y4 y5 yf
            obtain ⟨y0, y1, y2, y3, y4, y5, yf⟩ := cells6 HC7.out.x
            obtain ⟨u8, hu8⟩ : ∃ W, u7.setCell ⟨xb, 4, none⟩ (.slice Ab2 b2.length cb2) = W := ⟨_, rfl⟩
            have HC8 := Lib.hid (hu8 ▸ HC7.out.set4 (.slice Ab2 b2.length cb2))
            have HLS8 := Lib.hid (show Ls (fun b => u6.heap.size ≤ b) u8 Ab2 cb2 b2 from hu8 ▸ hls.keep stays_s (keep_set (K := fun b => u6.heap.size ≤ b) 4 _ (by have h1 := HXL.out; omega)))
            clear hb hpb hls
            go_upto_region 13 with fail
            clear y0 y1 y2 y3 y4 y5 yf
            have HCd := Lib.hid (HC8.out.below (Below.drew (Below.refl u8.heap.size u8)))
            have HLSd := Lib.hid (HLS8.out.below stays_s (Below.drew (Below.refl u8.heap.size u8)))
            have hS0 : Sx u8.drew := HSx.out _ HCd.out.s
            refine RgD.begin_ [10, 11] Sx (by kernel_rfl) hS0 (fun hHeld => ?_)
            refine RgD.take (i := 0) (t := 59) rfl rfl (by kernel_rfl) (by kernel_rfl) (by kernel_rfl) (by kernel_rfl) (fun _ _ _ h => h) (by rfl) (by intro w0 hSw; first | (go_simp; done) | (go_simp; with_reducible rfl) | (go_simp; intro hc; exfalso; omega)) (by assumption) ?_
            simp only [List.setIfInBounds_toArray, List.set_cons_zero, List.set_cons_succ]
            refine RgD.take (i := 1) (t := 60) rfl rfl (by kernel_rfl) (by kernel_rfl) (by kernel_rfl) (by kernel_rfl) (fun _ _ _ h => h) (by rfl) (by intro w0 hSw; first | (go_simp; done) | (go_simp; with_reducible rfl) | (go_simp; intro hc; exfalso; omega)) (by assumption) ?_
            simp only [List.setIfInBounds_toArray, List.set_cons_zero, List.set_cons_succ]
            refine RgD.take (i := 2) (t := 61) rfl rfl (by kernel_rfl) (by kernel_rfl) (by kernel_rfl) (by kernel_rfl) (fun _ _ _ h => h) (by rfl) (by intro w0 hSw; first | (go_simp; done) | (go_simp; with_reducible rfl) | (go_simp; intro hc; exfalso; omega)) (by assumption) ?_
            simp only [List.setIfInBounds_toArray, List.set_cons_zero, List.set_cons_succ]
            refine RgD.take (i := 3) (t := 62) rfl rfl (by kernel_rfl) (by kernel_rfl) (by kernel_rfl) (by kernel_rfl) (fun _ _ _ h => h) (by rfl) (by intro w0 hSw; first | (go_simp; done) | (go_simp; with_reducible rfl) | (go_simp; intro hc; exfalso; omega)) (by assumption) ?_
            simp only [List.setIfInBounds_toArray, List.set_cons_zero, List.set_cons_succ]
            refine RgD.take (i := 4) (t := 63) (v := .slice Ab b.length cb) rfl rfl (by kernel_rfl) (by kernel_rfl) (by kernel_rfl) (by kernel_rfl) (fun _ _ _ h => h) (by rfl) (by intro w0 hSw; obtain ⟨z0, z1, z2, z3, z4, z5, zf⟩ := cells6 (HSy.out _ hSw); first | (go_simp; done) | (go_simp; with_reducible rfl) | (go_simp; intro hc; exfalso; omega)) (by assumption) ?_
            simp only [List.setIfInBounds_toArray, List.set_cons_zero, List.set_cons_succ]
            refine RgD.take (i := 7) (t := 66) rfl rfl (by kernel_rfl) (by kernel_rfl) (by kernel_rfl) (by kernel_rfl) (fun _ _ _ h => h) (by rfl) (by intro w0 hSw; first | (go_simp; done) | (go_simp; with_reducible rfl) | (go_simp; intro hc; exfalso; omega)) (by assumption) ?_
            simp only [List.setIfInBounds_toArray, List.set_cons_zero, List.set_cons_succ]
            refine RgD.take (i := 8) (t := 67) (v := .slice Ae e.length ce) rfl rfl (by kernel_rfl) (by kernel_rfl) (by kernel_rfl) (by kernel_rfl) (fun _ _ _ h => h) (by rfl) (by intro w0 hSw; obtain ⟨z0, z1, z2, z3, z4, z5, zf⟩ := cells6 (HSy.out _ hSw); first | (go_simp; done) | (go_simp; with_reducible rfl) | (go_simp; intro hc; exfalso; omega)) (by assumption) ?_
            simp only [List.setIfInBounds_toArray, List.set_cons_zero, List.set_cons_succ]
            refine RgD.one (i := 5) (by kernel_rfl) ?_
            refine RgD.call (i := 5) (t := 64) rfl rfl (by rfl) (by go_simp; exact ⟨rfl, rfl⟩) ?_
            refine (locals_r _ b (Nat.le_refl _) HZ.out.2.2.2.2.1 Ab cb u8.drew (Lg.keep stays_s (Keep.below (HLW.out.trans (HCd.out.low.mono HLW.out.size))) HOP.out.2.1)).mono ?_
            rintro r u9 ⟨rfl, hb⟩
            rw [HLB.out.1]
            have HC9 := Lib.hid (HCd.out.below hb)
            have HLS9 := Lib.hid (HLSd.out.below stays_s hb)
            have gS9 := HSx.out _ HC9.out.s
            clear hb
            refine ⟨_, rfl, gS9, ?_⟩
            simp only [List.setIfInBounds_toArray, List.set_cons_zero, List.set_cons_succ]
            refine RgD.one (i := 6) (by kernel_rfl) ?_
            refine RgD.call (i := 6) (t := 65) rfl rfl (by rfl) (by go_simp; exact ⟨rfl, rfl⟩) ?_
            refine (unseen_r lo1 lb q3 u9 (HLR.out.below HC9.out.low) (by have := HZB.out; omega)).mono ?_
            rintro r ua ⟨Aa_, ca_, rfl, hoa, hb⟩
            obtain ⟨qa, hqa⟩ : ∃ q, (lo1 ++ List.replicate lb ([] : S)).length = q := ⟨_, rfl⟩
            rw [hqa] at hoa ⊢
            have HQa := Lib.hid hqa
            clear hqa
            have HCa := Lib.hid (HC9.out.below hb)
            have HLSa := Lib.hid (HLS9.out.below stays_s hb)
            have HOa := Lib.hid hoa
            have gSa := HSx.out _ HCa.out.s
            clear hb hoa
            refine ⟨_, rfl, gSa, ?_⟩
            simp only [List.setIfInBounds_toArray, List.set_cons_zero, List.set_cons_succ]
            refine RgD.one (i := 9) (by kernel_rfl) ?_
            refine RgD.call (i := 9) (t := 68) rfl rfl (by rfl) (by go_simp; exact ⟨rfl, rfl⟩) ?_
            refine (HIH.out e HZ.out.2.2.2.1 Ae Aa_ ce qa ca_ ua (lo1 ++ List.replicate lb []) ⟨HEN.out.t.below HCa.out.low, HEN.out.x.below HCa.out.low, HOa.out.rd, HEN.out.n1, HEN.out.n2, by have h1 := HZB.out; have h3 := HQa.out; simp at h3; omega⟩ (Lg.keep stays_s (Keep.below (HLW.out.trans (HCa.out.low.mono HLW.out.size))) HOP.out.2.2) HZ.out.2.2.2.2.2.1 (by have h1 := HZB.out; simp; omega)).mono ?_
            rintro r ub ⟨Ae2, ce2, e2, rfl, hpe, hls, hb⟩
            have HCb := Lib.hid (HCa.out.below hb)
            have HPE := Lib.hid hpe
            have HLSb := Lib.hid (HLSa.out.below stays_s hb)
            have HLSc := Lib.hid hls
            have gSb := HSx.out _ HCb.out.s
            clear hb hpe hls
            refine ⟨_, rfl, gSb, ?_⟩
            simp only [List.setIfInBounds_toArray, List.set_cons_zero, List.set_cons_succ]
            refine RgD.take0 (i := 10) (t := 69) (v := .pointer (some ⟨xb, 5, none⟩)) rfl rfl (by kernel_rfl) (by kernel_rfl) (by kernel_rfl) (by kernel_rfl) (fun _ _ _ h => h) (by rfl) (by intro w0; first | (go_simp; done) | (go_simp; with_reducible rfl) | (go_simp; intro hc; exfalso; omega)) ?_
            simp only [List.setIfInBounds_toArray, List.set_cons_zero, List.set_cons_succ]
            refine RgD.one (i := 11) (by kernel_rfl) ?_
            obtain ⟨uc, huc⟩ : ∃ W, ub.setCell ⟨xb, 5, none⟩ (.slice Ae2 e2.length ce2) = W := ⟨_, rfl⟩
            have HCc := Lib.hid (huc ▸ HCb.out.set5 (.slice Ae2 e2.length ce2))
            obtain ⟨g0, g1, g2, g3, g4, g5, gf⟩ := cells6 HCb.out.x
            refine RgD.store (i := 11) (w1 := uc) rfl rfl (by rfl) (by kernel_rfl) (by first | (go_simp; done) | (go_simp; exact huc)) ?_
            refine RgD.done (by kernel_rfl) ?_ _
            have HLSe := Lib.hid (show Ls (fun b => wh.heap.size ≤ b) uc Ae2 ce2 e2 from huc ▸ (HLSc.out.keep stays_s (keep_set (K := fun b => ua.heap.size ≤ b) 5 _ (by have h1 := HXL.out; have h2 := HCa.out.sz; omega))).keep stays_s (Keep.weak fun b hb2 _ => by have := HCa.out.low.size; omega))
            have HLSx := Lib.hid (show Ls (fun b => wh.heap.size ≤ b) uc Ab2 cb2 b2 from huc ▸ (HLSb.out.keep stays_s (keep_set (K := fun b => u6.heap.size ≤ b) 5 _ (by have h1 := HXL.out; omega))).keep stays_s (Keep.weak fun b hb2 _ => by have := HC6.out.low.size; omega))
            clear g0 g1 g2 g3 g4 g5 gf gS9 gSa gSb hS0
            go_upto_region 14 with fail
            have HCe := Lib.hid (HCc.out.below (Below.drew (Below.refl uc.heap.size uc)))
            have HB4 := Lib.hid (HLSx.out.below stays_s (Below.drew (Below.refl uc.heap.size uc)))
            have HB5 := Lib.hid (HLSe.out.below stays_s (Below.drew (Below.refl uc.heap.size uc)))
            have hS1 : Sx uc.drew := HSx.out _ HCe.out.s
            clear huc
            refine RgD.begin_ [] Sx (by kernel_rfl) hS1 (fun hHeld => ?_)
            refine RgD.take (i := 0) (t := 70) rfl rfl (by kernel_rfl) (by kernel_rfl) (by kernel_rfl) (by kernel_rfl) (fun _ _ _ h => h) (by rfl) (by intro w0 hSw; first | (go_simp; done) | (go_simp; with_reducible rfl) | (go_simp; intro hc; exfalso; omega)) (by assumption) ?_
            simp only [List.setIfInBounds_toArray, List.set_cons_zero, List.set_cons_succ]
            refine RgD.take (i := 1) (t := 71) rfl rfl (by kernel_rfl) (by kernel_rfl) (by kernel_rfl) (by kernel_rfl) (fun _ _ _ h => h) (by rfl) (by intro w0 hSw; first | (go_simp; done) | (go_simp; with_reducible rfl) | (go_simp; intro hc; exfalso; omega)) (by assumption) ?_
            simp only [List.setIfInBounds_toArray, List.set_cons_zero, List.set_cons_succ]
            refine RgD.take (i := 2) (t := 72) (v := .slice Ab b.length cb) rfl rfl (by kernel_rfl) (by kernel_rfl) (by kernel_rfl) (by kernel_rfl) (fun _ _ _ h => h) (by rfl) (by intro w0 hSw; obtain ⟨z0, z1, z2, z3, z4, z5, zf⟩ := cells6 (HSy.out _ hSw); first | (go_simp; done) | (go_simp; with_reducible rfl) | (go_simp; intro hc; exfalso; omega)) (by assumption) ?_
            simp only [List.setIfInBounds_toArray, List.set_cons_zero, List.set_cons_succ]
            refine RgD.take (i := 4) (t := 74) rfl rfl (by kernel_rfl) (by kernel_rfl) (by kernel_rfl) (by kernel_rfl) (fun _ _ _ h => h) (by rfl) (by intro w0 hSw; first | (go_simp; done) | (go_simp; with_reducible rfl) | (go_simp; intro hc; exfalso; omega)) (by assumption) ?_
            simp only [List.setIfInBounds_toArray, List.set_cons_zero, List.set_cons_succ]
            refine RgD.take (i := 5) (t := 75) (v := .slice Ae e.length ce) rfl rfl (by kernel_rfl) (by kernel_rfl) (by kernel_rfl) (by kernel_rfl) (fun _ _ _ h => h) (by rfl) (by intro w0 hSw; obtain ⟨z0, z1, z2, z3, z4, z5, zf⟩ := cells6 (HSy.out _ hSw); first | (go_simp; done) | (go_simp; with_reducible rfl) | (go_simp; intro hc; exfalso; omega)) (by assumption) ?_
            simp only [List.setIfInBounds_toArray, List.set_cons_zero, List.set_cons_succ]
            refine RgD.one (i := 3) (by kernel_rfl) ?_
            refine RgD.call (i := 3) (t := 73) rfl rfl (by rfl) (by go_simp; exact ⟨rfl, rfl⟩) ?_
            refine (locals_r _ b (Nat.le_refl _) HZ.out.2.2.2.2.1 Ab cb uc.drew (Lg.keep stays_s (Keep.below (HLW.out.trans (HCe.out.low.mono HLW.out.size))) HOP.out.2.1)).mono ?_
            rintro r ug ⟨rfl, hb⟩
            rw [HLB.out.1]
            have HCg := Lib.hid (HCe.out.below hb)
            have HB4g := Lib.hid (HB4.out.below stays_s hb)
            have HB5g := Lib.hid (HB5.out.below stays_s hb)
            have gSg := HSx.out _ HCg.out.s
            clear hb
            refine ⟨_, rfl, gSg, ?_⟩
            simp only [List.setIfInBounds_toArray, List.set_cons_zero, List.set_cons_succ]
            refine RgD.one (i := 6) (by kernel_rfl) ?_
            refine RgD.call (i := 6) (t := 76) rfl rfl (by rfl) (by go_simp; exact ⟨rfl, rfl⟩) ?_
            refine (locals_r _ e (Nat.le_refl _) HZ.out.2.2.2.2.2.1 Ae ce ug (Lg.keep stays_s (Keep.below (HLW.out.trans (HCg.out.low.mono HLW.out.size))) HOP.out.2.2)).mono ?_
            rintro r uh ⟨rfl, hb⟩
            rw [HLB.out.2]
            have HCh := Lib.hid (HCg.out.below hb)
            have HB4h := Lib.hid (HB4g.out.below stays_s hb)
            have HB5h := Lib.hid (HB5g.out.below stays_s hb)
            have gSh := HSx.out _ HCh.out.s
            clear hb
            refine ⟨_, rfl, gSh, ?_⟩
            simp only [List.setIfInBounds_toArray, List.set_cons_zero, List.set_cons_succ]
            refine RgD.take (i := 7) (t := 77) (v := .int .i64 (z : Int)) rfl rfl (by kernel_rfl) (by kernel_rfl) (by kernel_rfl) (by kernel_rfl) (fun _ _ _ h => h) (by rfl) (by intro w0 hSw; first | (go_simp; done) | (go_simp; with_reducible rfl) | (go_simp; intro hc; exfalso; omega)) (by assumption) ?_
            simp only [List.setIfInBounds_toArray, List.set_cons_zero, List.set_cons_succ]
            refine RgD.one (i := 8) (by kernel_rfl) ?_
            refine RgD.call (i := 8) (t := 78) rfl rfl (by rfl) (by go_simp; exact ⟨rfl, rfl⟩) ?_
            refine (unseen_r lo1 z q3 uh (HLR.out.below HCh.out.low) (by have h1 := HZB.out; have h2 := HZZ.out; omega)).mono ?_
            rintro r uf ⟨Af, cf, rfl, ho, hb⟩
            obtain ⟨qf, hqf⟩ : ∃ q, (lo1 ++ List.replicate z ([] : S)).length = q := ⟨_, rfl⟩
            rw [hqf] at ho ⊢
            clear hqf
            have HCf := Lib.hid (HCh.out.below hb)
            have HB4f := Lib.hid (HB4h.out.below stays_s hb)
            have HB5f := Lib.hid (HB5h.out.below stays_s hb)
            have HLOf := Lib.hid ho.rd
            have HNBf := Lib.hid (new_nb (vo := vo) ho (fun g hg => by have h2 := (HOW.out.lt hg).2; have h3 := HCh.out.low.size; omega))
            have gSf := HSx.out _ HCf.out.s
            clear hb ho
            refine ⟨_, rfl, gSf, ?_⟩
            simp only [List.setIfInBounds_toArray, List.set_cons_zero, List.set_cons_succ]
            refine RgD.take (i := 9) (t := 2) rfl rfl (by kernel_rfl) (by kernel_rfl) (by kernel_rfl) (by kernel_rfl) (fun _ _ _ h => h) (by rfl) (by intro w0 hSw; first | (go_simp; done) | (go_simp; with_reducible rfl) | (go_simp; intro hc; exfalso; omega)) (by assumption) ?_
            simp only [List.setIfInBounds_toArray, List.set_cons_zero, List.set_cons_succ]
            refine RgD.done (by kernel_rfl) ?_ _
            clear gSg gSh gSf hS1
            obtain ⟨ud, hud⟩ : ∃ W, uf.alloc (.cells #[.int .i64 k, .int .i64 n, .string ⟨#[]⟩, .slice Av al.length cv, .slice Ab2 b2.length cb2, .slice Ae2 e2.length ce2] 46) = W := ⟨_, rfl⟩
            have hbd := (made hud).2.2
            have hlowU := HLW.out.trans (HCf.out.low.mono HLW.out.size)
            have hOd := (HOW.out.below stays_s HCf.out.low).below stays_s hbd
            have hvo : ∀ b, wh.heap.size ≤ b → vo.ownBlock ≠ some b := fun b hb c => by have := (HOW.out.lt c).2; omega
            have hww := HLW.out.size
            have hxl := HXL.out
            have hyd : RdS (fun b => w.heap.size ≤ b ∧ vo.ownBlock ≠ some b) ud (St.mk k n [] Av cv al Ab2 cb2 b2 Ae2 ce2 e2) := by
              have ka := (HCf.out.args.keep stays_x (Keep.below hbd)).keep stays_x (Keep.weak (K' := fun b => w.heap.size ≤ b ∧ vo.ownBlock ≠ some b) fun b hb _ => ⟨by omega, hvo b (by omega)⟩)
              have kb := (HB4f.out.keep stays_s (Keep.below hbd)).keep stays_s (Keep.weak (K' := fun b => w.heap.size ≤ b ∧ vo.ownBlock ≠ some b) fun b hb _ => ⟨by omega, hvo b (by omega)⟩)
              have kc := (HB5f.out.keep stays_s (Keep.below hbd)).keep stays_s (Keep.weak (K' := fun b => w.heap.size ≤ b ∧ vo.ownBlock ≠ some b) fun b hb _ => ⟨by omega, hvo b (by omega)⟩)
              exact .mk ka.1 ka.2 kb.1 kb.2 kc.1 kc.2
            have HYD := Lib.hid hyd
            have HOD := Lib.hid hOd
            have HBD := Lib.hid (hlowU.trans (hbd.mono hlowU.size))
            have HLN := Lib.hid (HLOf.out.below hbd)
            have hzd : Sk.Rd stE ud (some ⟨uf.heap.size, 0, none⟩) 1 [(St.mk k n [] Av cv al Ab2 cb2 b2 Ae2 ce2 e2)] := by rw [← hud]; exact Sk.rd_lit (enc := stE) _ 46 [(St.mk k n [] Av cv al Ab2 cb2 b2 Ae2 ce2 e2)] _ rfl 1 rfl
            have HZD := Lib.hid hzd
            have HJ := Lib.hid (show out.length ≤ 1048576 by have := HOL.out; omega)
            clear hyd hOd hbd hzd hlowU hvo hww hxl
            obtain ⟨f0, f1, f2, f3, f4, f5, ff⟩ := cells6 HCf.out.x
            go_wp2_with (at_builtin; refine Sk.wpList_append elT rfl _ _ rfl rfl HOD.out.own (some ⟨uf.heap.size, 0, none⟩) 1 1 [(St.mk k n [] Av cv al Ab2 cb2 b2 Ae2 ce2 e2)] rfl HZD.out (by have := HJ.out; unfold maxLen; omega) (by have := HJ.out; omega) HBD.out.size ?_; intro v9 w9 ho9 hb9 hg9 _ hv9; have HO9 := Lib.hid ho9; have HG9 := Lib.hid hg9; have HV9 := Lib.hid hv9; have HB9 := Lib.hid (HBD.out.trans hb9); clear ho9 hb9 hg9 hv9)
            go_roundw
            case rel =>
              obtain ⟨hl1, hl2⟩ := HLN.out
              have hrd := keep_rd HLN.out HG9.out HNBf.out
              have hnb := keep_nb HLN.out HV9.out HNBf.out
              have e9 : stR t tx lo1 (Ps.mk k n s (exPs ar) (stPs b) (stPs e)) = (St.p (St.mk k n [] Av cv al Ab2 cb2 b2 Ae2 ce2 e2), lo1 ++ List.replicate z []) := by
                show _ = (Ps.mk k n [] (exPs al) (stPs b2) (stPs e2), lo1 ++ List.replicate z [])
                rw [HQ.out]
                simp only [stR]
                rw [if_neg h2, if_neg h3, if_neg h4, if_neg h5, if_neg h6, if_neg h17, if_neg h18, if_neg h11, HPB.out, HPE.out, HLB.out.1, HLB.out.2, HZZ.out]
              refine ⟨j + 1, _, _, _, _, out ++ [(St.mk k n [] Av cv al Ab2 cb2 b2 Ae2 ce2 e2)], by omega, rfl, rfl, Lib.hid hnb, by go_num, ?_, ?_, ?_, by rw [List.length_append, HOL.out]; rfl, HB9.out⟩
              · rw [HNX.out]; exact (show (stR t tx lo1 (Ps.mk k n s (exPs ar) (stPs b) (stPs e))).2 = lo1 ++ List.replicate z [] from congrArg Prod.snd e9) ▸ hrd
              · exact Ow.append stays_s HOD.out HO9.out HG9.out HV9.out HBD.out.size (fun y hy => by obtain rfl : y = (St.mk k n [] Av cv al Ab2 cb2 b2 Ae2 ce2 e2) := (by simpa using hy); exact HYD.out)
              · rw [HNX.out, stPs_app, HPS.out]; exact congrArg (fun z => _ ++ [z]) (congrArg Prod.fst e9).symm
            case measure => simp [intOf]; omega
      · obtain rfl : m = j := by omega
        have HTK := Lib.hid (show l.take m = l from List.take_of_length_le (by rw [HM.out]; exact Nat.le_refl _))
        obtain ⟨A9, c9, e9, hlg⟩ := HOW.out.list stays_s
        have HLG := Lib.hid hlg
        clear hlg hlr
        subst e9
        go_wp2_with fail
        go_ret
        have h := HPS.out
        rw [HTK.out] at h
        exact ⟨A9, c9, out, rfl, h, HLG.out, HLW.out⟩
end Go.Proofs.Yteibcfpepdbflaa.BindZ
