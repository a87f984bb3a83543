/- The binder's block, if its row answers. Conditions: those of the row. -/
import Derived.Test.YteibcfpepdbflaaBindS
namespace Go.Proofs.Yteibcfpepdbflaa.BindK
open Go Go.RowKit BindP BindD BindO BindW BindN BindG BindX BindB BindS
open Byt (str)

theorem Keep.stp {Bb m : Nat} {lv lv' : Value} {w w' : World} (h : Stp Bb lv w lv' w') (hm : Bb < m) : Keep (fun b => m ≤ b ∧ lv.ownBlock ≠ some b) (fun b => m ≤ b ∧ lv'.ownBlock ≠ some b) w w' :=
  ⟨h.size, fun b hb hl => ⟨⟨hb.1, fun c => by
    rcases h.own b c with e | e
    · exact hb.2 e
    · omega⟩, h.block b hl (by omega) hb.2⟩⟩
/-- What binding statements gives: the new ones, and the binder with its locals. -/
def RowV (Bb W : Nat) (tv xv : Value) (r : List Ps × List S) (lv : Value) (w : World) (e : Ending) (w' : World) : Prop :=
  ∃ (lv' : Value) (A' : Option Addr) (c' : Nat) (l' : List St), e = .returned (.slice A' l'.length c') ∧ stPs l' = r.1 ∧ Bn Bb W tv xv w' lv' r.2 ∧ Stp Bb lv w lv' w' ∧ Ls (fun b => w.heap.size ≤ b ∧ lv'.ownBlock ≠ some b) w' A' c' l'
def RowC (t : List Nm) (tx : List S) (Bb W : Nat) (tv xv : Value) (w0 : World) (l : List St) : Prop := ∀ (A : Option Addr) (c : Nat) (w : World) (lv : Value) (lo : List S), Bn Bb W tv xv w lv lo → Below W w0 w → Ls top w0 A c l → nB (stPs l) ≤ 1048576 → lo.length + 2 * nB (stPs l) ≤ 4194304 →
  Calls Try.prog 39 #[.pointer (some ⟨Bb, 0, none⟩), .slice A l.length c] w (RowV Bb W tv xv (rowI t tx lo (stPs l)) lv w)
def BlkC (t : List Nm) (tx : List S) (Bb W : Nat) (tv xv : Value) (w0 : World) (l : List St) : Prop := ∀ (A : Option Addr) (c : Nat) (w : World) (lv : Value) (lo : List S), Bn Bb W tv xv w lv lo → Below W w0 w → Ls top w0 A c l → nB (stPs l) ≤ 1048576 → lo.length + 2 * nB (stPs l) ≤ 4194304 →
  Calls Try.prog 72 #[.pointer (some ⟨Bb, 0, none⟩), .slice A l.length c] w (RowV Bb W tv xv ((rowI t tx lo (stPs l)).1, BindP.blank lo.length (rowI t tx lo (stPs l)).2) lv w)
/-- The locals from m to i are blank. -/
def bl (m i : Nat) (l : List S) : List S := l.take m ++ List.replicate (i - m) [] ++ l.drop i
theorem bl_len {m i : Nat} {l : List S} (h1 : m ≤ i) (h2 : i ≤ l.length) : (bl m i l).length = l.length := by
  unfold bl
  rw [List.length_append, List.length_append, List.length_take, List.length_replicate, List.length_drop]
  omega
theorem bl_first {m : Nat} {l : List S} : bl m m l = l := by unfold bl; simp
theorem bl_last {m : Nat} {l : List S} : bl m l.length l = BindP.blank m l := by unfold bl BindP.blank; simp
theorem bl_set {m i : Nat} {l : List S} (h1 : m ≤ i) (h2 : i < l.length) : (bl m i l).set i [] = bl m (i + 1) l := by
  unfold bl
  have e : (l.take m ++ List.replicate (i - m) ([] : S)).length = i := by rw [List.length_append, List.length_take, List.length_replicate]; omega
  rw [List.set_append_right _ _ (by omega), e, Nat.sub_self, List.drop_eq_getElem_cons h2, List.set_cons_zero, show i + 1 - m = (i - m) + 1 by omega, List.replicate_succ', List.append_assoc, List.append_assoc, List.append_assoc]
  rfl
theorem locs_le : (∀ p : Ps, locs1 p ≤ 2 * nS p) ∧ ∀ l : List Ps, locs l ≤ 2 * nB l := by
  have h : ∀ N : Nat, (∀ p : Ps, nS p ≤ N → locs1 p ≤ 2 * nS p) ∧ ∀ l : List Ps, nB l ≤ N → locs l ≤ 2 * nB l := by
    intro N
    induction N with
    | zero => exact ⟨fun p hp => by cases p; unfold nS at hp; omega, fun l hl => by
        cases l with
        | nil => simp [locs]
        | cons a l => cases a; unfold nB nS at hl; omega⟩
    | succ N ih =>
      have h1 : ∀ p : Ps, nS p ≤ N + 1 → locs1 p ≤ 2 * nS p := fun p hp => by
        obtain ⟨k, n, s, ar, b, e⟩ := p
        unfold nS at hp ⊢
        unfold locs1
        have hb := ih.2 b (by omega)
        have he := ih.2 e (by omega)
        have hm : mine k ≤ 2 := by unfold mine; split <;> (try split) <;> omega
        omega
      refine ⟨h1, fun l => ?_⟩
      induction l with
      | nil => intro _; simp [locs]
      | cons a l ihl =>
        intro hl
        unfold nB at hl ⊢
        unfold locs
        have := h1 a (by omega)
        have := ihl (by omega)
        omega
  exact ⟨fun p => (h _).1 p (Nat.le_refl _), fun l => (h _).2 l (Nat.le_refl _)⟩
theorem row_len (t : List Nm) (tx : List S) (l : List Ps) (lo : List S) : (rowI t tx lo l).2.length ≤ lo.length + 2 * nB l := by
  obtain ⟨q, h, hl⟩ := rowI_ext (t := t) (tx := tx) l lo
  have := locs_le.2 l
  rw [h, List.length_append]
  omega
theorem row_ge (t : List Nm) (tx : List S) (l : List Ps) (lo : List S) : lo.length ≤ (rowI t tx lo l).2.length := by
  obtain ⟨q, h, hl⟩ := rowI_ext (t := t) (tx := tx) l lo
  rw [h, List.length_append]
  omega
set_option maxRecDepth 100000 in
set_option maxHeartbeats 8000000 in
theorem block_w (t : List Nm) (tx : List S) (Bb W : Nat) (tv xv : Value) (w0 : World) (l : List St) (hrow : RowC t tx Bb W tv xv w0 l) : BlkC t tx Bb W tv xv w0 l := by
  intro A c w lv lo hb hw hl hn hsz
  have HROW := Lib.hid (hrow A c w lv lo hb hw hl hn hsz)
  obtain ⟨A3, c3, rfl, _, _⟩ := hb.own.shape
  have h1 := row_len t tx (stPs l) lo
  have h2 := row_ge t tx (stPs l) lo
  obtain ⟨r, hr⟩ : ∃ r, rowI t tx lo (stPs l) = r := ⟨_, rfl⟩
  rw [hr] at h1 h2 HROW
  have HR := Lib.hid hr
  obtain ⟨m, hm⟩ : ∃ m, lo.length = m := ⟨_, rfl⟩
  rw [hm] at h1 h2 HROW hb hsz
  have HM := Lib.hid hm
  have hm2 : r.2.length ≤ 4194304 := by omega
  have HBL := Lib.hid hb.lt
  obtain ⟨x0, x1, x2, xf⟩ := cells3 hb.box
  rw [hr, hm]
  clear hb hw hl hrow hsz hr hm h1
  go_enter Try.func72, Try.ntmps72
  go_wp2_with fail
  refine HROW.out.mono ?_
  rintro e w1 ⟨lv1, A', c', l', rfl, hp, hb1, hst, hls⟩
  obtain ⟨A4, c4, rfl, _, _⟩ := hb1.own.shape
  obtain ⟨q, hq⟩ : ∃ q, r.2.length = q := ⟨_, rfl⟩
  rw [hq] at h2 hm2 hb1 hst hls
  have HQ := Lib.hid hq
  have HP := Lib.hid hp
  have HST := Lib.hid hst
  have HLS := Lib.hid hls
  have HB1 := Lib.hid hb1
  clear hp hst hls hb1 hq x0 x1 x2 xf
  go_wp2_with fail
  go_loopw [7] (fun iv wr => ∃ i : Nat, m ≤ i ∧ i ≤ q ∧ iv = .int .i64 (i : Int) ∧ Bn Bb W tv xv wr (.slice A4 q c4) (bl m i r.2) ∧ Stp Bb (.slice A4 q c4) w1 (.slice A4 q c4) wr) (fun iv _ => q - (intOf iv).toNat)
  case atStart => exact ⟨m, Nat.le_refl _, h2, rfl, by rw [bl_first]; exact HB1.out, Stp.refl _ _ _⟩
  case round =>
    obtain ⟨i, hi1, hi2, rfl, hbn, hst⟩ := hrel
    have HBN := Lib.hid hbn
    have HST2 := Lib.hid hst
    obtain ⟨x0, x1, x2, xf⟩ := cells3 hbn.box
    have hlen : (bl m i r.2).length = q := by rw [bl_len hi1 (by rw [HQ.out]; exact hi2)]; exact HQ.out
    by_cases hlt : i < q
    · obtain ⟨g, rfl, _, _, hc, hf⟩ := hbn.own.at_ (by omega)
      have c0 := hc i (by omega)
      unfold sv at c0
      have ff := hf i
      have HN := Lib.hid (hbn.blank i [])
      rw [bl_set hi1 (by rw [HQ.out]; exact hlt)] at HN
      have k0 : (0 : Int) ≤ (i : Int) := by omega
      have k1 : (i : Int) < (q : Int) := by omega
      clear hbn hst hc hf
      go_wp2_with fail
      go_roundw
      case rel => exact ⟨i + 1, by omega, by omega, by go_num, HN.out.1, HST2.out.trans HN.out.2⟩
      case measure => simp [intOf]; omega
    · obtain rfl : q = i := by omega
      clear hbn hst hlen
      go_wp2_with fail
      go_ret
      refine ⟨_, _, _, _, rfl, by rw [HP.out], ?_, HST.out.trans HST2.out, HLS.out.keep stays_s (Keep.stp HST2.out HBL.out)⟩
      have h := HBN.out
      rw [← HQ.out, bl_last] at h
      rw [← HQ.out]
      exact h
end Go.Proofs.Yteibcfpepdbflaa.BindK
