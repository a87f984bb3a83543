/- head of clewref19: some truth value, without a panic; true only of 16 props at most. Conditions: the tables read. -/
import Derived.Test.YtncdicagadbafaaTabX
import Derived.Test.YtncdicagadbafaaReg
import Derived.IntWalk
namespace Go.Proofs.Ytncdicagadbafaa.TabH
open Go Go.RowKit NestP NestW NestX NestY ValR Sq WorldD TabD TabW TabS TabX MvR

theorem from_s (n lo hi : Int) (w : World) : Calls Try.prog 94 #[.int .i64 n, .int .i64 lo, .int .i64 hi] w (SomeB w) :=
  (from_i n lo hi w).mono fun _ _ h => ⟨_, h.1, h.2⟩
theorem values_s (A : Option Addr) (m c : Nat) (l : List Int) (w : World) (hr : Sq.Rd I w A m l) (hm : m ≤ 9223372036854775807) :
    Calls Try.prog 90 #[.slice A m c] w (SomeB w) :=
  (values_i A m c l w hr hm).mono fun _ _ h => ⟨_, h.1, h.2⟩
/-- Some truth value; true only if p. -/
def SomeP (p : Prop) (w : World) (e : Ending) (w' : World) : Prop := ∃ b : Bool, e = .returned (.bool b) ∧ (b = true → p) ∧ Below w.heap.size w w'
set_option maxRecDepth 100000 in
set_option maxHeartbeats 8000000 in
theorem head_o (t : TbV) (w : World) (hr : TbR w t) :
    Calls Try.prog 86 #[.agg #[.int .i64 t.ti, .int .i64 t.au, .int .i64 t.rl, .int .i64 t.mx, .slice t.tx.a t.tx.n t.tx.c, .int .i64 t.fl, .slice t.pr.a t.pr.n t.pr.c, .slice t.gl.a t.gl.n t.gl.c, .slice t.th.a t.th.n t.th.c, .slice t.ac.a t.ac.n t.ac.c, .slice t.de.a t.de.n t.de.c, .slice t.fu.a t.fu.n t.fu.c, .slice t.da.a t.da.n t.da.c, .slice t.pm.a t.pm.n t.pm.c, .slice t.lo.a t.lo.n t.lo.c]] w (SomeP (t.pr.n ≤ 16) w) := by
  have btx : t.tx.n ≤ 9223372036854775807 := by have h1 := hr.1.1; have h2 := hr.1.2.1; unfold maxLen at h2; omega
  have bpr : t.pr.n ≤ 9223372036854775807 := by have h1 := hr.2.1.1; have h2 := hr.2.1.2.1; unfold maxLen at h2; omega
  have bgl : t.gl.n ≤ 9223372036854775807 := by have h1 := hr.2.2.1.1; have h2 := hr.2.2.1.2.1; unfold maxLen at h2; omega
  have bpm : t.pm.n ≤ 9223372036854775807 := by have h1 := hr.2.2.2.2.2.2.2.2.1.1; have h2 := hr.2.2.2.2.2.2.2.2.1.2.1; unfold maxLen at h2; omega
  have blo : t.lo.n ≤ 9223372036854775807 := by have h1 := hr.2.2.2.2.2.2.2.2.2.1; have h2 := hr.2.2.2.2.2.2.2.2.2.2.1; unfold maxLen at h2; omega
  have hr0 := Lib.hid hr
  have HPR := Lib.hid (show Sq.Rd I w t.pr.a t.pr.n t.pr.l from hr.2.1.2.2)
  have HGL := Lib.hid (show Sq.Rd I w t.gl.a t.gl.n t.gl.l from hr.2.2.1.2.2)
  have HTX := Lib.hid hr.1.2.2
  have HPM := Lib.hid hr.2.2.2.2.2.2.2.2.1.2.2
  have HLO := Lib.hid hr.2.2.2.2.2.2.2.2.2.2.2
  have CX := Lib.hid (fun n no W hW => (text_i t n no W hW).mono fun e w' (h : e = .returned (.bool (textB t n no)) ∧ Below W.heap.size W w') => (show SomeG W e w' from ⟨_, h.1, h.2⟩))
  clear hr
  obtain ⟨Atx, hAtx⟩ : ∃ A, t.tx.a = A := ⟨_, rfl⟩
  rw [hAtx]
  rw [hAtx] at HTX CX
  obtain ⟨Apm, hApm⟩ : ∃ A, t.pm.a = A := ⟨_, rfl⟩
  rw [hApm]
  rw [hApm] at HPM CX
  obtain ⟨Alo, hAlo⟩ : ∃ A, t.lo.a = A := ⟨_, rfl⟩
  rw [hAlo]
  rw [hAlo] at HLO CX
  clear hAtx
  clear hApm
  clear hAlo
  by_cases hT1 : decide (4096 < (t.tx.n : Int)) = true
  · go_enter Try.func86, Try.ntmps86
    have HX := Lib.hid (Bx.new w #[.int .i64 t.ti, .int .i64 t.au, .int .i64 t.rl, .int .i64 t.mx, .slice Atx t.tx.n t.tx.c, .int .i64 t.fl, .slice t.pr.a t.pr.n t.pr.c, .slice t.gl.a t.gl.n t.gl.c, .slice t.th.a t.th.n t.th.c, .slice t.ac.a t.ac.n t.ac.c, .slice t.de.a t.de.n t.de.c, .slice t.fu.a t.fu.n t.fu.c, .slice t.da.a t.da.n t.da.c, .slice Apm t.pm.n t.pm.c, .slice Alo t.lo.n t.lo.c] 28)
    obtain ⟨W1, hW1⟩ : ∃ W1, w.alloc (.cells #[.int .i64 t.ti, .int .i64 t.au, .int .i64 t.rl, .int .i64 t.mx, .slice Atx t.tx.n t.tx.c, .int .i64 t.fl, .slice t.pr.a t.pr.n t.pr.c, .slice t.gl.a t.gl.n t.gl.c, .slice t.th.a t.th.n t.th.c, .slice t.ac.a t.ac.n t.ac.c, .slice t.de.a t.de.n t.de.c, .slice t.fu.a t.fu.n t.fu.c, .slice t.da.a t.da.n t.da.c, .slice Apm t.pm.n t.pm.c, .slice Alo t.lo.n t.lo.c] 28) = W1 := ⟨_, rfl⟩
    rw [hW1] at HX
    obtain ⟨x0, x1, x2, x3, x4, x5, x6, x7, x8, x9, x10, x11, x12, x13, x14, xf⟩ := cells15 HX.out.box
    go_wp2_with fail
    all_goals (go_ret; exact ⟨_, rfl, (fun h => by cases h), HX.out.below⟩)
  have T1 : decide (4096 < (t.tx.n : Int)) = false := by simpa using hT1
  clear hT1
  obtain ⟨P1, hP1⟩ : ∃ b, decide (16 < (t.pr.n : Int)) = b := ⟨_, rfl⟩
  obtain ⟨G1, hG1⟩ : ∃ b, decide (64 < (t.gl.n : Int)) = b := ⟨_, rfl⟩
  obtain ⟨N1, hN1⟩ : ∃ b, ((t.pm.n : Int) != (t.lo.n : Int)) = b := ⟨_, rfl⟩
  obtain ⟨M1, hM1⟩ : ∃ b, decide (2048 < (t.pm.n : Int)) = b := ⟨_, rfl⟩
  have HP16 := Lib.hid (show P1 = false → t.pr.n ≤ 16 from fun h => by rw [h] at hP1; have h2 := of_decide_eq_false hP1; omega)
  have HLP := Lib.hid (show N1 = false → t.lo.n = t.pm.n from fun h => by rw [h] at hN1; simp at hN1; omega)
  have HWAYS := Lib.hid (show P1 = true ∨ (P1 = false ∧ G1 = true) ∨ (P1 = false ∧ G1 = false ∧ N1 = true) ∨ (P1 = false ∧ G1 = false ∧ N1 = false ∧ M1 = true) ∨ (P1 = false ∧ G1 = false ∧ N1 = false ∧ M1 = false) by cases P1 <;> cases G1 <;> cases N1 <;> cases M1 <;> simp)
  go_enter Try.func86, Try.ntmps86
  have HX := Lib.hid (Bx.new w #[.int .i64 t.ti, .int .i64 t.au, .int .i64 t.rl, .int .i64 t.mx, .slice Atx t.tx.n t.tx.c, .int .i64 t.fl, .slice t.pr.a t.pr.n t.pr.c, .slice t.gl.a t.gl.n t.gl.c, .slice t.th.a t.th.n t.th.c, .slice t.ac.a t.ac.n t.ac.c, .slice t.de.a t.de.n t.de.c, .slice t.fu.a t.fu.n t.fu.c, .slice t.da.a t.da.n t.da.c, .slice Apm t.pm.n t.pm.c, .slice Alo t.lo.n t.lo.c] 28)
  obtain ⟨W1, hW1⟩ : ∃ W1, w.alloc (.cells #[.int .i64 t.ti, .int .i64 t.au, .int .i64 t.rl, .int .i64 t.mx, .slice Atx t.tx.n t.tx.c, .int .i64 t.fl, .slice t.pr.a t.pr.n t.pr.c, .slice t.gl.a t.gl.n t.gl.c, .slice t.th.a t.th.n t.th.c, .slice t.ac.a t.ac.n t.ac.c, .slice t.de.a t.de.n t.de.c, .slice t.fu.a t.fu.n t.fu.c, .slice t.da.a t.da.n t.da.c, .slice Apm t.pm.n t.pm.c, .slice Alo t.lo.n t.lo.c] 28) = W1 := ⟨_, rfl⟩
  rw [hW1] at HX
  obtain ⟨x0, x1, x2, x3, x4, x5, x6, x7, x8, x9, x10, x11, x12, x13, x14, xf⟩ := cells15 HX.out.box
  go_wp2_with (first
    | (go_at_call 143; refine (CX.out _ _ _ (TbR.below hr0.out HX.out.below)).mono ?_; rintro e w1 ⟨q, rfl, hb⟩; have HX2 := Lib.hid (HX.out.on hb); clear HX hb; have HX := HX2; clear HX2; clear x0 x1 x2 x3 x4 x5 x6 x7 x8 x9 x10 x11 x12 x13 x14 xf; obtain ⟨x0, x1, x2, x3, x4, x5, x6, x7, x8, x9, x10, x11, x12, x13, x14, xf⟩ := cells15 HX.out.box; cases q)
    | (go_at_call 94; (with_reducible refine (from_s t.fl 4 16 _).mono ?_); rintro e w1 ⟨q, rfl, rfl⟩; cases q; rotate_left; rcases HWAYS.out with rfl | ⟨rfl, rfl⟩ | ⟨rfl, rfl, rfl⟩ | ⟨rfl, rfl, rfl, rfl⟩ | ⟨rfl, rfl, rfl, rfl⟩)
    | (go_at_call 94; refine (from_s _ _ _ _).mono ?_; rintro e w1 ⟨q, rfl, rfl⟩; cases q)
    | (go_at_call 90; first
        | ((with_reducible refine (values_s t.pr.a _ _ _ _ (HPR.out.below HX.out.below) bpr).mono ?_); rintro e w1 ⟨q, rfl, rfl⟩; cases q)
        | ((with_reducible refine (values_s t.gl.a _ _ _ _ (HGL.out.below HX.out.below) bgl).mono ?_); rintro e w1 ⟨q, rfl, rfl⟩; cases q)))
  all_goals first
    | (go_ret; exact ⟨_, rfl, (fun h => by cases h), HX.out.below⟩)
    | skip
  have hP16 := Lib.hid (HP16.out (by simp))
  have HLE := Lib.hid (HLP.out (by simp))
  clear HP16 HLP HWAYS hP1 hG1 hN1 hM1
  go_loopw [3] (fun i wr => ∃ (k : Nat), k ≤ t.tx.n ∧ i = .int .i64 (k : Int) ∧ Bx w #[.int .i64 t.ti, .int .i64 t.au, .int .i64 t.rl, .int .i64 t.mx, .slice Atx t.tx.n t.tx.c, .int .i64 t.fl, .slice t.pr.a t.pr.n t.pr.c, .slice t.gl.a t.gl.n t.gl.c, .slice t.th.a t.th.n t.th.c, .slice t.ac.a t.ac.n t.ac.c, .slice t.de.a t.de.n t.de.c, .slice t.fu.a t.fu.n t.fu.c, .slice t.da.a t.da.n t.da.c, .slice Apm t.pm.n t.pm.c, .slice Alo t.lo.n t.lo.c] 28 wr) (fun i _ => t.tx.n - (intOf i).toNat)
  case atStart => exact ⟨0, Nat.zero_le _, rfl, HX.out⟩
  case round =>
    clear x0 x1 x2 x3 x4 x5 x6 x7 x8 x9 x10 x11 x12 x13 x14 xf HX
    obtain ⟨k, hk, rfl, hX⟩ := hrel
    have HX := Lib.hid hX
    clear hX
    obtain ⟨x0, x1, x2, x3, x4, x5, x6, x7, x8, x9, x10, x11, x12, x13, x14, xf⟩ := cells15 HX.out.box
    by_cases hlt : k < t.tx.n
    · have k0 : (0 : Int) ≤ (k : Int) := by omega
      have k1 : (k : Int) < (t.tx.n : Int) := by omega
      have t1 : decide (k < t.tx.n) = true := decide_eq_true hlt
      obtain ⟨tb, tO, rfl, htb, htl, htc⟩ := HTX.out.1.at_ hlt
      have HSZ := Lib.hid (HTX.out.2 _ (List.getElem_mem htl))
      have hct := (HX.out.below.cell (p := ⟨tb, tO + k, none⟩) htb).trans htc
      clear htc htb
      go_wp2_with (go_at_call 144; refine (isText_o _ HSZ.out _).mono ?_; rintro e w1 ⟨q, rfl, rfl⟩; cases q)
      all_goals first
        | (go_ret; exact ⟨_, rfl, (fun h => by cases h), HX.out.below⟩)
        | (go_roundw
           case rel => exact ⟨k + 1, by omega, by go_num, HX.out⟩
           case measure => simp [intOf]; omega)
    · have d0 : decide (k < t.tx.n) = false := decide_eq_false hlt
      go_wp2_with fail
      go_loopw [4] (fun i wr => ∃ (k : Nat), k ≤ t.pm.n ∧ i = .int .i64 (k : Int) ∧ Bx w #[.int .i64 t.ti, .int .i64 t.au, .int .i64 t.rl, .int .i64 t.mx, .slice Atx t.tx.n t.tx.c, .int .i64 t.fl, .slice t.pr.a t.pr.n t.pr.c, .slice t.gl.a t.gl.n t.gl.c, .slice t.th.a t.th.n t.th.c, .slice t.ac.a t.ac.n t.ac.c, .slice t.de.a t.de.n t.de.c, .slice t.fu.a t.fu.n t.fu.c, .slice t.da.a t.da.n t.da.c, .slice Apm t.pm.n t.pm.c, .slice Alo t.lo.n t.lo.c] 28 wr) (fun i _ => t.pm.n - (intOf i).toNat)
      case atStart => exact ⟨0, Nat.zero_le _, rfl, HX.out⟩
      case round =>
        clear x0 x1 x2 x3 x4 x5 x6 x7 x8 x9 x10 x11 x12 x13 x14 xf HX d0 hlt hk
        obtain ⟨k, hk, rfl, hX⟩ := hrel
        have HX := Lib.hid hX
        clear hX
        obtain ⟨x0, x1, x2, x3, x4, x5, x6, x7, x8, x9, x10, x11, x12, x13, x14, xf⟩ := cells15 HX.out.box
        by_cases hlt : k < t.pm.n
        · have k0 : (0 : Int) ≤ (k : Int) := by omega
          have k1 : (k : Int) < (t.pm.n : Int) := by omega
          have k2 : (k : Int) < (t.lo.n : Int) := by have h := HLE.out; omega
          have t1 : decide (k < t.pm.n) = true := decide_eq_true hlt
          obtain ⟨pb, po, rfl, hpb, hpl, hpc⟩ := HPM.out.at_ hlt
          obtain ⟨lb, lo, rfl, hlb, hll, hlc⟩ := HLO.out.at_ (show k < t.lo.n by have h := HLE.out; omega)
          obtain ⟨pv, hpv⟩ : ∃ v, t.pm.l[k] = v := ⟨_, rfl⟩
          obtain ⟨lv, hlv⟩ : ∃ v, t.lo.l[k] = v := ⟨_, rfl⟩
          rw [hpv] at hpc
          rw [hlv] at hlc
          unfold I at hpc hlc
          have HPC := Lib.hid hpc
          have HLC := Lib.hid hlc
          clear hpc hlc hpv hlv hpl hll
          go_wp2_with fail
          have hS : (fun U => Bx w #[.int .i64 t.ti, .int .i64 t.au, .int .i64 t.rl, .int .i64 t.mx, .slice Atx t.tx.n t.tx.c, .int .i64 t.fl, .slice t.pr.a t.pr.n t.pr.c, .slice t.gl.a t.gl.n t.gl.c, .slice t.th.a t.th.n t.th.c, .slice t.ac.a t.ac.n t.ac.c, .slice t.de.a t.de.n t.de.c, .slice t.fu.a t.fu.n t.fu.c, .slice t.da.a t.da.n t.da.c, .slice (some ⟨pb, po, none⟩) t.pm.n t.pm.c, .slice (some ⟨lb, lo, none⟩) t.lo.n t.lo.c] 28 U) wr.drew := HX.out.drew
          refine wp_region_held_drew (S := (fun U => Bx w #[.int .i64 t.ti, .int .i64 t.au, .int .i64 t.rl, .int .i64 t.mx, .slice Atx t.tx.n t.tx.c, .int .i64 t.fl, .slice t.pr.a t.pr.n t.pr.c, .slice t.gl.a t.gl.n t.gl.c, .slice t.th.a t.th.n t.th.c, .slice t.ac.a t.ac.n t.ac.c, .slice t.de.a t.de.n t.de.c, .slice t.fu.a t.fu.n t.fu.c, .slice t.da.a t.da.n t.da.c, .slice (some ⟨pb, po, none⟩) t.pm.n t.pm.c, .slice (some ⟨lb, lo, none⟩) t.lo.n t.lo.c] 28 U)) (by kernel_rfl) hS (fun hHeld => ?_)
          refine Rg.take (i := 0) (t := 99) rfl rfl (by kernel_rfl) (by kernel_rfl) (by kernel_rfl) (fun _ _ _ h => h) (by rfl) (by intro w0 hSw; first | (go_simp; done) | (go_simp; with_reducible rfl)) (by assumption) ?_
          simp only [List.setIfInBounds_toArray, List.set_cons_zero, List.set_cons_succ]
          refine Rg.take (i := 1) (t := 100) rfl rfl (by kernel_rfl) (by kernel_rfl) (by kernel_rfl) (fun _ _ _ h => h) (by rfl) (by intro w0 hSw; obtain ⟨x0, x1, x2, x3, x4, x5, x6, x7, x8, x9, x10, x11, x12, x13, x14, xf⟩ := cells15 hSw.box; first | (go_simp; done) | (go_simp; with_reducible rfl)) (by assumption) ?_
          simp only [List.setIfInBounds_toArray, List.set_cons_zero, List.set_cons_succ]
          refine Rg.take (i := 2) (t := 101) rfl rfl (by kernel_rfl) (by kernel_rfl) (by kernel_rfl) (fun _ _ _ h => h) (by rfl) (by intro w0 hSw; first | (go_simp; done) | (go_simp; with_reducible rfl)) (by assumption) ?_
          simp only [List.setIfInBounds_toArray, List.set_cons_zero, List.set_cons_succ]
          refine Rg.take (i := 3) (t := 102) rfl rfl (by kernel_rfl) (by kernel_rfl) (by kernel_rfl) (fun _ _ _ h => h) (by rfl) (by intro w0 hSw; first | (go_simp; done) | (go_simp; with_reducible rfl)) (by assumption) ?_
          simp only [List.setIfInBounds_toArray, List.set_cons_zero, List.set_cons_succ]
          refine Rg.take (i := 4) (t := 103) rfl rfl (by kernel_rfl) (by kernel_rfl) (by kernel_rfl) (fun _ _ _ h => h) (by rfl) (by intro w0 hSw; have hpc := (hSw.below.cell (p := ⟨pb, po + k, none⟩) hpb).trans HPC.out; first | (go_simp; done) | (go_simp; with_reducible rfl)) (by assumption) ?_
          simp only [List.setIfInBounds_toArray, List.set_cons_zero, List.set_cons_succ]
          refine Rg.one (i := 5) (by kernel_rfl) ?_
          refine Rg.call (i := 5) (t := 104) rfl rfl (by rfl) (by go_simp; exact ⟨rfl, rfl⟩) ?_
          refine (from_s _ _ _ _).mono ?_
          rintro e w1 ⟨q, rfl, rfl⟩
          cases q with
          | false =>
            refine ⟨_, rfl, (fun U => Bx w #[.int .i64 t.ti, .int .i64 t.au, .int .i64 t.rl, .int .i64 t.mx, .slice Atx t.tx.n t.tx.c, .int .i64 t.fl, .slice t.pr.a t.pr.n t.pr.c, .slice t.gl.a t.gl.n t.gl.c, .slice t.th.a t.th.n t.th.c, .slice t.ac.a t.ac.n t.ac.c, .slice t.de.a t.de.n t.de.c, .slice t.fu.a t.fu.n t.fu.c, .slice t.da.a t.da.n t.da.c, .slice (some ⟨pb, po, none⟩) t.pm.n t.pm.c, .slice (some ⟨lb, lo, none⟩) t.lo.n t.lo.c] 28 U), fun _ h => h, hS, ?_⟩
            simp only [List.setIfInBounds_toArray, List.set_cons_zero, List.set_cons_succ]
            refine Rg.take (i := 6) (t := 105) rfl rfl (by kernel_rfl) (by kernel_rfl) (by kernel_rfl) (fun _ _ _ h => h) (by rfl) (by intro w0 hSw; first | (go_simp; done) | (go_simp; with_reducible rfl)) (by assumption) ?_
            simp only [List.setIfInBounds_toArray, List.set_cons_zero, List.set_cons_succ]
            refine Rg.take (i := 7) (t := 106) rfl rfl (by kernel_rfl) (by kernel_rfl) (by kernel_rfl) (fun _ _ _ h => h) (by rfl) (by intro w0 hSw; first | (go_simp; done) | (go_simp; with_reducible rfl)) (by assumption) ?_
            simp only [List.setIfInBounds_toArray, List.set_cons_zero, List.set_cons_succ]
            refine Rg.pass (i := 8) (t := 107) rfl rfl (by kernel_rfl) (by kernel_rfl) (by kernel_rfl) (fun _ _ _ h => h) (by rfl) (by assumption) ?_
            simp only [List.setIfInBounds_toArray, List.set_cons_zero, List.set_cons_succ]
            refine Rg.pass (i := 9) (t := 108) rfl rfl (by kernel_rfl) (by kernel_rfl) (by kernel_rfl) (fun _ _ _ h => h) (by rfl) (by assumption) ?_
            simp only [List.setIfInBounds_toArray, List.set_cons_zero, List.set_cons_succ]
            refine Rg.pass (i := 10) (t := 109) rfl rfl (by kernel_rfl) (by kernel_rfl) (by kernel_rfl) (fun _ _ _ h => h) (by rfl) (by assumption) ?_
            simp only [List.setIfInBounds_toArray, List.set_cons_zero, List.set_cons_succ]
            refine Rg.pass (i := 11) (t := 110) rfl rfl (by kernel_rfl) (by kernel_rfl) (by kernel_rfl) (fun _ _ _ h => h) (by rfl) (by assumption) ?_
            simp only [List.setIfInBounds_toArray, List.set_cons_zero, List.set_cons_succ]
            refine Rg.pass (i := 12) (t := 111) rfl rfl (by kernel_rfl) (by kernel_rfl) (by kernel_rfl) (fun _ _ _ h => h) (by rfl) (by assumption) ?_
            simp only [List.setIfInBounds_toArray, List.set_cons_zero, List.set_cons_succ]
            refine Rg.pass (i := 13) (t := 112) rfl rfl (by kernel_rfl) (by kernel_rfl) (by kernel_rfl) (fun _ _ _ h => h) (by rfl) (by assumption) ?_
            simp only [List.setIfInBounds_toArray, List.set_cons_zero, List.set_cons_succ]
            refine Rg.pass (i := 14) (t := 113) rfl rfl (by kernel_rfl) (by kernel_rfl) (by kernel_rfl) (fun _ _ _ h => h) (by rfl) (by assumption) ?_
            simp only [List.setIfInBounds_toArray, List.set_cons_zero, List.set_cons_succ]
            refine Rg.pass (i := 15) (t := 114) rfl rfl (by kernel_rfl) (by kernel_rfl) (by kernel_rfl) (fun _ _ _ h => h) (by rfl) (by assumption) ?_
            simp only [List.setIfInBounds_toArray, List.set_cons_zero, List.set_cons_succ]
            refine Rg.pass (i := 16) (t := 115) rfl rfl (by kernel_rfl) (by kernel_rfl) (by kernel_rfl) (fun _ _ _ h => h) (by rfl) (by assumption) ?_
            simp only [List.setIfInBounds_toArray, List.set_cons_zero, List.set_cons_succ]
            refine Rg.pass (i := 17) (t := 116) rfl rfl (by kernel_rfl) (by kernel_rfl) (by kernel_rfl) (fun _ _ _ h => h) (by rfl) (by assumption) ?_
            simp only [List.setIfInBounds_toArray, List.set_cons_zero, List.set_cons_succ]
            refine Rg.pass (i := 18) (t := 117) rfl rfl (by kernel_rfl) (by kernel_rfl) (by kernel_rfl) (fun _ _ _ h => h) (by rfl) (by assumption) ?_
            simp only [List.setIfInBounds_toArray, List.set_cons_zero, List.set_cons_succ]
            refine Rg.pass (i := 19) (t := 118) rfl rfl (by kernel_rfl) (by kernel_rfl) (by kernel_rfl) (fun _ _ _ h => h) (by rfl) (by assumption) ?_
            simp only [List.setIfInBounds_toArray, List.set_cons_zero, List.set_cons_succ]
            refine Rg.take (i := 20) (t := 119) rfl rfl (by kernel_rfl) (by kernel_rfl) (by kernel_rfl) (fun _ _ _ h => h) (by rfl) (by intro w0 hSw; first | (go_simp; done) | (go_simp; with_reducible rfl)) (by assumption) ?_
            simp only [List.setIfInBounds_toArray, List.set_cons_zero, List.set_cons_succ]
            refine wpAnyH_done (by kernel_rfl) ?_ _
            go_wp2_with fail
            go_ret
            exact ⟨_, rfl, (fun h => by cases h), hS.below⟩
          | true =>
            refine ⟨_, rfl, (fun U => Bx w #[.int .i64 t.ti, .int .i64 t.au, .int .i64 t.rl, .int .i64 t.mx, .slice Atx t.tx.n t.tx.c, .int .i64 t.fl, .slice t.pr.a t.pr.n t.pr.c, .slice t.gl.a t.gl.n t.gl.c, .slice t.th.a t.th.n t.th.c, .slice t.ac.a t.ac.n t.ac.c, .slice t.de.a t.de.n t.de.c, .slice t.fu.a t.fu.n t.fu.c, .slice t.da.a t.da.n t.da.c, .slice (some ⟨pb, po, none⟩) t.pm.n t.pm.c, .slice (some ⟨lb, lo, none⟩) t.lo.n t.lo.c] 28 U), fun _ h => h, hS, ?_⟩
            simp only [List.setIfInBounds_toArray, List.set_cons_zero, List.set_cons_succ]
            refine Rg.take (i := 6) (t := 105) rfl rfl (by kernel_rfl) (by kernel_rfl) (by kernel_rfl) (fun _ _ _ h => h) (by rfl) (by intro w0 hSw; first | (go_simp; done) | (go_simp; with_reducible rfl)) (by assumption) ?_
            simp only [List.setIfInBounds_toArray, List.set_cons_zero, List.set_cons_succ]
            refine Rg.take (i := 7) (t := 106) rfl rfl (by kernel_rfl) (by kernel_rfl) (by kernel_rfl) (fun _ _ _ h => h) (by rfl) (by intro w0 hSw; first | (go_simp; done) | (go_simp; with_reducible rfl)) (by assumption) ?_
            simp only [List.setIfInBounds_toArray, List.set_cons_zero, List.set_cons_succ]
            refine Rg.take (i := 8) (t := 107) rfl rfl (by kernel_rfl) (by kernel_rfl) (by kernel_rfl) (fun _ _ _ h => h) (by rfl) (by intro w0 hSw; first | (go_simp; done) | (go_simp; with_reducible rfl)) (by assumption) ?_
            simp only [List.setIfInBounds_toArray, List.set_cons_zero, List.set_cons_succ]
            refine Rg.take (i := 9) (t := 108) rfl rfl (by kernel_rfl) (by kernel_rfl) (by kernel_rfl) (fun _ _ _ h => h) (by rfl) (by intro w0 hSw; obtain ⟨x0, x1, x2, x3, x4, x5, x6, x7, x8, x9, x10, x11, x12, x13, x14, xf⟩ := cells15 hSw.box; first | (go_simp; done) | (go_simp; with_reducible rfl)) (by assumption) ?_
            simp only [List.setIfInBounds_toArray, List.set_cons_zero, List.set_cons_succ]
            refine Rg.take (i := 10) (t := 109) rfl rfl (by kernel_rfl) (by kernel_rfl) (by kernel_rfl) (fun _ _ _ h => h) (by rfl) (by intro w0 hSw; first | (go_simp; done) | (go_simp; with_reducible rfl)) (by assumption) ?_
            simp only [List.setIfInBounds_toArray, List.set_cons_zero, List.set_cons_succ]
            refine Rg.take (i := 11) (t := 110) rfl rfl (by kernel_rfl) (by kernel_rfl) (by kernel_rfl) (fun _ _ _ h => h) (by rfl) (by intro w0 hSw; first | (go_simp; done) | (go_simp; with_reducible rfl)) (by assumption) ?_
            simp only [List.setIfInBounds_toArray, List.set_cons_zero, List.set_cons_succ]
            refine Rg.take (i := 12) (t := 111) rfl rfl (by kernel_rfl) (by kernel_rfl) (by kernel_rfl) (fun _ _ _ h => h) (by rfl) (by intro w0 hSw; have hlc := (hSw.below.cell (p := ⟨lb, lo + k, none⟩) hlb).trans HLC.out; first | (go_simp; done) | (go_simp; with_reducible rfl)) (by assumption) ?_
            simp only [List.setIfInBounds_toArray, List.set_cons_zero, List.set_cons_succ]
            refine Rg.take (i := 13) (t := 112) rfl rfl (by kernel_rfl) (by kernel_rfl) (by kernel_rfl) (fun _ _ _ h => h) (by rfl) (by intro w0 hSw; first | (go_simp; done) | (go_simp; with_reducible rfl)) (by assumption) ?_
            simp only [List.setIfInBounds_toArray, List.set_cons_zero, List.set_cons_succ]
            refine Rg.take (i := 14) (t := 113) rfl rfl (by kernel_rfl) (by kernel_rfl) (by kernel_rfl) (fun _ _ _ h => h) (by rfl) (by intro w0 hSw; obtain ⟨x0, x1, x2, x3, x4, x5, x6, x7, x8, x9, x10, x11, x12, x13, x14, xf⟩ := cells15 hSw.box; first | (go_simp; done) | (go_simp; with_reducible rfl)) (by assumption) ?_
            simp only [List.setIfInBounds_toArray, List.set_cons_zero, List.set_cons_succ]
            refine Rg.take (i := 15) (t := 114) rfl rfl (by kernel_rfl) (by kernel_rfl) (by kernel_rfl) (fun _ _ _ h => h) (by rfl) (by intro w0 hSw; first | (go_simp; done) | (go_simp; with_reducible rfl)) (by assumption) ?_
            simp only [List.setIfInBounds_toArray, List.set_cons_zero, List.set_cons_succ]
            refine Rg.take (i := 16) (t := 115) rfl rfl (by kernel_rfl) (by kernel_rfl) (by kernel_rfl) (fun _ _ _ h => h) (by rfl) (by intro w0 hSw; first | (go_simp; done) | (go_simp; with_reducible rfl)) (by assumption) ?_
            simp only [List.setIfInBounds_toArray, List.set_cons_zero, List.set_cons_succ]
            refine Rg.take (i := 17) (t := 116) rfl rfl (by kernel_rfl) (by kernel_rfl) (by kernel_rfl) (fun _ _ _ h => h) (by rfl) (by intro w0 hSw; have hpc := (hSw.below.cell (p := ⟨pb, po + k, none⟩) hpb).trans HPC.out; first | (go_simp; done) | (go_simp; with_reducible rfl)) (by assumption) ?_
            simp only [List.setIfInBounds_toArray, List.set_cons_zero, List.set_cons_succ]
            refine Rg.one (i := 18) (by kernel_rfl) ?_
            refine Rg.call (i := 18) (t := 117) rfl rfl (by rfl) (by go_simp; exact ⟨rfl, rfl⟩) ?_
            refine (from_s _ _ _ _).mono ?_
            rintro e w1 ⟨q, rfl, rfl⟩
            cases q with
            | false =>
              refine ⟨_, rfl, (fun U => Bx w #[.int .i64 t.ti, .int .i64 t.au, .int .i64 t.rl, .int .i64 t.mx, .slice Atx t.tx.n t.tx.c, .int .i64 t.fl, .slice t.pr.a t.pr.n t.pr.c, .slice t.gl.a t.gl.n t.gl.c, .slice t.th.a t.th.n t.th.c, .slice t.ac.a t.ac.n t.ac.c, .slice t.de.a t.de.n t.de.c, .slice t.fu.a t.fu.n t.fu.c, .slice t.da.a t.da.n t.da.c, .slice (some ⟨pb, po, none⟩) t.pm.n t.pm.c, .slice (some ⟨lb, lo, none⟩) t.lo.n t.lo.c] 28 U), fun _ h => h, hS, ?_⟩
              simp only [List.setIfInBounds_toArray, List.set_cons_zero, List.set_cons_succ]
              refine Rg.take (i := 19) (t := 118) rfl rfl (by kernel_rfl) (by kernel_rfl) (by kernel_rfl) (fun _ _ _ h => h) (by rfl) (by intro w0 hSw; first | (go_simp; done) | (go_simp; with_reducible rfl)) (by assumption) ?_
              simp only [List.setIfInBounds_toArray, List.set_cons_zero, List.set_cons_succ]
              refine Rg.take (i := 20) (t := 119) rfl rfl (by kernel_rfl) (by kernel_rfl) (by kernel_rfl) (fun _ _ _ h => h) (by rfl) (by intro w0 hSw; first | (go_simp; done) | (go_simp; with_reducible rfl)) (by assumption) ?_
              simp only [List.setIfInBounds_toArray, List.set_cons_zero, List.set_cons_succ]
              refine wpAnyH_done (by kernel_rfl) ?_ _
              go_wp2_with fail
              go_ret
              exact ⟨_, rfl, (fun h => by cases h), hS.below⟩
            | true =>
              refine ⟨_, rfl, (fun U => Bx w #[.int .i64 t.ti, .int .i64 t.au, .int .i64 t.rl, .int .i64 t.mx, .slice Atx t.tx.n t.tx.c, .int .i64 t.fl, .slice t.pr.a t.pr.n t.pr.c, .slice t.gl.a t.gl.n t.gl.c, .slice t.th.a t.th.n t.th.c, .slice t.ac.a t.ac.n t.ac.c, .slice t.de.a t.de.n t.de.c, .slice t.fu.a t.fu.n t.fu.c, .slice t.da.a t.da.n t.da.c, .slice (some ⟨pb, po, none⟩) t.pm.n t.pm.c, .slice (some ⟨lb, lo, none⟩) t.lo.n t.lo.c] 28 U), fun _ h => h, hS, ?_⟩
              simp only [List.setIfInBounds_toArray, List.set_cons_zero, List.set_cons_succ]
              refine Rg.take (i := 19) (t := 118) rfl rfl (by kernel_rfl) (by kernel_rfl) (by kernel_rfl) (fun _ _ _ h => h) (by rfl) (by intro w0 hSw; first | (go_simp; done) | (go_simp; with_reducible rfl)) (by assumption) ?_
              simp only [List.setIfInBounds_toArray, List.set_cons_zero, List.set_cons_succ]
              refine Rg.take (i := 20) (t := 119) rfl rfl (by kernel_rfl) (by kernel_rfl) (by kernel_rfl) (fun _ _ _ h => h) (by rfl) (by intro w0 hSw; first | (go_simp; done) | (go_simp; with_reducible rfl)) (by assumption) ?_
              simp only [List.setIfInBounds_toArray, List.set_cons_zero, List.set_cons_succ]
              refine wpAnyH_done (by kernel_rfl) ?_ _
              go_wp2_with fail
              go_roundw
              case rel => exact ⟨k + 1, by omega, by go_num, hS⟩
              case measure => simp [intOf]; omega
        · have d0 : decide (k < t.pm.n) = false := decide_eq_false hlt
          go_wp2_with fail
          go_ret
          exact ⟨_, rfl, (fun _ => hP16.out), HX.out.below⟩
end Go.Proofs.Ytncdicagadbafaa.TabH
