/- nothing and Line of clewref19: some truth value, without a panic. Conditions: the tables read. -/
import Derived.Test.YtncdicagadbafaaTabX
namespace Go.Proofs.Ytncdicagadbafaa.TabZ
open Go Go.RowKit NestP NestW NestX NestY ValR Sq WorldD TabD TabW TabS TabX MvR

/-- Some truth value; true only of a thing that is no room, and in nothing. -/
def NoRoom (w : World) (rm : Bool) (pa : Int) (e : Ending) (w' : World) : Prop := ∃ b : Bool, e = .returned (.bool b) ∧ (b = true → rm = false ∧ pa = 0) ∧ Below w.heap.size w w'
set_option maxRecDepth 100000 in
set_option maxHeartbeats 4000000 in
theorem nothing_o (t : TbV) (x : ThV) (w : World) (hr : ThR w x) :
    Calls Try.prog 145 #[.agg #[.int .i64 t.ti, .int .i64 t.au, .int .i64 t.rl, .int .i64 t.mx, .slice t.tx.a t.tx.n t.tx.c, .int .i64 t.fl, .slice t.pr.a t.pr.n t.pr.c, .slice t.gl.a t.gl.n t.gl.c, .slice t.th.a t.th.n t.th.c, .slice t.ac.a t.ac.n t.ac.c, .slice t.de.a t.de.n t.de.c, .slice t.fu.a t.fu.n t.fu.c, .slice t.da.a t.da.n t.da.c, .slice t.pm.a t.pm.n t.pm.c, .slice t.lo.a t.lo.n t.lo.c], .agg #[.int .i64 x.ti, .int .i64 x.tx, .int .i64 x.pa, .int .i64 x.fl, .bool x.room, .slice x.pr.a x.pr.n x.pr.c, .slice x.wo.a x.wo.n x.wo.c, .slice x.ad.a x.ad.n x.ad.c, .slice x.wa.a x.wa.n x.wa.c]] w (NoRoom w x.room x.pa) := by
  have HP := Lib.hid hr.1
  have bp : x.pr.n ≤ 9223372036854775807 := by have h1 := hr.1.1; have h2 := hr.1.2.1; unfold maxLen at h2; omega
  have bw : x.wo.n ≤ 9223372036854775807 := by have h1 := hr.2.1.1; have h2 := hr.2.1.2.1; unfold maxLen at h2; omega
  have ba : x.ad.n ≤ 9223372036854775807 := by have h1 := hr.2.2.1.1; have h2 := hr.2.2.1.2.1; unfold maxLen at h2; omega
  have by' : x.wa.n ≤ 9223372036854775807 := by have h1 := hr.2.2.2.1; have h2 := hr.2.2.2.2.1; unfold maxLen at h2; omega
  clear hr
  obtain ⟨rm, hrm⟩ : ∃ rm, x.room = rm := ⟨_, rfl⟩
  rw [hrm]
  obtain ⟨W2, hW2⟩ : ∃ W2, (w.alloc (.cells #[.int .i64 t.ti, .int .i64 t.au, .int .i64 t.rl, .int .i64 t.mx, .slice t.tx.a t.tx.n t.tx.c, .int .i64 t.fl, .slice t.pr.a t.pr.n t.pr.c, .slice t.gl.a t.gl.n t.gl.c, .slice t.th.a t.th.n t.th.c, .slice t.ac.a t.ac.n t.ac.c, .slice t.de.a t.de.n t.de.c, .slice t.fu.a t.fu.n t.fu.c, .slice t.da.a t.da.n t.da.c, .slice t.pm.a t.pm.n t.pm.c, .slice t.lo.a t.lo.n t.lo.c] 28)).alloc (.cells #[.int .i64 x.ti, .int .i64 x.tx, .int .i64 x.pa, .int .i64 x.fl, .bool rm, .slice x.pr.a x.pr.n x.pr.c, .slice x.wo.a x.wo.n x.wo.c, .slice x.ad.a x.ad.n x.ad.c, .slice x.wa.a x.wa.n x.wa.c] 89) = W2 := ⟨_, rfl⟩
  obtain ⟨s2, h0, h1, hB⟩ := alloc2 hW2
  have HB := Lib.hid hB
  clear hB hrm
  obtain ⟨x0, x1, x2, x3, x4, x5, x6, x7, x8, x9, x10, x11, x12, x13, x14, xf⟩ := cells15 h0
  obtain ⟨y0, y1, y2, y3, y4, y5, y6, y7, y8, yf⟩ := cells9 h1
  by_cases ha0 : (x.ti != (0 : Int)) = true
  · go_enter Try.func145, Try.ntmps145
    go_wp2_with fail
    go_ret
    exact ⟨_, rfl, (fun h => by cases h), HB.out⟩
  have a0 : (x.ti != (0 : Int)) = false := by simpa using ha0
  clear ha0
  by_cases ha1 : (x.tx != (-1 : Int)) = true
  · go_enter Try.func145, Try.ntmps145
    go_wp2_with fail
    go_ret
    exact ⟨_, rfl, (fun h => by cases h), HB.out⟩
  have a1 : (x.tx != (-1 : Int)) = false := by simpa using ha1
  clear ha1
  by_cases ha2 : (x.pa != (0 : Int)) = true
  · go_enter Try.func145, Try.ntmps145
    go_wp2_with fail
    go_ret
    exact ⟨_, rfl, (fun h => by cases h), HB.out⟩
  have a2 : (x.pa != (0 : Int)) = false := by simpa using ha2
  clear ha2
  by_cases ha3 : (x.fl != (0 : Int)) = true
  · go_enter Try.func145, Try.ntmps145
    go_wp2_with fail
    go_ret
    exact ⟨_, rfl, (fun h => by cases h), HB.out⟩
  have a3 : (x.fl != (0 : Int)) = false := by simpa using ha3
  clear ha3
  have HPA := Lib.hid (show x.pa = 0 by simpa using a2)
  cases rm with
  | true =>
    go_enter Try.func145, Try.ntmps145
    go_wp2_with fail
    go_ret
    exact ⟨_, rfl, (fun h => by cases h), HB.out⟩
  | false =>
  obtain ⟨a5, ha5⟩ : ∃ a5, ((x.pr.n : Int) != (t.pr.n : Int)) = a5 := ⟨_, rfl⟩
  cases a5 with
  | true =>
    go_enter Try.func145, Try.ntmps145
    go_wp2_with fail
    go_ret
    exact ⟨_, rfl, (fun h => by cases h), HB.out⟩
  | false =>
  obtain ⟨s, hs⟩ : ∃ s, IntKind.i64.wrap (IntKind.i64.wrap ((x.wo.n : Int) + (x.ad.n : Int)) + (x.wa.n : Int)) = s := ⟨_, rfl⟩
  go_enter Try.func145, Try.ntmps145
  go_wp2_with fail
  all_goals first
    | (go_ret; exact ⟨_, rfl, (fun h => by cases h), HB.out⟩)
    | (go_loop [5] (fun i => ∃ k : Nat, k ≤ x.pr.n ∧ i = .int .i64 (k : Int)) (fun i => x.pr.n - (intOf i).toNat)
       case atStart => exact ⟨0, Nat.zero_le _, rfl⟩
       case round =>
         obtain ⟨k, hk, rfl⟩ := hrel
         by_cases hlt : k < x.pr.n
         · obtain ⟨pb, po, hpA, _, HPC⟩ := sq_all (HP.out.2.2.below HB.out) (by omega)
           have hl : k < x.pr.l.length := by rw [← HP.out.2.2.len]; exact hlt
           have hcell := HPC.out k hl
           obtain ⟨z, hz⟩ : ∃ z, x.pr.l[k] = z := ⟨_, rfl⟩
           rw [hz] at hcell
           unfold I at hcell
           have k0 : (0 : Int) ≤ (k : Int) := by omega
           have k1 : (k : Int) < (x.pr.n : Int) := by omega
           clear hz hl
           obtain ⟨a6, ha6⟩ : ∃ a6, (z != (0 : Int)) = a6 := ⟨_, rfl⟩
           cases a6
           all_goals
             go_wp2_with fail
             first
               | (go_round
                  case rel => exact ⟨k + 1, by omega, by go_num⟩
                  case measure => simp [intOf]; omega)
               | (go_ret; exact ⟨_, rfl, (fun h => by cases h), HB.out⟩)
         · have d0 : decide (k < x.pr.n) = false := decide_eq_false hlt
           go_wp2_with fail
           go_ret
           exact ⟨_, rfl, (fun _ => ⟨rfl, HPA.out⟩), HB.out⟩)

set_option maxRecDepth 100000 in
set_option maxHeartbeats 16000000 in
theorem line_o (s : Sl SlV) (w : World) (hs : Rl w s) :
    Calls Try.prog 151 #[.slice s.a s.n s.c] w (SomeG w) := by
  obtain ⟨A, n, c, l⟩ := s
  obtain ⟨s1, s2, s3, s4⟩ := hs
  have s1 : n ≤ c := s1
  have s2 : c ≤ maxLen := s2
  have s3 : Sk.Rd SlE w A n l := s3
  have HD := Lib.hid s4
  unfold maxLen at s2
  show Calls Try.prog 151 #[.slice A n c] w (SomeG w)
  clear s4
  by_cases hn0 : n = 0
  · subst hn0
    clear s3
    go_enter Try.func151, Try.ntmps151
    go_wp2_with fail
    go_loop [6] (fun i => i = .int .i64 0) (fun _ => 0)
    case atStart => rfl
    case round =>
      subst hrel
      go_wp2_with (go_at_call 94; refine (from_i _ _ _ _).mono ?_; rintro e w1 ⟨rfl, rfl⟩; rw [show fromB 0 1 8 = false from rfl])
      go_ret
      exact ⟨_, rfl, Below.refl _ _⟩
  obtain ⟨b, o, rfl, hb0, HC⟩ := sk_all SlE_len s3 (by omega)
  have HL := Lib.hid s3.1
  clear s3
  go_enter Try.func151, Try.ntmps151
  go_wp2_with fail
  go_loopw [3, 4, 5, 6] (fun a1 a2 a3 i wr => ∃ (k : Nat) (x1 x2 x3 : Int), k ≤ n ∧ 0 ≤ x1 ∧ x1 ≤ k ∧ 0 ≤ x2 ∧ x2 ≤ k ∧ 0 ≤ x3 ∧ x3 ≤ k ∧ i = .int .i64 (k : Int) ∧ a1 = .int .i64 x1 ∧ a2 = .int .i64 x2 ∧ a3 = .int .i64 x3 ∧ Below w.heap.size w wr) (fun _ _ _ i _ => n - (intOf i).toNat)
  case atStart => exact ⟨0, 0, 0, 0, Nat.zero_le _, Int.le_refl _, Int.le_refl _, Int.le_refl _, Int.le_refl _, Int.le_refl _, Int.le_refl _, rfl, rfl, rfl, rfl, Below.refl _ _⟩
  case round =>
    obtain ⟨k, x1, x2, x3, hk, g1, g2, g3, g4, g5, g6, rfl, rfl, rfl, rfl, hbr⟩ := hrel
    by_cases hlt : k < n
    · have k0 : (0 : Int) ≤ (k : Int) := by omega
      have k1 : (k : Int) < (n : Int) := by omega
      have hl : k < l.length := by rw [← HL.out]; exact hlt
      obtain ⟨⟨ki, ⟨Aw, mw, cw, lw⟩⟩, he⟩ : ∃ e, l[k] = e := ⟨_, rfl⟩
      have HW := Lib.hid (show Rs w ⟨Aw, mw, cw, lw⟩ by have h := HD.out _ (List.getElem_mem hl); rw [he] at h; exact h)
      have h0 := (hbr.cell (p := ⟨b, o + k * 2 + 0, none⟩) hb0).trans (HC.out k hl 0 (.int .i64 ki) (by rw [he]; rfl))
      have h1 := (hbr.cell (p := ⟨b, o + k * 2 + 1, none⟩) hb0).trans (HC.out k hl 1 (.slice Aw mw cw) (by rw [he]; rfl))
      rw [Nat.add_zero] at h0
      have bw : mw ≤ 9223372036854775807 := by have h2 := HW.out.1; have h3 := HW.out.2.1; unfold maxLen at h3; exact Nat.le_trans h2 (Nat.le_trans h3 (by omega))
      have hba : Below w.heap.size w (wr.alloc (.cells #[.int .i64 ki, .slice Aw mw cw] 138)) := hbr.alloc hbr.size _
      have HBL := Lib.hid hba
      clear hl he hba hbr
      obtain ⟨q1, hq1⟩ : ∃ q1, fromB ki 1 5 = q1 := ⟨_, rfl⟩
      have HQ1 := Lib.hid hq1
      cases q1 with
      | false =>
        clear hq1
        go_wp2_with (go_at_call 94; refine (from_i _ _ _ _).mono ?_; rintro e w1 ⟨rfl, rfl⟩; rw [HQ1.out])
        go_ret
        exact ⟨_, rfl, HBL.out⟩
      | true =>
        have hki := fromB_iff.1 hq1
        have hki5 : ki = 1 ∨ ki = 2 ∨ ki = 3 ∨ ki = 4 ∨ ki = 5 := by omega
        clear hq1 hki
        rcases Nat.eq_zero_or_pos mw with rfl | hpos
        · rcases hki5 with rfl | rfl | rfl | rfl | rfl
          all_goals
            go_wp2_with (first | (go_at_call 94; refine (from_i _ _ _ _).mono ?_; rintro e w1 ⟨rfl, rfl⟩; rw [HQ1.out]) | (go_at_call 146; refine (words_o ⟨Aw, 0, cw, lw⟩ 4 _ (HW.out.below HBL.out)).mono ?_; rintro e w1 ⟨q, rfl, rfl⟩; cases q))
          all_goals first
            | (go_ret; exact ⟨_, rfl, HBL.out⟩)
            | (go_roundw
               case rel => exact ⟨k + 1, _, _, _, by omega, by omega, by omega, by omega, by omega, by omega, by omega, by go_num, rfl, rfl, rfl, HBL.out⟩
               case measure => simp [intOf]; omega)
        · have p1 : ((mw : Int) == 0) = false := beq_eq_false_iff_ne.2 (by omega)
          have p2 : (0 : Int) < (mw : Int) := by omega
          rcases hki5 with rfl | rfl | rfl | rfl | rfl
          all_goals
            go_wp2_with (first | (go_at_call 94; refine (from_i _ _ _ _).mono ?_; rintro e w1 ⟨rfl, rfl⟩; rw [HQ1.out]) | (go_at_call 146; refine (words_o ⟨Aw, mw, cw, lw⟩ 4 _ (HW.out.below HBL.out)).mono ?_; rintro e w1 ⟨q, rfl, rfl⟩; cases q))
          all_goals first
            | (go_ret; exact ⟨_, rfl, HBL.out⟩)
            | (go_roundw
               case rel => exact ⟨k + 1, _, _, _, by omega, by omega, by omega, by omega, by omega, by omega, by omega, by go_num, rfl, rfl, rfl, HBL.out⟩
               case measure => simp [intOf]; omega)
    · have d0 : decide (k < n) = false := decide_eq_false hlt
      have hl : 0 < l.length := by rw [← HL.out]; omega
      obtain ⟨⟨ki, sw⟩, he⟩ : ∃ e, l[0] = e := ⟨_, rfl⟩
      have h0 := (hbr.cell (p := ⟨b, o + 0 * 2 + 0, none⟩) hb0).trans (HC.out 0 hl 0 (.int .i64 ki) (by rw [he]; rfl))
      simp only [Nat.zero_mul, Nat.add_zero] at h0
      have z0 : (0 : Int) < (n : Int) := by omega
      have z1 : 0 < n := by omega
      have hbz := Lib.hid hbr
      clear hl he hbr
      obtain ⟨e1, he1⟩ : ∃ e1, (ki == (1 : Int)) = e1 := ⟨_, rfl⟩
      obtain ⟨e2, he2⟩ : ∃ e2, (ki == (5 : Int)) = e2 := ⟨_, rfl⟩
      obtain ⟨e3, he3⟩ : ∃ e3, decide (x1 ≤ 2) = e3 := ⟨_, rfl⟩
      obtain ⟨e4, he4⟩ : ∃ e4, decide (x2 ≤ 1) = e4 := ⟨_, rfl⟩
      obtain ⟨e5, he5⟩ : ∃ e5, decide (x3 ≤ 1) = e5 := ⟨_, rfl⟩
      cases e1 <;> cases e2 <;> cases e3 <;> cases e4
      all_goals
        go_wp2_with (go_at_call 94; refine (from_i _ _ _ _).mono ?_; rintro e w1 ⟨rfl, rfl⟩; obtain ⟨q, hq⟩ : ∃ q, fromB (n : Int) 1 8 = q := ⟨_, rfl⟩; rw [hq]; clear hq; cases q)
      all_goals
        go_ret
        exact ⟨_, rfl, hbz.out⟩
end Go.Proofs.Ytncdicagadbafaa.TabZ
