/- rules of clewref19: some truth value, without a panic. Conditions: the tables read. -/
import Derived.Test.YtncdicagadbafaaTabT
namespace Go.Proofs.Ytncdicagadbafaa.TabL
open Go Go.RowKit NestP NestW NestX NestY ValR Sq WorldD TabD TabW TabS TabX TabY TabZ TabH TabB TabT MvR

theorem cells6 {w : World} {g : Nat} {t : TypeId} {z0 z1 z2 z3 z4 z5 : Value} (h : w.heap[g]? = some (.cells #[z0, z1, z2, z3, z4, z5] t (0, 0))) :
    w.cell? ⟨g, 0, none⟩ = some z0 ∧ w.cell? ⟨g, 1, none⟩ = some z1 ∧ w.cell? ⟨g, 2, none⟩ = some z2 ∧ w.cell? ⟨g, 3, none⟩ = some z3 ∧ w.cell? ⟨g, 4, none⟩ = some z4 ∧ w.cell? ⟨g, 5, none⟩ = some z5 ∧ (∀ o, w.frozen? ⟨g, o, none⟩ = false) := by
  refine ⟨?_, ?_, ?_, ?_, ?_, ?_, ?_⟩
  all_goals simp [World.cell?, World.frozen?, h]
set_option maxRecDepth 100000 in
set_option maxHeartbeats 8000000 in
theorem rules_o (t : TbV) (w : World) (hr : TbR w t) :
    Calls Try.prog 88 #[.agg #[.int .i64 t.ti, .int .i64 t.au, .int .i64 t.rl, .int .i64 t.mx, .slice t.tx.a t.tx.n t.tx.c, .int .i64 t.fl, .slice t.pr.a t.pr.n t.pr.c, .slice t.gl.a t.gl.n t.gl.c, .slice t.th.a t.th.n t.th.c, .slice t.ac.a t.ac.n t.ac.c, .slice t.de.a t.de.n t.de.c, .slice t.fu.a t.fu.n t.fu.c, .slice t.da.a t.da.n t.da.c, .slice t.pm.a t.pm.n t.pm.c, .slice t.lo.a t.lo.n t.lo.c]] w (SomeG w) := by
  have bac : t.ac.n ≤ 9223372036854775807 := by have h1 := hr.2.2.2.2.1.1; have h2 := hr.2.2.2.2.1.2.1; unfold maxLen at h2; omega
  have bde : t.de.n ≤ 9223372036854775807 := by have h1 := hr.2.2.2.2.2.1.1; have h2 := hr.2.2.2.2.2.1.2.1; unfold maxLen at h2; omega
  have bfu : t.fu.n ≤ 9223372036854775807 := by have h1 := hr.2.2.2.2.2.2.1.1; have h2 := hr.2.2.2.2.2.2.1.2.1; unfold maxLen at h2; omega
  have bda : t.da.n ≤ 9223372036854775807 := by have h1 := hr.2.2.2.2.2.2.2.1.1; have h2 := hr.2.2.2.2.2.2.2.1.2.1; unfold maxLen at h2; omega
  have bpm : t.pm.n ≤ 9223372036854775807 := by have h1 := hr.2.2.2.2.2.2.2.2.1.1; have h2 := hr.2.2.2.2.2.2.2.2.1.2.1; unfold maxLen at h2; omega
  have hr0 := Lib.hid hr
  have HAC := Lib.hid hr.2.2.2.2.1.2.2
  have HDE := Lib.hid hr.2.2.2.2.2.1.2.2.1
  have HFU := Lib.hid hr.2.2.2.2.2.2.1.2.2
  have HDA := Lib.hid hr.2.2.2.2.2.2.2.1.2.2
  have CT := Lib.hid (fun n W hW => (thing_i t n W hW).mono fun e w' (h : e = .returned (.bool (thingB t n)) ∧ Below W.heap.size W w') => (show SomeG W e w' from ⟨_, h.1, h.2⟩))
  have CR := Lib.hid (fun n no W hW => (rout_i t n no W hW).mono fun e w' (h : e = .returned (.bool (routB t n no)) ∧ Below W.heap.size W w') => (show SomeG W e w' from ⟨_, h.1, h.2⟩))
  clear hr
  obtain ⟨Aac, hAac⟩ : ∃ A, t.ac.a = A := ⟨_, rfl⟩
  rw [hAac]
  rw [hAac] at HAC CT CR
  clear hAac
  obtain ⟨Ade, hAde⟩ : ∃ A, t.de.a = A := ⟨_, rfl⟩
  rw [hAde]
  rw [hAde] at HDE CT CR
  clear hAde
  obtain ⟨Afu, hAfu⟩ : ∃ A, t.fu.a = A := ⟨_, rfl⟩
  rw [hAfu]
  rw [hAfu] at HFU CT CR
  clear hAfu
  obtain ⟨Ada, hAda⟩ : ∃ A, t.da.a = A := ⟨_, rfl⟩
  rw [hAda]
  rw [hAda] at HDA CT CR
  clear hAda
  by_cases hT1 : decide (64 < (t.ac.n : Int)) = true
  · go_enter Try.func88, Try.ntmps88
    have HX := Lib.hid (Bx.new w #[.int .i64 t.ti, .int .i64 t.au, .int .i64 t.rl, .int .i64 t.mx, .slice t.tx.a t.tx.n t.tx.c, .int .i64 t.fl, .slice t.pr.a t.pr.n t.pr.c, .slice t.gl.a t.gl.n t.gl.c, .slice t.th.a t.th.n t.th.c, .slice Aac t.ac.n t.ac.c, .slice Ade t.de.n t.de.c, .slice Afu t.fu.n t.fu.c, .slice Ada t.da.n t.da.c, .slice t.pm.a t.pm.n t.pm.c, .slice t.lo.a t.lo.n t.lo.c] 28)
    obtain ⟨W1, hW1⟩ : ∃ W1, w.alloc (.cells #[.int .i64 t.ti, .int .i64 t.au, .int .i64 t.rl, .int .i64 t.mx, .slice t.tx.a t.tx.n t.tx.c, .int .i64 t.fl, .slice t.pr.a t.pr.n t.pr.c, .slice t.gl.a t.gl.n t.gl.c, .slice t.th.a t.th.n t.th.c, .slice Aac t.ac.n t.ac.c, .slice Ade t.de.n t.de.c, .slice Afu t.fu.n t.fu.c, .slice Ada t.da.n t.da.c, .slice t.pm.a t.pm.n t.pm.c, .slice t.lo.a t.lo.n t.lo.c] 28) = W1 := ⟨_, rfl⟩
    rw [hW1] at HX
    obtain ⟨x0, x1, x2, x3, x4, x5, x6, x7, x8, x9, x10, x11, x12, x13, x14, xf⟩ := cells15 HX.out.box
    go_wp2_with fail
    (go_ret; exact ⟨_, rfl, HX.out.below⟩)
  have T1 : decide (64 < (t.ac.n : Int)) = false := by simpa using hT1
  clear hT1
  by_cases hT2 : decide (512 < (t.de.n : Int)) = true
  · go_enter Try.func88, Try.ntmps88
    have HX := Lib.hid (Bx.new w #[.int .i64 t.ti, .int .i64 t.au, .int .i64 t.rl, .int .i64 t.mx, .slice t.tx.a t.tx.n t.tx.c, .int .i64 t.fl, .slice t.pr.a t.pr.n t.pr.c, .slice t.gl.a t.gl.n t.gl.c, .slice t.th.a t.th.n t.th.c, .slice Aac t.ac.n t.ac.c, .slice Ade t.de.n t.de.c, .slice Afu t.fu.n t.fu.c, .slice Ada t.da.n t.da.c, .slice t.pm.a t.pm.n t.pm.c, .slice t.lo.a t.lo.n t.lo.c] 28)
    obtain ⟨W1, hW1⟩ : ∃ W1, w.alloc (.cells #[.int .i64 t.ti, .int .i64 t.au, .int .i64 t.rl, .int .i64 t.mx, .slice t.tx.a t.tx.n t.tx.c, .int .i64 t.fl, .slice t.pr.a t.pr.n t.pr.c, .slice t.gl.a t.gl.n t.gl.c, .slice t.th.a t.th.n t.th.c, .slice Aac t.ac.n t.ac.c, .slice Ade t.de.n t.de.c, .slice Afu t.fu.n t.fu.c, .slice Ada t.da.n t.da.c, .slice t.pm.a t.pm.n t.pm.c, .slice t.lo.a t.lo.n t.lo.c] 28) = W1 := ⟨_, rfl⟩
    rw [hW1] at HX
    obtain ⟨x0, x1, x2, x3, x4, x5, x6, x7, x8, x9, x10, x11, x12, x13, x14, xf⟩ := cells15 HX.out.box
    go_wp2_with fail
    (go_ret; exact ⟨_, rfl, HX.out.below⟩)
  have T2 : decide (512 < (t.de.n : Int)) = false := by simpa using hT2
  clear hT2
  by_cases hT3 : decide (64 < (t.fu.n : Int)) = true
  · go_enter Try.func88, Try.ntmps88
    have HX := Lib.hid (Bx.new w #[.int .i64 t.ti, .int .i64 t.au, .int .i64 t.rl, .int .i64 t.mx, .slice t.tx.a t.tx.n t.tx.c, .int .i64 t.fl, .slice t.pr.a t.pr.n t.pr.c, .slice t.gl.a t.gl.n t.gl.c, .slice t.th.a t.th.n t.th.c, .slice Aac t.ac.n t.ac.c, .slice Ade t.de.n t.de.c, .slice Afu t.fu.n t.fu.c, .slice Ada t.da.n t.da.c, .slice t.pm.a t.pm.n t.pm.c, .slice t.lo.a t.lo.n t.lo.c] 28)
    obtain ⟨W1, hW1⟩ : ∃ W1, w.alloc (.cells #[.int .i64 t.ti, .int .i64 t.au, .int .i64 t.rl, .int .i64 t.mx, .slice t.tx.a t.tx.n t.tx.c, .int .i64 t.fl, .slice t.pr.a t.pr.n t.pr.c, .slice t.gl.a t.gl.n t.gl.c, .slice t.th.a t.th.n t.th.c, .slice Aac t.ac.n t.ac.c, .slice Ade t.de.n t.de.c, .slice Afu t.fu.n t.fu.c, .slice Ada t.da.n t.da.c, .slice t.pm.a t.pm.n t.pm.c, .slice t.lo.a t.lo.n t.lo.c] 28) = W1 := ⟨_, rfl⟩
    rw [hW1] at HX
    obtain ⟨x0, x1, x2, x3, x4, x5, x6, x7, x8, x9, x10, x11, x12, x13, x14, xf⟩ := cells15 HX.out.box
    go_wp2_with fail
    (go_ret; exact ⟨_, rfl, HX.out.below⟩)
  have T3 : decide (64 < (t.fu.n : Int)) = false := by simpa using hT3
  clear hT3
  by_cases hT4 : decide (16 < (t.da.n : Int)) = true
  · go_enter Try.func88, Try.ntmps88
    have HX := Lib.hid (Bx.new w #[.int .i64 t.ti, .int .i64 t.au, .int .i64 t.rl, .int .i64 t.mx, .slice t.tx.a t.tx.n t.tx.c, .int .i64 t.fl, .slice t.pr.a t.pr.n t.pr.c, .slice t.gl.a t.gl.n t.gl.c, .slice t.th.a t.th.n t.th.c, .slice Aac t.ac.n t.ac.c, .slice Ade t.de.n t.de.c, .slice Afu t.fu.n t.fu.c, .slice Ada t.da.n t.da.c, .slice t.pm.a t.pm.n t.pm.c, .slice t.lo.a t.lo.n t.lo.c] 28)
    obtain ⟨W1, hW1⟩ : ∃ W1, w.alloc (.cells #[.int .i64 t.ti, .int .i64 t.au, .int .i64 t.rl, .int .i64 t.mx, .slice t.tx.a t.tx.n t.tx.c, .int .i64 t.fl, .slice t.pr.a t.pr.n t.pr.c, .slice t.gl.a t.gl.n t.gl.c, .slice t.th.a t.th.n t.th.c, .slice Aac t.ac.n t.ac.c, .slice Ade t.de.n t.de.c, .slice Afu t.fu.n t.fu.c, .slice Ada t.da.n t.da.c, .slice t.pm.a t.pm.n t.pm.c, .slice t.lo.a t.lo.n t.lo.c] 28) = W1 := ⟨_, rfl⟩
    rw [hW1] at HX
    obtain ⟨x0, x1, x2, x3, x4, x5, x6, x7, x8, x9, x10, x11, x12, x13, x14, xf⟩ := cells15 HX.out.box
    go_wp2_with fail
    (go_ret; exact ⟨_, rfl, HX.out.below⟩)
  have T4 : decide (16 < (t.da.n : Int)) = false := by simpa using hT4
  clear hT4
  go_enter Try.func88, Try.ntmps88
  have HX := Lib.hid (Bx.new w #[.int .i64 t.ti, .int .i64 t.au, .int .i64 t.rl, .int .i64 t.mx, .slice t.tx.a t.tx.n t.tx.c, .int .i64 t.fl, .slice t.pr.a t.pr.n t.pr.c, .slice t.gl.a t.gl.n t.gl.c, .slice t.th.a t.th.n t.th.c, .slice Aac t.ac.n t.ac.c, .slice Ade t.de.n t.de.c, .slice Afu t.fu.n t.fu.c, .slice Ada t.da.n t.da.c, .slice t.pm.a t.pm.n t.pm.c, .slice t.lo.a t.lo.n t.lo.c] 28)
  obtain ⟨W1, hW1⟩ : ∃ W1, w.alloc (.cells #[.int .i64 t.ti, .int .i64 t.au, .int .i64 t.rl, .int .i64 t.mx, .slice t.tx.a t.tx.n t.tx.c, .int .i64 t.fl, .slice t.pr.a t.pr.n t.pr.c, .slice t.gl.a t.gl.n t.gl.c, .slice t.th.a t.th.n t.th.c, .slice Aac t.ac.n t.ac.c, .slice Ade t.de.n t.de.c, .slice Afu t.fu.n t.fu.c, .slice Ada t.da.n t.da.c, .slice t.pm.a t.pm.n t.pm.c, .slice t.lo.a t.lo.n t.lo.c] 28) = W1 := ⟨_, rfl⟩
  rw [hW1] at HX
  obtain ⟨x0, x1, x2, x3, x4, x5, x6, x7, x8, x9, x10, x11, x12, x13, x14, xf⟩ := cells15 HX.out.box
  go_wp2_with fail
  go_loopw [3] (fun i wr => ∃ (k : Nat), k ≤ t.ac.n ∧ i = .int .i64 (k : Int) ∧ Bx w #[.int .i64 t.ti, .int .i64 t.au, .int .i64 t.rl, .int .i64 t.mx, .slice t.tx.a t.tx.n t.tx.c, .int .i64 t.fl, .slice t.pr.a t.pr.n t.pr.c, .slice t.gl.a t.gl.n t.gl.c, .slice t.th.a t.th.n t.th.c, .slice Aac t.ac.n t.ac.c, .slice Ade t.de.n t.de.c, .slice Afu t.fu.n t.fu.c, .slice Ada t.da.n t.da.c, .slice t.pm.a t.pm.n t.pm.c, .slice t.lo.a t.lo.n t.lo.c] 28 wr) (fun i _ => t.ac.n - (intOf i).toNat)
  case atStart => exact ⟨0, Nat.zero_le _, rfl, HX.out⟩
  case round =>
    clear x0 x1 x2 x3 x4 x5 x6 x7 x8 x9 x10 x11 x12 x13 x14 xf HX
    obtain ⟨k, hk, rfl, hX⟩ := hrel
    have HX := Lib.hid hX
    clear hX
    obtain ⟨x0, x1, x2, x3, x4, x5, x6, x7, x8, x9, x10, x11, x12, x13, x14, xf⟩ := cells15 HX.out.box
    by_cases hlt : k < t.ac.n
    · as_aux_lemma =>
        have k0 : (0 : Int) ≤ (k : Int) := by omega
        have k1 : (k : Int) < (t.ac.n : Int) := by omega
        have t1 : decide (k < t.ac.n) = true := decide_eq_true hlt
        obtain ⟨ab, ao, rfl, hab, HACC⟩ := sk_all AcE_len HAC.out.1 (show 0 < t.ac.n by omega)
        have lk : k < t.ac.l.length := by rw [← HAC.out.1.1]; exact hlt
        have HLN := Lib.hid (HAC.out.2 _ (List.getElem_mem lk))
        obtain ⟨⟨me, ⟨Al, ln, lc, ll⟩⟩, hac⟩ : ∃ d, t.ac.l[k] = d := ⟨_, rfl⟩
        have E1 := Lib.hid (show w.cell? ⟨ab, ao + k * 2 + 1, none⟩ = some (.slice Al ln lc) by have h := HACC.out k lk 1 _ rfl; rw [hac] at h; exact h)
        rw [hac] at HLN
        have HLN := Lib.hid (show ln ≤ lc ∧ lc ≤ maxLen ∧ Sq.Rd LnE w Al ln ll ∧ ∀ x ∈ ll, Rl w x from HLN.out)
        have bln : ln ≤ 9223372036854775807 := by have h1 := HLN.out.1; have h2 := HLN.out.2.1; unfold maxLen at h2; omega
        have e1 := (HX.out.below.cell (p := ⟨ab, ao + k * 2 + 1, none⟩) hab).trans E1.out
        clear hac lk
        go_wp2_with (go_at_call 94; refine (from_s _ _ _ _).mono ?_; rintro e w1 ⟨q, rfl, rfl⟩; cases q)
        all_goals first
          | (go_ret; exact ⟨_, rfl, HX.out.below⟩)
          | skip
        go_loopw [4] (fun i wr => ∃ (j : Nat), j ≤ ln ∧ i = .int .i64 (j : Int) ∧ Bx w #[.int .i64 t.ti, .int .i64 t.au, .int .i64 t.rl, .int .i64 t.mx, .slice t.tx.a t.tx.n t.tx.c, .int .i64 t.fl, .slice t.pr.a t.pr.n t.pr.c, .slice t.gl.a t.gl.n t.gl.c, .slice t.th.a t.th.n t.th.c, .slice (some ⟨ab, ao, none⟩) t.ac.n t.ac.c, .slice Ade t.de.n t.de.c, .slice Afu t.fu.n t.fu.c, .slice Ada t.da.n t.da.c, .slice t.pm.a t.pm.n t.pm.c, .slice t.lo.a t.lo.n t.lo.c] 28 wr) (fun i _ => ln - (intOf i).toNat)
        case atStart => exact ⟨0, Nat.zero_le _, rfl, HX.out⟩
        case round =>
          clear x0 x1 x2 x3 x4 x5 x6 x7 x8 x9 x10 x11 x12 x13 x14 xf HX e1
          obtain ⟨j, hj, rfl, hX⟩ := hrel
          have HX := Lib.hid hX
          clear hX
          obtain ⟨x0, x1, x2, x3, x4, x5, x6, x7, x8, x9, x10, x11, x12, x13, x14, xf⟩ := cells15 HX.out.box
          have e1 := (HX.out.below.cell (p := ⟨ab, ao + k * 2 + 1, none⟩) hab).trans E1.out
          by_cases hjt : j < ln
          · have j0 : (0 : Int) ≤ (j : Int) := by omega
            have j1 : (j : Int) < (ln : Int) := by omega
            have t2 : decide (j < ln) = true := decide_eq_true hjt
            obtain ⟨lb, lo, rfl, hlb, hll, hlc⟩ := HLN.out.2.2.1.at_ hjt
            have HS := Lib.hid (HLN.out.2.2.2 _ (List.getElem_mem hll))
            obtain ⟨s, hs⟩ : ∃ s, ll[j] = s := ⟨_, rfl⟩
            rw [hs] at hlc HS
            have hc := (HX.out.below.cell (p := ⟨lb, lo + j, none⟩) hlb).trans hlc
            unfold LnE at hc
            clear hlc hs hll
            go_wp2_with (go_at_call 151; refine (line_o s _ (Rl.below HS.out HX.out.below)).mono ?_; rintro e w1 ⟨q, rfl, hb⟩; have HX2 := Lib.hid (HX.out.on hb); clear HX hb; have HX := HX2; clear HX2; clear x0 x1 x2 x3 x4 x5 x6 x7 x8 x9 x10 x11 x12 x13 x14 xf; obtain ⟨x0, x1, x2, x3, x4, x5, x6, x7, x8, x9, x10, x11, x12, x13, x14, xf⟩ := cells15 HX.out.box; cases q)
            all_goals first
              | (go_ret; exact ⟨_, rfl, HX.out.below⟩)
              | (go_roundw
                 case rel => exact ⟨j + 1, by omega, by go_num, HX.out⟩
                 case measure => simp [intOf]; omega)
          · have d1 : decide (j < ln) = false := decide_eq_false hjt
            go_wp2_with fail
            go_roundw
            case rel => exact ⟨k + 1, by omega, by go_num, HX.out⟩
            case measure => simp [intOf]; omega
    · have d0 : decide (k < t.ac.n) = false := decide_eq_false hlt
      go_wp2_with fail
      go_loopw [5] (fun i wr => ∃ (k : Nat), k ≤ t.de.n ∧ i = .int .i64 (k : Int) ∧ Bx w #[.int .i64 t.ti, .int .i64 t.au, .int .i64 t.rl, .int .i64 t.mx, .slice t.tx.a t.tx.n t.tx.c, .int .i64 t.fl, .slice t.pr.a t.pr.n t.pr.c, .slice t.gl.a t.gl.n t.gl.c, .slice t.th.a t.th.n t.th.c, .slice Aac t.ac.n t.ac.c, .slice Ade t.de.n t.de.c, .slice Afu t.fu.n t.fu.c, .slice Ada t.da.n t.da.c, .slice t.pm.a t.pm.n t.pm.c, .slice t.lo.a t.lo.n t.lo.c] 28 wr) (fun i _ => t.de.n - (intOf i).toNat)
      case atStart => exact ⟨0, Nat.zero_le _, rfl, HX.out⟩
      case round =>
        clear x0 x1 x2 x3 x4 x5 x6 x7 x8 x9 x10 x11 x12 x13 x14 xf HX d0 hlt hk
        obtain ⟨k, hk, rfl, hX⟩ := hrel
        have HX := Lib.hid hX
        clear hX
        obtain ⟨x0, x1, x2, x3, x4, x5, x6, x7, x8, x9, x10, x11, x12, x13, x14, xf⟩ := cells15 HX.out.box
        by_cases hlt : k < t.de.n
        · skip
          have k0 : (0 : Int) ≤ (k : Int) := by omega
          have k1 : (k : Int) < (t.de.n : Int) := by omega
          have t1 : decide (k < t.de.n) = true := decide_eq_true hlt
          obtain ⟨db, dO, rfl, hdb, HDC⟩ := sk_all DeE_len HDE.out (show 0 < t.de.n by omega)
          have lk : k < t.de.l.length := by rw [← HDE.out.1]; exact hlt
          obtain ⟨⟨ve, ph, no, se, wh, bo⟩, hd⟩ : ∃ d, t.de.l[k] = d := ⟨_, rfl⟩
          have e0 := (HX.out.below.cell (p := ⟨db, dO + k * 6, none⟩) hdb).trans (show w.cell? ⟨db, dO + k * 6, none⟩ = some (.int .i64 ve) by have h := HDC.out k lk 0 _ rfl; rw [hd] at h; exact h)
          have e1 := (HX.out.below.cell (p := ⟨db, dO + k * 6 + 1, none⟩) hdb).trans (show w.cell? ⟨db, dO + k * 6 + 1, none⟩ = some (.int .i64 ph) by have h := HDC.out k lk 1 _ rfl; rw [hd] at h; exact h)
          have e2 := (HX.out.below.cell (p := ⟨db, dO + k * 6 + 2, none⟩) hdb).trans (show w.cell? ⟨db, dO + k * 6 + 2, none⟩ = some (.int .i64 no) by have h := HDC.out k lk 2 _ rfl; rw [hd] at h; exact h)
          have e3 := (HX.out.below.cell (p := ⟨db, dO + k * 6 + 3, none⟩) hdb).trans (show w.cell? ⟨db, dO + k * 6 + 3, none⟩ = some (.int .i64 se) by have h := HDC.out k lk 3 _ rfl; rw [hd] at h; exact h)
          have e4 := (HX.out.below.cell (p := ⟨db, dO + k * 6 + 4, none⟩) hdb).trans (show w.cell? ⟨db, dO + k * 6 + 4, none⟩ = some (.int .i64 wh) by have h := HDC.out k lk 4 _ rfl; rw [hd] at h; exact h)
          have e5 := (HX.out.below.cell (p := ⟨db, dO + k * 6 + 5, none⟩) hdb).trans (show w.cell? ⟨db, dO + k * 6 + 5, none⟩ = some (.int .i64 bo) by have h := HDC.out k lk 5 _ rfl; rw [hd] at h; exact h)
          have hlt0 := HX.out.lt
          obtain ⟨W2, hW2⟩ : ∃ W2, wr.alloc (.cells #[.int .i64 ve, .int .i64 ph, .int .i64 no, .int .i64 se, .int .i64 wh, .int .i64 bo] 124) = W2 := ⟨_, rfl⟩
          obtain ⟨g, hg⟩ : ∃ g, wr.heap.size = g := ⟨_, rfl⟩
          have hbnew : Bx2 w #[.int .i64 t.ti, .int .i64 t.au, .int .i64 t.rl, .int .i64 t.mx, .slice t.tx.a t.tx.n t.tx.c, .int .i64 t.fl, .slice t.pr.a t.pr.n t.pr.c, .slice t.gl.a t.gl.n t.gl.c, .slice t.th.a t.th.n t.th.c, .slice Aac t.ac.n t.ac.c, .slice (some ⟨db, dO, none⟩) t.de.n t.de.c, .slice Afu t.fu.n t.fu.c, .slice Ada t.da.n t.da.c, .slice t.pm.a t.pm.n t.pm.c, .slice t.lo.a t.lo.n t.lo.c] 28 g #[.int .i64 ve, .int .i64 ph, .int .i64 no, .int .i64 se, .int .i64 wh, .int .i64 bo] 124 W2 := by rw [← hW2, ← hg]; exact Bx2.new HX.out _ _
          clear HX
          have HX := Lib.hid hbnew
          obtain ⟨P0, P1, P2, P3, P4, P5, P6, P7, P8, P9, P10, P11, P12, P13, P14, Pf⟩ := cells15 HX.out.b1.box
          obtain ⟨v0, v1, v2, v3, v4, v5, vf⟩ := cells6 HX.out.box2
          clear hbnew hd lk
          rcases Decidable.em (no = -1) with rfl | hno
          all_goals rcases Decidable.em (se = -1) with rfl | hse
          all_goals (try have p1 : (no != (-1 : Int)) = true := by simpa using hno)
          all_goals (try have p2 : (se != (-1 : Int)) = true := by simpa using hse)
          all_goals as_aux_lemma =>
            go_wp2_with (first
              | (go_at_call 94; refine (from_s _ _ _ _).mono ?_; rintro e w1 ⟨q, rfl, rfl⟩; cases q)
              | (go_at_call 147; refine (CT.out _ _ (TbR.below hr0.out HX.out.b1.below)).mono ?_; rintro e w1 ⟨q, rfl, hb⟩; have HX2 := Lib.hid (HX.out.on hb); clear HX hb; have HX := HX2; clear HX2; (try clear P0 P1 P2 P3 P4 P5 P6 P7 P8 P9 P10 P11 P12 P13 P14 Pf); (try clear x0 x1 x2 x3 x4 x5 x6 x7 x8 x9 x10 x11 x12 x13 x14 xf); clear v0 v1 v2 v3 v4 v5 vf; obtain ⟨x0, x1, x2, x3, x4, x5, x6, x7, x8, x9, x10, x11, x12, x13, x14, xf⟩ := cells15 HX.out.b1.box; obtain ⟨v0, v1, v2, v3, v4, v5, vf⟩ := cells6 HX.out.box2; cases q)
              | (go_at_call 152; refine (CR.out _ _ _ (TbR.below hr0.out HX.out.b1.below)).mono ?_; rintro e w1 ⟨q, rfl, hb⟩; have HX2 := Lib.hid (HX.out.on hb); clear HX hb; have HX := HX2; clear HX2; (try clear P0 P1 P2 P3 P4 P5 P6 P7 P8 P9 P10 P11 P12 P13 P14 Pf); (try clear x0 x1 x2 x3 x4 x5 x6 x7 x8 x9 x10 x11 x12 x13 x14 xf); clear v0 v1 v2 v3 v4 v5 vf; obtain ⟨x0, x1, x2, x3, x4, x5, x6, x7, x8, x9, x10, x11, x12, x13, x14, xf⟩ := cells15 HX.out.b1.box; obtain ⟨v0, v1, v2, v3, v4, v5, vf⟩ := cells6 HX.out.box2; cases q))
            all_goals first
              | (go_ret; exact ⟨_, rfl, HX.out.b1.below⟩)
              | (go_roundw
                 case rel => exact ⟨k + 1, by omega, by go_num, HX.out.b1⟩
                 case measure => simp [intOf]; omega)
        · have d0 : decide (k < t.de.n) = false := decide_eq_false hlt
          go_wp2_with fail
          go_loopw [7] (fun i wr => ∃ (k : Nat), k ≤ t.fu.n ∧ i = .int .i64 (k : Int) ∧ Bx w #[.int .i64 t.ti, .int .i64 t.au, .int .i64 t.rl, .int .i64 t.mx, .slice t.tx.a t.tx.n t.tx.c, .int .i64 t.fl, .slice t.pr.a t.pr.n t.pr.c, .slice t.gl.a t.gl.n t.gl.c, .slice t.th.a t.th.n t.th.c, .slice Aac t.ac.n t.ac.c, .slice Ade t.de.n t.de.c, .slice Afu t.fu.n t.fu.c, .slice Ada t.da.n t.da.c, .slice t.pm.a t.pm.n t.pm.c, .slice t.lo.a t.lo.n t.lo.c] 28 wr) (fun i _ => t.fu.n - (intOf i).toNat)
          case atStart => exact ⟨0, Nat.zero_le _, rfl, HX.out⟩
          case round =>
            clear x0 x1 x2 x3 x4 x5 x6 x7 x8 x9 x10 x11 x12 x13 x14 xf HX d0 hlt hk
            obtain ⟨k, hk, rfl, hX⟩ := hrel
            have HX := Lib.hid hX
            clear hX
            obtain ⟨x0, x1, x2, x3, x4, x5, x6, x7, x8, x9, x10, x11, x12, x13, x14, xf⟩ := cells15 HX.out.box
            by_cases hlt : k < t.fu.n
            · as_aux_lemma =>
                have k0 : (0 : Int) ≤ (k : Int) := by omega
                have k1 : (k : Int) < (t.fu.n : Int) := by omega
                have t1 : decide (k < t.fu.n) = true := decide_eq_true hlt
                obtain ⟨fb, fo, rfl, hfb, hfl, hfc⟩ := HFU.out.at_ hlt
                obtain ⟨fv, hfv⟩ : ∃ v, t.fu.l[k] = v := ⟨_, rfl⟩
                rw [hfv] at hfc
                unfold I at hfc
                have HFC := Lib.hid hfc
                clear hfc hfv hfl
                go_wp2_with fail
                have hS : (fun U => Bx w #[.int .i64 t.ti, .int .i64 t.au, .int .i64 t.rl, .int .i64 t.mx, .slice t.tx.a t.tx.n t.tx.c, .int .i64 t.fl, .slice t.pr.a t.pr.n t.pr.c, .slice t.gl.a t.gl.n t.gl.c, .slice t.th.a t.th.n t.th.c, .slice Aac t.ac.n t.ac.c, .slice Ade t.de.n t.de.c, .slice (some ⟨fb, fo, none⟩) t.fu.n t.fu.c, .slice Ada t.da.n t.da.c, .slice t.pm.a t.pm.n t.pm.c, .slice t.lo.a t.lo.n t.lo.c] 28 U) wr.drew := HX.out.drew
                refine wp_region_held_drew (S := (fun U => Bx w #[.int .i64 t.ti, .int .i64 t.au, .int .i64 t.rl, .int .i64 t.mx, .slice t.tx.a t.tx.n t.tx.c, .int .i64 t.fl, .slice t.pr.a t.pr.n t.pr.c, .slice t.gl.a t.gl.n t.gl.c, .slice t.th.a t.th.n t.th.c, .slice Aac t.ac.n t.ac.c, .slice Ade t.de.n t.de.c, .slice (some ⟨fb, fo, none⟩) t.fu.n t.fu.c, .slice Ada t.da.n t.da.c, .slice t.pm.a t.pm.n t.pm.c, .slice t.lo.a t.lo.n t.lo.c] 28 U)) (by kernel_rfl) hS (fun hHeld => ?_)
                refine Rg.take (i := 0) (t := 140) rfl rfl (by kernel_rfl) (by kernel_rfl) (by kernel_rfl) (fun _ _ _ h => h) (by rfl) (by intro w0 hSw; first | (go_simp; done) | (go_simp; with_reducible rfl)) (by assumption) ?_
                simp only [List.setIfInBounds_toArray, List.set_cons_zero, List.set_cons_succ]
                refine Rg.take (i := 1) (t := 141) rfl rfl (by kernel_rfl) (by kernel_rfl) (by kernel_rfl) (fun _ _ _ h => h) (by rfl) (by intro w0 hSw; obtain ⟨x0, x1, x2, x3, x4, x5, x6, x7, x8, x9, x10, x11, x12, x13, x14, xf⟩ := cells15 hSw.box; first | (go_simp; done) | (go_simp; with_reducible rfl)) (by assumption) ?_
                simp only [List.setIfInBounds_toArray, List.set_cons_zero, List.set_cons_succ]
                refine Rg.take (i := 2) (t := 142) rfl rfl (by kernel_rfl) (by kernel_rfl) (by kernel_rfl) (fun _ _ _ h => h) (by rfl) (by intro w0 hSw; first | (go_simp; done) | (go_simp; with_reducible rfl)) (by assumption) ?_
                simp only [List.setIfInBounds_toArray, List.set_cons_zero, List.set_cons_succ]
                refine Rg.take (i := 3) (t := 143) rfl rfl (by kernel_rfl) (by kernel_rfl) (by kernel_rfl) (fun _ _ _ h => h) (by rfl) (by intro w0 hSw; first | (go_simp; done) | (go_simp; with_reducible rfl)) (by assumption) ?_
                simp only [List.setIfInBounds_toArray, List.set_cons_zero, List.set_cons_succ]
                refine Rg.take (i := 4) (t := 144) rfl rfl (by kernel_rfl) (by kernel_rfl) (by kernel_rfl) (fun _ _ _ h => h) (by rfl) (by intro w0 hSw; have hfc := (hSw.below.cell (p := ⟨fb, fo + k, none⟩) hfb).trans HFC.out; first | (go_simp; done) | (go_simp; with_reducible rfl)) (by assumption) ?_
                simp only [List.setIfInBounds_toArray, List.set_cons_zero, List.set_cons_succ]
                refine Rg.take (i := 5) (t := 145) rfl rfl (by kernel_rfl) (by kernel_rfl) (by kernel_rfl) (fun _ _ _ h => h) (by rfl) (by intro w0 hSw; first | (go_simp; done) | (go_simp; with_reducible rfl)) (by assumption) ?_
                simp only [List.setIfInBounds_toArray, List.set_cons_zero, List.set_cons_succ]
                refine Rg.take (i := 6) (t := 146) rfl rfl (by kernel_rfl) (by kernel_rfl) (by kernel_rfl) (fun _ _ _ h => h) (by rfl) (by intro w0 hSw; obtain ⟨x0, x1, x2, x3, x4, x5, x6, x7, x8, x9, x10, x11, x12, x13, x14, xf⟩ := cells15 hSw.box; first | (go_simp; done) | (go_simp; with_reducible rfl)) (by assumption) ?_
                simp only [List.setIfInBounds_toArray, List.set_cons_zero, List.set_cons_succ]
                refine Rg.take (i := 7) (t := 147) rfl rfl (by kernel_rfl) (by kernel_rfl) (by kernel_rfl) (fun _ _ _ h => h) (by rfl) (by intro w0 hSw; first | (go_simp; done) | (go_simp; with_reducible rfl)) (by assumption) ?_
                simp only [List.setIfInBounds_toArray, List.set_cons_zero, List.set_cons_succ]
                refine Rg.take (i := 8) (t := 148) rfl rfl (by kernel_rfl) (by kernel_rfl) (by kernel_rfl) (fun _ _ _ h => h) (by rfl) (by intro w0 hSw; first | (go_simp; done) | (go_simp; with_reducible rfl)) (by assumption) ?_
                simp only [List.setIfInBounds_toArray, List.set_cons_zero, List.set_cons_succ]
                refine Rg.one (i := 9) (by kernel_rfl) ?_
                refine Rg.call (i := 9) (t := 149) rfl rfl (by rfl) (by go_simp; exact ⟨rfl, rfl⟩) ?_
                refine (from_s _ _ _ _).mono ?_
                rintro e w1 ⟨q, rfl, rfl⟩
                cases q with
                | false =>
                  refine ⟨_, rfl, (fun U => Bx w #[.int .i64 t.ti, .int .i64 t.au, .int .i64 t.rl, .int .i64 t.mx, .slice t.tx.a t.tx.n t.tx.c, .int .i64 t.fl, .slice t.pr.a t.pr.n t.pr.c, .slice t.gl.a t.gl.n t.gl.c, .slice t.th.a t.th.n t.th.c, .slice Aac t.ac.n t.ac.c, .slice Ade t.de.n t.de.c, .slice (some ⟨fb, fo, none⟩) t.fu.n t.fu.c, .slice Ada t.da.n t.da.c, .slice t.pm.a t.pm.n t.pm.c, .slice t.lo.a t.lo.n t.lo.c] 28 U), fun _ h => h, hS, ?_⟩
                  simp only [List.setIfInBounds_toArray, List.set_cons_zero, List.set_cons_succ]
                  refine Rg.take (i := 10) (t := 150) rfl rfl (by kernel_rfl) (by kernel_rfl) (by kernel_rfl) (fun _ _ _ h => h) (by rfl) (by intro w0 hSw; first | (go_simp; done) | (go_simp; with_reducible rfl)) (by assumption) ?_
                  simp only [List.setIfInBounds_toArray, List.set_cons_zero, List.set_cons_succ]
                  refine wpAnyH_done (by kernel_rfl) ?_ _
                  go_wp2_with fail
                  go_ret
                  exact ⟨_, rfl, hS.below⟩
                | true =>
                  refine ⟨_, rfl, (fun U => Bx w #[.int .i64 t.ti, .int .i64 t.au, .int .i64 t.rl, .int .i64 t.mx, .slice t.tx.a t.tx.n t.tx.c, .int .i64 t.fl, .slice t.pr.a t.pr.n t.pr.c, .slice t.gl.a t.gl.n t.gl.c, .slice t.th.a t.th.n t.th.c, .slice Aac t.ac.n t.ac.c, .slice Ade t.de.n t.de.c, .slice (some ⟨fb, fo, none⟩) t.fu.n t.fu.c, .slice Ada t.da.n t.da.c, .slice t.pm.a t.pm.n t.pm.c, .slice t.lo.a t.lo.n t.lo.c] 28 U), fun _ h => h, hS, ?_⟩
                  simp only [List.setIfInBounds_toArray, List.set_cons_zero, List.set_cons_succ]
                  refine Rg.take (i := 10) (t := 150) rfl rfl (by kernel_rfl) (by kernel_rfl) (by kernel_rfl) (fun _ _ _ h => h) (by rfl) (by intro w0 hSw; first | (go_simp; done) | (go_simp; with_reducible rfl)) (by assumption) ?_
                  simp only [List.setIfInBounds_toArray, List.set_cons_zero, List.set_cons_succ]
                  refine wpAnyH_done (by kernel_rfl) ?_ _
                  go_wp2_with fail
                  go_roundw
                  case rel => exact ⟨k + 1, by omega, by go_num, hS⟩
                  case measure => simp [intOf]; omega
            · have d0 : decide (k < t.fu.n) = false := decide_eq_false hlt
              go_wp2_with fail
              go_loopw [8] (fun i wr => ∃ (k : Nat), k ≤ t.da.n ∧ i = .int .i64 (k : Int) ∧ Bx w #[.int .i64 t.ti, .int .i64 t.au, .int .i64 t.rl, .int .i64 t.mx, .slice t.tx.a t.tx.n t.tx.c, .int .i64 t.fl, .slice t.pr.a t.pr.n t.pr.c, .slice t.gl.a t.gl.n t.gl.c, .slice t.th.a t.th.n t.th.c, .slice Aac t.ac.n t.ac.c, .slice Ade t.de.n t.de.c, .slice Afu t.fu.n t.fu.c, .slice Ada t.da.n t.da.c, .slice t.pm.a t.pm.n t.pm.c, .slice t.lo.a t.lo.n t.lo.c] 28 wr) (fun i _ => t.da.n - (intOf i).toNat)
              case atStart => exact ⟨0, Nat.zero_le _, rfl, HX.out⟩
              case round =>
                clear x0 x1 x2 x3 x4 x5 x6 x7 x8 x9 x10 x11 x12 x13 x14 xf HX d0 hlt hk
                obtain ⟨k, hk, rfl, hX⟩ := hrel
                have HX := Lib.hid hX
                clear hX
                obtain ⟨x0, x1, x2, x3, x4, x5, x6, x7, x8, x9, x10, x11, x12, x13, x14, xf⟩ := cells15 HX.out.box
                by_cases hlt : k < t.da.n
                · as_aux_lemma =>
                    have k0 : (0 : Int) ≤ (k : Int) := by omega
                    have k1 : (k : Int) < (t.da.n : Int) := by omega
                    have t1 : decide (k < t.da.n) = true := decide_eq_true hlt
                    obtain ⟨mb, mo, rfl, hmb, hml, hmc⟩ := HDA.out.at_ hlt
                    obtain ⟨mv, hmv⟩ : ∃ v, t.da.l[k] = v := ⟨_, rfl⟩
                    rw [hmv] at hmc
                    unfold I at hmc
                    have HMC := Lib.hid hmc
                    clear hmc hmv hml
                    go_wp2_with fail
                    have hS : (fun U => Bx w #[.int .i64 t.ti, .int .i64 t.au, .int .i64 t.rl, .int .i64 t.mx, .slice t.tx.a t.tx.n t.tx.c, .int .i64 t.fl, .slice t.pr.a t.pr.n t.pr.c, .slice t.gl.a t.gl.n t.gl.c, .slice t.th.a t.th.n t.th.c, .slice Aac t.ac.n t.ac.c, .slice Ade t.de.n t.de.c, .slice Afu t.fu.n t.fu.c, .slice (some ⟨mb, mo, none⟩) t.da.n t.da.c, .slice t.pm.a t.pm.n t.pm.c, .slice t.lo.a t.lo.n t.lo.c] 28 U) wr.drew := HX.out.drew
                    refine wp_region_held_drew (S := (fun U => Bx w #[.int .i64 t.ti, .int .i64 t.au, .int .i64 t.rl, .int .i64 t.mx, .slice t.tx.a t.tx.n t.tx.c, .int .i64 t.fl, .slice t.pr.a t.pr.n t.pr.c, .slice t.gl.a t.gl.n t.gl.c, .slice t.th.a t.th.n t.th.c, .slice Aac t.ac.n t.ac.c, .slice Ade t.de.n t.de.c, .slice Afu t.fu.n t.fu.c, .slice (some ⟨mb, mo, none⟩) t.da.n t.da.c, .slice t.pm.a t.pm.n t.pm.c, .slice t.lo.a t.lo.n t.lo.c] 28 U)) (by kernel_rfl) hS (fun hHeld => ?_)
                    refine Rg.take (i := 0) (t := 158) rfl rfl (by kernel_rfl) (by kernel_rfl) (by kernel_rfl) (fun _ _ _ h => h) (by rfl) (by intro w0 hSw; obtain ⟨x0, x1, x2, x3, x4, x5, x6, x7, x8, x9, x10, x11, x12, x13, x14, xf⟩ := cells15 hSw.box; first | (go_simp; done) | (go_simp; with_reducible rfl)) (by assumption) ?_
                    simp only [List.setIfInBounds_toArray, List.set_cons_zero, List.set_cons_succ]
                    refine Rg.take (i := 1) (t := 159) rfl rfl (by kernel_rfl) (by kernel_rfl) (by kernel_rfl) (fun _ _ _ h => h) (by rfl) (by intro w0 hSw; first | (go_simp; done) | (go_simp; with_reducible rfl)) (by assumption) ?_
                    simp only [List.setIfInBounds_toArray, List.set_cons_zero, List.set_cons_succ]
                    refine Rg.take (i := 2) (t := 160) rfl rfl (by kernel_rfl) (by kernel_rfl) (by kernel_rfl) (fun _ _ _ h => h) (by rfl) (by intro w0 hSw; obtain ⟨x0, x1, x2, x3, x4, x5, x6, x7, x8, x9, x10, x11, x12, x13, x14, xf⟩ := cells15 hSw.box; first | (go_simp; done) | (go_simp; with_reducible rfl)) (by assumption) ?_
                    simp only [List.setIfInBounds_toArray, List.set_cons_zero, List.set_cons_succ]
                    refine Rg.take (i := 3) (t := 161) rfl rfl (by kernel_rfl) (by kernel_rfl) (by kernel_rfl) (fun _ _ _ h => h) (by rfl) (by intro w0 hSw; first | (go_simp; done) | (go_simp; with_reducible rfl)) (by assumption) ?_
                    simp only [List.setIfInBounds_toArray, List.set_cons_zero, List.set_cons_succ]
                    refine Rg.take (i := 4) (t := 162) rfl rfl (by kernel_rfl) (by kernel_rfl) (by kernel_rfl) (fun _ _ _ h => h) (by rfl) (by intro w0 hSw; first | (go_simp; done) | (go_simp; with_reducible rfl)) (by assumption) ?_
                    simp only [List.setIfInBounds_toArray, List.set_cons_zero, List.set_cons_succ]
                    refine Rg.take (i := 5) (t := 163) rfl rfl (by kernel_rfl) (by kernel_rfl) (by kernel_rfl) (fun _ _ _ h => h) (by rfl) (by intro w0 hSw; have hmc := (hSw.below.cell (p := ⟨mb, mo + k, none⟩) hmb).trans HMC.out; first | (go_simp; done) | (go_simp; with_reducible rfl)) (by assumption) ?_
                    simp only [List.setIfInBounds_toArray, List.set_cons_zero, List.set_cons_succ]
                    refine Rg.one (i := 6) (by kernel_rfl) ?_
                    refine Rg.call (i := 6) (t := 164) rfl rfl (by rfl) (by go_simp; exact ⟨rfl, rfl⟩) ?_
                    refine (CR.out _ _ _ (TbR.below hr0.out hS.below)).mono ?_
                    rintro e w1 ⟨q, rfl, hb⟩
                    have hS2 : (fun U => Bx w #[.int .i64 t.ti, .int .i64 t.au, .int .i64 t.rl, .int .i64 t.mx, .slice t.tx.a t.tx.n t.tx.c, .int .i64 t.fl, .slice t.pr.a t.pr.n t.pr.c, .slice t.gl.a t.gl.n t.gl.c, .slice t.th.a t.th.n t.th.c, .slice Aac t.ac.n t.ac.c, .slice Ade t.de.n t.de.c, .slice Afu t.fu.n t.fu.c, .slice (some ⟨mb, mo, none⟩) t.da.n t.da.c, .slice t.pm.a t.pm.n t.pm.c, .slice t.lo.a t.lo.n t.lo.c] 28 U) w1 := hS.on hb
                    clear hS hb
                    have hS := hS2
                    clear hS2
                    cases q with
                    | false =>
                      refine ⟨_, rfl, (fun U => Bx w #[.int .i64 t.ti, .int .i64 t.au, .int .i64 t.rl, .int .i64 t.mx, .slice t.tx.a t.tx.n t.tx.c, .int .i64 t.fl, .slice t.pr.a t.pr.n t.pr.c, .slice t.gl.a t.gl.n t.gl.c, .slice t.th.a t.th.n t.th.c, .slice Aac t.ac.n t.ac.c, .slice Ade t.de.n t.de.c, .slice Afu t.fu.n t.fu.c, .slice (some ⟨mb, mo, none⟩) t.da.n t.da.c, .slice t.pm.a t.pm.n t.pm.c, .slice t.lo.a t.lo.n t.lo.c] 28 U), fun _ h => h, hS, ?_⟩
                      simp only [List.setIfInBounds_toArray, List.set_cons_zero, List.set_cons_succ]
                      refine Rg.take (i := 7) (t := 165) rfl rfl (by kernel_rfl) (by kernel_rfl) (by kernel_rfl) (fun _ _ _ h => h) (by rfl) (by intro w0 hSw; first | (go_simp; done) | (go_simp; with_reducible rfl)) (by assumption) ?_
                      simp only [List.setIfInBounds_toArray, List.set_cons_zero, List.set_cons_succ]
                      refine wpAnyH_done (by kernel_rfl) ?_ _
                      go_wp2_with fail
                      go_ret
                      exact ⟨_, rfl, hS.below⟩
                    | true =>
                      refine ⟨_, rfl, (fun U => Bx w #[.int .i64 t.ti, .int .i64 t.au, .int .i64 t.rl, .int .i64 t.mx, .slice t.tx.a t.tx.n t.tx.c, .int .i64 t.fl, .slice t.pr.a t.pr.n t.pr.c, .slice t.gl.a t.gl.n t.gl.c, .slice t.th.a t.th.n t.th.c, .slice Aac t.ac.n t.ac.c, .slice Ade t.de.n t.de.c, .slice Afu t.fu.n t.fu.c, .slice (some ⟨mb, mo, none⟩) t.da.n t.da.c, .slice t.pm.a t.pm.n t.pm.c, .slice t.lo.a t.lo.n t.lo.c] 28 U), fun _ h => h, hS, ?_⟩
                      simp only [List.setIfInBounds_toArray, List.set_cons_zero, List.set_cons_succ]
                      refine Rg.take (i := 7) (t := 165) rfl rfl (by kernel_rfl) (by kernel_rfl) (by kernel_rfl) (fun _ _ _ h => h) (by rfl) (by intro w0 hSw; first | (go_simp; done) | (go_simp; with_reducible rfl)) (by assumption) ?_
                      simp only [List.setIfInBounds_toArray, List.set_cons_zero, List.set_cons_succ]
                      refine wpAnyH_done (by kernel_rfl) ?_ _
                      go_wp2_with fail
                      go_roundw
                      case rel => exact ⟨k + 1, by omega, by go_num, hS⟩
                      case measure => simp [intOf]; omega
                · have d0 : decide (k < t.da.n) = false := decide_eq_false hlt
                  go_wp2_with fail
                  go_ret
                  exact ⟨_, rfl, HX.out.below⟩
end Go.Proofs.Ytncdicagadbafaa.TabL
