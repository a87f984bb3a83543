/- Each rule that fits is in the list once and no other one, ranks do not rise, equal ranks come by number; for tables of up to 600 rules. Conditions: none beyond what every reading of the arguments gives. -/
import Derived.Test.YtpbhlphemkdljaaRuleD
import Derived.Test.YtpbhlphemkdljaaRegion
import Derived.Test.YtpbhlphemkdljaaRuleT
namespace Go.Proofs.Ytpbhlphemkdljaa.ruleOnce
open Go.ChangeShapes Go.WideShapes Go.ChangeAt Go.RowKit RuleP RuleW RuleX RuleO RuleR RuleS Ints

theorem deed_below {w w' : World} {B b o : Nat} {d : Deed} (h : DeedAt w b o d) (hb : b < B) (hw : Below B w w') : DeedAt w' b o d := by
  obtain ⟨h0, h1, h2, h3, h4, h5⟩ := h
  have hk := fun o => bcell hw b o hb
  exact ⟨by rw [hk]; exact h0, by rw [hk]; exact h1, by rw [hk]; exact h2, by rw [hk]; exact h3, by rw [hk]; exact h4, by rw [hk]; exact h5⟩

set_option maxRecDepth 100000 in
set_option maxHeartbeats 1000000 in
theorem walk {w : World} (x0 x1 x2 x3 x4 x5 x6 x7 x8 x9 x10 x11 x12 x13 x14 : Value) (ds : List Deed) (hd : Deeds w x10 ds) (hlen : ds.length ≤ maxLen) (ph : Int) (_ : (Lit.int .i64 ph).wf = true) (c : Cmd) :
    Calls Try.prog 5 #[.agg #[x0, x1, x2, x3, x4, x5, x6, x7, x8, x9, x10, x11, x12, x13, x14], .int .i64 ph, .agg #[.int .i64 c.verb, .int .i64 c.noun, .int .i64 c.second, .int .i64 c.number, .int .i64 c.dir]] w fun e w' => e = .returned (.bool true) ∧ Below w.heap.size w w' := by
  have HD := Lib.hid hd
  obtain ⟨a, cap, rfl, hd'⟩ := hd
  clear hd'
  unfold maxLen at hlen
  by_cases hl : ds.length ≤ 600
  · have hl6 : ds.length ≤ 600 := hl
    have hlt : ¬ (600 : Int) < (ds.length : Int) := by omega
    go_enter Try.func5, Try.ntmps5
    go_wp2_with fail
    refine (order_any _ _ _ _ _ _ _ _ _ _ _ _ _ _ _ ds ph c _ hl6 (HD.out.below (by go_grown))).mono ?_
    rintro r w1 ⟨v1, rfl, hown1, hb1⟩
    have hs1 := hb1.size
    simp only [World.size_alloc] at hs1
    have g01 : Below w.heap.size w w1 := joinB (Nat.le_refl _) (by go_grown) hb1
    have HD1 := Lib.hid (HD.out.below g01)
    have bx : w1.cell? ⟨w.heap.size, 10, none⟩ = some (.slice a ds.length cap) := by
      rw [bcell hb1 _ _ (by go_size)]; go_cell
    have hcm : CmdAt w1 (w.heap.size + 1) c := by
      have hk := fun o => bcell hb1 (w.heap.size + 1) o (by go_size)
      exact ⟨by rw [hk]; go_cell, by rw [hk]; go_cell, by rw [hk]; go_cell, by rw [hk]; go_cell, by rw [hk]; go_cell⟩
    have HBX := Lib.hid bx
    have HCM := Lib.hid hcm
    clear hcm
    have hsz1 : w.heap.size + 2 ≤ w1.heap.size := by omega
    have G01 := Lib.hid g01
    clear g01 hs1
    have HO1 := Lib.hid hown1
    obtain ⟨a1, cap1, n1, rfl, hn1, _⟩ := Reads.shape hown1.reads
    rw [ns_length] at hn1
    have hln : (upper ds ph c 4).length ≤ 4 * ds.length := upper_length ds ph c 4
    have hn2 : n1 ≤ 2400 := by omega
    have HN1 := Lib.hid hn1
    clear hown1 hn1 hb1 hln
    go_wp2_with (at_make; refine wpList_make_ints w1.heap.size rfl _ _ rfl ds.length rfl rfl (by omega) (Nat.le_refl _) ?_; intro w2 hown2 hb2 hg8; have HO2 := Lib.hid hown2; clear hown2)
    go_loopw [9] (fun i wr => ∃ k : Nat, k ≤ n1 ∧ i = .int .i64 (k : Int) ∧ Own wr w1.heap.size (.slice (some ⟨w1.heap.size, 0, none⟩) ds.length ds.length) (RuleT.counts ds.length ((upper ds ph c 4).take k)) ∧ Below w1.heap.size w1 wr) (fun i _ => n1 - (intOf i).toNat)
    case atStart => exact ⟨0, Nat.zero_le _, rfl, by rw [List.take_zero, RuleT.counts_nil]; exact HO2.out, hb2⟩
    case round =>
      clear hb2
      obtain ⟨wo, rfl⟩ : ∃ wo : World, wo = wr := ⟨_, rfl⟩
      obtain ⟨k, hk, rfl, hownk, hbr⟩ := hrel
      have HOK := Lib.hid hownk
      clear hownk
      by_cases hlt : k < n1
      · have hkL : k < (upper ds ph c 4).length := by rw [← HN1.out]; exact hlt
        have hown1' := HO1.out
        obtain ⟨g1, c1', hv1, hg1a, hg1b, _, _⟩ := hown1'.pointed (by intro h; have := congrArg List.length h; rw [ns_length, List.length_nil] at this; omega)
        injection hv1 with ha1 hx1 hx2
        subst ha1
        clear hx1 hx2
        have hat := (hown1'.below hbr).at.2.2.2.2.2.1
        obtain ⟨x, hx⟩ : ∃ x, (upper ds ph c 4).getD k 0 = x := ⟨_, rfl⟩
        have hxN : x < ds.length := by rw [← hx]; exact RuleT.upper_lt hkL
        have l1 : wo.cell? ⟨g1, k, none⟩ = some (.int .i64 (x : Int)) := by rw [hat k (by rw [ns_length]; exact hkL), ns_get, hx]
        obtain ⟨cx, hcx⟩ : ∃ cx, (RuleT.counts ds.length ((upper ds ph c 4).take k)).getD x 0 = cx := ⟨_, rfl⟩
        have hcx0 : 0 ≤ cx ∧ cx ≤ 2400 := by
          rw [← hcx, RuleT.counts_get hxN]
          have h1 := List.count_le_length (a := x) (l := (upper ds ph c 4).take k)
          have h2 := List.length_take_le k (upper ds ph c 4)
          omega
        have hcxa := hcx0.1
        have hcxb := hcx0.2
        have hat8 := HOK.out.at
        have l8 : wo.cell? ⟨w1.heap.size, x, none⟩ = some (.int .i64 cx) := by rw [hat8.2.2.2.2.2.1 x (by rw [RuleT.counts_length]; exact hxN), hcx]
        have f8 := hat8.2.2.2.2.2.2 x
        have hstore := HOK.out.store x (cx + 1)
        rw [← hcx, RuleT.counts_snoc hxN] at hstore
        rw [hcx] at hstore
        have htk : (upper ds ph c 4).take k ++ [x] = (upper ds ph c 4).take (k + 1) := by
          rw [List.take_succ_eq_append_getElem hkL, ← hx]
          simp [List.getD_eq_getElem?_getD, List.getElem?_eq_getElem hkL]
        rw [htk] at hstore
        have HST := Lib.hid hstore
        have hbst : Below w1.heap.size w1 (wo.setCell ⟨w1.heap.size, x, none⟩ (.int .i64 (cx + 1))) := hbr.setCell (p := ⟨w1.heap.size, x, none⟩) (Nat.le_refl _) _
        have HBST := Lib.hid hbst
        have HX := Lib.hid hx
        have t1 : decide ((x : Int) < 0) = false := by simp
        have t2 : decide ((ds.length : Int) ≤ (x : Int)) = false := by simp; omega
        have t2' : decide (ds.length ≤ x) = false := by simp; omega
        have i1 : (0 : Int) ≤ (k : Int) := by omega
        have i2 : (k : Int) < (n1 : Int) := by omega
        have i3 : (0 : Int) ≤ (x : Int) := by omega
        have i4 : (x : Int) < (ds.length : Int) := by omega
        clear hstore hbst hx hcx hcx0 hat hat8 htk hown1'
        by_cases hk0 : k = 0
        · have t3 : decide ((0 : Int) < (k : Int)) = false := by simp [hk0]
          have t3' : decide (0 < k) = false := by simp [hk0]
          have HK0 := Lib.hid hk0
          clear hk0
          go_wp2_with fail
          go_roundw
          case rel => exact ⟨k + 1, by omega, by go_num, HST.out, HBST.out⟩
          case measure => simp [intOf]; omega
        · obtain ⟨j, hj⟩ : ∃ j, k = j + 1 := ⟨k - 1, by omega⟩
          have hat := (HO1.out.below hbr).at.2.2.2.2.2.1
          obtain ⟨y, hy⟩ : ∃ y, (upper ds ph c 4).getD j 0 = y := ⟨_, rfl⟩
          have hyN : y < ds.length := by rw [← hy]; exact RuleT.upper_lt (by omega)
          have l0 : wo.cell? ⟨g1, j, none⟩ = some (.int .i64 (y : Int)) := by rw [hat j (by rw [ns_length]; omega), ns_get, hy]
          have hah : RuleT.Ahead ds y x := by rw [← hy, ← HX.out, hj]; exact RuleT.upper_next (by omega)
          obtain ⟨dx, hdx⟩ : ∃ d, ds[x]? = some d := ⟨_, List.getElem?_eq_getElem hxN⟩
          obtain ⟨dy, hdy⟩ : ∃ d, ds[y]? = some d := ⟨_, List.getElem?_eq_getElem hyN⟩
          unfold RuleT.Ahead at hah
          rw [rk_of hdx, rk_of hdy] at hah
          have g0r := joinB (Nat.le_refl _) G01.out hbr
          obtain ⟨a', cap', hav, hdw⟩ := HD.out
          injection hav with ea edl ecap
          subst ea
          subst ecap
          clear edl
          rcases hdw with hnil | ⟨b, off, rfl, hbw, hdw⟩
          · rw [hnil] at hxN; simp at hxN
          obtain ⟨p0, p1, p2, p3, p4, p5⟩ := deed_below (hdw x dx hdx) hbw g0r
          obtain ⟨q0, q1, q2, q3, q4, q5⟩ := deed_below (hdw y dy hdy) hbw g0r
          have bxw : wo.cell? ⟨w.heap.size, 10, none⟩ = some (.slice (some ⟨b, off, none⟩) ds.length cap) := by rw [bcell hbr _ _ (by omega)]; exact HBX.out
          have hbw1 : b < w1.heap.size := by omega
          have hzr := hbr.size
          have n1a : ¬ g1 = w1.heap.size := by omega
          have n1b : ¬ b = w1.heap.size := by omega
          have n1c : ¬ w.heap.size = w1.heap.size := by omega
          have hat0 := hat
          clear hat
          have HJ := Lib.hid hj
          have HY := Lib.hid hy
          have HDX := Lib.hid hdx
          have HDY := Lib.hid hdy
          have HDWW := Lib.hid hdw
          have t3 : decide ((0 : Int) < (k : Int)) = true := by simp; omega
          have t3' : decide (0 < k) = true := by simp; omega
          have e1 : IntKind.i64.wrap ((k : Int) - 1) = (j : Int) := by rw [IntWalk.i64_in _ (by omega)]; omega
          have hw01 : w.heap.size < w1.heap.size := by omega
          have j1 : (0 : Int) ≤ (j : Int) := by omega
          have j2 : (j : Int) < (n1 : Int) := by omega
          have j3 : (0 : Int) ≤ (y : Int) := by omega
          have j4 : (y : Int) < (ds.length : Int) := by omega
          clear hk0 hj hy hdx hdy hat0 hdw
          obtain ⟨ws, hws⟩ : ∃ ws : World, ws = wo.setCell ⟨w1.heap.size, x, none⟩ (.int .i64 (cx + 1)) := ⟨_, rfl⟩
          have HWS := Lib.hid hws
          have hkw : Below w1.heap.size wo ws := by rw [hws]; exact (Below.refl _ _).setCell (p := ⟨w1.heap.size, x, none⟩) (Nat.le_refl _) _
          have hzs : ws.heap.size = wo.heap.size := by rw [hws]; exact World.size_setCell _ _ _
          have hqs := fun b o (h : b < w1.heap.size) => bcell hkw b o h
          clear hws
          go_wp2_with fail
          rw [← HWS.out]
          have s0 : ws.cell? ⟨w.heap.size, 10, none⟩ = some (.slice (some ⟨b, off, none⟩) ds.length cap) := by rw [hqs _ _ (by omega)]; exact bxw
          have s1 : ws.cell? ⟨g1, j, none⟩ = some (.int .i64 (y : Int)) := by rw [hqs _ _ (by omega)]; exact l0
          have s2 : ws.cell? ⟨g1, k, none⟩ = some (.int .i64 (x : Int)) := by rw [hqs _ _ (by omega)]; exact l1
          have hqb := fun o => hqs b o hbw1
          rw [← hqb] at p0 p1 p2 p3 p4 p5 q0 q1 q2 q3 q4 q5
          clear hqb l0 l1 bxw l8 f8 hqs
          go_region_held3 (fun w' => w'.cell? ⟨w.heap.size, 10, none⟩ = some (.slice (some ⟨b, off, none⟩) ds.length cap) ∧ w'.cell? ⟨g1, j, none⟩ = some (.int .i64 (y : Int)) ∧ w'.cell? ⟨g1, k, none⟩ = some (.int .i64 (x : Int)) ∧ w'.cell? ⟨b, off + y * 6, none⟩ = some (.int .i64 dy.verb) ∧ w'.cell? ⟨b, off + y * 6 + 1, none⟩ = some (.int .i64 dy.phase) ∧ w'.cell? ⟨b, off + y * 6 + 2, none⟩ = some (.int .i64 dy.noun) ∧ w'.cell? ⟨b, off + y * 6 + 3, none⟩ = some (.int .i64 dy.second) ∧ w'.cell? ⟨b, off + y * 6 + 4, none⟩ = some (.int .i64 dy.onlyIf) ∧ w'.cell? ⟨b, off + y * 6 + 5, none⟩ = some (.int .i64 dy.body) ∧ w'.cell? ⟨b, off + x * 6, none⟩ = some (.int .i64 dx.verb) ∧ w'.cell? ⟨b, off + x * 6 + 1, none⟩ = some (.int .i64 dx.phase) ∧ w'.cell? ⟨b, off + x * 6 + 2, none⟩ = some (.int .i64 dx.noun) ∧ w'.cell? ⟨b, off + x * 6 + 3, none⟩ = some (.int .i64 dx.second) ∧ w'.cell? ⟨b, off + x * 6 + 4, none⟩ = some (.int .i64 dx.onlyIf) ∧ w'.cell? ⟨b, off + x * 6 + 5, none⟩ = some (.int .i64 dx.body)) (go_keep) (first
            | ((go_at_call 9; with_reducible refine (rank_i dy _).mono ?_); rintro r w3 ⟨rfl, hb3⟩; have hk3 := fun b o (h : b < w1.heap.size) => bcell ((Below.refl _ _).drew.trans hb3 : Below ws.heap.size ws w3) b o (by omega))
            | ((go_at_call 9; with_reducible refine (rank_i dx _).mono ?_); rintro r w4 ⟨rfl, hb4⟩; have hs3 := hb3.size; simp only [World.size_drew] at hs3; have hk4 := fun b o (h : b < w1.heap.size) => bcell hb4 b o (by omega)))
          have h34 : Below ws.heap.size ws w4 := joinB (Nat.le_refl _) ((Below.refl _ _).drew.trans hb3) hb4
          have l0' : w4.cell? ⟨g1, j, none⟩ = some (.int .i64 (y : Int)) := by rw [bcell h34 _ _ (by omega)]; exact s1
          have l1' : w4.cell? ⟨g1, k, none⟩ = some (.int .i64 (x : Int)) := by rw [bcell h34 _ _ (by omega)]; exact s2
          clear hk3 hk4 p0 p1 p2 p3 p4 p5 q0 q1 q2 q3 q4 q5 s0 s1 s2
          have HST2 := Lib.hid (by have := HST.out; rw [← HWS.out] at this; exact this.below h34 : Own w4 w1.heap.size (.slice (some ⟨w1.heap.size, 0, none⟩) ds.length ds.length) (RuleT.counts ds.length ((upper ds ph c 4).take (k + 1))))
          have HB4 := Lib.hid ((by have := HBST.out; rw [← HWS.out] at this; exact joinB (Nat.le_refl _) this (h34.mono (by omega)) : Below w1.heap.size w1 w4))
          have u1 : decide (rank dy < rank dx) = false := by simp; omega
          rcases hah with hah | ⟨hah, hxy⟩
          · have u2 : (rank dy == rank dx) = false := by rw [beq_eq_false_iff_ne]; omega
            clear hah
            go_wp2_with fail
            go_quiet (fail)
            go_wp2_with fail
            go_roundw
            case rel => exact ⟨k + 1, by omega, by go_num, HST2.out.drewN _, belowN HB4.out _⟩
            case measure => simp [intOf]; omega
          · have u2 : (rank dy == rank dx) = true := by rw [beq_iff_eq]; omega
            have u3 : decide ((x : Int) ≤ (y : Int)) = false := by simp; omega
            have u3' : decide (x ≤ y) = false := by simp; omega
            clear hah hxy
            go_wp2_with fail
            go_quiet (fail)
            go_wp2_with fail
            go_roundw
            case rel => exact ⟨k + 1, by omega, by go_num, HST2.out.drewN _, belowN HB4.out _⟩
            case measure => simp [intOf]; omega
      · have hkn : k = n1 := by omega
        have HKN := Lib.hid hkn
        have hown3 := HOK.out
        rw [hkn, HN1.out, List.take_length] at hown3
        have HO3 := Lib.hid hown3
        clear hkn hown3
        go_wp2_with fail
        go_loopw [12] (fun i wr => ∃ k : Nat, k ≤ ds.length ∧ i = .int .i64 (k : Int) ∧ Own wr w1.heap.size (.slice (some ⟨w1.heap.size, 0, none⟩) ds.length ds.length) (RuleT.counts ds.length (upper ds ph c 4)) ∧ Below w1.heap.size w1 wr) (fun i _ => ds.length - (intOf i).toNat)
        case atStart => exact ⟨0, Nat.zero_le _, rfl, HO3.out, hbr⟩
        case round =>
          clear hbr
          obtain ⟨k, hk, rfl, hownk, hbr⟩ := hrel
          have HOK := Lib.hid hownk
          clear hownk
          by_cases hlt : k < ds.length
          · obtain ⟨d, hdk⟩ : ∃ d, ds[k]? = some d := ⟨_, List.getElem?_eq_getElem hlt⟩
            have hcnt := RuleT.upper_count (phase := ph) (c := c) hdk
            have g0r := joinB (Nat.le_refl _) G01.out hbr
            obtain ⟨a', cap', hav, hdw⟩ := HD.out
            injection hav with ea edl ecap
            subst ea
            subst ecap
            clear edl
            rcases hdw with hnil | ⟨b, off, rfl, hbw, hdw⟩
            · rw [hnil] at hlt; simp at hlt
            obtain ⟨p0, p1, p2, p3, p4, p5⟩ := deed_below (hdw k d hdk) hbw g0r
            obtain ⟨y0, y1, y2, y3, y4⟩ := HCM.out.below (B := w1.heap.size) (by omega) hbr
            have bxw : wr.cell? ⟨w.heap.size, 10, none⟩ = some (.slice (some ⟨b, off, none⟩) ds.length cap) := by rw [bcell hbr _ _ (by omega)]; exact HBX.out
            obtain ⟨cx, hcx⟩ : ∃ cx : Int, ((upper ds ph c 4).count k : Nat) = cx := ⟨_, rfl⟩
            have l8 : wr.cell? ⟨w1.heap.size, k, none⟩ = some (.int .i64 cx) := by rw [HOK.out.at.2.2.2.2.2.1 k (by rw [RuleT.counts_length]; exact hlt), RuleT.counts_get hlt, hcx]
            have hbw1 : b < w1.heap.size := by omega
            have hw01 : w.heap.size < w1.heap.size := by omega
            have hw02 : w.heap.size + 1 < w1.heap.size := by omega
            have hzr : w1.heap.size < wr.heap.size := HOK.out.at.2.2.2.2.1
            have hbz : b < wr.heap.size := by omega
            have hwz : w.heap.size < wr.heap.size := by omega
            have hwz1 : w.heap.size + 1 < wr.heap.size := by omega
            have i1 : (0 : Int) ≤ (k : Int) := by omega
            have i2 : (k : Int) < (ds.length : Int) := by omega
            have HDWW := Lib.hid hdw
            have HDK := Lib.hid hdk
            clear hdw hdk
            cases hf : fits d ph c with
            | true =>
              rw [hf, if_pos rfl] at hcnt
              have hcx1 : cx = 1 := by rw [← hcx, hcnt]; rfl
              have v1 : (cx == 1) = true := by rw [hcx1]; rfl
              have v2 : decide (1 < cx) = false := by rw [hcx1]; rfl
              clear hcx hcnt hcx1
              go_wp2_with fail
              go_region_held3 (fun w' => w'.cell? ⟨w.heap.size, 10, none⟩ = some (.slice (some ⟨b, off, none⟩) ds.length cap) ∧ w'.cell? ⟨w1.heap.size, k, none⟩ = some (.int .i64 cx) ∧ w'.cell? ⟨b, off + k * 6, none⟩ = some (.int .i64 d.verb) ∧ w'.cell? ⟨b, off + k * 6 + 1, none⟩ = some (.int .i64 d.phase) ∧ w'.cell? ⟨b, off + k * 6 + 2, none⟩ = some (.int .i64 d.noun) ∧ w'.cell? ⟨b, off + k * 6 + 3, none⟩ = some (.int .i64 d.second) ∧ w'.cell? ⟨b, off + k * 6 + 4, none⟩ = some (.int .i64 d.onlyIf) ∧ w'.cell? ⟨b, off + k * 6 + 5, none⟩ = some (.int .i64 d.body) ∧ w'.cell? ⟨w.heap.size + 1, 0, none⟩ = some (.int .i64 c.verb) ∧ w'.cell? ⟨w.heap.size + 1, 1, none⟩ = some (.int .i64 c.noun) ∧ w'.cell? ⟨w.heap.size + 1, 2, none⟩ = some (.int .i64 c.second) ∧ w'.cell? ⟨w.heap.size + 1, 3, none⟩ = some (.int .i64 c.number) ∧ w'.cell? ⟨w.heap.size + 1, 4, none⟩ = some (.int .i64 c.dir)) (go_keep) (first
                | ((go_at_call 7; with_reducible refine (fits_i d ph c _).mono ?_); rintro r w3 ⟨rfl, hb3⟩; have hk3 := fun b o (h : b < wr.heap.size) => bcell ((Below.refl _ _).drew.trans hb3 : Below wr.heap.size wr w3) b o h))
              have h3 : Below wr.heap.size wr w3 := (Below.refl _ _).drew.trans hb3
              clear hk3
              go_wp2_with fail
              go_roundw
              case rel => exact ⟨k + 1, by omega, by go_num, HOK.out.below h3, joinB (Nat.le_refl _) hbr (h3.mono (Nat.le_refl _))⟩
              case measure => simp [intOf]; omega
            | false =>
              rw [hf, if_neg (by simp)] at hcnt
              have hcx1 : cx = 0 := by rw [← hcx, hcnt]; rfl
              have v1 : (cx == 1) = false := by rw [hcx1]; rfl
              have v2 : decide (1 < cx) = false := by rw [hcx1]; rfl
              clear hcx hcnt hcx1
              go_wp2_with fail
              go_region_held3 (fun w' => w'.cell? ⟨w.heap.size, 10, none⟩ = some (.slice (some ⟨b, off, none⟩) ds.length cap) ∧ w'.cell? ⟨w1.heap.size, k, none⟩ = some (.int .i64 cx) ∧ w'.cell? ⟨b, off + k * 6, none⟩ = some (.int .i64 d.verb) ∧ w'.cell? ⟨b, off + k * 6 + 1, none⟩ = some (.int .i64 d.phase) ∧ w'.cell? ⟨b, off + k * 6 + 2, none⟩ = some (.int .i64 d.noun) ∧ w'.cell? ⟨b, off + k * 6 + 3, none⟩ = some (.int .i64 d.second) ∧ w'.cell? ⟨b, off + k * 6 + 4, none⟩ = some (.int .i64 d.onlyIf) ∧ w'.cell? ⟨b, off + k * 6 + 5, none⟩ = some (.int .i64 d.body) ∧ w'.cell? ⟨w.heap.size + 1, 0, none⟩ = some (.int .i64 c.verb) ∧ w'.cell? ⟨w.heap.size + 1, 1, none⟩ = some (.int .i64 c.noun) ∧ w'.cell? ⟨w.heap.size + 1, 2, none⟩ = some (.int .i64 c.second) ∧ w'.cell? ⟨w.heap.size + 1, 3, none⟩ = some (.int .i64 c.number) ∧ w'.cell? ⟨w.heap.size + 1, 4, none⟩ = some (.int .i64 c.dir)) (go_keep) (first
                | ((go_at_call 7; with_reducible refine (fits_i d ph c _).mono ?_); rintro r w3 ⟨rfl, hb3⟩; have hk3 := fun b o (h : b < wr.heap.size) => bcell ((Below.refl _ _).drew.trans hb3 : Below wr.heap.size wr w3) b o h))
              have h3 : Below wr.heap.size wr w3 := (Below.refl _ _).drew.trans hb3
              clear hk3
              go_wp2_with fail
              go_roundw
              case rel => exact ⟨k + 1, by omega, by go_num, HOK.out.below h3, joinB (Nat.le_refl _) hbr (h3.mono (Nat.le_refl _))⟩
              case measure => simp [intOf]; omega
          · have hkn2 : k = ds.length := by omega
            have HKN2 := Lib.hid hkn2
            clear hkn2
            go_wp2_with (go_at_call 11; go_call (RuleA.awake _) as e w9 ⟨rfl, hb9⟩)
            go_ret
            exact ⟨rfl, joinB (Nat.le_refl _) (joinB (Nat.le_refl _) G01.out hbr) hb9⟩
  · have hlt : (600 : Int) < (ds.length : Int) := by omega
    go_enter Try.func5, Try.ntmps5
    go_wp2_with (go_at_call 11; go_call (RuleA.awake _) as e w9 ⟨rfl, hb9⟩)
    go_ret
    exact ⟨rfl, joinB (Nat.le_refl _) (by go_grown) hb9⟩

theorem own : ownKnob Try.prog.godebug = none := by kernel_rfl

set_option maxRecDepth 100000 in
theorem lifted (os : Os) (started : os.Started) (H : Type) (enc : TypeId × Value → H) :
    ReturnsInHanded {} Try.checked os 5 .any (Rows.ruleOnceSpec.pre6 enc Try.prog Try.f5 Rows.ruleOnceRow.domain false) (Rows.ruleOnceSpec.post enc Try.prog Try.f5 false true false false) := by
  refine returnsInHanded_of_change (C := Try.checked) own started (by kernel_rfl) Try.func5
    (ChangeSpec.witness6 (enc := enc) (C := Try.checked) false ⟨#[], #[.agg #[.int .i64 0, .int .i64 0, .int .i64 0, .int .i64 0, .slice none 0 0, .int .i64 0, .slice none 0 0, .slice none 0 0, .slice none 0 0, .slice none 0 0, .slice none 0 0, .slice none 0 0, .slice none 0 0, .slice none 0 0, .slice none 0 0], .int .i64 0, .agg #[.int .i64 0, .int .i64 0, .int .i64 0, .int .i64 0, .int .i64 0]], []⟩ 8 (by kernel_rfl) (by kernel_rfl) (by kernel_rfl) (by kernel_rfl)) ?_
  intro W base args ds gs before hval0 hW hcnd _
  have hval : ∀ (j : Nat) t v, Try.f5.params[j]? = some t → args[j]? = some v → Value.okWide Try.prog W .any base t v := hval0
  have hW' := hW
  obtain ⟨p, q, hA0, hV, rfl, hfz, hnd⟩ := hW
  have hA : DataW.TrodAll enc Try.prog W 0 (fun _ => true) true Try.f5.params.toList args.toList ds p := hA0
  rw [Try.params5] at hA hval
  obtain ⟨v0, vs0, d0, ds0, p0, q0, hargs, rfl, rfl, h0, r0⟩ := trodAll_cons hA
  obtain ⟨v1, vs1, d1, ds1, p1, q1, rfl, rfl, rfl, h1, r1⟩ := trodAll_cons r0
  obtain ⟨v2, vs2, d2, ds2, p2, q2, rfl, rfl, rfl, h2, r2⟩ := trodAll_cons r1
  obtain ⟨rfl, rfl, rfl⟩ := trodAll_nil r2
  obtain rfl : args = #[v0, v1, v2] := by cases args; simp_all
  clear hV
  obtain ⟨x0, x1, x2, x3, x4, x5, x6, x7, x8, x9, x10, x11, x12, x13, x14, deeds, rfl, hdeeds, hlen⟩ := RuleD.open_tables (hval 0 35 v0 rfl rfl) h0
  obtain ⟨a1, rfl, rfl, rfl, w1⟩ := open_int Try.underlying3 (hval 1 3 v1 rfl rfl) h1
  obtain ⟨c2, rfl⟩ := RuleD.open_cmd (hval 2 25 v2 rfl rfl) h2
  clear hA0 hval0
  refine (walk (w := W) x0 x1 x2 x3 x4 x5 x6 x7 x8 x9 x10 x11 x12 x13 x14 deeds hdeeds hlen a1 w1 c2).mono fun e W' ⟨he, hg⟩ => ?_
  subst he
  exact ⟨_, rfl, Law.post (by kernel_rfl) (by kernel_rfl) Try.underlying4 rfl rfl hW' hg ⟨rfl, rfl, rfl⟩⟩

theorem over : Rows.ruleOnceRow.holds Try.pinned (OpenSpec.ofChange Rows.ruleOnceSpec) :=
  OpenClaim.holds_of_wide 5 Try.f5 rfl rfl rfl rfl rfl rfl rfl ⟨rfl, rfl, rfl, rfl, rfl⟩ rfl rfl rfl rfl rfl (by kernel_rfl) Try.func5 (by kernel_rfl)
    (of_decide_eq_true (by kernel_rfl)) (by unfold Func.isWrapper; first | (rw [if_pos (by decide +kernel)]; kernel_rfl) | (rw [if_neg (by decide +kernel)]; exact ⟨rfl, rfl⟩))
    (fun os started H enc _ => lifted os started H enc)

/-- The statement. -/
theorem proved : Rows.RuleOnceSaid := over
#print axioms proved
end Go.Proofs.Ytpbhlphemkdljaa.ruleOnce
