/- The rules for a command in two parts of the list are those in the whole list; for tables of up to 300 rules. Conditions: none beyond what every reading of the arguments gives. -/
import Derived.Test.YtpbhlphemkdljaaRuleD
import Derived.Test.YtpbhlphemkdljaaRegion
import Derived.Test.YtpbhlphemkdljaaRuleV
namespace Go.Proofs.Ytpbhlphemkdljaa.ruleParts
open Go.ChangeShapes Go.WideShapes Go.ChangeAt Go.RowKit RuleP RuleW RuleX RuleO RuleR RuleS Ints

set_option maxRecDepth 100000 in
set_option maxHeartbeats 1000000 in
theorem walk {w : World} (x0 x1 x2 x3 x4 x5 x6 x7 x8 x9 x10 x11 x12 x13 x14 : Value) (ds : List Deed) (hd : Deeds w x10 ds) (hroom : RuleV.Room x10) (ph : Int) (_ : (Lit.int .i64 ph).wf = true) (c : Cmd) (cut : Int) (wc : (Lit.int .u16 cut).wf = true) :
    Calls Try.prog 6 #[.agg #[x0, x1, x2, x3, x4, x5, x6, x7, x8, x9, x10, x11, x12, x13, x14], .int .i64 ph, .agg #[.int .i64 c.verb, .int .i64 c.noun, .int .i64 c.second, .int .i64 c.number, .int .i64 c.dir], .int .u16 cut] w fun e w' => e = .returned (.bool true) ∧ Below w.heap.size w w' := by
  have hc0 := (bounds_u16 wc).1
  have hc1 := (bounds_u16 wc).2
  clear wc
  have HD := Lib.hid hd
  obtain ⟨a0, n0, cap0, hr1, hr2, hr3, hr4⟩ := hroom
  obtain ⟨a, cap, rfl, hd'⟩ := hd
  injection hr1 with e1 e2 e3
  subst e1 e2 e3
  clear hd'
  unfold maxLen at hr3
  by_cases hl : ds.length ≤ 300
  · have hlt : ¬ (300 : Int) < (ds.length : Int) := by omega
    obtain ⟨K, hK⟩ : ∃ K : Nat, cut % ((ds.length : Int) + 1) = (K : Int) := ⟨(cut % ((ds.length : Int) + 1)).toNat, by have := Int.emod_nonneg cut (show (ds.length : Int) + 1 ≠ 0 by omega); omega⟩
    have hKN : K ≤ ds.length := by have := Int.emod_lt_of_pos cut (show 0 < (ds.length : Int) + 1 by omega); omega
    have hz : ¬ (ds.length : Int) + 1 = 0 := by omega
    have D1 := Lib.hid (RuleV.deeds_take HD.out K hKN)
    have D2 := Lib.hid (RuleV.deeds_drop HD.out hr2 K hKN)
    have r1 := fun w0 => Slic.run_high (P := Try.prog) 33 23 6 Try.underlying33 (by kernel_rfl) a ds.length cap K (by omega) w0
    have r2 := fun w0 => Slic.run_low (P := Try.prog) 33 23 6 Try.underlying33 (by kernel_rfl) a ds.length cap K hKN w0
    go_enter Try.func6, Try.ntmps6
    go_wp2_with fail
    go_region_held3 (fun w' => w'.cell? ⟨w.heap.size, 10, none⟩ = some (.slice a ds.length cap) ∧ w'.cell? ⟨w.heap.size + 1, 0, none⟩ = some (.int .i64 c.verb) ∧ w'.cell? ⟨w.heap.size + 1, 1, none⟩ = some (.int .i64 c.noun) ∧ w'.cell? ⟨w.heap.size + 1, 2, none⟩ = some (.int .i64 c.second) ∧ w'.cell? ⟨w.heap.size + 1, 3, none⟩ = some (.int .i64 c.number) ∧ w'.cell? ⟨w.heap.size + 1, 4, none⟩ = some (.int .i64 c.dir)) (go_keep) (first
      | ((go_at_call 13; with_reducible refine (order_any _ _ _ _ _ _ _ _ _ _ (.slice a K cap) _ _ _ _ (ds.take K) ph c _ (by rw [List.length_take]; omega) (D1.out.below (by go_grown))).mono ?_); rintro r w1 ⟨v1, rfl, hown1, hb1⟩; have hs1 := hb1.size; (try simp only [World.size_alloc, World.size_drew] at hs1); have hk1 := fun b o (h : b < w.heap.size + 2) => bcell hb1 b o (by (try simp only [World.size_alloc, World.size_drew]); omega); have HO1 := Lib.hid hown1; clear hown1)
      | ((go_at_call 13; with_reducible refine (order_any _ _ _ _ _ _ _ _ _ _ (.slice (Slic.cutAt a cap K 6) (ds.length - K) (cap - K)) _ _ _ _ (ds.drop K) ph c _ (by rw [List.length_drop]; omega) (D2.out.below (joinB (Nat.le_refl _) (by go_grown) hb1))).mono ?_); rintro r w2 ⟨v2, rfl, hown2, hb2⟩; have hs2 := hb2.size; (try simp only [World.size_alloc, World.size_drew] at hs2); have hk2 := fun b o (h : b < w.heap.size + 2) => bcell hb2 b o (by (try simp only [World.size_alloc, World.size_drew]); omega); have HO2 := Lib.hid hown2; clear hown2))
    have g01 : Below w.heap.size w w1 := joinB (Nat.le_refl _) (by go_grown) hb1
    have g02 : Below w.heap.size w w2 := joinB (Nat.le_refl _) g01 hb2
    have hq1 : w.heap.size < w.heap.size + 2 := by omega
    have hq2 : w.heap.size + 1 < w.heap.size + 2 := by omega
    have G02 := Lib.hid g02
    clear g01 g02
    go_wp2_with fail
    refine (order_any _ _ _ _ _ _ _ _ _ _ (.slice a ds.length cap) _ _ _ _ ds ph c _ (by omega) (HD.out.below G02.out)).mono ?_
    rintro r w3 ⟨v3, rfl, hown3, hb3⟩
    have HO3 := Lib.hid hown3
    clear hown3
    have ra : Reads w3 v1 (ns (RuleU.lo K (upper ds ph c 4))) := by rw [RuleU.lo_upper _ _ _ _ hKN]; exact (HO1.out.reads.below hb2).below hb3
    have rb : Reads w3 v2 (ns (upper (ds.drop K) ph c 4)) := HO2.out.reads.below hb3
    have rc := HO3.out.reads
    have RA := Lib.hid ra
    have RB := Lib.hid rb
    have RC := Lib.hid rc
    obtain ⟨a1, cap1, n1, rfl, hn1, hm1⟩ := Reads.shape ra
    obtain ⟨a2, cap2, n2, rfl, hn2, hm2⟩ := Reads.shape rb
    obtain ⟨a3, cap3, n3, rfl, hn3, hm3⟩ := Reads.shape rc
    rw [ns_length] at hn1 hn2 hn3
    have hu3 : (upper ds ph c 4).length ≤ 4 * ds.length := upper_length ds ph c 4
    have hsum := RuleU.lo_hi_length K (upper ds ph c 4)
    rw [RuleU.hi_upper _ _ _ _ hKN, List.length_map] at hsum
    have b3 : n3 ≤ 1200 := by omega
    have b1 : n1 ≤ 1200 := by omega
    have b2 : n2 ≤ 1200 := by omega
    have tt : ((n3 : Int) != (n1 : Int) + (n2 : Int)) = false := by simp; omega
    have HN3 := Lib.hid hn3
    have G03 := Lib.hid (joinB (Nat.le_refl _) G02.out hb3)
    clear ra rb rc hn1 hn2 hn3 hm1 hm2 hm3 hu3 hsum hk1 hk2 hs1 hs2 hb1 hb2 hb3 HO1 HO2 r1 r2 hr2 hr3 hr4
    go_wp2_with fail
    go_loopw [10, 11, 13] (fun va vb i wr => ∃ j : Nat, j ≤ n3 ∧ i = .int .i64 (j : Int) ∧ Reads wr va (ns (RuleU.lo K ((upper ds ph c 4).drop j))) ∧ (∃ lb, Reads wr vb (ns lb) ∧ lb.map (· + K) = RuleU.hi K ((upper ds ph c 4).drop j)) ∧ ∃ q, wr = w3.drewN q) (fun _ _ i _ => n3 - (intOf i).toNat)
    case atStart => exact ⟨0, Nat.zero_le _, rfl, by rw [List.drop_zero]; exact RA.out, ⟨_, RB.out, by rw [List.drop_zero, RuleU.hi_upper _ _ _ _ hKN]⟩, 0, rfl⟩
    case round =>
      obtain ⟨j, hj, rfl, ra, ⟨lb, rb, hmap⟩, q, rfl⟩ := hrel
      by_cases hlt : j < n3
      · have hjL : j < (upper ds ph c 4).length := by rw [← HN3.out]; exact hlt
        obtain ⟨x, hx⟩ : ∃ x, (upper ds ph c 4).getD j 0 = x := ⟨_, rfl⟩
        have hxN : x < ds.length := by rw [← hx]; exact RuleT.upper_lt hjL
        rcases RC.out with ⟨_, hnil⟩ | ⟨g3, o3, c3', hv3, _, _, _, hc3⟩
        · have := congrArg List.length hnil; rw [ns_length, List.length_nil] at this; omega
        injection hv3 with ea3 en3 ec3
        subst ea3
        have c3 : w3.cell? ⟨g3, o3 + j, none⟩ = some (.int .i64 (x : Int)) := by rw [hc3 j (by rw [ns_length]; exact hjL), ns_get, hx]
        have i1 : (0 : Int) ≤ (j : Int) := by omega
        have i2 : (j : Int) < (n3 : Int) := by omega
        clear en3 ec3 hc3
        by_cases hxK : x < K
        · have he := RuleU.lo_drop_low (k := K) hjL (by rw [hx]; exact hxK)
          rw [hx] at he
          have HE := Lib.hid he
          rw [he.1] at ra
          obtain ⟨p1, o1, m1, k1, rfl, HM1, hm1, hmk1, hmx1, hcell, HT⟩ := RuleV.reads_cons (x := (x : Int)) (l := ns (RuleU.lo K ((upper ds ph c 4).drop (j + 1)))) ra
          have c1 : w3.cell? ⟨p1, o1, none⟩ = some (.int .i64 (x : Int)) := hcell
          have t1 : decide ((0 : Int) < (m1 : Int)) = true := by simp; omega
          have t1' : decide (0 < m1) = true := by simp; omega
          have i3 : (0 : Int) < (m1 : Int) := by omega
          have rs : ∀ w0, (Instr.slice 30 (.slice (some ⟨p1, o1, none⟩) m1 k1) (some (.int .i64 1)) none none).run Try.prog w0 = .ok (.slice (Slic.cutAt (some ⟨p1, o1, none⟩) k1 1 1) (m1 - 1) (k1 - 1)) w0 := fun w0 => Slic.run_low (P := Try.prog) 30 3 1 Try.underlying30 (by kernel_rfl) (some ⟨p1, o1, none⟩) m1 k1 1 hm1 w0
          have HMAP := Lib.hid hmap
          have RBB := Lib.hid rb
          clear he ra hcell hmap rb hx hxK hmk1 hmx1
          go_wp2_with fail
          go_quiet (fail)
          go_wp2_with fail
          go_roundw
          case rel => exact ⟨j + 1, by omega, by go_num, HT.out _ (fun o => rfl) (Nat.le_refl _), ⟨lb, RBB.out, by rw [HMAP.out, HE.out.2]⟩, _, rfl⟩
          case measure => simp [intOf]; omega
        · have he := RuleU.lo_drop_high (k := K) hjL (by rw [hx]; omega)
          rw [hx] at he
          rw [he.1] at hmap
          have HE := Lib.hid he
          cases lb with
          | nil => simp at hmap
          | cons y lb =>
            rw [List.map_cons] at hmap
            injection hmap with hy hmap
            obtain ⟨p2, o2, m2, k2, rfl, HM2, hm2, hmk2, hmx2, hcell, HT2⟩ := RuleV.reads_cons (x := (y : Int)) (l := ns lb) rb
            have c2 : w3.cell? ⟨p2, o2, none⟩ = some (.int .i64 (y : Int)) := hcell
            have t2 : decide ((0 : Int) < (m2 : Int)) = true := by simp; omega
            have t2' : decide (0 < m2) = true := by simp; omega
            have i4 : (0 : Int) < (m2 : Int) := by omega
            have e4 : IntKind.i64.wrap ((y : Int) + (K : Int)) = (x : Int) := by rw [IntWalk.i64_in _ (by omega)]; omega
            have rs2 : ∀ w0, (Instr.slice 30 (.slice (some ⟨p2, o2, none⟩) m2 k2) (some (.int .i64 1)) none none).run Try.prog w0 = .ok (.slice (Slic.cutAt (some ⟨p2, o2, none⟩) k2 1 1) (m2 - 1) (k2 - 1)) w0 := fun w0 => Slic.run_low (P := Try.prog) 30 3 1 Try.underlying30 (by kernel_rfl) (some ⟨p2, o2, none⟩) m2 k2 1 hm2 w0
            have HMAP := Lib.hid hmap
            clear he hcell hmap rb hx hy hmk2 hmx2
            cases hla : RuleU.lo K ((upper ds ph c 4).drop j) with
            | nil =>
              have RAA := Lib.hid ra
              obtain ⟨a4, cap4, n4, rfl, hn4, _⟩ := Reads.shape ra
              rw [ns_length, hla] at hn4
              have hn0 : n4 = 0 := by simpa using hn4
              subst hn0
              have HLA := Lib.hid hla
              clear hn4 hla ra hxK
              go_wp2_with fail
              go_quiet (fail)
              go_wp2_with fail
              go_quiet (fail)
              go_wp2_with fail
              go_roundw
              case rel => exact ⟨j + 1, by omega, by go_num, by rw [← HE.out.2]; exact RAA.out, ⟨lb, HT2.out _ (fun o => rfl) (Nat.le_refl _), HMAP.out⟩, _, rfl⟩
              case measure => simp [intOf]; omega
            | cons z la =>
              have hzK : z < K := RuleU.lo_mem (l := (upper ds ph c 4).drop j) (by rw [hla]; exact List.mem_cons_self)
              have RAA := Lib.hid ra
              rw [hla] at ra
              obtain ⟨p1, o1, m1, k1, rfl, HM1, hm1, hmk1, hmx1, hcell, _⟩ := RuleV.reads_cons (x := (z : Int)) (l := ns la) ra
              have c1 : w3.cell? ⟨p1, o1, none⟩ = some (.int .i64 (z : Int)) := hcell
              have t1 : decide ((0 : Int) < (m1 : Int)) = true := by simp; omega
              have t1' : decide (0 < m1) = true := by simp; omega
              have i3 : (0 : Int) < (m1 : Int) := by omega
              have t3 : ((x : Int) == (z : Int)) = false := by rw [beq_eq_false_iff_ne]; omega
              have t3' : (x == z) = false := by rw [beq_eq_false_iff_ne]; omega
              have HLA := Lib.hid hla
              clear hla ra hcell hxK hzK hmk1 hmx1
              go_wp2_with fail
              go_quiet (fail)
              go_wp2_with fail
              go_quiet (fail)
              go_wp2_with fail
              go_roundw
              case rel => exact ⟨j + 1, by omega, by go_num, by rw [← HE.out.2]; exact RAA.out, ⟨lb, HT2.out _ (fun o => rfl) (Nat.le_refl _), HMAP.out⟩, _, rfl⟩
              case measure => simp [intOf]; omega
      · have hkn : j = n3 := by omega
        have HKN := Lib.hid hkn
        clear hkn ra rb hmap
        go_wp2_with (go_at_call 11; go_call (RuleA.awake _) as e w9 ⟨rfl, hb9⟩)
        go_ret
        exact ⟨rfl, joinB (Nat.le_refl _) (belowN G03.out _) hb9⟩
  · have hlt : (300 : Int) < (ds.length : Int) := by omega
    go_enter Try.func6, Try.ntmps6
    go_wp2_with (go_at_call 11; go_call (RuleA.awake _) as e w9 ⟨rfl, hb9⟩)
    go_ret
    exact ⟨rfl, joinB (Nat.le_refl _) (by go_grown) hb9⟩

theorem own : ownKnob Try.prog.godebug = none := by kernel_rfl

set_option maxRecDepth 100000 in
theorem lifted (os : Os) (started : os.Started) (H : Type) (enc : TypeId × Value → H) :
    ReturnsInHanded {} Try.checked os 6 .any (Rows.rulePartsSpec.pre6 enc Try.prog Try.f6 Rows.rulePartsRow.domain false) (Rows.rulePartsSpec.post enc Try.prog Try.f6 false true false false) := by
  refine returnsInHanded_of_change (C := Try.checked) own started (by kernel_rfl) Try.func6
    (ChangeSpec.witness6 (enc := enc) (C := Try.checked) false ⟨#[], #[.agg #[.int .i64 0, .int .i64 0, .int .i64 0, .int .i64 0, .slice none 0 0, .int .i64 0, .slice none 0 0, .slice none 0 0, .slice none 0 0, .slice none 0 0, .slice none 0 0, .slice none 0 0, .slice none 0 0, .slice none 0 0, .slice none 0 0], .int .i64 0, .agg #[.int .i64 0, .int .i64 0, .int .i64 0, .int .i64 0, .int .i64 0], .int .u16 0], []⟩ 8 (by kernel_rfl) (by kernel_rfl) (by kernel_rfl) (by kernel_rfl)) ?_
  intro W base args ds gs before hval0 hW hcnd _
  have hval : ∀ (j : Nat) t v, Try.f6.params[j]? = some t → args[j]? = some v → Value.okWide Try.prog W .any base t v := hval0
  have hW' := hW
  obtain ⟨p, q, hA0, hV, rfl, hfz, hnd⟩ := hW
  have hA : DataW.TrodAll enc Try.prog W 0 (fun _ => true) true Try.f6.params.toList args.toList ds p := hA0
  rw [Try.params6] at hA hval
  obtain ⟨v0, vs0, d0, ds0, p0, q0, hargs, rfl, rfl, h0, r0⟩ := trodAll_cons hA
  obtain ⟨v1, vs1, d1, ds1, p1, q1, rfl, rfl, rfl, h1, r1⟩ := trodAll_cons r0
  obtain ⟨v2, vs2, d2, ds2, p2, q2, rfl, rfl, rfl, h2, r2⟩ := trodAll_cons r1
  obtain ⟨v3, vs3, d3, ds3, p3, q3, rfl, rfl, rfl, h3, r3⟩ := trodAll_cons r2
  obtain ⟨rfl, rfl, rfl⟩ := trodAll_nil r3
  obtain rfl : args = #[v0, v1, v2, v3] := by cases args; simp_all
  clear hV
  obtain ⟨x0, x1, x2, x3, x4, x5, x6, x7, x8, x9, x10, x11, x12, x13, x14, deeds, rfl, hdeeds, hroom⟩ := RuleV.open_tables2 (hval 0 35 v0 rfl rfl) h0
  obtain ⟨a1, rfl, rfl, rfl, w1⟩ := open_int Try.underlying3 (hval 1 3 v1 rfl rfl) h1
  obtain ⟨c2, rfl⟩ := RuleD.open_cmd (hval 2 25 v2 rfl rfl) h2
  obtain ⟨a3, rfl, rfl, rfl, w3⟩ := open_int Try.underlying39 (hval 3 39 v3 rfl rfl) h3
  clear hA0 hval0
  refine (walk (w := W) x0 x1 x2 x3 x4 x5 x6 x7 x8 x9 x10 x11 x12 x13 x14 deeds hdeeds hroom a1 w1 c2 a3 w3).mono fun e W' ⟨he, hg⟩ => ?_
  subst he
  exact ⟨_, rfl, Law.post (by kernel_rfl) (by kernel_rfl) Try.underlying4 rfl rfl hW' hg ⟨rfl, rfl, rfl⟩⟩

theorem over : Rows.rulePartsRow.holds Try.pinned (OpenSpec.ofChange Rows.rulePartsSpec) :=
  OpenClaim.holds_of_wide 6 Try.f6 rfl rfl rfl rfl rfl rfl rfl ⟨rfl, rfl, rfl, rfl, rfl⟩ rfl rfl rfl rfl rfl (by kernel_rfl) Try.func6 (by kernel_rfl)
    (of_decide_eq_true (by kernel_rfl)) (by unfold Func.isWrapper; first | (rw [if_pos (by decide +kernel)]; kernel_rfl) | (rw [if_neg (by decide +kernel)]; exact ⟨rfl, rfl⟩))
    (fun os started H enc _ => lifted os started H enc)

/-- The statement. -/
theorem proved : Rows.RulePartsSaid := over
#print axioms proved
end Go.Proofs.Ytpbhlphemkdljaa.ruleParts
