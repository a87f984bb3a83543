/- The rules for any command come in the specified order, for any tables of up to 600 rules. Conditions: none beyond what every reading of the arguments gives. -/
import Derived.Test.YtpbhlphemkdljaaRuleD
import Derived.Test.YtpbhlphemkdljaaRegion
namespace Go.Proofs.Ytpbhlphemkdljaa.ruleOrder
open Go.ChangeShapes Go.WideShapes Go.ChangeAt Go.RowKit RuleP RuleW RuleX RuleO RuleR RuleS Ints

set_option maxRecDepth 100000 in
set_option maxHeartbeats 1000000 in
theorem walk {w : World} (x0 x1 x2 x3 x4 x5 x6 x7 x8 x9 x10 x11 x12 x13 x14 : Value) (ds : List Deed) (hd : Deeds w x10 ds) (hlen : ds.length ≤ maxLen) (ph : Int) (_ : (Lit.int .i64 ph).wf = true) (c : Cmd) :
    Calls Try.prog 4 #[.agg #[x0, x1, x2, x3, x4, x5, x6, x7, x8, x9, x10, x11, x12, x13, x14], .int .i64 ph, .agg #[.int .i64 c.verb, .int .i64 c.noun, .int .i64 c.second, .int .i64 c.number, .int .i64 c.dir]] w fun e w' => e = .returned (.bool true) ∧ Below w.heap.size w w' := by
  have HD := Lib.hid hd
  obtain ⟨a, cap, rfl, hd'⟩ := hd
  clear hd'
  unfold maxLen at hlen
  by_cases hl : ds.length ≤ 600
  · have hl6 : ds.length ≤ 600 := hl
    have hlt : ¬ (600 : Int) < (ds.length : Int) := by omega
    go_enter Try.func4, Try.ntmps4
    go_wp2_with fail
    go_region_held3 (fun w' => w'.cell? ⟨w.heap.size, 0, none⟩ = some (x0) ∧ w'.cell? ⟨w.heap.size, 1, none⟩ = some (x1) ∧ w'.cell? ⟨w.heap.size, 2, none⟩ = some (x2) ∧ w'.cell? ⟨w.heap.size, 3, none⟩ = some (x3) ∧ w'.cell? ⟨w.heap.size, 4, none⟩ = some (x4) ∧ w'.cell? ⟨w.heap.size, 5, none⟩ = some (x5) ∧ w'.cell? ⟨w.heap.size, 6, none⟩ = some (x6) ∧ w'.cell? ⟨w.heap.size, 7, none⟩ = some (x7) ∧ w'.cell? ⟨w.heap.size, 8, none⟩ = some (x8) ∧ w'.cell? ⟨w.heap.size, 9, none⟩ = some (x9) ∧ w'.cell? ⟨w.heap.size, 10, none⟩ = some (.slice a ds.length cap) ∧ w'.cell? ⟨w.heap.size, 11, none⟩ = some (x11) ∧ w'.cell? ⟨w.heap.size, 12, none⟩ = some (x12) ∧ w'.cell? ⟨w.heap.size, 13, none⟩ = some (x13) ∧ w'.cell? ⟨w.heap.size, 14, none⟩ = some (x14) ∧ w'.cell? ⟨w.heap.size + 1, 0, none⟩ = some (.int .i64 c.verb) ∧ w'.cell? ⟨w.heap.size + 1, 1, none⟩ = some (.int .i64 c.noun) ∧ w'.cell? ⟨w.heap.size + 1, 2, none⟩ = some (.int .i64 c.second) ∧ w'.cell? ⟨w.heap.size + 1, 3, none⟩ = some (.int .i64 c.number) ∧ w'.cell? ⟨w.heap.size + 1, 4, none⟩ = some (.int .i64 c.dir)) (go_keep) (first
      | ((go_at_call 13; with_reducible refine (order_any _ _ _ _ _ _ _ _ _ _ _ _ _ _ _ ds ph c _ hl6 (HD.out.below (by go_grown))).mono ?_); rintro r w1 ⟨v1, rfl, hown1, hb1⟩; have hs1 := hb1.size; (try simp only [World.size_alloc, World.size_drew] at hs1); have hk1 := fun b o (h : b < w.heap.size + 2) => bcell hb1 b o (by (try simp only [World.size_alloc, World.size_drew]); omega))
      | ((go_at_call 14; with_reducible refine (order_r_any _ _ _ _ _ _ _ _ _ _ _ _ _ _ _ ds ph c _ hl6 (HD.out.below (joinB (Nat.le_refl _) (by go_grown) hb1))).mono ?_); rintro r w2 ⟨v2, rfl, hown2, hb2⟩; have hs2 := hb2.size; (try simp only [World.size_alloc, World.size_drew] at hs2); have hk2 := fun b o (h : b < w.heap.size + 2) => bcell hb2 b o (by (try simp only [World.size_alloc, World.size_drew]); omega))
      | ((go_at_call 12; with_reducible refine (same_r _ _ _ _ _ (hown1.below hb2).reads hown2.reads).mono ?_); rintro r w3 ⟨rfl, hb3⟩; have hs3 := hb3.size; (try simp only [World.size_alloc, World.size_drew] at hs3); have hk3 := fun b o (h : b < w.heap.size + 2) => bcell hb3 b o (by (try simp only [World.size_alloc, World.size_drew]); omega))
      | ((go_at_call 11; with_reducible refine (RuleA.awake _).mono ?_); rintro r w4 ⟨rfl, hb4⟩; have hs4 := hb4.size; (try simp only [World.size_alloc, World.size_drew] at hs4); have hk4 := fun b o (h : b < w.heap.size + 2) => bcell hb4 b o (by (try simp only [World.size_alloc, World.size_drew]); omega)))
    go_wp2
    go_ret
    refine ⟨rfl, ?_⟩
    have g1 : Below w.heap.size w w1 := joinB (Nat.le_refl _) (by go_grown) hb1
    exact joinB (Nat.le_refl _) (joinB (Nat.le_refl _) (joinB (Nat.le_refl _) g1 hb2) hb3) hb4
  · have hlt : (600 : Int) < (ds.length : Int) := by omega
    go_enter Try.func4, Try.ntmps4
    go_wp2_with (go_at_call 11; go_call (RuleA.awake _) as e w9 ⟨rfl, hb9⟩)
    go_ret
    exact ⟨rfl, joinB (Nat.le_refl _) (by go_grown) hb9⟩

theorem own : ownKnob Try.prog.godebug = none := by kernel_rfl

set_option maxRecDepth 100000 in
theorem lifted (os : Os) (started : os.Started) (H : Type) (enc : TypeId × Value → H) :
    ReturnsInHanded {} Try.checked os 4 .any (Rows.ruleOrderSpec.pre6 enc Try.prog Try.f4 Rows.ruleOrderRow.domain false) (Rows.ruleOrderSpec.post enc Try.prog Try.f4 false true false false) := by
  refine returnsInHanded_of_change (C := Try.checked) own started (by kernel_rfl) Try.func4
    (ChangeSpec.witness6 (enc := enc) (C := Try.checked) false ⟨#[], #[.agg #[.int .i64 0, .int .i64 0, .int .i64 0, .int .i64 0, .slice none 0 0, .int .i64 0, .slice none 0 0, .slice none 0 0, .slice none 0 0, .slice none 0 0, .slice none 0 0, .slice none 0 0, .slice none 0 0, .slice none 0 0, .slice none 0 0], .int .i64 0, .agg #[.int .i64 0, .int .i64 0, .int .i64 0, .int .i64 0, .int .i64 0]], []⟩ 8 (by kernel_rfl) (by kernel_rfl) (by kernel_rfl) (by kernel_rfl)) ?_
  intro W base args ds gs before hval0 hW hcnd _
  have hval : ∀ (j : Nat) t v, Try.f4.params[j]? = some t → args[j]? = some v → Value.okWide Try.prog W .any base t v := hval0
  have hW' := hW
  obtain ⟨p, q, hA0, hV, rfl, hfz, hnd⟩ := hW
  have hA : DataW.TrodAll enc Try.prog W 0 (fun _ => true) true Try.f4.params.toList args.toList ds p := hA0
  rw [Try.params4] at hA hval
  obtain ⟨v0, vs0, d0, ds0, p0, q0, hargs, rfl, rfl, h0, r0⟩ := trodAll_cons hA
  obtain ⟨v1, vs1, d1, ds1, p1, q1, rfl, rfl, rfl, h1, r1⟩ := trodAll_cons r0
  obtain ⟨v2, vs2, d2, ds2, p2, q2, rfl, rfl, rfl, h2, r2⟩ := trodAll_cons r1
  obtain ⟨rfl, rfl, rfl⟩ := trodAll_nil r2
  obtain rfl : args = #[v0, v1, v2] := by cases args; simp_all
  clear hV
  obtain ⟨x0, x1, x2, x3, x4, x5, x6, x7, x8, x9, x10, x11, x12, x13, x14, deeds, rfl, hdeeds, hlen⟩ := RuleD.open_tables (hval 0 35 v0 rfl rfl) h0
  obtain ⟨a1, rfl, rfl, rfl, w1⟩ := open_int Try.underlying3 (hval 1 3 v1 rfl rfl) h1
  obtain ⟨c2, rfl⟩ := RuleD.open_cmd (hval 2 25 v2 rfl rfl) h2
  clear hA0 hval0
  refine (walk (w := W) x0 x1 x2 x3 x4 x5 x6 x7 x8 x9 x10 x11 x12 x13 x14 deeds hdeeds hlen a1 w1 c2).mono fun e W' ⟨he, hg⟩ => ?_
  subst he
  exact ⟨_, rfl, Law.post (by kernel_rfl) (by kernel_rfl) Try.underlying4 rfl rfl hW' hg ⟨rfl, rfl, rfl⟩⟩

theorem over : Rows.ruleOrderRow.holds Try.pinned (OpenSpec.ofChange Rows.ruleOrderSpec) :=
  OpenClaim.holds_of_wide 4 Try.f4 rfl rfl rfl rfl rfl rfl rfl ⟨rfl, rfl, rfl, rfl, rfl⟩ rfl rfl rfl rfl rfl (by kernel_rfl) Try.func4 (by kernel_rfl)
    (of_decide_eq_true (by kernel_rfl)) (by unfold Func.isWrapper; first | (rw [if_pos (by decide +kernel)]; kernel_rfl) | (rw [if_neg (by decide +kernel)]; exact ⟨rfl, rfl⟩))
    (fun os started H enc _ => lifted os started H enc)

/-- The statement. -/
theorem proved : Rows.RuleOrderSaid := over
#print axioms proved
end Go.Proofs.Ytpbhlphemkdljaa.ruleOrder
