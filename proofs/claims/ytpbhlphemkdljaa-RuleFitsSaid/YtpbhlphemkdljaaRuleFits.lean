/- Whether a rule is for a command, and its rank, are the specified values. Conditions: none beyond what every reading of the arguments gives. -/
import Derived.Test.YtpbhlphemkdljaaRuleD
import Derived.Test.YtpbhlphemkdljaaRegion
namespace Go.Proofs.Ytpbhlphemkdljaa.ruleFits
open Go.ChangeShapes Go.WideShapes Go.ChangeAt Go.RowKit RuleP RuleW RuleX RuleO RuleR RuleS Ints

set_option maxRecDepth 100000 in
set_option maxHeartbeats 1000000 in
theorem walk (d : Deed) (ph : Int) (_ : (Lit.int .i64 ph).wf = true) (c : Cmd) {w : World} :
    Calls Try.prog 3 #[.agg #[.int .i64 d.verb, .int .i64 d.phase, .int .i64 d.noun, .int .i64 d.second, .int .i64 d.onlyIf, .int .i64 d.body], .int .i64 ph, .agg #[.int .i64 c.verb, .int .i64 c.noun, .int .i64 c.second, .int .i64 c.number, .int .i64 c.dir]] w fun e w' => e = .returned (.bool true) ∧ Below w.heap.size w w' := by
  go_enter Try.func3, Try.ntmps3
  go_wp2_with fail
  go_region_held3 (fun w' => w'.cell? ⟨w.heap.size, 0, none⟩ = some (.int .i64 d.verb) ∧ w'.cell? ⟨w.heap.size, 1, none⟩ = some (.int .i64 d.phase) ∧ w'.cell? ⟨w.heap.size, 2, none⟩ = some (.int .i64 d.noun) ∧ w'.cell? ⟨w.heap.size, 3, none⟩ = some (.int .i64 d.second) ∧ w'.cell? ⟨w.heap.size, 4, none⟩ = some (.int .i64 d.onlyIf) ∧ w'.cell? ⟨w.heap.size, 5, none⟩ = some (.int .i64 d.body) ∧ w'.cell? ⟨w.heap.size + 1, 0, none⟩ = some (.int .i64 c.verb) ∧ w'.cell? ⟨w.heap.size + 1, 1, none⟩ = some (.int .i64 c.noun) ∧ w'.cell? ⟨w.heap.size + 1, 2, none⟩ = some (.int .i64 c.second) ∧ w'.cell? ⟨w.heap.size + 1, 3, none⟩ = some (.int .i64 c.number) ∧ w'.cell? ⟨w.heap.size + 1, 4, none⟩ = some (.int .i64 c.dir)) (go_keep) (first
    | ((go_at_call 7; with_reducible refine (fits_i d ph c _).mono ?_); rintro r w1 ⟨rfl, hb1⟩; have hs1 := hb1.size; (try simp only [World.size_alloc, World.size_drew] at hs1); have hk1 := fun b o (h : b < w.heap.size + 2) => bcell hb1 b o (by (try simp only [World.size_alloc, World.size_drew]); omega))
    | ((go_at_call 8; with_reducible refine (fits_r d ph c _).mono ?_); rintro r w2 ⟨rfl, hb2⟩; have hs2 := hb2.size; (try simp only [World.size_alloc, World.size_drew] at hs2); have hk2 := fun b o (h : b < w.heap.size + 2) => bcell hb2 b o (by (try simp only [World.size_alloc, World.size_drew]); omega))
    | ((go_at_call 9; with_reducible refine (rank_i d _).mono ?_); rintro r w3 ⟨rfl, hb3⟩; have hs3 := hb3.size; (try simp only [World.size_alloc, World.size_drew] at hs3); have hk3 := fun b o (h : b < w.heap.size + 2) => bcell hb3 b o (by (try simp only [World.size_alloc, World.size_drew]); omega))
    | ((go_at_call 10; with_reducible refine (rank_r d _).mono ?_); rintro r w4 ⟨rfl, hb4⟩; have hs4 := hb4.size; (try simp only [World.size_alloc, World.size_drew] at hs4); have hk4 := fun b o (h : b < w.heap.size + 2) => bcell hb4 b o (by (try simp only [World.size_alloc, World.size_drew]); omega))
    | ((go_at_call 11; with_reducible refine (RuleA.awake _).mono ?_); rintro r w5 ⟨rfl, hb5⟩; have hs5 := hb5.size; (try simp only [World.size_alloc, World.size_drew] at hs5); have hk5 := fun b o (h : b < w.heap.size + 2) => bcell hb5 b o (by (try simp only [World.size_alloc, World.size_drew]); omega)))
  go_wp2
  go_ret
  refine ⟨rfl, ?_⟩
  have g1 : Below w.heap.size w w1 := joinB (Nat.le_refl _) (by go_grown) hb1
  exact joinB (Nat.le_refl _) (joinB (Nat.le_refl _) (joinB (Nat.le_refl _) (joinB (Nat.le_refl _) g1 hb2) hb3) hb4) hb5

theorem own : ownKnob Try.prog.godebug = none := by kernel_rfl

set_option maxRecDepth 100000 in
theorem lifted (os : Os) (started : os.Started) (H : Type) (enc : TypeId × Value → H) :
    ReturnsInHanded {} Try.checked os 3 .any (Rows.ruleFitsSpec.pre6 enc Try.prog Try.f3 Rows.ruleFitsRow.domain false) (Rows.ruleFitsSpec.post enc Try.prog Try.f3 false true false false) := by
  refine returnsInHanded_of_change (C := Try.checked) own started (by kernel_rfl) Try.func3
    (ChangeSpec.witness6 (enc := enc) (C := Try.checked) false ⟨#[], #[.agg #[.int .i64 0, .int .i64 0, .int .i64 0, .int .i64 0, .int .i64 0, .int .i64 0], .int .i64 0, .agg #[.int .i64 0, .int .i64 0, .int .i64 0, .int .i64 0, .int .i64 0]], []⟩ 8 (by kernel_rfl) (by kernel_rfl) (by kernel_rfl) (by kernel_rfl)) ?_
  intro W base args ds gs before hval0 hW hcnd _
  have hval : ∀ (j : Nat) t v, Try.f3.params[j]? = some t → args[j]? = some v → Value.okWide Try.prog W .any base t v := hval0
  have hW' := hW
  obtain ⟨p, q, hA0, hV, rfl, hfz, hnd⟩ := hW
  have hA : DataW.TrodAll enc Try.prog W 0 (fun _ => true) true Try.f3.params.toList args.toList ds p := hA0
  rw [Try.params3] at hA hval
  obtain ⟨v0, vs0, d0, ds0, p0, q0, hargs, rfl, rfl, h0, r0⟩ := trodAll_cons hA
  obtain ⟨v1, vs1, d1, ds1, p1, q1, rfl, rfl, rfl, h1, r1⟩ := trodAll_cons r0
  obtain ⟨v2, vs2, d2, ds2, p2, q2, rfl, rfl, rfl, h2, r2⟩ := trodAll_cons r1
  obtain ⟨rfl, rfl, rfl⟩ := trodAll_nil r2
  obtain rfl : args = #[v0, v1, v2] := by cases args; simp_all
  clear hV
  obtain ⟨d0, rfl⟩ := RuleD.open_deed (hval 0 23 v0 rfl rfl) h0
  obtain ⟨a1, rfl, rfl, rfl, w1⟩ := open_int Try.underlying3 (hval 1 3 v1 rfl rfl) h1
  obtain ⟨c2, rfl⟩ := RuleD.open_cmd (hval 2 25 v2 rfl rfl) h2
  clear hA0 hval0
  refine (walk (w := W) d0 a1 w1 c2).mono fun e W' ⟨he, hg⟩ => ?_
  subst he
  exact ⟨_, rfl, Law.post (by kernel_rfl) (by kernel_rfl) Try.underlying4 rfl rfl hW' hg ⟨rfl, rfl, rfl⟩⟩

theorem over : Rows.ruleFitsRow.holds Try.pinned (OpenSpec.ofChange Rows.ruleFitsSpec) :=
  OpenClaim.holds_of_wide 3 Try.f3 rfl rfl rfl rfl rfl rfl rfl ⟨rfl, rfl, rfl, rfl, rfl⟩ rfl rfl rfl rfl rfl (by kernel_rfl) Try.func3 (by kernel_rfl)
    (of_decide_eq_true (by kernel_rfl)) (by unfold Func.isWrapper; first | (rw [if_pos (by decide +kernel)]; kernel_rfl) | (rw [if_neg (by decide +kernel)]; exact ⟨rfl, rfl⟩))
    (fun os started H enc _ => lifted os started H enc)

/-- The statement. -/
theorem proved : Rows.RuleFitsSaid := over
#print axioms proved
end Go.Proofs.Ytpbhlphemkdljaa.ruleFits
