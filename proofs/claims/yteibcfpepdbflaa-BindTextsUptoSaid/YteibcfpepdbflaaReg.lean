/- A region that draws its order, by hand: what may be taken first, what is passed over, a call, an operation that makes memory, two that may come up in either order; the condition on the world may grow on the way. Over every program. No walk here. -/
import Derived.Test.YteibcfpepdbflaaRows
import Derived.Handy
import Derived.Deep.RegionHeld3
namespace Go.Proofs.Yteibcfpepdbflaa.Rg
open Go Go.RowKit

section
variable {P : Program} {ops : Array Oper} {Q : Exit → Act → World → Prop} {md : Region.Mode} {S S1 : World → Prop}

theorem grow (h : ∀ w, S1 w → S w) : ∀ (fuel : Nat) (listed : Array Bool) (a : Act) (w : World), wpAnyH P md ops Q S1 fuel listed a w → wpAnyH P md ops Q S fuel listed a w
  | 0, _, _, _, k => k
  | fuel + 1, _, _, _, k => ⟨k.1, fun i hi => wpOp_mono (fun _ _ h' => ⟨h _ h'.1, grow h fuel _ _ _ h'.2⟩) (k.2 i hi)⟩

theorem pass {i t fuel : Nat} {oi : Oper} {listed : Array Bool} {ts : Array Value} {ds : List Deferred} {w : World} (hi : ops[i]? = some oi) (hd : oi.dst = some t)
    (hs : Region.noSelect ops = true) (hf : Region.free md ops listed i = true) (hr : (Region.ready md ops listed).contains i = true)
    (hQ : ∀ c a w, Q (.panic c) (a.put oi.dst undef) w → Q (.panic c) a w) (hw : Region.wanted oi (yielded ops ts) = false) (hS : S w)
    (h : wpAnyH P md ops Q S fuel (listed.setIfInBounds i true) ⟨ts.setIfInBounds t undef, ds⟩ w) : wpAnyH P md ops Q S (fuel + 1) listed ⟨ts, ds⟩ w :=
  wpAnyH_take hi hs hf hr hQ (.inr ⟨hw, rfl⟩) hS (by rw [hd]; exact h)

theorem take {i t fuel : Nat} {oi : Oper} {v : Value} {listed : Array Bool} {ts : Array Value} {ds : List Deferred} {w : World} (hi : ops[i]? = some oi) (hd : oi.dst = some t)
    (hs : Region.noSelect ops = true) (hf : Region.free md ops listed i = true) (hr : (Region.ready md ops listed).contains i = true)
    (hQ : ∀ c a w, Q (.panic c) (a.put oi.dst v) w → Q (.panic c) a w) (hw : Region.wanted oi (yielded ops ts) = true)
    (hy : ∀ w, S w → (execOp (Act.eval ⟨ts, ds⟩) oi).run P w = .ok (.value v) w) (hS : S w)
    (h : wpAnyH P md ops Q S fuel (listed.setIfInBounds i true) ⟨ts.setIfInBounds t v, ds⟩ w) : wpAnyH P md ops Q S (fuel + 1) listed ⟨ts, ds⟩ w :=
  wpAnyH_take hi hs hf hr hQ (.inl ⟨hw, hy⟩) hS (by rw [hd]; exact h)

theorem one {i fuel : Nat} {listed : Array Bool} {a : Act} {w : World} (hr : Region.ready md ops listed = [i])
    (h : wpOp P ops Q i (fun a' w' => S w' ∧ wpAnyH P md ops Q S fuel (listed.setIfInBounds i true) a' w') a w) : wpAnyH P md ops Q S (fuel + 1) listed a w :=
  ⟨fun h0 => (by rw [hr] at h0; cases h0), fun j hj => by rw [hr, List.mem_singleton] at hj; subst hj; exact h⟩
theorem two {i j fuel : Nat} {listed : Array Bool} {a : Act} {w : World} (hr : Region.ready md ops listed = [i, j])
    (h1 : wpOp P ops Q i (fun a' w' => S w' ∧ wpAnyH P md ops Q S fuel (listed.setIfInBounds i true) a' w') a w)
    (h2 : wpOp P ops Q j (fun a' w' => S w' ∧ wpAnyH P md ops Q S fuel (listed.setIfInBounds j true) a' w') a w) : wpAnyH P md ops Q S (fuel + 1) listed a w :=
  ⟨fun h0 => (by rw [hr] at h0; cases h0), fun k hk => by
    rw [hr, List.mem_cons, List.mem_singleton] at hk
    rcases hk with rfl | rfl
    · exact h1
    · exact h2⟩

/-- A call of a Go function; behind it more may be known. -/
theorem call {i t fuel : Nat} {oi : Oper} {listed : Array Bool} {ts : Array Value} {ds : List Deferred} {w : World} {f : FuncId} {args : Array Value} (hi : ops[i]? = some oi) (hd : oi.dst = some t)
    (hw : Region.wanted oi (yielded ops ts) = true) (hx : (execOp (Act.eval ⟨ts, ds⟩) oi).run P w = .ok (.enter f args) w)
    (h : Calls P f args w fun e w' => ∃ v, e = .returned v ∧ ∃ S1 : World → Prop, (∀ w, S1 w → S w) ∧ S1 w' ∧ wpAnyH P md ops Q S1 fuel (listed.setIfInBounds i true) ⟨ts.setIfInBounds t v, ds⟩ w') :
    wpOp P ops Q i (fun a' w' => S w' ∧ wpAnyH P md ops Q S fuel (listed.setIfInBounds i true) a' w') ⟨ts, ds⟩ w := by
  unfold wpOp
  simp only [hi, hw, if_true, Oper.wp, hx, Oper.upon]
  refine .inl (h.mono ?_)
  rintro e w' ⟨v, rfl, S1, hS1, hS, hk⟩
  refine ⟨hS1 _ hS, ?_⟩
  rw [hd]
  exact grow hS1 _ _ _ _ hk

/-- An operation that gives a value, and may turn the world. -/
theorem eff {i t fuel : Nat} {oi : Oper} {listed : Array Bool} {ts : Array Value} {ds : List Deferred} {w w1 : World} {v : Value} (hi : ops[i]? = some oi) (hd : oi.dst = some t)
    (hw : Region.wanted oi (yielded ops ts) = true) (hx : (execOp (Act.eval ⟨ts, ds⟩) oi).run P w = .ok (.value v) w1)
    (S1 : World → Prop) (hS1 : ∀ w, S1 w → S w) (hS : S1 w1) (h : wpAnyH P md ops Q S1 fuel (listed.setIfInBounds i true) ⟨ts.setIfInBounds t v, ds⟩ w1) :
    wpOp P ops Q i (fun a' w' => S w' ∧ wpAnyH P md ops Q S fuel (listed.setIfInBounds i true) a' w') ⟨ts, ds⟩ w := by
  unfold wpOp
  simp only [hi, hw, if_true, Oper.wp, hx, Oper.upon]
  refine .inl ⟨hS1 _ hS, ?_⟩
  rw [hd]
  exact grow hS1 _ _ _ _ h
end
end Go.Proofs.Yteibcfpepdbflaa.Rg
