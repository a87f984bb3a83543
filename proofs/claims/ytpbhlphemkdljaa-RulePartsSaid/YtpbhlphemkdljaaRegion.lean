/- A region that draws its order: an operation whose guard says no is taken first, like any that yields its value in every world; the slots that the operations write are named. Over every program. No walk here. -/
import Derived.Test.YtpbhlphemkdljaaRows
import Derived.Handy
import Derived.Deep.RegionHeld3
namespace Go.Proofs.Ytpbhlphemkdljaa.Reg
open Go Go.RowKit

section
variable {P : Program} {ops : Array Oper} {Q : Exit → Act → World → Prop} {md : Region.Mode} {S : World → Prop}

theorem pass {i t fuel : Nat} {oi : Oper} {listed : Array Bool} {ts : Array Value} {ds : List Deferred} {w : World} (hi : ops[i]? = some oi) (hd : oi.dst = some t)
    (hs : Region.noSelect ops = true) (hf : Region.free md ops listed i = true) (hr : (Region.ready md ops listed).contains i = true)
    (hQ : ∀ c a w, Q (.panic c) (a.put oi.dst undef) w → Q (.panic c) a w) (hw : Region.wanted oi (yielded ops ts) = false) (hS : S w)
    (h : wpAnyH P md ops Q S fuel (listed.setIfInBounds i true) ⟨ts.setIfInBounds t undef, ds⟩ w) : wpAnyH P md ops Q S (fuel + 1) listed ⟨ts, ds⟩ w :=
  wpAnyH_take hi hs hf hr hQ (.inr ⟨hw, rfl⟩) hS (by rw [hd]; exact h)

theorem take {i t fuel : Nat} {oi : Oper} {v : Value} {listed : Array Bool} {ts : Array Value} {ds : List Deferred} {w : World} (hi : ops[i]? = some oi) (hd : oi.dst = some t)
    (hs : Region.noSelect ops = true) (hf : Region.free md ops listed i = true) (hr : (Region.ready md ops listed).contains i = true)
    (hQ : ∀ c a w, Q (.panic c) (a.put oi.dst v) w → Q (.panic c) a w) (hw : Region.wanted oi (yielded ops ts) = true)
    (hy : ∀ w, S w → (execOp (Act.eval ⟨ts, ds⟩) oi).run P w = .ok (.value v) w) (hS : S w)
    (h : wpAnyH P md ops Q S fuel (listed.setIfInBounds i true) ⟨ts.setIfInBounds t v, ds⟩ w) : wpAnyH P md ops Q S (fuel + 1) listed ⟨ts, ds⟩ w :=
  wpAnyH_take hi hs hf hr hQ (.inl ⟨hw, hy⟩) hS (by rw [hd]; exact h)

/-- The one operation that may come up next: a call of a Go function. -/
theorem call {i t fuel : Nat} {oi : Oper} {listed : Array Bool} {ts : Array Value} {ds : List Deferred} {w : World} {f : FuncId} {args : Array Value} (hi : ops[i]? = some oi) (hd : oi.dst = some t)
    (hr : Region.ready md ops listed = [i]) (hw : Region.wanted oi (yielded ops ts) = true)
    (hx : (execOp (Act.eval ⟨ts, ds⟩) oi).run P w = .ok (.enter f args) w)
    (h : Calls P f args w fun e w' => ∃ v, e = .returned v ∧ S w' ∧ wpAnyH P md ops Q S fuel (listed.setIfInBounds i true) ⟨ts.setIfInBounds t v, ds⟩ w') : wpAnyH P md ops Q S (fuel + 1) listed ⟨ts, ds⟩ w := by
  refine ⟨fun h0 => (by rw [hr] at h0; cases h0), fun j hj => ?_⟩
  rw [hr, List.mem_singleton] at hj
  subst hj
  unfold wpOp
  simp only [hi, hw, if_true, Oper.wp, hx, Oper.upon]
  refine .inl (h.mono ?_)
  rintro e w' ⟨v, rfl, hS, hk⟩
  refine ⟨hS, ?_⟩
  rw [hd]
  exact hk
theorem keep {A : Prop} {B : Value → Prop} {v : Value} (hS : A) (h : A → B v) : ∃ v', Ending.returned v = .returned v' ∧ A ∧ B v' := ⟨v, rfl, hS, h hS⟩
end
end Go.Proofs.Ytpbhlphemkdljaa.Reg
