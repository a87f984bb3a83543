/- A range over a function whose iterator keeps no state of its own, whose rounds all go on, over a list that is known: the caller's law, at the wide fence. Over every program. -/
import Derived.Test.YteibcfpepdbflaaRows
import Derived.RangeFuncNested
import Derived.RangeFuncBound
import Derived.RangeFuncCalls
import Derived.RangeFuncLeaves
import Derived.Shelf.Abstract
import Derived.Shelf.RegionOpen
import Derived.WalkKit
import Derived.OwnWalkIn
import Derived.TacticsInMore
import Derived.LoopNIn
import Derived.LoopIn
namespace Go.Proofs.Yteibcfpepdbflaa.RngE
open Go Go.RowKit

def Gives {α : Type} (P : Program) (gf : Nat) (lb : Array Value) (enc : α → Array Value) (Kp : World → World → Prop) (xs : List α) (w0 : World) : Prop :=
  ∀ (l : Nat) (J : List α → World → Prop) (W : World), Below w0.heap.size w0 W → AbidesFrom W.heap.size J →
    (∀ pre x suf W1, xs = pre ++ x :: suf → J pre W1 → YieldAt Fence.wide 1 P l (enc x) W1 fun e W' => e = .returned (.bool true) ∧ J (pre ++ [x]) W' ∧ Kp W1 W') →
    J [] W → CallsIn Fence.wide 2 P gf (#[.func (.yield l) #[] #[]] ++ lb) W fun e W' => (∃ v, e = .returned v) ∧ J xs W'
theorem grown_of {W W' : World} (h : Below W.heap.size W W') : W.grownBy W' none := ⟨h.os, h.tape, h.output, h.size, fun k hk _ => h.block k hk⟩
theorem abides {β : Type} {J : β → World → Prop} {B : Nat} (hJ : AbidesFrom B J) {s : β} {W W' : World} (h : J s W) (hb : Below W.heap.size W W') : J s W' := hJ s W W' none h (grown_of hb) (fun r e => by cases e)

section
variable {P : Program} {α : Type}
theorem range {g : Operand} {ps : Array Tmp} {assign body : Code} {Q : Exit → Act → World → Prop} {a : Act} {w : World}
    {gf : Nat} {lb : Array Value} (hg : a.eval g = .func (.func gf) #[] lb) (eg : ∀ args w, (callFunc gf args).run P w = .ok (.enter gf args) w)
    {enc : α → Array Value} {Kp : World → World → Prop} {xs : List α} (hseq : Gives P gf lb enc Kp xs w)
    (hKt : ∀ {A B C : World}, Kp A B → Kp B C → Kp A C) (hKb : ∀ (W : World) (l : Nat) (o o' : Obj), w.heap.size ≤ l → W.heap[l]? = some o → o.isCells = false → Kp W (W.putObj l o'))
    (hps : ∀ x, (enc x).size = ps.size)
    (I : List α → World → Prop) (hI : OwnFrom w.heap.size I) (h0 : I [] w) (Ax : α → Act → World → Prop) (hAx : ∀ x a', OwnFrom w.heap.size (fun (_ : Unit) W => Ax x a' W))
    (hassign : ∀ (l : Nat) (pre : List α) (x : α) (W : World) (K : Act → World → Prop), I pre W → (∀ a' W', KeepsFrom w.heap.size W W' → Kp W W' → I pre W' → Ax x a' W' → K a' W') →
      assign.wpIn (Fence.wide.inRound l) 1 P (Exit.then K (fun _ _ _ => False)) { tmps := (ps.zip (enc x)).foldl (fun t (p, v) => t.setIfInBounds p v) a.tmps, defers := [] } W)
    (hbody : ∀ (l : Nat) (pre : List α) (x : α) (suf : List α) (a' : Act) (W : World), xs = pre ++ x :: suf → w.heap.size ≤ l → I pre W → Ax x a' W →
      body.wpIn (Fence.wide.inRound l) 1 P (fun e _ W' => e = .normal ∧ KeepsFrom w.heap.size W W' ∧ Kp W W' ∧ I (pre ++ [x]) W') a' W)
    (hdone : ∀ (D : Nat) (W : World), w.heap.size ≤ D → I xs W → W.heap[D]? = some (.deferred (some [])) → Q .normal { a with defers := { target := .collected D, args := #[] } :: a.defers } W) :
    (Code.rangeFunc g ps assign body).wpIn Fence.wide 3 P Q a w := by
  refine wpIn_rangeFunc fun fn hfn => ?_
  obtain ⟨rec, hrec⟩ : ∃ rec : LoopState → Option Code → Loop, ∀ st pe, rec st pe = { state := st, pending := pe, fn, tmps := a.tmps, params := ps, assign, body, defers := w.heap.size } := ⟨_, fun _ _ => rfl⟩
  have recB : ∀ st pe st', { rec st pe with state := st' } = rec st' pe := fun st pe st' => by simp [hrec]
  obtain ⟨D, hD⟩ : ∃ D, w.heap.size = D := ⟨_, rfl⟩
  obtain ⟨W1, hW1⟩ : ∃ W1, (w.alloc (.deferred (some []))).alloc (.loop (rec .ready none)) = W1 := ⟨_, rfl⟩
  have g1 : W1.heap[D + 1]? = some (.loop (rec .ready none)) := by
    subst hW1 hD; have h := World.alloc_heap_new (w.alloc (.deferred (some []))) (.loop (rec .ready none)); rwa [World.size_alloc] at h
  have g0 : W1.heap[D]? = some (.deferred (some [])) := by
    subst hW1 hD; exact (Below.heap_alloc _ _ _ (by simp)).trans (World.alloc_heap_new w _)
  have hs1 : W1.heap.size = D + 2 := by subst hW1 hD; simp
  have i1 : I [] W1 := by subst hW1; exact hI.alloc _ (hI.alloc _ h0)
  have b1 : Below w.heap.size w W1 := by
    subst hW1; exact ((Below.refl _ w).alloc (Nat.le_refl _) _).alloc (by simp) _
  refine ⟨D + 1, [{ target := .collected D, args := #[] }], W1, { target := .fn (.func gf) lb, args := #[.func (.yield (D + 1)) #[] #[]] }, W1, gf, #[.func (.yield (D + 1)) #[] #[]] ++ lb, W1, ?_, ?_, fun _ _ => trivial, ?_, fun _ => by omega, ?_⟩
  · have h := run_enterLoop_outer (P := P) (w := w) fn a.tmps ps assign body
    rw [← hrec, hW1, hD] at h
    exact h
  · simp only [resolve, hg]
    simp [go_sem]
  · simp [invoke, go_sem, eg]
  · have low : ∀ {A : World} {row : Option Nat}, (∀ r, row = some r → W1.heap.size ≤ r ∧ ∃ o : Obj, A.heap[r]? = some o ∧ o.isWalk = true) → (∀ r, row = some r → w.heap.size ≤ r ∧ ∃ o : Obj, A.heap[r]? = some o ∧ o.isCells = false) :=
      fun hr r e => by obtain ⟨h, o, ho, hw⟩ := hr r e; exact ⟨by omega, o, ho, Obj.not_cells_of_walk hw⟩
    refine (hseq (D + 1)
      (fun pre W => I pre W ∧ W.heap[D + 1]? = some (.loop (rec .ready none)) ∧ W.heap[D]? = some (.deferred (some [])))
      W1 b1 ?_ ?_ ⟨i1, g1, g0⟩).mono ?_
    · rintro s A B row ⟨h, k1, k0⟩ hgr hr
      exact ⟨hI s A B row h hgr (low hr), (grownBy_keeps hgr (fun r e => (hr r e).2) k1 rfl).trans k1, (grownBy_keeps hgr (fun r e => (hr r e).2) k0 rfl).trans k0⟩
    · rintro pre x suf W hxs ⟨hi, k1, k0⟩
      have hy := run_yield (P := P) (args := enc x) k1 (by rw [hrec]; exact hps x)
      rw [hrec] at hy
      refine ⟨fn, _, assign, body, hy, roundIn_of_wpIn hfn (hassign _ pre x W _ hi ?_)⟩
      intro a' Wa hkfa hkpa hia hax
      have k1a := hkfa.same _ _ (by omega) k1 rfl
      have k0a := hkfa.same _ _ (by omega) k0 rfl
      have hlt : D + 1 < Wa.heap.size := (Array.getElem?_eq_some_iff.1 k1a).1
      refine ⟨_, run_beginRound k1a (by rw [hrec]), ?_⟩
      rw [recB]
      obtain ⟨V, hV⟩ : ∃ V, Wa.putObj (D + 1) (.loop (rec .busy none)) = V := ⟨_, rfl⟩
      have v1 : V.heap[D + 1]? = some (.loop (rec .busy none)) := by subst hV; exact World.putObj_heap_same hlt
      have v0 : V.heap[D]? = some (.deferred (some [])) := by subst hV; exact (World.putObj_heap_other (by omega)).trans k0a
      have vk : Kp W V := by subst hV; exact hKt hkpa (hKb _ _ _ _ (by omega) k1a rfl)
      have vi : I pre V := by subst hV; exact hI.putObj _ hia (by omega) k1a rfl
      have va : Ax x a' V := by subst hV; exact (hAx x a').putObj (s := ()) _ hax (by omega) k1a rfl
      rw [hV]
      refine wpIn_mono (hbody _ pre x suf a' V hxs (by omega) vi va) ?_
      rintro e a3 U ⟨rfl, hU, hk, hi3⟩
      have u1 := hU.same _ _ (by omega) v1 rfl
      have u0 := hU.same _ _ (by omega) v0 rfl
      have hr := run_endRound (P := P) none u1
      rw [show ({ rec .busy none with state := if (none : Option Code).isNone then .ready else .done, pending := none } : Loop) = rec .ready none by simp [hrec]] at hr
      exact ⟨_, _, hr, rfl, ⟨hI.putObj _ hi3 (by omega) u1 rfl, World.putObj_heap_same (Array.getElem?_eq_some_iff.1 u1).1, (World.putObj_heap_other (by omega)).trans u0⟩, hKt (hKt vk hk) (hKb _ _ _ _ (by omega) u1 rfl)⟩
    · rintro e U ⟨⟨v, rfl⟩, hi, u1, u0⟩
      have h := run_endLoop (P := P) u1 (by rw [hrec]; simp)
      rw [show (rec .ready none).pending = none by rw [hrec]] at h
      subst hD
      exact ⟨none, _, h, hdone _ _ (Nat.le_refl _) (hI.putObj _ hi (by omega) u1 rfl) ((World.putObj_heap_other (by omega)).trans u0)⟩
end
end Go.Proofs.Yteibcfpepdbflaa.RngE
