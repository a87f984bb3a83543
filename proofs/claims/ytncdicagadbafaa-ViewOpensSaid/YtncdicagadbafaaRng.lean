/- A range over a function whose iterator keeps a number of its own in a box (block X): what the iterator owes, and the caller's law, at the wide fence. Over every program. -/
import Derived.Test.YtncdicagadbafaaRows
import Derived.RangeFuncNested
import Derived.RangeFuncBound
import Derived.RangeFuncCalls
import Derived.RangeFuncLeaves
import Derived.Shelf.Abstract
import Derived.Shelf.RegionOpen
import Derived.WalkKit
import Derived.OwnWalkIn
import Derived.TacticsInMore
import Derived.LoopNIn
import Derived.LoopIn
namespace Go.Proofs.Ytncdicagadbafaa.Rng
open Go Go.RowKit

/-- An invariant minds no store into the box X. -/
def Free {β : Type} (X : Nat) (I : β → World → Prop) : Prop := ∀ s W v, I s W → I s (W.setCell ⟨X, 0, none⟩ v)

/-- What an iterator with a box X of its own owes to whatever loop. -/
def Gives {α : Type} (P : Program) (gf : Nat) (lb : Array Value) (encs : α → Array Value) (Kp : World → World → Prop) (X : Nat) (S Sp : List α → Prop) (N : Nat) (w0 : World) : Prop :=
  ∀ (l : Nat) (J Jx : List α → World → Prop) (W : World), Below w0.heap.size w0 W → AbidesFrom W.heap.size J → AbidesFrom W.heap.size Jx → Free X J → Free X Jx →
    (∀ pre x W1, J pre W1 → pre.length < N → YieldAt Fence.wide 1 P l (encs x) W1 fun e W' =>
      (e = .returned (.bool true) ∧ J (pre ++ [x]) W' ∧ Kp W1 W') ∨ (e = .returned (.bool false) ∧ Jx (pre ++ [x]) W')) →
    J [] W →
    CallsIn Fence.wide 2 P gf (#[.func (.yield l) #[] #[]] ++ lb) W fun e W' => (∃ v, e = .returned v) ∧ ((∃ xs, S xs ∧ J xs W') ∨ (∃ pre, Sp pre ∧ Jx pre W'))

theorem set_other {W : World} {X k : Nat} {v : Value} (h : k ≠ X) : (W.setCell ⟨X, 0, none⟩ v).heap[k]? = W.heap[k]? := Below.heap_setCell W _ v k h

section
variable {P : Program} {α : Type}
/-- The caller's law. -/
theorem range {g : Operand} {ps : Array Tmp} {assign body : Code} {Q : Exit → Act → World → Prop} {a : Act} {w : World}
    {gf : Nat} {lb : Array Value} (hg : a.eval g = .func (.func gf) #[] lb) (eg : ∀ args w, (callFunc gf args).run P w = .ok (.enter gf args) w)
    {encs : α → Array Value} {Kp : World → World → Prop} {X : Nat} {S Sp : List α → Prop} {N : Nat} {w0 : World} (hseq : Gives P gf lb encs Kp X S Sp N w0) (hX : X < w.heap.size)
    (hKt : ∀ {A B C : World}, Kp A B → Kp B C → Kp A C) (hKb : ∀ (W : World) (l : Nat) (o o' : Obj), w.heap.size ≤ l → W.heap[l]? = some o → o.isCells = false → Kp W (W.putObj l o'))
    (hb0 : Below w0.heap.size w0 w) (hps : ∀ x, (encs x).size = ps.size)
    (I : List α → World → Prop) (Ix : Code → List α → World → Prop) (hI : OwnFrom w.heap.size I) (hIx : ∀ c, OwnFrom w.heap.size (Ix c)) (fI : Free X I) (fIx : ∀ c, Free X (Ix c)) (h0 : I [] w) (a₁ : α → Act)
    (hassign : ∀ (l : Nat) (x : α) (W : World) (K : Act → World → Prop), K (a₁ x) W →
      assign.wpIn (Fence.wide.inRound l) 1 P (Exit.then K (fun _ _ _ => False)) { tmps := (ps.zip (encs x)).foldl (fun t (p, v) => t.setIfInBounds p v) a.tmps, defers := [] } W)
    (hbody : ∀ (l : Nat) (pre : List α) (x : α) (W : World), I pre W → pre.length < N → body.wpIn (Fence.wide.inRound l) 1 P (ownPostK Kp I Ix (pre ++ [x]) W) (a₁ x) W)
    (hdone : ∀ (D : Nat) (xs : List α) (W : World), w.heap.size ≤ D → S xs → I xs W → W.heap[D]? = some (.deferred (some [])) → Q .normal { a with defers := { target := .collected D, args := #[] } :: a.defers } W)
    (hstop : ∀ (D : Nat) (c : Code) (pre : List α) (W : World), w.heap.size ≤ D → Sp pre → Ix c pre W → W.heap[D]? = some (.deferred (some [])) → c.wpIn Fence.wide 3 P Q { a with defers := { target := .collected D, args := #[] } :: a.defers } W) :
    (Code.rangeFunc g ps assign body).wpIn Fence.wide 3 P Q a w := by
  refine wpIn_rangeFunc fun fn hfn => ?_
  obtain ⟨rec, hrec⟩ : ∃ rec : LoopState → Option Code → Loop, ∀ st pe, rec st pe = { state := st, pending := pe, fn, tmps := a.tmps, params := ps, assign, body, defers := w.heap.size } := ⟨_, fun _ _ => rfl⟩
  have recB : ∀ st pe st', { rec st pe with state := st' } = rec st' pe := fun st pe st' => by simp [hrec]
  obtain ⟨D, hD⟩ : ∃ D, w.heap.size = D := ⟨_, rfl⟩
  obtain ⟨W1, hW1⟩ : ∃ W1, (w.alloc (.deferred (some []))).alloc (.loop (rec .ready none)) = W1 := ⟨_, rfl⟩
  have g1 : W1.heap[D + 1]? = some (.loop (rec .ready none)) := by
    subst hW1 hD; have h := World.alloc_heap_new (w.alloc (.deferred (some []))) (.loop (rec .ready none)); rwa [World.size_alloc] at h
  have g0 : W1.heap[D]? = some (.deferred (some [])) := by
    subst hW1 hD; exact (Below.heap_alloc _ _ _ (by simp)).trans (World.alloc_heap_new w _)
  have hs1 : W1.heap.size = D + 2 := by subst hW1 hD; simp
  have i1 : I [] W1 := by subst hW1; exact hI.alloc _ (hI.alloc _ h0)
  have b1 : Below w0.heap.size w0 W1 := by
    subst hW1; exact hb0.trans ((((Below.refl _ w).alloc (Nat.le_refl _) _).alloc (by simp) _).mono hb0.size)
  refine ⟨D + 1, [{ target := .collected D, args := #[] }], W1, { target := .fn (.func gf) lb, args := #[.func (.yield (D + 1)) #[] #[]] }, W1, gf, #[.func (.yield (D + 1)) #[] #[]] ++ lb, W1, ?_, ?_, fun _ _ => trivial, ?_, fun _ => by omega, ?_⟩
  · have h := run_enterLoop_outer (P := P) (w := w) fn a.tmps ps assign body
    rw [← hrec, hW1, hD] at h
    exact h
  · simp only [resolve, hg]
    simp [go_sem]
  · simp [invoke, go_sem, eg]
  · -- a block at D or D + 1 is no cells: the iterator's steps leave it
    have low : ∀ {A : World} {row : Option Nat}, (∀ r, row = some r → W1.heap.size ≤ r ∧ ∃ o : Obj, A.heap[r]? = some o ∧ o.isWalk = true) → (∀ r, row = some r → w.heap.size ≤ r ∧ ∃ o : Obj, A.heap[r]? = some o ∧ o.isCells = false) :=
      fun hr r e => by obtain ⟨h, o, ho, hw⟩ := hr r e; exact ⟨by omega, o, ho, Obj.not_cells_of_walk hw⟩
    refine (hseq (D + 1)
      (fun pre W => I pre W ∧ W.heap[D + 1]? = some (.loop (rec .ready none)) ∧ W.heap[D]? = some (.deferred (some [])))
      (fun pre W => ∃ c, Ix c pre W ∧ W.heap[D + 1]? = some (.loop (rec .done (some c))) ∧ W.heap[D]? = some (.deferred (some [])))
      W1 b1 ?_ ?_ ?_ ?_ ?_ ⟨i1, g1, g0⟩).mono ?_
    · rintro s A B row ⟨h, k1, k0⟩ hgr hr
      exact ⟨hI s A B row h hgr (low hr), (grownBy_keeps hgr (fun r e => (hr r e).2) k1 rfl).trans k1, (grownBy_keeps hgr (fun r e => (hr r e).2) k0 rfl).trans k0⟩
    · rintro s A B row ⟨c, h, k1, k0⟩ hgr hr
      exact ⟨c, hIx c s A B row h hgr (low hr), (grownBy_keeps hgr (fun r e => (hr r e).2) k1 rfl).trans k1, (grownBy_keeps hgr (fun r e => (hr r e).2) k0 rfl).trans k0⟩
    · rintro s W v ⟨h, k1, k0⟩
      exact ⟨fI s W v h, (set_other (by omega)).trans k1, (set_other (by omega)).trans k0⟩
    · rintro s W v ⟨c, h, k1, k0⟩
      exact ⟨c, fIx c s W v h, (set_other (by omega)).trans k1, (set_other (by omega)).trans k0⟩
    · rintro pre x W ⟨hi, k1, k0⟩ hlen
      have hlt : D + 1 < W.heap.size := (Array.getElem?_eq_some_iff.1 k1).1
      have hy := run_yield (P := P) (args := encs x) k1 (by rw [hrec]; exact hps x)
      rw [hrec] at hy
      refine ⟨fn, _, assign, body, hy, roundIn_of_wpIn hfn (hassign _ x W _ ⟨_, run_beginRound k1 (by rw [hrec]), ?_⟩)⟩
      rw [recB]
      obtain ⟨V, hV⟩ : ∃ V, W.putObj (D + 1) (.loop (rec .busy none)) = V := ⟨_, rfl⟩
      have v1 : V.heap[D + 1]? = some (.loop (rec .busy none)) := by subst hV; exact World.putObj_heap_same hlt
      have v0 : V.heap[D]? = some (.deferred (some [])) := by subst hV; exact (World.putObj_heap_other (by omega)).trans k0
      have vk : Kp W V := by subst hV; exact hKb _ _ _ _ (by omega) k1 rfl
      have vi : I pre V := by subst hV; exact hI.putObj _ hi (by omega) k1 rfl
      rw [hV]
      refine wpIn_mono (hbody _ pre x V vi hlen) ?_
      have fin : ∀ (jump : Option Code) (U : World), KeepsOthers V U → ∃ Z, (Instr.endRound (D + 1) jump).run P U = .ok (.bool jump.isNone) Z ∧ Z = U.putObj (D + 1) (.loop (rec (if jump.isNone then .ready else .done) jump)) ∧
          U.heap[D + 1]? = some (.loop (rec .busy none)) ∧ Z.heap[D + 1]? = some (.loop (rec (if jump.isNone then .ready else .done) jump)) ∧ Z.heap[D]? = some (.deferred (some [])) := fun jump U hU => by
        have u1 := hU.same _ _ v1 rfl
        have u0 := hU.same _ _ v0 rfl
        have hr := run_endRound (P := P) jump u1
        rw [show ({ rec .busy none with state := if jump.isNone then .ready else .done, pending := jump } : Loop) = rec (if jump.isNone then .ready else .done) jump by simp [hrec]] at hr
        exact ⟨_, hr, rfl, u1, World.putObj_heap_same (Array.getElem?_eq_some_iff.1 u1).1, (World.putObj_heap_other (by omega)).trans u0⟩
      rintro e a3 U hp
      cases e with
      | normal =>
        obtain ⟨hU, hk, hi3⟩ := hp
        obtain ⟨Z, hr, hZ, u1, z1, z0⟩ := fin none U hU
        subst hZ
        exact ⟨_, _, hr, .inl ⟨rfl, ⟨hI.putObj _ hi3 (by omega) u1 rfl, z1, z0⟩, hKt (hKt vk hk) (hKb _ _ _ _ (by omega) u1 rfl)⟩⟩
      | ret =>
        obtain ⟨hU, hi3⟩ := hp
        obtain ⟨Z, hr, hZ, u1, z1, z0⟩ := fin (some .ret) U hU
        subst hZ
        exact ⟨_, _, hr, .inr ⟨rfl, .ret, (hIx _).putObj _ hi3 (by omega) u1 rfl, z1, z0⟩⟩
      | exit id =>
        obtain ⟨hU, hi3⟩ := hp
        obtain ⟨Z, hr, hZ, u1, z1, z0⟩ := fin (some (.exit id)) U hU
        subst hZ
        exact ⟨_, _, hr, .inr ⟨rfl, .exit id, (hIx _).putObj _ hi3 (by omega) u1 rfl, z1, z0⟩⟩
      | goto t =>
        obtain ⟨hU, hi3⟩ := hp
        obtain ⟨Z, hr, hZ, u1, z1, z0⟩ := fin (some (.goto t)) U hU
        subst hZ
        exact ⟨_, _, hr, .inr ⟨rfl, .goto t, (hIx _).putObj _ hi3 (by omega) u1 rfl, z1, z0⟩⟩
      | panic ch => exact hp.elim
      | outgrown => exact hp.elim
    · rintro e U ⟨⟨v, rfl⟩, (⟨xs, hS, hi, u1, u0⟩ | ⟨pre, hSp, c, hi, u1, u0⟩)⟩
      · have h := run_endLoop (P := P) u1 (by rw [hrec]; simp)
        rw [show (rec .ready none).pending = none by rw [hrec]] at h
        subst hD
        exact ⟨none, _, h, hdone _ xs _ (Nat.le_refl _) hS (hI.putObj _ hi (by omega) u1 rfl) ((World.putObj_heap_other (by omega)).trans u0)⟩
      · have h := run_endLoop (P := P) u1 (by rw [hrec]; simp)
        rw [show (rec .done (some c)).pending = some c by rw [hrec]] at h
        subst hD
        exact ⟨some c, _, h, hstop _ c pre _ (Nat.le_refl _) hSp ((hIx c).putObj _ hi (by omega) u1 rfl) ((World.putObj_heap_other (by omega)).trans u0)⟩
end
end Go.Proofs.Ytncdicagadbafaa.Rng
