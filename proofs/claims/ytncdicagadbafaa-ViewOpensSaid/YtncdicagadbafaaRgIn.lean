/- A region that draws its order, in a round of a range over a function: what is shown of it as anywhere holds in the round. Over every program. -/
import Derived.Test.YtncdicagadbafaaReg
import Derived.Test.YtncdicagadbafaaSeq
import Derived.RangeFuncCalls
import Derived.OrdersIn
import Derived.RangeFuncBox
namespace Go.Proofs.Ytncdicagadbafaa.RgIn
open Go Go.RowKit

def calmOp : Op → Bool
  | .defer _ => false
  | _ => true
def noDefer (ops : Array Oper) : Bool := ops.all fun o => calmOp o.op

section
variable {P : Program} {ops : Array Oper} {Q : Exit → Act → World → Prop} {l n : Nat}
theorem rowsIn {row : String} {args : Array Value} {w : World} {R : Value → World → Prop} (h : Rows P row args w R) : RowsIn (Fence.wide.inRound l) n P row args w R :=
  fun c cs _ => let ⟨v, w', r, s⟩ := h c cs; ⟨v, w', r, stepsIn_wide.2 s⟩
theorem opIn {o : Oper} {a : Act} {w : World} {K : Act → World → Prop} (hd : calmOp o.op = true) (h : Oper.wp P o a w K Q) : Oper.wpIn (Fence.wide.inRound l) n P o a w K Q := by
  refine ⟨fun f _ => trivial, ?_⟩
  show o.uponIn _ n P a K Q ((o.semAt (some l) a.eval).run P w)
  rw [Oper.semAt_eq _ _ _ (fun c hc => by rw [hc] at hd; cases hd)]
  unfold Oper.wp at h
  generalize (execOp a.eval o).run P w = r at *
  cases r with
  | ok x w' =>
    cases x <;> simp only [Oper.upon, Oper.uponIn] at h ⊢ <;>
      first
        | exact h
        | exact ⟨fun h' => (by cases h'), (callsIn_wide.2 h).inRound l⟩
        | exact ⟨fun h' => (by cases h'), rowsIn h⟩
        | exact h.elim
  | halt x w' => cases x <;> simp only [Oper.upon, Oper.uponIn] at h ⊢ <;> first | exact h | exact h.elim
theorem opsIn {i : Nat} {a : Act} {w : World} {K : Act → World → Prop} (hd : noDefer ops = true) (hno : ¬ LetsOut Q) (h : wpOp P ops Q i K a w) : wpOpIn (Fence.wide.inRound l) n P ops Q i K a w := by
  unfold wpOp at h
  unfold wpOpIn
  cases ho : ops[i]? with
  | none => simpa [ho] using h
  | some o =>
    have hc : calmOp o.op = true := by
      have hm := Array.all_eq_true.1 hd i (Array.getElem?_eq_some_iff.1 ho).1
      rwa [(Array.getElem?_eq_some_iff.1 ho).2] at hm
    simp only [ho] at h ⊢
    split
    · rename_i hw
      rw [if_pos hw] at h
      exact opIn hc (h.resolve_right fun k => hno k.2)
    · rename_i hw
      rw [if_neg hw] at h
      exact ⟨fun f _ => trivial, h⟩
theorem anyIn {md : Region.Mode} (hd : noDefer ops = true) (hno : ¬ LetsOut Q) : ∀ (fuel : Nat) (listed : Array Bool) (a : Act) (w : World), wpAny P md ops Q fuel listed a w → wpAnyIn (Fence.wide.inRound l) n P md ops Q fuel listed a w
  | 0, _, _, _, h => h
  | fuel + 1, _, _, _, h => ⟨h.1, fun i hi => wpOpIn_mono (fun _ _ h' => anyIn hd hno fuel _ _ _ h') (opsIn hd hno (h.2 i hi))⟩
/-- The region, in a round. -/
theorem region_held {id : Nat} {a : Act} {w : World} {S : World → Prop} (hm : P.follows .mixedOrders = true) (hd : noDefer ops = true) (hno : ¬ LetsOut Q) (hS : S w.drew)
    (h : S w.drew → wpAnyH P .any ops Q S ops.size (Array.replicate ops.size false) a w.drew) : (Code.region id ops true).wpIn (Fence.wide.inRound l) n P Q a w :=
  wpIn_region_any hm (anyIn hd hno _ _ _ _ (wpAny_of_held _ _ _ _ (h hS)))

/- The same in a function's own frame. -/
theorem rowsW {row : String} {args : Array Value} {w : World} {R : Value → World → Prop} (h : Rows P row args w R) : RowsIn Fence.wide n P row args w R :=
  fun c cs _ => let ⟨v, w', r, s⟩ := h c cs; ⟨v, w', r, stepsIn_wide.2 s⟩
theorem opW {o : Oper} {a : Act} {w : World} {K : Act → World → Prop} (h : Oper.wp P o a w K Q) : Oper.wpIn Fence.wide n P o a w K Q := by
  refine ⟨fun f _ => trivial, ?_⟩
  show o.uponIn _ n P a K Q ((o.semAt none a.eval).run P w)
  rw [Oper.semAt_none]
  unfold Oper.wp at h
  generalize (execOp a.eval o).run P w = r at *
  cases r with
  | ok x w' =>
    cases x <;> simp only [Oper.upon, Oper.uponIn] at h ⊢ <;>
      first
        | exact h
        | exact ⟨fun h' => (by cases h'), callsIn_wide.2 h⟩
        | exact ⟨fun h' => (by cases h'), rowsW h⟩
        | exact h.elim
  | halt x w' => cases x <;> simp only [Oper.upon, Oper.uponIn] at h ⊢ <;> first | exact h | exact h.elim
theorem opsW {i : Nat} {a : Act} {w : World} {K : Act → World → Prop} (hno : ¬ LetsOut Q) (h : wpOp P ops Q i K a w) : wpOpIn Fence.wide n P ops Q i K a w := by
  unfold wpOp at h
  unfold wpOpIn
  cases ho : ops[i]? with
  | none => simpa [ho] using h
  | some o =>
    simp only [ho] at h ⊢
    split
    · rename_i hw
      rw [if_pos hw] at h
      exact opW (h.resolve_right fun k => hno k.2)
    · rename_i hw
      rw [if_neg hw] at h
      exact ⟨fun f _ => trivial, h⟩
theorem anyW {md : Region.Mode} (hno : ¬ LetsOut Q) : ∀ (fuel : Nat) (listed : Array Bool) (a : Act) (w : World), wpAny P md ops Q fuel listed a w → wpAnyIn Fence.wide n P md ops Q fuel listed a w
  | 0, _, _, _, h => h
  | fuel + 1, _, _, _, h => ⟨h.1, fun i hi => wpOpIn_mono (fun _ _ h' => anyW hno fuel _ _ _ h') (opsW hno (h.2 i hi))⟩
/-- Only the way on. -/
def only (Q : Exit → Act → World → Prop) : Exit → Act → World → Prop
  | .normal, a, w => Q .normal a w
  | _, _, _ => False
theorem only_n {Q : Exit → Act → World → Prop} {a : Act} {w : World} (h : Q .normal a w) : only Q .normal a w := h
theorem region_heldW {id : Nat} {a : Act} {w : World} {S : World → Prop} (hm : P.follows .mixedOrders = true) (hS : S w.drew)
    (h : S w.drew → wpAnyH P .any ops (only Q) S ops.size (Array.replicate ops.size false) a w.drew) : (Code.region id ops true).wpIn Fence.wide n P Q a w := by
  refine wpIn_mono (Q := only Q) (wpIn_region_any hm (anyW (fun ⟨_, _, h⟩ => h) _ _ _ _ (wpAny_of_held _ _ _ _ (h hS)))) ?_
  rintro e a w h
  cases e <;> first | exact h | exact False.elim h
end

section
variable {P : Program} {ops : Array Oper} {Q : Exit → Act → World → Prop} {md : Region.Mode} {S : World → Prop}
open Sq
/-- 'append' in a region. -/
theorem app {α : Type} {enc : α → Value} {T E : TypeId} {z : α} {by' : Nat} (el : El P T E enc z by') {i t fuel : Nat} {oi : Oper} {listed : Array Bool} {ts : Array Value} {ds : List Deferred} {w : World} (s x : Operand) (hi : ops[i]? = some oi) (hd : oi.dst = some t)
    (hw : Region.wanted oi (yielded ops ts) = true) (ho : oi.op = .call { callee := .builtin .append, args := #[s, x], argTypes := #[T, T] })
    {B : Nat} {v : Value} {l : List α} (hs : Act.eval ⟨ts, ds⟩ s = v) (hown : Sq.Own enc E w B v l) (A : Option Addr) (m c : Nat) (l2 : List α) (hx : Act.eval ⟨ts, ds⟩ x = .slice A m c) (hr : Rd enc w A m l2)
    (h63 : l.length + m ≤ maxLen) (hb : (l.length + m) * by' ≤ 140737488355328) (hB : B ≤ w.heap.size)
    (h : ∀ v' w', Sq.Own enc E w' B v' (l ++ l2) → Below B w w' → w.grownBy w' v.ownBlock → (v'.ownBlock = v.ownBlock ∨ v'.ownBlock = some w.heap.size) → S w' ∧ wpAnyH P md ops Q S fuel (listed.setIfInBounds i true) ⟨ts.setIfInBounds t v', ds⟩ w') :
    wpOp P ops Q i (fun a' w' => S w' ∧ wpAnyH P md ops Q S fuel (listed.setIfInBounds i true) a' w') ⟨ts, ds⟩ w := by
  unfold wpOp
  simp only [hi, hw, if_true]
  refine .inl (wp_append el s x ho hs hown A m c l2 hx hr h63 hb hB fun v' w' h1 h2 h3 h4 => ?_)
  rw [hd]
  exact h v' w' h1 h2 h3 h4
/-- A store in a region. -/
theorem effN {i fuel : Nat} {oi : Oper} {listed : Array Bool} {ts : Array Value} {ds : List Deferred} {w w1 : World} (hi : ops[i]? = some oi) (hd : oi.dst = none)
    (hw : Region.wanted oi (yielded ops ts) = true) (hx : (execOp (Act.eval ⟨ts, ds⟩) oi).run P w = .ok .skip w1)
    (h : S w1 ∧ wpAnyH P md ops Q S fuel (listed.setIfInBounds i true) ⟨ts, ds⟩ w1) :
    wpOp P ops Q i (fun a' w' => S w' ∧ wpAnyH P md ops Q S fuel (listed.setIfInBounds i true) a' w') ⟨ts, ds⟩ w := by
  unfold wpOp
  simp only [hi, hw, if_true, Oper.wp, hx, Oper.upon]
  refine .inl ?_
  rw [hd]
  exact h
end

/-- What lay below B lies as it lay, and so does whatever is no cells. -/
def St (B : Nat) (W U : World) : Prop := Below B W U ∧ KeepsOthers W U
theorem St.refl (B : Nat) (W : World) : St B W W := ⟨Below.refl _ _, KeepsOthers.refl _⟩
theorem St.t {B : Nat} {W U V : World} (h : St B W U) (k : St B U V) : St B W V := ⟨h.1.trans k.1, h.2.trans k.2⟩
theorem St.drew {B : Nat} {W U : World} (h : St B W U) : St B W U.drew := h.t ⟨Below.drew (Below.refl _ _), KeepsOthers.drew _⟩
theorem St.alloc {B : Nat} {W U : World} (h : St B W U) (hB : B ≤ U.heap.size) (o : Obj) : St B W (U.alloc o) := h.t ⟨(Below.refl _ _).alloc hB _, KeepsOthers.alloc _ _⟩
theorem St.call {B : Nat} {W U V : World} (h : St B W U) (hB : B ≤ U.heap.size) (hb : Below U.heap.size U V) : St B W V :=
  h.t ⟨hb.mono hB, ⟨hb.size, fun i _ hi _ => (hb.block i (Array.getElem?_eq_some_iff.1 hi).1).trans hi⟩⟩
theorem St.app {B : Nat} {W U V : World} {α : Type} {enc : α → Value} {E : TypeId} {v : Value} {l : List α} (h : St B W U) (hown : Sq.Own enc E U B v l) (hb : Below B U V) (hg : U.grownBy V v.ownBlock) : St B W V :=
  h.t ⟨hb, KeepsOthers.of_grownBy hg fun j _ ej hj => by
    obtain ⟨_, h'⟩ := hown
    rcases h' with ⟨rfl, _⟩ | ⟨g, cap, cur, rfl, _, hgb, _⟩
    · simp [Value.ownBlock] at ej
    · obtain rfl : g = j := by simpa [Value.ownBlock] using ej
      rw [hgb] at hj; cases hj; rfl⟩
theorem own_set {α : Type} {enc : α → Value} {E : TypeId} {w : World} {B : Nat} {v : Value} {l : List α} (h : Sq.Own enc E w B v l) {b : Nat} (hb : b < B) (x : Value) : Sq.Own enc E (w.setCell ⟨b, 0, none⟩ x) B v l :=
  h.kept (grownBy_setCell' w b x) (by
    rcases h.2 with ⟨rfl, _⟩ | ⟨g, cap, cur, rfl, hB, _⟩
    · left; rfl
    · right; simp [Value.ownBlock]; omega)
end Go.Proofs.Ytncdicagadbafaa.RgIn
