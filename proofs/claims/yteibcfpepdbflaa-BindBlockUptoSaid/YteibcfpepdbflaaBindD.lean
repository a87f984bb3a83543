/- Expressions and statements ar values: trees that carry their slices' addresses, how they read in a world, and what keeps them. No walk here. -/
import Derived.Test.YteibcfpepdbflaaBytesP
import Derived.Laws.AppendOwn
import Derived.Test.YteibcfpepdbflaaBindP
namespace Go.Proofs.Yteibcfpepdbflaa.BindD
open Go Go.RowKit
open Byt (str)
open BindP

def sv (l : S) : Value := .string (str l)
inductive Ex where
  | mk (k o n : Int) (s : S) (A : Option Addr) (c : Nat) (ar : List Ex)
inductive St where
  | mk (k n : Int) (s : S) (A : Option Addr) (c : Nat) (ar : List Ex) (B : Option Addr) (cb : Nat) (b : List St) (E : Option Addr) (ce : Nat) (e : List St)
def exE : Ex → List Value
  | .mk k o n s A c ar => [.int .i64 k, .int .i64 o, .int .i64 n, sv s, .slice A ar.length c]
def stE : St → List Value
  | .mk k n s A c ar B cb b E ce e => [.int .i64 k, .int .i64 n, sv s, .slice A ar.length c, .slice B b.length cb, .slice E e.length ce]
theorem exE_len (x : Ex) : (exE x).length = 5 := by cases x; rfl
theorem stE_len (x : St) : (stE x).length = 6 := by cases x; rfl
mutual
def Ex.p : Ex → Pe
  | .mk k o n s _ _ ar => .mk k o n s (exPs ar)
def exPs : List Ex → List Pe
  | [] => []
  | a :: l => a.p :: exPs l
end
theorem exPs_map : ∀ l, exPs l = l.map Ex.p
  | [] => by simp [exPs]
  | a :: l => by simp [exPs, exPs_map l]
mutual
def St.p : St → Ps
  | .mk k n s _ _ ar _ _ b _ _ e => .mk k n s (exPs ar) (stPs b) (stPs e)
def stPs : List St → List Ps
  | [] => []
  | a :: l => a.p :: stPs l
end
theorem stPs_map : ∀ l, stPs l = l.map St.p
  | [] => by simp [stPs]
  | a :: l => by simp [stPs, stPs_map l]

structure Sl {α : Type} (enc : α → List Value) (K : Nat → Prop) (w : World) (A : Option Addr) (c : Nat) (l : List α) : Prop where
  le : l.length ≤ c
  max : c ≤ maxLen
  rd : Sk.Rd enc w A l.length l
  blk : ∀ a, A = some a → 0 < l.length → K a.block
theorem Sl.nil {α : Type} {enc : α → List Value} {K : Nat → Prop} (w : World) : Sl enc K w none 0 [] := ⟨Nat.le_refl _, by unfold maxLen; omega, Sk.Rd.nil _ _, fun _ h => by cases h⟩
inductive RdX (K : Nat → Prop) (w : World) : Ex → Prop
  | mk {k o n : Int} {s : S} {A : Option Addr} {c : Nat} {ar : List Ex} : Sl exE K w A c ar → (∀ x ∈ ar, RdX K w x) → RdX K w (.mk k o n s A c ar)
inductive RdS (K : Nat → Prop) (w : World) : St → Prop
  | mk {k n : Int} {s : S} {A : Option Addr} {c : Nat} {ar : List Ex} {B : Option Addr} {cb : Nat} {b : List St} {E : Option Addr} {ce : Nat} {e : List St} :
    Sl exE K w A c ar → (∀ x ∈ ar, RdX K w x) → Sl stE K w B cb b → (∀ x ∈ b, RdS K w x) → Sl stE K w E ce e → (∀ x ∈ e, RdS K w x) → RdS K w (.mk k n s A c ar B cb b E ce e)
theorem RdX.open_ {K : Nat → Prop} {w : World} {k o n : Int} {s : S} {A : Option Addr} {c : Nat} {ar : List Ex} (h : RdX K w (.mk k o n s A c ar)) : Sl exE K w A c ar ∧ ∀ x ∈ ar, RdX K w x := by cases h with | mk a b => exact ⟨a, b⟩
theorem RdS.open_ {K : Nat → Prop} {w : World} {k n : Int} {s : S} {A : Option Addr} {c : Nat} {ar : List Ex} {B : Option Addr} {cb : Nat} {b : List St} {E : Option Addr} {ce : Nat} {e : List St} (h : RdS K w (.mk k n s A c ar B cb b E ce e)) :
    (Sl exE K w A c ar ∧ ∀ x ∈ ar, RdX K w x) ∧ (Sl stE K w B cb b ∧ ∀ x ∈ b, RdS K w x) ∧ (Sl stE K w E ce e ∧ ∀ x ∈ e, RdS K w x) := by cases h with | mk a b c d e f => exact ⟨⟨a, b⟩, ⟨c, d⟩, e, f⟩

structure Keep (K K' : Nat → Prop) (w w' : World) : Prop where
  size : w.heap.size ≤ w'.heap.size
  blk : ∀ b, K b → b < w.heap.size → K' b ∧ w'.heap[b]? = w.heap[b]?
theorem Keep.cell {K K' : Nat → Prop} {w w' : World} (h : Keep K K' w w') {b o : Nat} (hk : K b) (hb : b < w.heap.size) : w'.cell? ⟨b, o, none⟩ = w.cell? ⟨b, o, none⟩ := by
  unfold World.cell?
  rw [(h.blk b hk hb).2]
theorem Sl.keep {α : Type} {enc : α → List Value} {K K' : Nat → Prop} {w w' : World} (h : Keep K K' w w') {A : Option Addr} {c : Nat} {l : List α} (s : Sl enc K w A c l) : Sl enc K' w' A c l := by
  refine ⟨s.le, s.max, ⟨rfl, fun hn => ?_⟩, fun a e hn => ?_⟩
  · obtain ⟨b, o, e, hb, hc⟩ := s.rd.2 hn
    have hk : K b := s.blk _ e hn
    exact ⟨b, o, e, Nat.lt_of_lt_of_le hb h.size, fun j u hu => (h.cell hk hb).trans (hc j u hu)⟩
  · obtain ⟨b, o, e2, hb, _⟩ := s.rd.2 hn
    rw [e] at e2
    injection e2 with e2
    subst e2
    exact (h.blk _ (s.blk _ e hn) hb).1
theorem RdX.keep {K K' : Nat → Prop} {w w' : World} (h : Keep K K' w w') {x : Ex} (r : RdX K w x) : RdX K' w' x := by
  induction r with
  | mk s _ ih => exact .mk (s.keep h) ih
theorem RdS.keep {K K' : Nat → Prop} {w w' : World} (h : Keep K K' w w') {x : St} (r : RdS K w x) : RdS K' w' x := by
  induction r with
  | mk s xs sb _ se _ ihb ihe => exact .mk (s.keep h) (fun x hx => (xs x hx).keep h) (sb.keep h) ihb (se.keep h) ihe
theorem Keep.below {K : Nat → Prop} {w w' : World} (h : Below w.heap.size w w') : Keep K K w w' := ⟨h.size, fun b hk hb => ⟨hk, h.block b hb⟩⟩
theorem Keep.weak {K K' : Nat → Prop} {w : World} (h : ∀ b, K b → b < w.heap.size → K' b) : Keep K K' w w := ⟨Nat.le_refl _, fun b hk hb => ⟨h b hk hb, rfl⟩⟩
theorem Keep.trans {K K' K2 : Nat → Prop} {w w' w2 : World} (h : Keep K K' w w') (k : Keep K' K2 w' w2) : Keep K K2 w w2 := ⟨Nat.le_trans h.size k.size, fun b hk hb => by
  have h1 := h.blk b hk hb
  have h2 := k.blk b h1.1 (Nat.lt_of_lt_of_le hb h.size)
  exact ⟨h2.1, h2.2.trans h1.2⟩⟩

def Lg {α : Type} (enc : α → List Value) (R : (Nat → Prop) → World → α → Prop) (K : Nat → Prop) (w : World) (A : Option Addr) (c : Nat) (l : List α) : Prop := Sl enc K w A c l ∧ ∀ x ∈ l, R K w x
abbrev Lx := Lg exE RdX
abbrev Ls := Lg stE RdS
def Stays {α : Type} (R : (Nat → Prop) → World → α → Prop) : Prop := ∀ (K K' : Nat → Prop) (w w' : World) (x : α), Keep K K' w w' → R K w x → R K' w' x
theorem stays_x : Stays RdX := fun _ _ _ _ _ h r => r.keep h
theorem stays_s : Stays RdS := fun _ _ _ _ _ h r => r.keep h
section
variable {α : Type} {enc : α → List Value} {R : (Nat → Prop) → World → α → Prop} {k : Nat} {E : TypeId}
theorem Lg.keep (hR : Stays R) {K K' : Nat → Prop} {w w' : World} (h : Keep K K' w w') {A : Option Addr} {c : Nat} {l : List α} (r : Lg enc R K w A c l) : Lg enc R K' w' A c l := ⟨r.1.keep h, fun x hx => hR _ _ _ _ _ h (r.2 x hx)⟩
theorem Lg.below (hR : Stays R) {K : Nat → Prop} {w w' : World} (h : Below w.heap.size w w') {A : Option Addr} {c : Nat} {l : List α} (r : Lg enc R K w A c l) : Lg enc R K w' A c l := r.keep hR (Keep.below h)
theorem Lg.nil {K : Nat → Prop} (w : World) : Lg enc R K w none 0 [] := ⟨Sl.nil w, fun _ h => by cases h⟩

structure Ow (enc : α → List Value) (R : (Nat → Prop) → World → α → Prop) (k : Nat) (E : TypeId) (K : Nat → Prop) (w : World) (B : Nat) (v : Value) (l : List α) : Prop where
  own : Sk.Own enc k E w B v l
  row : ∀ g, v.ownBlock = some g → K g
  sub : ∀ x ∈ l, R (fun b => K b ∧ v.ownBlock ≠ some b) w x
theorem Ow.nil {K : Nat → Prop} (w : World) (B : Nat) : Ow enc R k E K w B (.slice none 0 0) [] := ⟨Sk.own_nil _ _, fun _ h => by simp [Value.ownBlock] at h, fun _ h => by cases h⟩
theorem Ow.lt {K : Nat → Prop} {w : World} {B : Nat} {v : Value} {l : List α} (h : Ow enc R k E K w B v l) {g : Nat} (hg : v.ownBlock = some g) : B ≤ g ∧ g < w.heap.size := World.ownsRow.lt h.own g hg
theorem Ow.keep (hR : Stays R) {K K' : Nat → Prop} {w w' : World} {B : Nat} {v : Value} {l : List α} (hk : Keep K K' w w') (h : Ow enc R k E K w B v l) : Ow enc R k E K' w' B v l := by
  refine ⟨?_, fun g hg => (hk.blk g (h.row g hg) (h.lt hg).2).1, fun x hx => hR _ _ _ _ _ ⟨hk.size, fun b hb hl => ?_⟩ (h.sub x hx)⟩
  · obtain ⟨h1, h2⟩ := h.own
    refine ⟨h1, h2.imp id ?_⟩
    rintro ⟨g, cap, cur, rfl, hB, hh, hr⟩
    refine ⟨g, cap, cur, rfl, hB, ?_, hr⟩
    rw [(hk.blk g (h.row g rfl) (h.lt (g := g) rfl).2).2]
    exact hh
  · exact ⟨⟨(hk.blk b hb.1 hl).1, hb.2⟩, (hk.blk b hb.1 hl).2⟩
theorem Ow.below (hR : Stays R) {K : Nat → Prop} {w w' : World} {B : Nat} {v : Value} {l : List α} (h : Ow enc R k E K w B v l) (hb : Below w.heap.size w w') : Ow enc R k E K w' B v l := h.keep hR (Keep.below hb)
theorem Ow.append (hR : Stays R) {K : Nat → Prop} {w w' : World} {B : Nat} {v v' : Value} {l l2 : List α} (h : Ow enc R k E K w B v l) (ho : Sk.Own enc k E w' B v' (l ++ l2)) (hg : w.grownBy w' v.ownBlock)
    (hv : v'.ownBlock = v.ownBlock ∨ v'.ownBlock = some w.heap.size) (hK : K w.heap.size) (hn : ∀ x ∈ l2, R (fun b => K b ∧ v.ownBlock ≠ some b) w x) : Ow enc R k E K w' B v' (l ++ l2) := by
  have hk : Keep (fun b => K b ∧ v.ownBlock ≠ some b) (fun b => K b ∧ v'.ownBlock ≠ some b) w w' := by
    refine ⟨hg.size, fun b hb hl => ⟨⟨hb.1, ?_⟩, hg.block b hl (Ne.symm hb.2)⟩⟩
    rcases hv with e | e
    · rw [e]; exact hb.2
    · rw [e]; intro c; injection c with c; omega
  refine ⟨ho, fun g hg2 => ?_, fun x hx => ?_⟩
  · rcases hv with e | e
    · exact h.row g (e ▸ hg2)
    · rw [e] at hg2; injection hg2 with hg2; exact hg2 ▸ hK
  · rcases List.mem_append.1 hx with hx | hx
    · exact hR _ _ _ _ _ hk (h.sub x hx)
    · exact hR _ _ _ _ _ hk (hn x hx)
theorem Ow.list (hR : Stays R) {K : Nat → Prop} {w : World} {B : Nat} {v : Value} {l : List α} (h : Ow enc R k E K w B v l) : ∃ A c, v = .slice A l.length c ∧ Lg enc R K w A c l := by
  obtain ⟨A, c, rfl, h1, h2⟩ := h.own.shape
  exact ⟨A, c, rfl, ⟨h1, h2, h.own.rd, fun a e _ => by subst e; exact h.row _ rfl⟩, fun x hx => hR _ _ _ _ _ (Keep.weak fun b hb _ => hb.1) (h.sub x hx)⟩
theorem Lg.at_ (hk : ∀ x, (enc x).length = k) {K : Nat → Prop} {w : World} {A : Option Addr} {c : Nat} {l : List α} (h : Lg enc R K w A c l) {i : Nat} (hi : i < l.length) :
    ∃ b o, A = some ⟨b, o, none⟩ ∧ b < w.heap.size ∧ ∀ j u, (enc l[i])[j]? = some u → w.cell? ⟨b, o + i * k + j, none⟩ = some u := by
  obtain ⟨b, o, e, hb, _, hc⟩ := h.1.rd.at_ hk hi
  exact ⟨b, o, e, hb, hc⟩
end

theorem Ex.ind {Q : Ex → Prop} (h : ∀ k o n s A c ar, (∀ x ∈ ar, Q x) → Q (.mk k o n s A c ar)) : ∀ x, Q x
  | .mk k o n s A c ar => h k o n s A c ar fun x _ => Ex.ind h x
termination_by x => SizeOf.sizeOf x
decreasing_by
  have := List.sizeOf_lt_of_mem (by assumption)
  simp only [Ex.mk.sizeOf_spec]
  omega
theorem St.ind {Q : St → Prop} (h : ∀ k n s A c ar B cb b E ce e, (∀ x ∈ b, Q x) → (∀ x ∈ e, Q x) → Q (.mk k n s A c ar B cb b E ce e)) : ∀ x, Q x
  | .mk k n s A c ar B cb b E ce e => h k n s A c ar B cb b E ce e (fun x _ => St.ind h x) (fun x _ => St.ind h x)
termination_by x => SizeOf.sizeOf x
decreasing_by
  all_goals
    have := List.sizeOf_lt_of_mem (by assumption)
    simp only [St.mk.sizeOf_spec]
    omega
end Go.Proofs.Yteibcfpepdbflaa.BindD
