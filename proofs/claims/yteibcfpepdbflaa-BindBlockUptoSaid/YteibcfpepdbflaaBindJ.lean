/- clewref17.said: the texts that statements say, each once. Conditions: sizes within the reach. -/
import Derived.Test.YteibcfpepdbflaaBindK
namespace Go.Proofs.Yteibcfpepdbflaa.RgD
open Go Go.RowKit
section
variable {P : Program} {ops : Array Oper} {Q : Exit → Act → World → Prop} {md : Region.Mode} {S : World → Prop} {fr : List Nat}
theorem storeS {i fuel : Nat} {oi : Oper} {listed : Array Bool} {ts : Array Value} {ds : List Deferred} {w w1 : World} (hi : ops[i]? = some oi) (hd : oi.dst = none)
    (hw : Region.wanted oi (yielded ops ts) = true) (hx : (execOp (Act.eval ⟨ts, ds⟩) oi).run P w = .ok .skip w1) (hS : S w1)
    (h : wpAnyD P md ops Q fr S fuel (listed.setIfInBounds i true) ⟨ts, ds⟩ w1) :
    wpOp P ops Q i (fun a' w' => (i ∉ fr → S w') ∧ wpAnyD P md ops Q fr S fuel (listed.setIfInBounds i true) a' w') ⟨ts, ds⟩ w := by
  unfold wpOp
  simp only [hi, hw, if_true, Oper.wp, hx, Oper.upon]
  refine .inl ⟨fun _ => hS, ?_⟩
  rw [hd]
  exact h
theorem appQ {α : Type} {enc : α → Value} {T E : TypeId} {z : α} {by' : Nat} (el : Sq.El P T E enc z by') {i t fuel : Nat} {oi : Oper} {listed : Array Bool} {ts : Array Value} {ds : List Deferred} {w : World} (s x : Operand) (hi : ops[i]? = some oi) (hd : oi.dst = some t)
    (hw : Region.wanted oi (yielded ops ts) = true) (ho : oi.op = .call { callee := .builtin .append, args := #[s, x], argTypes := #[T, T] })
    {B : Nat} {v : Value} {l : List α} (hs : Act.eval ⟨ts, ds⟩ s = v) (hown : Sq.Own enc E w B v l) (A : Option Addr) (m c : Nat) (l2 : List α) (hx : Act.eval ⟨ts, ds⟩ x = .slice A m c) (hr : Sq.Rd enc w A m l2)
    (h63 : l.length + m ≤ maxLen) (hb : (l.length + m) * by' ≤ 140737488355328) (hB : B ≤ w.heap.size)
    (h : ∀ v' w', Sq.Own enc E w' B v' (l ++ l2) → Below B w w' → w.grownBy w' v.ownBlock → (v'.ownBlock = v.ownBlock ∨ v'.ownBlock = some w.heap.size) → S w' ∧ wpAnyD P md ops Q fr S fuel (listed.setIfInBounds i true) ⟨ts.setIfInBounds t v', ds⟩ w') :
    wpOp P ops Q i (fun a' w' => (i ∉ fr → S w') ∧ wpAnyD P md ops Q fr S fuel (listed.setIfInBounds i true) a' w') ⟨ts, ds⟩ w := by
  unfold wpOp
  simp only [hi, hw, if_true]
  refine .inl (Sq.wp_append el s x ho hs hown A m c l2 hx hr h63 hb hB fun v' w' h1 h2 h3 h4 => ?_)
  rw [hd]
  obtain ⟨hS, hk⟩ := h v' w' h1 h2 h3 h4
  exact ⟨fun _ => hS, hk⟩
end
end Go.Proofs.Yteibcfpepdbflaa.RgD
namespace Go.Proofs.Yteibcfpepdbflaa.BindT
open Go Go.RowKit BindP BindD BindO BindW BindN BindG BindX BindB BindS BindK
open Byt (str)

theorem Stp.setx {Bb : Nat} {lv lv' : Value} {w w' : World} (h : Stp Bb lv w lv' w') {g o : Nat} (hg : w.heap.size ≤ g) (v : Value) : Stp Bb lv w lv' (w'.setCell ⟨g, o, none⟩ v) :=
  ⟨h.os, h.tape, h.output, by simp [World.setCell]; exact h.size, fun b hb h1 h2 => by
    simp only [World.setCell, Array.getElem?_modify]
    rw [if_neg (fun c : g = b => by omega)]
    exact h.block b hb h1 h2, h.own⟩
theorem Stp.grown {Bb : Nat} {lv lv' : Value} {w w' w2 : World} {row : Option Nat} (h : Stp Bb lv w lv' w') (hg : w'.grownBy w2 row) (hr : ∀ g, row = some g → w.heap.size ≤ g) : Stp Bb lv w lv' w2 :=
  ⟨hg.os.trans h.os, hg.tape.trans h.tape, hg.output.trans h.output, Nat.le_trans h.size hg.size, fun b hb h1 h2 => (hg.block b (Nat.lt_of_lt_of_le hb h.size) (fun c => by have := hr b c.symm; omega)).trans (h.block b hb h1 h2), h.own⟩
theorem Bn.grown {Bb W : Nat} {tv xv : Value} {w w2 : World} {lv : Value} {lo : List S} {row : Option Nat} (h : Bn Bb W tv xv w lv lo) (hg : w.grownBy w2 row) (h1 : row ≠ some Bb) (h2 : ∀ g, row = some g → lv.ownBlock ≠ some g) : Bn Bb W tv xv w2 lv lo :=
  ⟨(hg.block _ h.lt (Ne.symm h1)).trans h.box, own_keep h.own (fun b e => hg.block b (h.lvlt e).2 (fun c => h2 b c.symm e)), h.ne, h.le, Nat.lt_of_lt_of_le h.lt hg.size⟩

structure La (wr : World) (sb xb B : Nat) (scs : Array Value) (x0 x1 x2 v x4 x5 : Value) (al : List Ex) (U : World) : Prop where
  s : U.heap[sb]? = some (.cells scs 46 (0, 0))
  x : U.heap[xb]? = some (.cells #[x0, x1, x2, v, x4, x5] 46 (0, 0))
  own : Ow exE RdX 5 49 (fun b => B ≤ b) U B v al
  low : Below wr.heap.size wr U
  sz : B ≤ U.heap.size
  lt : wr.heap.size ≤ sb ∧ sb < xb ∧ xb < B
section
variable {wr : World} {sb xb B : Nat} {scs : Array Value} {x0 x1 x2 v x4 x5 : Value} {al : List Ex} {U : World}
theorem La.below (h : La wr sb xb B scs x0 x1 x2 v x4 x5 al U) {U7 : World} (hb : Below U.heap.size U U7) : La wr sb xb B scs x0 x1 x2 v x4 x5 al U7 := by
  obtain ⟨l1, l2, l3⟩ := h.lt
  have := h.sz
  exact ⟨(hb.block _ (by omega)).trans h.s, (hb.block _ (by omega)).trans h.x, h.own.below stays_x hb, h.low.trans (hb.mono h.low.size), Nat.le_trans h.sz hb.size, h.lt⟩
theorem La.next (h : La wr sb xb B scs x0 x1 x2 v x4 x5 al U) {w7 : World} (hb : Below B U w7) {v7 : Value} {l2 : List Ex} (ho : Ow exE RdX 5 49 (fun b => B ≤ b) w7 B v7 l2) : La wr sb xb B scs x0 x1 x2 v7 x4 x5 l2 (w7.setCell ⟨xb, 3, none⟩ v7) := by
  obtain ⟨l1, l2', l3⟩ := h.lt
  have h1 := h.sz
  have h2 := hb.size
  refine ⟨?_, ?_, ho.keep stays_x (keep_set 3 _ (by omega)), ?_, ?_, h.lt⟩
  · rw [Below.heap_setCell _ _ _ _ (by simp; omega), hb.block _ (by omega)]; exact h.s
  · have := (hb.block xb l3).trans h.x
    simp [World.setCell, Array.getElem?_modify, this]
  · exact (h.low.trans (hb.mono (by omega))).setCell (p := ⟨xb, 3, none⟩) (by simp; omega) _
  · simp [World.setCell]; omega
end
structure Lb (Bb : Nat) (wr : World) (sb xb B : Nat) (scs : Array Value) (x0 x1 x2 : Value) (Aa : Option Addr) (ca : Nat) (al : List Ex) (x4 x5 : Value) (lv : Value) (U : World) : Prop where
  s : U.heap[sb]? = some (.cells scs 46 (0, 0))
  x : U.heap[xb]? = some (.cells #[x0, x1, x2, .slice Aa al.length ca, x4, x5] 46 (0, 0))
  args : Lx (fun b => B ≤ b ∧ lv.ownBlock ≠ some b) U Aa ca al
  sn : lv.ownBlock ≠ some sb
  xn : lv.ownBlock ≠ some xb
  lt : Bb < wr.heap.size ∧ wr.heap.size ≤ sb ∧ sb < xb ∧ xb < B
  sz : xb < U.heap.size
section
variable {Bb : Nat} {wr : World} {sb xb B : Nat} {scs : Array Value} {x0 x1 x2 : Value} {Aa : Option Addr} {ca : Nat} {al : List Ex} {x4 x5 lv lv' : Value} {U U' : World}
theorem Lb.of (h : La wr sb xb B scs x0 x1 x2 (.slice Aa al.length ca) x4 x5 al U) (hBb : Bb < wr.heap.size) (hl : ∀ g, lv.ownBlock = some g → g < wr.heap.size) : Lb Bb wr sb xb B scs x0 x1 x2 Aa ca al x4 x5 lv U := by
  obtain ⟨l1, l2, l3⟩ := h.lt
  obtain ⟨A', c', e, hg⟩ := h.own.list stays_x
  injection e with e1 e2 e3
  subst e1 e3
  exact ⟨h.s, h.x, hg.keep stays_x (Keep.weak fun b hb _ => ⟨hb, fun c => by have := hl b c; omega⟩), fun c => by have := hl _ c; omega, fun c => by have := hl _ c; omega, ⟨hBb, l1, l2, l3⟩, by have := h.sz; omega⟩
theorem Lb.stp (h : Lb Bb wr sb xb B scs x0 x1 x2 Aa ca al x4 x5 lv U) (k : Stp Bb lv U lv' U') : Lb Bb wr sb xb B scs x0 x1 x2 Aa ca al x4 x5 lv' U' := by
  obtain ⟨l1, l2, l3, l4⟩ := h.lt
  have hs := h.sz
  refine ⟨(k.block _ (by omega) (by omega) h.sn).trans h.s, (k.block _ (by omega) (by omega) h.xn).trans h.x, h.args.keep stays_x (Keep.stp k (by omega)), fun c => ?_, fun c => ?_, h.lt, Nat.lt_of_lt_of_le hs k.size⟩
  · rcases k.own _ c with e | e
    · exact h.sn e
    · omega
  · rcases k.own _ c with e | e
    · exact h.xn e
    · omega
theorem Lb.set4 (h : Lb Bb wr sb xb B scs x0 x1 x2 Aa ca al x4 x5 lv U) (y : Value) : Lb Bb wr sb xb B scs x0 x1 x2 Aa ca al y x5 lv (U.setCell ⟨xb, 4, none⟩ y) := by
  obtain ⟨l1, l2, l3, l4⟩ := h.lt
  refine ⟨?_, ?_, h.args.keep stays_x (keep_set 4 _ (by omega)), h.sn, h.xn, h.lt, by have := h.sz; simp [World.setCell]; exact this⟩
  · rw [Below.heap_setCell _ _ _ _ (by simp; omega)]; exact h.s
  · simp [World.setCell, Array.getElem?_modify, h.x]
theorem Lb.set5 (h : Lb Bb wr sb xb B scs x0 x1 x2 Aa ca al x4 x5 lv U) (y : Value) : Lb Bb wr sb xb B scs x0 x1 x2 Aa ca al x4 y lv (U.setCell ⟨xb, 5, none⟩ y) := by
  obtain ⟨l1, l2, l3, l4⟩ := h.lt
  refine ⟨?_, ?_, h.args.keep stays_x (keep_set 5 _ (by omega)), h.sn, h.xn, h.lt, by have := h.sz; simp [World.setCell]; exact this⟩
  · rw [Below.heap_setCell _ _ _ _ (by simp; omega)]; exact h.s
  · simp [World.setCell, Array.getElem?_modify, h.x]
end

structure Rw (t : List Nm) (tx lo : List S) (Bb W : Nat) (tv xv : Value) (l : List St) (lv0 : Value) (w : World) (j : Nat) (lv vo : Value) (out : List St) (wr : World) : Prop where
  bn : Bn Bb W tv xv wr lv (rowI t tx lo (stPs (l.take j))).2
  own : Ow stE RdS 6 46 (fun b => w.heap.size ≤ b ∧ lv.ownBlock ≠ some b) wr w.heap.size vo out
  ps : stPs out = (rowI t tx lo (stPs (l.take j))).1
  len : out.length = j
  stp : Stp Bb lv0 w lv wr
theorem rowI_snoc (t : List Nm) (tx : List S) : ∀ (l : List Ps) (lo : List S) (x : Ps), rowI t tx lo (l ++ [x]) = ((rowI t tx lo l).1 ++ [(stI t tx (rowI t tx lo l).2 x).1], (stI t tx (rowI t tx lo l).2 x).2)
  | [], lo, x => by simp [rowI]
  | a :: l, lo, x => by
    rw [List.cons_append]
    unfold rowI
    rw [rowI_snoc t tx l]
    rfl
theorem stPs_app (l1 l2 : List St) : stPs (l1 ++ l2) = stPs l1 ++ stPs l2 := by rw [stPs_map, stPs_map, stPs_map, List.map_append]
theorem nB_app : ∀ (l1 l2 : List Ps), nB (l1 ++ l2) = nB l1 + nB l2
  | [], l2 => by simp [nB]
  | a :: l1, l2 => by simp only [List.cons_append, nB, nB_app l1 l2, Nat.add_assoc]
theorem take_nB {l : List St} {j : Nat} (h : j < l.length) : nB (stPs (l.take j)) + nS l[j].p ≤ nB (stPs l) := by
  have e : l = l.take (j + 1) ++ l.drop (j + 1) := (List.take_append_drop _ _).symm
  have e2 : stPs (l.take (j + 1)) = stPs (l.take j) ++ [l[j].p] := by rw [List.take_succ_eq_append_getElem h, stPs_app]; rfl
  have h2 : nB (stPs l) = nB (stPs (l.take (j + 1))) + nB (stPs (l.drop (j + 1))) := by rw [← nB_app, ← stPs_app, ← e]
  rw [e2, nB_app] at h2
  have h3 : nB [l[j].p] = nS l[j].p := by simp only [nB, Nat.add_zero]
  omega
end Go.Proofs.Yteibcfpepdbflaa.BindT
namespace Go.Proofs.Yteibcfpepdbflaa.BindJ
open Go Go.RowKit BindP BindD BindO BindW BindS BindX BindT BindI
open Byt (str)

theorem said_app : ∀ (l1 l2 : List Ps), said (l1 ++ l2) = said l1 ++ said l2
  | [], l2 => by simp [said]
  | a :: l1, l2 => by simp only [List.cons_append, said, said_app l1 l2, List.append_assoc]
theorem said_take {l : List St} {j : Nat} (h : j < l.length) : said (stPs (l.take (j + 1))) = said (stPs (l.take j)) ++ said1 l[j].p := by
  rw [List.take_succ_eq_append_getElem h, stPs_app, said_app]
  simp only [stPs, said, List.append_nil]
theorem saidA_len (l : List Pe) : (saidA l).length ≤ l.length := by unfold saidA; exact List.length_filterMap_le ..
theorem said_le : (∀ p : Ps, (said1 p).length ≤ nS p) ∧ ∀ l : List Ps, (said l).length ≤ nB l := by
  have hA : ∀ l : List Pe, (saidA l).length ≤ nEs l := fun l => Nat.le_trans (saidA_len l) (by
    induction l with
    | nil => simp
    | cons a l ih => have := nE_pos a; simp only [List.length_cons, nEs]; omega)
  have h : ∀ N : Nat, (∀ p : Ps, nS p ≤ N → (said1 p).length ≤ nS p) ∧ ∀ l : List Ps, nB l ≤ N → (said l).length ≤ nB l := by
    intro N
    induction N with
    | zero => exact ⟨fun p hp => by cases p; unfold nS at hp; omega, fun l hl => by
        cases l with
        | nil => simp [said]
        | cons a l => cases a; unfold nB nS at hl; omega⟩
    | succ N ih =>
      have h1 : ∀ p : Ps, nS p ≤ N + 1 → (said1 p).length ≤ nS p := fun p hp => by
        obtain ⟨k, n, s, ar, b, e⟩ := p
        simp only [nS] at hp ⊢
        simp only [said1, List.length_append]
        have := hA ar
        have hb := ih.2 b (by omega)
        have he := ih.2 e (by omega)
        omega
      refine ⟨h1, fun l => ?_⟩
      induction l with
      | nil => intro _; simp [said]
      | cons a l ihl =>
        intro hl
        simp only [nB] at hl ⊢
        simp only [said, List.length_append]
        have := h1 a (by omega)
        have := ihl (by omega)
        omega
  exact ⟨fun p => (h _).1 p (Nat.le_refl _), fun l => (h _).2 l (Nat.le_refl _)⟩
def SaidC (w0 : World) (l : List St) : Prop := ∀ (A : Option Addr) (c : Nat) (v : Value) (w : World) (out : List S), Sq.Own sv 9 w w0.heap.size v out → Below w0.heap.size w0 w → Ls top w0 A c l → out.length + nB (stPs l) ≤ 4194304 →
  Calls Try.prog 34 #[v, .slice A l.length c] w fun e w' => ∃ v', e = .returned v' ∧ Sq.Own sv 9 w' w0.heap.size v' ((said (stPs l)).foldl wth out) ∧ Below w0.heap.size w w'
end Go.Proofs.Yteibcfpepdbflaa.BindJ
