/- clewref19.New hands back a world that reads as the story's first one. Conditions: the tables read; 1 to 128 things, of 16 props at most; 64 globals, 16 daemons at most. -/
import Derived.Test.YtncdicagadbafaaNewW
namespace Go.Proofs.Ytncdicagadbafaa.NewX
open Go Go.RowKit NestP NestW NestX NestY ValP ValW ValX ValR Sq WorldD CopP MoveP LvP MvA AttrP AttrW AttrX TabD TabW TabX TabB MixP Awk AwkP NewP NewW

theorem sk_lit {α : Type} {enc : α → List Value} (w : World) (t : TypeId) (l : List α) (cs : Array Value) (hcs : cs.toList = l.flatMap enc) (n : Nat) (hn : n = l.length) : Sk.Rd enc (w.alloc (.cells cs t)) (some ⟨w.heap.size, 0, none⟩) n l := by
  refine ⟨hn, fun _ => ⟨w.heap.size, 0, rfl, by simp, fun i x hx => ?_⟩⟩
  have e : (w.alloc (.cells cs t)).heap[w.heap.size]? = some (.cells cs t) := (MapKept.heap_alloc w _).1
  unfold World.cell?
  simp only [e, Nat.zero_add]
  rw [← hcs] at hx
  simpa using hx
theorem held_wo {t : TbV} {w : World} {B b : Nat} {v0 v1 v2 v3 v4 v5 v6 : Value} (h : Held w B b [(v0, (newW t).gl), (v1, (newW t).pa), (v2, (newW t).ch), (v3, (newW t).ne), (v4, (newW t).fl), (v5, (newW t).pr), (v6, (newW t).ti)]) (h0 : (newW t).gl.length ≤ 64) (h6 : t.da.n ≤ 16) (hn : t.th.n ≤ 128) (hp : ∀ e ∈ t.th.l, e.pr.l.length ≤ 16) :
    Wo w (.agg #[v0, v1, v2, v3, v4, v5, v6, .int .u64 (fr t.rl), .int .i64 0, .int .i64 0, .int .i64 0, .int .i64 0, .int .i64 0]) (newW t) := by
  obtain ⟨z1, z2, z3, z4, z5⟩ := newK_len t t.th.n hp
  have z6 : (newW t).ti.length = t.da.n := List.length_replicate ..
  have o0 : Sq.Own I 3 w B v0 (newW t).gl := h.own (v0, (newW t).gl) (by simp)
  obtain ⟨A0, c0, rfl, _, _⟩ := o0.shape
  have o1 : Sq.Own I 3 w B v1 (newW t).pa := h.own (v1, (newW t).pa) (by simp)
  obtain ⟨A1, c1, rfl, _, _⟩ := o1.shape
  have o2 : Sq.Own I 3 w B v2 (newW t).ch := h.own (v2, (newW t).ch) (by simp)
  obtain ⟨A2, c2, rfl, _, _⟩ := o2.shape
  have o3 : Sq.Own I 3 w B v3 (newW t).ne := h.own (v3, (newW t).ne) (by simp)
  obtain ⟨A3, c3, rfl, _, _⟩ := o3.shape
  have o4 : Sq.Own I 3 w B v4 (newW t).fl := h.own (v4, (newW t).fl) (by simp)
  obtain ⟨A4, c4, rfl, _, _⟩ := o4.shape
  have o5 : Sq.Own I 3 w B v5 (newW t).pr := h.own (v5, (newW t).pr) (by simp)
  obtain ⟨A5, c5, rfl, _, _⟩ := o5.shape
  have o6 : Sq.Own I 3 w B v6 (newW t).ti := h.own (v6, (newW t).ti) (by simp)
  obtain ⟨A6, c6, rfl, _, _⟩ := o6.shape
  refine ⟨A0, A1, A2, A3, A4, A5, A6, _, c0, _, c1, _, c2, _, c3, _, c4, _, c5, _, c6, rfl, ⟨o0.rd, o1.rd, o2.rd, o3.rd, o4.rd, o5.rd, o6.rd⟩, u_fr _, ⟨rfl, rfl, rfl, rfl, rfl⟩, ?_⟩
  have y1 : (newW t).pa.length ≤ t.th.n := z1
  have y2 : (newW t).ch.length ≤ t.th.n := z2
  have y3 : (newW t).ne.length ≤ t.th.n := z3
  have y4 : (newW t).fl.length ≤ t.th.n := z4
  have y5 : (newW t).pr.length ≤ 16 * t.th.n := z5
  refine ⟨by omega, by omega, by omega, by omega, by omega, by omega, by omega⟩
theorem new_w (t : TbV) (w : World) (hr : TbR w t) (hn : 0 < t.th.n ∧ t.th.n ≤ 128) (hgl : t.gl.n ≤ 64) (hda : t.da.n ≤ 16) (hpr : ∀ e ∈ t.th.l, e.pr.n ≤ 16) :
    Calls Try.prog 96 #[.agg #[.int .i64 t.ti, .int .i64 t.au, .int .i64 t.rl, .int .i64 t.mx, .slice t.tx.a t.tx.n t.tx.c, .int .i64 t.fl, .slice t.pr.a t.pr.n t.pr.c, .slice t.gl.a t.gl.n t.gl.c, .slice t.th.a t.th.n t.th.c, .slice t.ac.a t.ac.n t.ac.c, .slice t.de.a t.de.n t.de.c, .slice t.fu.a t.fu.n t.fu.c, .slice t.da.a t.da.n t.da.c, .slice t.pm.a t.pm.n t.pm.c, .slice t.lo.a t.lo.n t.lo.c]] w fun e w' => ∃ v, e = .returned v ∧ Wo w' v (newW t) ∧ Below w.heap.size w w' := by
  refine (new_i t w hr hn hgl hda hpr).mono ?_
  rintro e w' ⟨v0, v1, v2, v3, v4, v5, v6, rfl, ⟨b, hh⟩, hb⟩
  exact ⟨_, rfl, held_wo hh (show t.gl.l.length ≤ 64 by rw [← hr.2.2.1.2.2.len]; exact hgl) hda hn.2 (fun e he => by rw [← (hr.2.2.2.1.2.2.2 e he).1.2.2.len]; exact hpr e he), hb⟩
/-- No slice at all reads as none. -/
theorem ri0 (w : World) : Ri w ⟨none, 0, 0, []⟩ := ⟨Nat.le_refl _, by simp [maxLen], Sq.Rd.nil _ _⟩
theorem rs0 (w : World) : Rs w ⟨none, 0, 0, []⟩ := ⟨Nat.le_refl _, by simp [maxLen], Sq.Rd.nil _ _, by simp⟩
theorem rw0 (w : World) : Rw w ⟨none, 0, 0, []⟩ := ⟨Nat.le_refl _, by simp [maxLen], Sk.Rd.nil _ _, by simp⟩
theorem ra0 (w : World) : Ra w ⟨none, 0, 0, []⟩ := ⟨Nat.le_refl _, by simp [maxLen], Sk.Rd.nil _ _, by simp⟩
theorem rd0 (w : World) : Rd2 w ⟨none, 0, 0, []⟩ := ⟨Nat.le_refl _, by simp [maxLen], Sk.Rd.nil _ _, by simp⟩
end Go.Proofs.Ytncdicagadbafaa.NewX
