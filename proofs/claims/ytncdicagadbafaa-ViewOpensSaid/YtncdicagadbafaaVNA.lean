/- clewref19.New hands back a world that reads as the story's first one. Conditions: the tables read; 1 to 128 things, of 16 props at most; 64 globals, 16 daemons at most. clewlaw23.awake: chapter 23's example. Conditions: none. -/
import Derived.Test.YtncdicagadbafaaVB
import Derived.Test.YtncdicagadbafaaNewW
import Derived.Test.YtncdicagadbafaaViewF
import Derived.Test.YtncdicagadbafaaVOU
namespace Go.Proofs.Ytncdicagadbafaa.NewX
open Go Go.RowKit NestP NestW NestX NestY ValP ValW ValX ValR Sq WorldD CopP MoveP LvP MvA AttrP AttrW AttrX TabD TabW TabX TabB MixP Awk AwkP NewP NewW

theorem sk_lit {α : Type} {enc : α → List Value} (w : World) (t : TypeId) (l : List α) (cs : Array Value) (hcs : cs.toList = l.flatMap enc) (n : Nat) (hn : n = l.length) : Sk.Rd enc (w.alloc (.cells cs t)) (some ⟨w.heap.size, 0, none⟩) n l := by
  refine ⟨hn, fun _ => ⟨w.heap.size, 0, rfl, by simp, fun i x hx => ?_⟩⟩
  have e : (w.alloc (.cells cs t)).heap[w.heap.size]? = some (.cells cs t) := (MapKept.heap_alloc w _).1
  unfold World.cell?
  simp only [e, Nat.zero_add]
  rw [← hcs] at hx
  simpa using hx
theorem held_wo {t : TbV} {w : World} {B b : Nat} {v0 v1 v2 v3 v4 v5 v6 : Value} (h : Held w B b [(v0, (newW t).gl), (v1, (newW t).pa), (v2, (newW t).ch), (v3, (newW t).ne), (v4, (newW t).fl), (v5, (newW t).pr), (v6, (newW t).ti)]) (h0 : (newW t).gl.length ≤ 64) (h6 : t.da.n ≤ 16) (hn : t.th.n ≤ 128) (hp : ∀ e ∈ t.th.l, e.pr.l.length ≤ 16) :
    Wo w (.agg #[v0, v1, v2, v3, v4, v5, v6, .int .u64 (fr t.rl), .int .i64 0, .int .i64 0, .int .i64 0, .int .i64 0, .int .i64 0]) (newW t) := by
  obtain ⟨z1, z2, z3, z4, z5⟩ := newK_len t t.th.n hp
  have z6 : (newW t).ti.length = t.da.n := List.length_replicate ..
  have o0 : Sq.Own I 3 w B v0 (newW t).gl := h.own (v0, (newW t).gl) (by simp)
  obtain ⟨A0, c0, rfl, _, _⟩ := o0.shape
  have o1 : Sq.Own I 3 w B v1 (newW t).pa := h.own (v1, (newW t).pa) (by simp)
  obtain ⟨A1, c1, rfl, _, _⟩ := o1.shape
  have o2 : Sq.Own I 3 w B v2 (newW t).ch := h.own (v2, (newW t).ch) (by simp)
  obtain ⟨A2, c2, rfl, _, _⟩ := o2.shape
  have o3 : Sq.Own I 3 w B v3 (newW t).ne := h.own (v3, (newW t).ne) (by simp)
  obtain ⟨A3, c3, rfl, _, _⟩ := o3.shape
  have o4 : Sq.Own I 3 w B v4 (newW t).fl := h.own (v4, (newW t).fl) (by simp)
  obtain ⟨A4, c4, rfl, _, _⟩ := o4.shape
  have o5 : Sq.Own I 3 w B v5 (newW t).pr := h.own (v5, (newW t).pr) (by simp)
  obtain ⟨A5, c5, rfl, _, _⟩ := o5.shape
  have o6 : Sq.Own I 3 w B v6 (newW t).ti := h.own (v6, (newW t).ti) (by simp)
  obtain ⟨A6, c6, rfl, _, _⟩ := o6.shape
  refine ⟨A0, A1, A2, A3, A4, A5, A6, _, c0, _, c1, _, c2, _, c3, _, c4, _, c5, _, c6, rfl, ⟨o0.rd, o1.rd, o2.rd, o3.rd, o4.rd, o5.rd, o6.rd⟩, u_fr _, ⟨rfl, rfl, rfl, rfl, rfl⟩, ?_⟩
  have y1 : (newW t).pa.length ≤ t.th.n := z1
  have y2 : (newW t).ch.length ≤ t.th.n := z2
  have y3 : (newW t).ne.length ≤ t.th.n := z3
  have y4 : (newW t).fl.length ≤ t.th.n := z4
  have y5 : (newW t).pr.length ≤ 16 * t.th.n := z5
  refine ⟨by omega, by omega, by omega, by omega, by omega, by omega, by omega⟩
theorem new_w (t : TbV) (w : World) (hr : TbR w t) (hn : 0 < t.th.n ∧ t.th.n ≤ 128) (hgl : t.gl.n ≤ 64) (hda : t.da.n ≤ 16) (hpr : ∀ e ∈ t.th.l, e.pr.n ≤ 16) :
    Calls Try.prog 96 #[.agg #[.int .i64 t.ti, .int .i64 t.au, .int .i64 t.rl, .int .i64 t.mx, .slice t.tx.a t.tx.n t.tx.c, .int .i64 t.fl, .slice t.pr.a t.pr.n t.pr.c, .slice t.gl.a t.gl.n t.gl.c, .slice t.th.a t.th.n t.th.c, .slice t.ac.a t.ac.n t.ac.c, .slice t.de.a t.de.n t.de.c, .slice t.fu.a t.fu.n t.fu.c, .slice t.da.a t.da.n t.da.c, .slice t.pm.a t.pm.n t.pm.c, .slice t.lo.a t.lo.n t.lo.c]] w fun e w' => ∃ v, e = .returned v ∧ Wo w' v (newW t) ∧ Below w.heap.size w w' := by
  refine (new_i t w hr hn hgl hda hpr).mono ?_
  rintro e w' ⟨v0, v1, v2, v3, v4, v5, v6, rfl, ⟨b, hh⟩, hb⟩
  exact ⟨_, rfl, held_wo hh (show t.gl.l.length ≤ 64 by rw [← hr.2.2.1.2.2.len]; exact hgl) hda hn.2 (fun e he => by rw [← (hr.2.2.2.1.2.2.2 e he).1.2.2.len]; exact hpr e he), hb⟩
/-- No slice at all reads as none. -/
theorem ri0 (w : World) : Ri w ⟨none, 0, 0, []⟩ := ⟨Nat.le_refl _, by simp [maxLen], Sq.Rd.nil _ _⟩
theorem rs0 (w : World) : Rs w ⟨none, 0, 0, []⟩ := ⟨Nat.le_refl _, by simp [maxLen], Sq.Rd.nil _ _, by simp⟩
theorem rw0 (w : World) : Rw w ⟨none, 0, 0, []⟩ := ⟨Nat.le_refl _, by simp [maxLen], Sk.Rd.nil _ _, by simp⟩
theorem ra0 (w : World) : Ra w ⟨none, 0, 0, []⟩ := ⟨Nat.le_refl _, by simp [maxLen], Sk.Rd.nil _ _, by simp⟩
theorem rd0 (w : World) : Rd2 w ⟨none, 0, 0, []⟩ := ⟨Nat.le_refl _, by simp [maxLen], Sk.Rd.nil _ _, by simp⟩
end Go.Proofs.Ytncdicagadbafaa.NewX

namespace Go.Proofs.Ytncdicagadbafaa.AwkV
open Go Go.RowKit NestP NestW NestX NestY ValP ValW ValX ValR Sq WorldD CopP MoveP LvP MvA AttrP AttrW AttrX AttrY AttrZ AttrU AttrV AttrQ TabD TabW TabX TabB TabR MixP AwkP WoC ViewP ViewW ViewK ViewC ViewS ViewD ViewE ViewF ViewR ViewQ ViewO ViewU NewP NewW NewX

def tb0 (B : Nat) : TbV := ⟨0, 0, 0, 0, ⟨some ⟨B, 0, none⟩, 1, 1, [{ data := #[] }]⟩, 4, ⟨none, 0, 0, []⟩, ⟨none, 0, 0, []⟩, ⟨some ⟨B + 1, 0, none⟩, 5, 5, [⟨0, -1, 0, 0, false, ⟨none, 0, 0, []⟩, ⟨none, 0, 0, []⟩, ⟨none, 0, 0, []⟩, ⟨none, 0, 0, []⟩⟩, ⟨0, -1, 2, 0, false, ⟨none, 0, 0, []⟩, ⟨none, 0, 0, []⟩, ⟨none, 0, 0, []⟩, ⟨none, 0, 0, []⟩⟩, ⟨0, -1, 0, 1, true, ⟨none, 0, 0, []⟩, ⟨none, 0, 0, []⟩, ⟨none, 0, 0, []⟩, ⟨none, 0, 0, []⟩⟩, ⟨0, -1, 2, 4, false, ⟨none, 0, 0, []⟩, ⟨none, 0, 0, []⟩, ⟨none, 0, 0, []⟩, ⟨none, 0, 0, []⟩⟩, ⟨0, -1, 3, 0, false, ⟨none, 0, 0, []⟩, ⟨none, 0, 0, []⟩, ⟨none, 0, 0, []⟩, ⟨none, 0, 0, []⟩⟩]⟩, ⟨none, 0, 0, []⟩, ⟨none, 0, 0, []⟩, ⟨none, 0, 0, []⟩, ⟨none, 0, 0, []⟩, ⟨none, 0, 0, []⟩, ⟨none, 0, 0, []⟩⟩
theorem tb0_reads (w : World) : TbR (((w.alloc (.cells #[.string { data := #[] }] 9)).alloc (.cells #[.int .i64 0, .int .i64 (-1), .int .i64 0, .int .i64 0, .bool false, .slice none 0 0, .slice none 0 0, .slice none 0 0, .slice none 0 0, .int .i64 0, .int .i64 (-1), .int .i64 2, .int .i64 0, .bool false, .slice none 0 0, .slice none 0 0, .slice none 0 0, .slice none 0 0, .int .i64 0, .int .i64 (-1), .int .i64 0, .int .i64 1, .bool true, .slice none 0 0, .slice none 0 0, .slice none 0 0, .slice none 0 0, .int .i64 0, .int .i64 (-1), .int .i64 2, .int .i64 4, .bool false, .slice none 0 0, .slice none 0 0, .slice none 0 0, .slice none 0 0, .int .i64 0, .int .i64 (-1), .int .i64 3, .int .i64 0, .bool false, .slice none 0 0, .slice none 0 0, .slice none 0 0, .slice none 0 0] 89)).alloc (.cells #[.int .i64 0, .int .i64 0, .int .i64 0, .int .i64 0, .slice (some ⟨w.heap.size, 0, none⟩) 1 1, .int .i64 4, .slice none 0 0, .slice none 0 0, .slice (some ⟨w.heap.size + 1, 0, none⟩) 5 5, .slice none 0 0, .slice none 0 0, .slice none 0 0, .slice none 0 0, .slice none 0 0, .slice none 0 0] 28)) (tb0 w.heap.size) := by
  have r0 : Rs (w.alloc (.cells #[.string { data := #[] }] 9)) ⟨some ⟨w.heap.size, 0, none⟩, 1, 1, [{ data := #[] }]⟩ := ⟨Nat.le_refl _, by simp [maxLen], rd_lit w _ [({ data := #[] } : ByteArray)] #[.string { data := #[] }] rfl 1 rfl, fun x hx => by rw [List.mem_singleton.1 hx]; decide⟩
  have b0 : Below (w.alloc (.cells #[.string { data := #[] }] 9)).heap.size (w.alloc (.cells #[.string { data := #[] }] 9)) (((w.alloc (.cells #[.string { data := #[] }] 9)).alloc (.cells #[.int .i64 0, .int .i64 (-1), .int .i64 0, .int .i64 0, .bool false, .slice none 0 0, .slice none 0 0, .slice none 0 0, .slice none 0 0, .int .i64 0, .int .i64 (-1), .int .i64 2, .int .i64 0, .bool false, .slice none 0 0, .slice none 0 0, .slice none 0 0, .slice none 0 0, .int .i64 0, .int .i64 (-1), .int .i64 0, .int .i64 1, .bool true, .slice none 0 0, .slice none 0 0, .slice none 0 0, .slice none 0 0, .int .i64 0, .int .i64 (-1), .int .i64 2, .int .i64 4, .bool false, .slice none 0 0, .slice none 0 0, .slice none 0 0, .slice none 0 0, .int .i64 0, .int .i64 (-1), .int .i64 3, .int .i64 0, .bool false, .slice none 0 0, .slice none 0 0, .slice none 0 0, .slice none 0 0] 89)).alloc (.cells #[.int .i64 0, .int .i64 0, .int .i64 0, .int .i64 0, .slice (some ⟨w.heap.size, 0, none⟩) 1 1, .int .i64 4, .slice none 0 0, .slice none 0 0, .slice (some ⟨w.heap.size + 1, 0, none⟩) 5 5, .slice none 0 0, .slice none 0 0, .slice none 0 0, .slice none 0 0, .slice none 0 0, .slice none 0 0] 28)) := ((Below.refl (w.alloc (.cells #[.string { data := #[] }] 9)).heap.size (w.alloc (.cells #[.string { data := #[] }] 9))).alloc (Nat.le_refl _) _).alloc (by simp) _
  have b5 : Below ((w.alloc (.cells #[.string { data := #[] }] 9)).alloc (.cells #[.int .i64 0, .int .i64 (-1), .int .i64 0, .int .i64 0, .bool false, .slice none 0 0, .slice none 0 0, .slice none 0 0, .slice none 0 0, .int .i64 0, .int .i64 (-1), .int .i64 2, .int .i64 0, .bool false, .slice none 0 0, .slice none 0 0, .slice none 0 0, .slice none 0 0, .int .i64 0, .int .i64 (-1), .int .i64 0, .int .i64 1, .bool true, .slice none 0 0, .slice none 0 0, .slice none 0 0, .slice none 0 0, .int .i64 0, .int .i64 (-1), .int .i64 2, .int .i64 4, .bool false, .slice none 0 0, .slice none 0 0, .slice none 0 0, .slice none 0 0, .int .i64 0, .int .i64 (-1), .int .i64 3, .int .i64 0, .bool false, .slice none 0 0, .slice none 0 0, .slice none 0 0, .slice none 0 0] 89)).heap.size ((w.alloc (.cells #[.string { data := #[] }] 9)).alloc (.cells #[.int .i64 0, .int .i64 (-1), .int .i64 0, .int .i64 0, .bool false, .slice none 0 0, .slice none 0 0, .slice none 0 0, .slice none 0 0, .int .i64 0, .int .i64 (-1), .int .i64 2, .int .i64 0, .bool false, .slice none 0 0, .slice none 0 0, .slice none 0 0, .slice none 0 0, .int .i64 0, .int .i64 (-1), .int .i64 0, .int .i64 1, .bool true, .slice none 0 0, .slice none 0 0, .slice none 0 0, .slice none 0 0, .int .i64 0, .int .i64 (-1), .int .i64 2, .int .i64 4, .bool false, .slice none 0 0, .slice none 0 0, .slice none 0 0, .slice none 0 0, .int .i64 0, .int .i64 (-1), .int .i64 3, .int .i64 0, .bool false, .slice none 0 0, .slice none 0 0, .slice none 0 0, .slice none 0 0] 89)) (((w.alloc (.cells #[.string { data := #[] }] 9)).alloc (.cells #[.int .i64 0, .int .i64 (-1), .int .i64 0, .int .i64 0, .bool false, .slice none 0 0, .slice none 0 0, .slice none 0 0, .slice none 0 0, .int .i64 0, .int .i64 (-1), .int .i64 2, .int .i64 0, .bool false, .slice none 0 0, .slice none 0 0, .slice none 0 0, .slice none 0 0, .int .i64 0, .int .i64 (-1), .int .i64 0, .int .i64 1, .bool true, .slice none 0 0, .slice none 0 0, .slice none 0 0, .slice none 0 0, .int .i64 0, .int .i64 (-1), .int .i64 2, .int .i64 4, .bool false, .slice none 0 0, .slice none 0 0, .slice none 0 0, .slice none 0 0, .int .i64 0, .int .i64 (-1), .int .i64 3, .int .i64 0, .bool false, .slice none 0 0, .slice none 0 0, .slice none 0 0, .slice none 0 0] 89)).alloc (.cells #[.int .i64 0, .int .i64 0, .int .i64 0, .int .i64 0, .slice (some ⟨w.heap.size, 0, none⟩) 1 1, .int .i64 4, .slice none 0 0, .slice none 0 0, .slice (some ⟨w.heap.size + 1, 0, none⟩) 5 5, .slice none 0 0, .slice none 0 0, .slice none 0 0, .slice none 0 0, .slice none 0 0, .slice none 0 0] 28)) := (Below.refl _ _).alloc (Nat.le_refl _) _
  have h := sk_lit (enc := ThE) (w.alloc (.cells #[.string { data := #[] }] 9)) 89 (tb0 w.heap.size).th.l #[.int .i64 0, .int .i64 (-1), .int .i64 0, .int .i64 0, .bool false, .slice none 0 0, .slice none 0 0, .slice none 0 0, .slice none 0 0, .int .i64 0, .int .i64 (-1), .int .i64 2, .int .i64 0, .bool false, .slice none 0 0, .slice none 0 0, .slice none 0 0, .slice none 0 0, .int .i64 0, .int .i64 (-1), .int .i64 0, .int .i64 1, .bool true, .slice none 0 0, .slice none 0 0, .slice none 0 0, .slice none 0 0, .int .i64 0, .int .i64 (-1), .int .i64 2, .int .i64 4, .bool false, .slice none 0 0, .slice none 0 0, .slice none 0 0, .slice none 0 0, .int .i64 0, .int .i64 (-1), .int .i64 3, .int .i64 0, .bool false, .slice none 0 0, .slice none 0 0, .slice none 0 0, .slice none 0 0] rfl 5 rfl
  have h2 : Sk.Rd ThE ((w.alloc (.cells #[.string { data := #[] }] 9)).alloc (.cells #[.int .i64 0, .int .i64 (-1), .int .i64 0, .int .i64 0, .bool false, .slice none 0 0, .slice none 0 0, .slice none 0 0, .slice none 0 0, .int .i64 0, .int .i64 (-1), .int .i64 2, .int .i64 0, .bool false, .slice none 0 0, .slice none 0 0, .slice none 0 0, .slice none 0 0, .int .i64 0, .int .i64 (-1), .int .i64 0, .int .i64 1, .bool true, .slice none 0 0, .slice none 0 0, .slice none 0 0, .slice none 0 0, .int .i64 0, .int .i64 (-1), .int .i64 2, .int .i64 4, .bool false, .slice none 0 0, .slice none 0 0, .slice none 0 0, .slice none 0 0, .int .i64 0, .int .i64 (-1), .int .i64 3, .int .i64 0, .bool false, .slice none 0 0, .slice none 0 0, .slice none 0 0, .slice none 0 0] 89)) (some ⟨w.heap.size + 1, 0, none⟩) 5 (tb0 w.heap.size).th.l := by simpa using h
  refine ⟨r0.below b0, ri0 _, ri0 _, ⟨Nat.le_refl _, by simp [maxLen, tb0], h2.below b5, ?_⟩, ra0 _, rd0 _, ri0 _, ri0 _, ri0 _, ri0 _⟩
  intro x hx
  simp only [tb0, List.mem_cons, List.not_mem_nil, or_false] at hx
  rcases hx with rfl | rfl | rfl | rfl | rfl
  all_goals exact ⟨ri0 _, rs0 _, rs0 _, rw0 _⟩
def ga : Wd := { gl := [], pa := [0, 2, 0, 2, 3], ch := [0, 0, 1, 4, 0], ne := [0, 3, 0, 0, 0], fl := [0, 0, 1, 4, 0], pr := [], ti := [], seed := fr 0, sc := 0, tu := 0, ov := 0, it := 0, go := 0 }
def gb : Wd := flG ga (ga.fl.set 3 6)
theorem ea (B : Nat) : newW (tb0 B) = ga := by
  unfold newW newK ga
  congr 1
theorem fa : Fl ga := ⟨by decide, by decide⟩
theorem fb : Fl gb := ⟨by decide, by decide⟩
theorem gda : NestP.Good ga := good_of (by decide)
theorem gdb : NestP.Good gb := good_of (by decide)
theorem va : visible ga = [3] := by decide
theorem vb : visible gb = [3, 4] := by decide
theorem hb2 : here gb = 2 := by decide
theorem lb : litB gb = true := by decide
theorem s2 : seesB gb 2 = true := by decide
theorem s0 : seesB gb 0 = false := by decide
theorem held_ow {t : TbV} {w : World} {B b : Nat} {v0 v1 v2 v3 v4 v5 v6 : Value} (h : Held w B b [(v0, (newW t).gl), (v1, (newW t).pa), (v2, (newW t).ch), (v3, (newW t).ne), (v4, (newW t).fl), (v5, (newW t).pr), (v6, (newW t).ti)]) :
    Ow w B (.agg #[v0, v1, v2, v3, v4, v5, v6, .int .u64 (newW t).seed, .int .i64 (newW t).sc, .int .i64 (newW t).tu, .int .i64 (newW t).ov, .int .i64 (newW t).it, .int .i64 (newW t).go]) (newW t) := by
  have hap : [v0, v1, v2, v3, v4, v5, v6].Pairwise apart := by
    have h2 := h.apart.map (S := apart) Prod.fst (fun p q hpq => fun k hk hq => by rcases hpq with e | e <;> simp_all)
    simpa using h2
  have o0 : Sq.Own I 3 w B v0 (newW t).gl := h.own (v0, (newW t).gl) (by simp)
  obtain ⟨A0, c0, rfl, _, _⟩ := o0.shape
  have o1 : Sq.Own I 3 w B v1 (newW t).pa := h.own (v1, (newW t).pa) (by simp)
  obtain ⟨A1, c1, rfl, _, _⟩ := o1.shape
  have o2 : Sq.Own I 3 w B v2 (newW t).ch := h.own (v2, (newW t).ch) (by simp)
  obtain ⟨A2, c2, rfl, _, _⟩ := o2.shape
  have o3 : Sq.Own I 3 w B v3 (newW t).ne := h.own (v3, (newW t).ne) (by simp)
  obtain ⟨A3, c3, rfl, _, _⟩ := o3.shape
  have o4 : Sq.Own I 3 w B v4 (newW t).fl := h.own (v4, (newW t).fl) (by simp)
  obtain ⟨A4, c4, rfl, _, _⟩ := o4.shape
  have o5 : Sq.Own I 3 w B v5 (newW t).pr := h.own (v5, (newW t).pr) (by simp)
  obtain ⟨A5, c5, rfl, _, _⟩ := o5.shape
  have o6 : Sq.Own I 3 w B v6 (newW t).ti := h.own (v6, (newW t).ti) (by simp)
  obtain ⟨A6, c6, rfl, _, _⟩ := o6.shape
  exact ⟨A0, A1, A2, A3, A4, A5, A6, _, c0, _, c1, _, c2, _, c3, _, c4, _, c5, _, c6, rfl, ⟨o0, o1, o2, o3, o4, o5, o6⟩, hap⟩
theorem new_o (t : TbV) (w : World) (hr : TbR w t) (hn : 0 < t.th.n ∧ t.th.n ≤ 128) (hgl : t.gl.n ≤ 64) (hda : t.da.n ≤ 16) (hpr : ∀ e ∈ t.th.l, e.pr.n ≤ 16) :
    Calls Try.prog 96 #[.agg #[.int .i64 t.ti, .int .i64 t.au, .int .i64 t.rl, .int .i64 t.mx, .slice t.tx.a t.tx.n t.tx.c, .int .i64 t.fl, .slice t.pr.a t.pr.n t.pr.c, .slice t.gl.a t.gl.n t.gl.c, .slice t.th.a t.th.n t.th.c, .slice t.ac.a t.ac.n t.ac.c, .slice t.de.a t.de.n t.de.c, .slice t.fu.a t.fu.n t.fu.c, .slice t.da.a t.da.n t.da.c, .slice t.pm.a t.pm.n t.pm.c, .slice t.lo.a t.lo.n t.lo.c]] w fun e w' => ∃ v, e = .returned v ∧ Ow w' w.heap.size v (newW t) ∧ Wo w' v (newW t) ∧ Below w.heap.size w w' := by
  refine (new_i t w hr hn hgl hda hpr).mono ?_
  rintro e w' ⟨v0, v1, v2, v3, v4, v5, v6, rfl, ⟨b, hh⟩, hb⟩
  exact ⟨_, rfl, held_ow hh, held_wo hh (show t.gl.l.length ≤ 64 by rw [← hr.2.2.1.2.2.len]; exact hgl) hda hn.2 (fun e he => by rw [← (hr.2.2.2.1.2.2.2 e he).1.2.2.len]; exact hpr e he), hb⟩

set_option maxRecDepth 100000 in
set_option maxHeartbeats 16000000 in
theorem awake (w : World) : Calls Try.prog 67 #[] w fun e w' => e = .returned (.bool true) ∧ Below w.heap.size w w' := by
  go_enter Try.func67, Try.ntmps67
  go_wp2_with fail
  obtain ⟨W0, hW0⟩ : ∃ W0, (((w.alloc (.cells #[.string { data := #[] }] 9)).alloc (.cells #[.int .i64 0, .int .i64 (-1), .int .i64 0, .int .i64 0, .bool false, .slice none 0 0, .slice none 0 0, .slice none 0 0, .slice none 0 0, .int .i64 0, .int .i64 (-1), .int .i64 2, .int .i64 0, .bool false, .slice none 0 0, .slice none 0 0, .slice none 0 0, .slice none 0 0, .int .i64 0, .int .i64 (-1), .int .i64 0, .int .i64 1, .bool true, .slice none 0 0, .slice none 0 0, .slice none 0 0, .slice none 0 0, .int .i64 0, .int .i64 (-1), .int .i64 2, .int .i64 4, .bool false, .slice none 0 0, .slice none 0 0, .slice none 0 0, .slice none 0 0, .int .i64 0, .int .i64 (-1), .int .i64 3, .int .i64 0, .bool false, .slice none 0 0, .slice none 0 0, .slice none 0 0, .slice none 0 0] 89)).alloc (.cells #[.int .i64 0, .int .i64 0, .int .i64 0, .int .i64 0, .slice (some ⟨w.heap.size, 0, none⟩) 1 1, .int .i64 4, .slice none 0 0, .slice none 0 0, .slice (some ⟨w.heap.size + 1, 0, none⟩) 5 5, .slice none 0 0, .slice none 0 0, .slice none 0 0, .slice none 0 0, .slice none 0 0, .slice none 0 0] 28)) = W0 := ⟨_, rfl⟩
  have HT := Lib.hid (show TbR W0 (tb0 w.heap.size) by rw [← hW0]; exact tb0_reads w)
  have hz : W0.heap.size = w.heap.size + 1 + 1 + 1 := by rw [← hW0]; simp
  have HA : W0.heap[w.heap.size + 1 + 1]? = some (.cells #[.int .i64 0, .int .i64 0, .int .i64 0, .int .i64 0, .slice (some ⟨w.heap.size, 0, none⟩) 1 1, .int .i64 4, .slice none 0 0, .slice none 0 0, .slice (some ⟨w.heap.size + 1, 0, none⟩) 5 5, .slice none 0 0, .slice none 0 0, .slice none 0 0, .slice none 0 0, .slice none 0 0, .slice none 0 0] 28 (0, 0)) := by rw [← hW0]; have h := World.alloc_heap_new ((w.alloc (.cells #[.string { data := #[] }] 9)).alloc (.cells #[.int .i64 0, .int .i64 (-1), .int .i64 0, .int .i64 0, .bool false, .slice none 0 0, .slice none 0 0, .slice none 0 0, .slice none 0 0, .int .i64 0, .int .i64 (-1), .int .i64 2, .int .i64 0, .bool false, .slice none 0 0, .slice none 0 0, .slice none 0 0, .slice none 0 0, .int .i64 0, .int .i64 (-1), .int .i64 0, .int .i64 1, .bool true, .slice none 0 0, .slice none 0 0, .slice none 0 0, .slice none 0 0, .int .i64 0, .int .i64 (-1), .int .i64 2, .int .i64 4, .bool false, .slice none 0 0, .slice none 0 0, .slice none 0 0, .slice none 0 0, .int .i64 0, .int .i64 (-1), .int .i64 3, .int .i64 0, .bool false, .slice none 0 0, .slice none 0 0, .slice none 0 0, .slice none 0 0] 89)) (.cells #[.int .i64 0, .int .i64 0, .int .i64 0, .int .i64 0, .slice (some ⟨w.heap.size, 0, none⟩) 1 1, .int .i64 4, .slice none 0 0, .slice none 0 0, .slice (some ⟨w.heap.size + 1, 0, none⟩) 5 5, .slice none 0 0, .slice none 0 0, .slice none 0 0, .slice none 0 0, .slice none 0 0, .slice none 0 0] 28); simpa using h
  have LA : w.heap.size + 1 + 1 < W0.heap.size := by rw [hz]; exact Nat.lt_succ_self _
  have HB := Lib.hid (show Below w.heap.size w W0 by rw [← hW0]; exact (((Below.refl w.heap.size w).alloc (Nat.le_refl _) _).alloc (by simp) _).alloc (by simp; omega) _)
  clear hz
  rw [hW0]
  clear hW0
  refine (new_o (tb0 w.heap.size) W0 HT.out ⟨by simp [tb0], by simp [tb0]⟩ (by simp [tb0]) (by simp [tb0]) (fun x hx => by simp only [tb0, List.mem_cons, List.not_mem_nil, or_false] at hx; rcases hx with rfl | rfl | rfl | rfl | rfl <;> simp)).mono ?_
  rintro e w1 ⟨vw, rfl, ho, hwo, hb⟩
  rw [ea] at ho hwo
  have HA1 := (hb.block _ LA).trans HA
  have LA1 := Nat.lt_of_lt_of_le LA hb.size
  have HB1 := Lib.hid (HB.out.trans (hb.mono HB.out.size))
  have HBW1 := Lib.hid hb
  have HO1 := Lib.hid ho
  have HWo1 := Lib.hid hwo
  obtain ⟨A0, A1, A2, A3, A4, A5, A6, n0, c0, n, c1, n2, c2, n3, c3, n4, c4, n5, c5, n6, c6, rfl, _⟩ := hwo
  have ho4 : Sq.Own I 3 w1 W0.heap.size (.slice A4 n4 c4) ga.fl := ow_own ho
  obtain rfl : n4 = 5 := ho4.rd.len
  obtain ⟨b4, rfl, hb4, hlt4, hc4, hf4⟩ := ho4.at_ (show 0 < 5 by omega)
  have c43 : w1.cell? ⟨b4, 3, none⟩ = some (.int .i64 4) := hc4 3 (by decide)
  have f43 := hf4 3
  have N4 : w.heap.size + 1 + 1 ≠ b4 := Nat.ne_of_lt (Nat.lt_of_lt_of_le LA hb4)
  clear ho hb HA HB ho4 hc4 hf4
  obtain ⟨t0, t1, t2, t3, t4, t5, t6, t7, t8, t9, t10, t11, t12, t13, t14, tf⟩ := cells15 HA1
  go_wp2_with (go_at_call 75; refine (visible_v (tb0 w.heap.size) ga gda fa (by decide) _ (SamW.wo_below HWo1.out ((Below.refl _ _).alloc (Nat.le_refl _) _))).mono ?_; rintro e w2 ⟨u, rfl, ho2, hb2⟩; rw [va] at ho2; obtain ⟨Ar, cr, rfl, _, _⟩ := ho2.shape; have HR2 := Lib.hid ho2; have HK := Lib.hid (((Below.refl w1.heap.size w1).alloc (Nat.le_refl _) _).trans (hb2.mono (by simp))); have HA2 := (HK.out.block _ LA1).trans HA1; have LA2 := Nat.lt_of_lt_of_le LA1 HK.out.size; have HX2 := (hb2.block w1.heap.size (by simp)).trans (World.alloc_heap_new w1 _); have LX2 : w1.heap.size < w2.heap.size := Nat.lt_of_lt_of_le (by simp) hb2.size; have c432 := (HK.out.cell (p := ⟨b4, 3, none⟩) hlt4).trans c43; have f432 := (HK.out.frozen (p := ⟨b4, 3, none⟩) hlt4).trans f43; clear ho2 hb2 c43 f43 t0 t1 t2 t3 t4 t5 t6 t7 t8 t9 t10 t11 t12 t13 t14 tf; obtain ⟨x0, x1, x2, x3, x4, x5, x6, x7, x8, x9, x10, x11, x12, xf⟩ := cells13 HX2)
  go_upto_region 5 with (fail)
  obtain ⟨W3, hW3⟩ : ∃ W3, w2.setCell ⟨b4, 3, none⟩ (.int .i64 6) = W3 := ⟨_, rfl⟩
  rw [hW3]
  have hs3 : w2.heap.size = W3.heap.size := by rw [← hW3]; simp
  rw [hs3]
  have hB3 : Below W0.heap.size W0 W3 := hW3 ▸ (HBW1.out.trans (HK.out.mono HBW1.out.size)).setCell (p := ⟨b4, 3, none⟩) hb4 _
  have HT3 := Lib.hid (TbR.below HT.out hB3)
  have hO3 : Ow W3 W0.heap.size _ gb := hW3 ▸ ow_set (Ow.below HO1.out HK.out) rfl 3 6
  have HWo3 := Lib.hid (Ow.wo hO3 HWo1.out rfl)
  have HA3 : W3.heap[w.heap.size + 1 + 1]? = _ := hW3 ▸ (Below.heap_setCell _ _ _ _ N4).trans HA2
  have HX3 : W3.heap[w1.heap.size]? = _ := hW3 ▸ (Below.heap_setCell _ _ _ _ (Nat.ne_of_gt hlt4)).trans HX2
  have LA3 : w.heap.size + 1 + 1 < W3.heap.size := hs3 ▸ LA2
  have LX3 : w1.heap.size < W3.heap.size := hs3 ▸ LX2
  have HR3 := Lib.hid (show Sq.Rd I W3 Ar 1 [3] from hW3 ▸ (own_same HR2.out fun k hk => Below.heap_setCell _ _ _ _ (Nat.ne_of_gt (Nat.lt_of_lt_of_le hlt4 (Nat.le_of_succ_le (by simpa using hk))))).rd)
  have HB3 := Lib.hid (show Below w.heap.size w W3 from hW3 ▸ (HB1.out.trans (HK.out.mono HB1.out.size)).setCell (p := ⟨b4, 3, none⟩) (show w.heap.size ≤ b4 by omega) _)
  have HK3 := Lib.hid (Below.refl W3.heap.size W3)
  clear hW3 hB3 hO3 hs3 HK HA2 HX2 LA2 LX2 c432 f432 x0 x1 x2 x3 x4 x5 x6 x7 x8 x9 x10 x11 x12 xf HR2 HO1 HBW1 HB1 hlt4 N4
  have i15 : (Try.prog.info? 28).map (·.size) = some 15 := by kernel_rfl
  have i13 : (Try.prog.info? 31).map (·.size) = some 13 := by kernel_rfl
  generalize (.agg #[.int .i64 0, .int .i64 (-1), .int .i64 0, .int .i64 0, .bool false, .slice none 0 0, .slice none 0 0, .slice none 0 0, .slice none 0 0] : Value) = d0
  generalize (.agg #[.int .i64 0, .int .i64 (-1), .int .i64 2, .int .i64 0, .bool false, .slice none 0 0, .slice none 0 0, .slice none 0 0, .slice none 0 0] : Value) = d1
  generalize (.agg #[.int .i64 0, .int .i64 (-1), .int .i64 0, .int .i64 1, .bool true, .slice none 0 0, .slice none 0 0, .slice none 0 0, .slice none 0 0] : Value) = d2
  generalize (.agg #[.int .i64 0, .int .i64 (-1), .int .i64 2, .int .i64 4, .bool false, .slice none 0 0, .slice none 0 0, .slice none 0 0, .slice none 0 0] : Value) = d3
  generalize (.agg #[.int .i64 0, .int .i64 (-1), .int .i64 3, .int .i64 0, .bool false, .slice none 0 0, .slice none 0 0, .slice none 0 0, .slice none 0 0] : Value) = d4
  generalize hT : (.agg #[.int .i64 0, .int .i64 0, .int .i64 0, .int .i64 0, .slice (some ⟨w.heap.size, 0, none⟩) 1 1, .int .i64 4, .slice none 0 0, .slice none 0 0, .slice (some ⟨w.heap.size + 1, 0, none⟩) 5 5, .slice none 0 0, .slice none 0 0, .slice none 0 0, .slice none 0 0, .slice none 0 0, .slice none 0 0] : Value) = T
  have hT2 : (.agg #[.int .i64 (tb0 w.heap.size).ti, .int .i64 (tb0 w.heap.size).au, .int .i64 (tb0 w.heap.size).rl, .int .i64 (tb0 w.heap.size).mx, .slice (tb0 w.heap.size).tx.a (tb0 w.heap.size).tx.n (tb0 w.heap.size).tx.c, .int .i64 (tb0 w.heap.size).fl, .slice (tb0 w.heap.size).pr.a (tb0 w.heap.size).pr.n (tb0 w.heap.size).pr.c, .slice (tb0 w.heap.size).gl.a (tb0 w.heap.size).gl.n (tb0 w.heap.size).gl.c, .slice (tb0 w.heap.size).th.a (tb0 w.heap.size).th.n (tb0 w.heap.size).th.c, .slice (tb0 w.heap.size).ac.a (tb0 w.heap.size).ac.n (tb0 w.heap.size).ac.c, .slice (tb0 w.heap.size).de.a (tb0 w.heap.size).de.n (tb0 w.heap.size).de.c, .slice (tb0 w.heap.size).fu.a (tb0 w.heap.size).fu.n (tb0 w.heap.size).fu.c, .slice (tb0 w.heap.size).da.a (tb0 w.heap.size).da.n (tb0 w.heap.size).da.c, .slice (tb0 w.heap.size).pm.a (tb0 w.heap.size).pm.n (tb0 w.heap.size).pm.c, .slice (tb0 w.heap.size).lo.a (tb0 w.heap.size).lo.n (tb0 w.heap.size).lo.c] : Value) = T := hT
  obtain ⟨z0, z1, z2, z3, z4, z5, z6, z7, z8, z9, z10, z11, z12, e0, e1, e2, e3, e4, e5, e6, e7, e8, e9, e10, e11, e12⟩ : ∃ z0 z1 z2 z3 z4 z5 z6 z7 z8 z9 z10 z11 z12 : Value, .slice A0 n0 c0 = z0 ∧ .slice A1 n c1 = z1 ∧ .slice A2 n2 c2 = z2 ∧ .slice A3 n3 c3 = z3 ∧ .slice (some ⟨b4, 0, none⟩) 5 c4 = z4 ∧ .slice A5 n5 c5 = z5 ∧ .slice A6 n6 c6 = z6 ∧ .int .u64 ga.seed = z7 ∧ .int .i64 ga.sc = z8 ∧ .int .i64 ga.tu = z9 ∧ .int .i64 ga.ov = z10 ∧ .int .i64 ga.it = z11 ∧ .int .i64 ga.go = z12 := ⟨_, _, _, _, _, _, _, _, _, _, _, _, _, rfl, rfl, rfl, rfl, rfl, rfl, rfl, rfl, rfl, rfl, rfl, rfl, rfl⟩
  generalize hV : (.agg #[.slice A0 n0 c0, .slice A1 n c1, .slice A2 n2 c2, .slice A3 n3 c3, .slice (some ⟨b4, 0, none⟩) 5 c4, .slice A5 n5 c5, .slice A6 n6 c6, .int .u64 ga.seed, .int .i64 ga.sc, .int .i64 ga.tu, .int .i64 ga.ov, .int .i64 ga.it, .int .i64 ga.go] : Value) = V at HWo3 ⊢
  rw [e0, e1, e2, e3, e4, e5, e6, e7, e8, e9, e10, e11, e12] at HX3 hV
  clear e0 e1 e2 e3 e4 e5 e6 e7 e8 e9 e10 e11 e12
  have HC0 := fun (U : World) (h : Wo U V gb) => visible_v (tb0 w.heap.size) gb gdb fb (by decide) U h
  rw [hT2] at HC0
  have HC_visible_v := Lib.hid HC0
  clear HC0
  have HC0 := fun (U : World) (h : Wo U V gb) => lit_v (tb0 w.heap.size) gb gdb fb (by decide) U h
  rw [hT2] at HC0
  have HC_lit_v := Lib.hid HC0
  clear HC0
  have HC0 := fun (x : Int) (U : World) (h : Wo U V gb) => sees_v (tb0 w.heap.size) gb gdb fb (by decide) x U h
  rw [hT2] at HC0
  have HC_sees_v := Lib.hid HC0
  clear HC0
  clear hT2
  have HA := HA3
  have HX := HX3
  have HA3 := Lib.hid HA3
  have HX3 := Lib.hid HX3
  go_wp2_with (first
    | (refine load_row ?_ 28 _ rfl (w.heap.size + 1 + 1) ?_ 28 #[.int .i64 0, .int .i64 0, .int .i64 0, .int .i64 0, .slice (some ⟨w.heap.size, 0, none⟩) 1 1, .int .i64 4, .slice none 0 0, .slice none 0 0, .slice (some ⟨w.heap.size + 1, 0, none⟩) 5 5, .slice none 0 0, .slice none 0 0, .slice none 0 0, .slice none 0 0, .slice none 0 0, .slice none 0 0] (0, 0) _ HA Try.underlying28 ?_ ?_ ?_; rfl; rfl; rfl; exact i15; rw [hT])
    | (refine load_row ?_ 31 _ rfl w1.heap.size ?_ 31 #[z0, z1, z2, z3, z4, z5, z6, z7, z8, z9, z10, z11, z12] (0, 0) _ HX Try.underlying31 ?_ ?_ ?_; rfl; rfl; rfl; exact i13; rw [hV]))
  refine (sameInts_t [3] _ (HR3.out.alloc _) (rd_lit W3 3 [3] #[.int .i64 3] rfl 1 rfl) (by simp)).mono ?_
  rintro e w4 ⟨rfl, hb⟩
  have hc : Below W3.heap.size W3 w4 := ((Below.refl W3.heap.size W3).alloc (Nat.le_refl _) _).trans (hb.mono (by simp))
  have HK4 := Lib.hid (HK3.out.trans (hc.mono HK3.out.size))
  clear HA HX
  have HA := (HK4.out.block _ LA3).trans HA3.out
  have HX := (HK4.out.block _ LX3).trans HX3.out
  clear hb hc
  go_wp2_with (first
    | (refine load_row ?_ 28 _ rfl (w.heap.size + 1 + 1) ?_ 28 #[.int .i64 0, .int .i64 0, .int .i64 0, .int .i64 0, .slice (some ⟨w.heap.size, 0, none⟩) 1 1, .int .i64 4, .slice none 0 0, .slice none 0 0, .slice (some ⟨w.heap.size + 1, 0, none⟩) 5 5, .slice none 0 0, .slice none 0 0, .slice none 0 0, .slice none 0 0, .slice none 0 0, .slice none 0 0] (0, 0) _ HA Try.underlying28 ?_ ?_ ?_; rfl; rfl; rfl; exact i15; rw [hT])
    | (refine load_row ?_ 31 _ rfl w1.heap.size ?_ 31 #[z0, z1, z2, z3, z4, z5, z6, z7, z8, z9, z10, z11, z12] (0, 0) _ HX Try.underlying31 ?_ ?_ ?_; rfl; rfl; rfl; exact i13; rw [hV]))
  refine (HC_visible_v.out _ (SamW.wo_below HWo3.out HK4.out)).mono ?_
  rintro e w5 ⟨u, rfl, ho5, hb⟩
  rw [vb] at ho5
  obtain ⟨Ar5, cr5, rfl, _, _⟩ := ho5.shape
  have HR5 := Lib.hid ho5.rd
  clear ho5
  have hc : Below w4.heap.size w4 w5 := hb
  have HK5 := Lib.hid (HK4.out.trans (hc.mono HK4.out.size))
  clear HA HX
  have HA := (HK5.out.block _ LA3).trans HA3.out
  have HX := (HK5.out.block _ LX3).trans HX3.out
  clear hb hc
  go_wp2_with (first
    | (refine load_row ?_ 28 _ rfl (w.heap.size + 1 + 1) ?_ 28 #[.int .i64 0, .int .i64 0, .int .i64 0, .int .i64 0, .slice (some ⟨w.heap.size, 0, none⟩) 1 1, .int .i64 4, .slice none 0 0, .slice none 0 0, .slice (some ⟨w.heap.size + 1, 0, none⟩) 5 5, .slice none 0 0, .slice none 0 0, .slice none 0 0, .slice none 0 0, .slice none 0 0, .slice none 0 0] (0, 0) _ HA Try.underlying28 ?_ ?_ ?_; rfl; rfl; rfl; exact i15; rw [hT])
    | (refine load_row ?_ 31 _ rfl w1.heap.size ?_ 31 #[z0, z1, z2, z3, z4, z5, z6, z7, z8, z9, z10, z11, z12] (0, 0) _ HX Try.underlying31 ?_ ?_ ?_; rfl; rfl; rfl; exact i13; rw [hV]))
  refine (sameInts_t [3, 4] _ (HR5.out.alloc _) (rd_lit w5 3 [3, 4] #[.int .i64 3, .int .i64 4] rfl 2 rfl) (by simp)).mono ?_
  rintro e w6 ⟨rfl, hb⟩
  have hc : Below w5.heap.size w5 w6 := ((Below.refl w5.heap.size w5).alloc (Nat.le_refl _) _).trans (hb.mono (by simp))
  have HK6 := Lib.hid (HK5.out.trans (hc.mono HK5.out.size))
  clear HA HX
  have HA := (HK6.out.block _ LA3).trans HA3.out
  have HX := (HK6.out.block _ LX3).trans HX3.out
  clear hb hc
  go_wp2_with (first
    | (refine load_row ?_ 28 _ rfl (w.heap.size + 1 + 1) ?_ 28 #[.int .i64 0, .int .i64 0, .int .i64 0, .int .i64 0, .slice (some ⟨w.heap.size, 0, none⟩) 1 1, .int .i64 4, .slice none 0 0, .slice none 0 0, .slice (some ⟨w.heap.size + 1, 0, none⟩) 5 5, .slice none 0 0, .slice none 0 0, .slice none 0 0, .slice none 0 0, .slice none 0 0, .slice none 0 0] (0, 0) _ HA Try.underlying28 ?_ ?_ ?_; rfl; rfl; rfl; exact i15; rw [hT])
    | (refine load_row ?_ 31 _ rfl w1.heap.size ?_ 31 #[z0, z1, z2, z3, z4, z5, z6, z7, z8, z9, z10, z11, z12] (0, 0) _ HX Try.underlying31 ?_ ?_ ?_; rfl; rfl; rfl; exact i13; rw [hV]))
  refine (here_v gb _ (SamW.wo_below HWo3.out HK6.out)).mono ?_
  rintro e w7 ⟨rfl, hb⟩
  rw [hb2]
  have hc : Below w6.heap.size w6 w7 := hb
  have HK7 := Lib.hid (HK6.out.trans (hc.mono HK6.out.size))
  clear HA HX
  have HA := (HK7.out.block _ LA3).trans HA3.out
  have HX := (HK7.out.block _ LX3).trans HX3.out
  clear hb hc
  go_wp2_with (first
    | (refine load_row ?_ 28 _ rfl (w.heap.size + 1 + 1) ?_ 28 #[.int .i64 0, .int .i64 0, .int .i64 0, .int .i64 0, .slice (some ⟨w.heap.size, 0, none⟩) 1 1, .int .i64 4, .slice none 0 0, .slice none 0 0, .slice (some ⟨w.heap.size + 1, 0, none⟩) 5 5, .slice none 0 0, .slice none 0 0, .slice none 0 0, .slice none 0 0, .slice none 0 0, .slice none 0 0] (0, 0) _ HA Try.underlying28 ?_ ?_ ?_; rfl; rfl; rfl; exact i15; rw [hT])
    | (refine load_row ?_ 31 _ rfl w1.heap.size ?_ 31 #[z0, z1, z2, z3, z4, z5, z6, z7, z8, z9, z10, z11, z12] (0, 0) _ HX Try.underlying31 ?_ ?_ ?_; rfl; rfl; rfl; exact i13; rw [hV]))
  refine (HC_lit_v.out _ (SamW.wo_below HWo3.out HK7.out)).mono ?_
  rintro e w8 ⟨rfl, hb⟩
  rw [lb]
  have hc : Below w7.heap.size w7 w8 := hb
  have HK8 := Lib.hid (HK7.out.trans (hc.mono HK7.out.size))
  clear HA HX
  have HA := (HK8.out.block _ LA3).trans HA3.out
  have HX := (HK8.out.block _ LX3).trans HX3.out
  clear hb hc
  go_wp2_with (first
    | (refine load_row ?_ 28 _ rfl (w.heap.size + 1 + 1) ?_ 28 #[.int .i64 0, .int .i64 0, .int .i64 0, .int .i64 0, .slice (some ⟨w.heap.size, 0, none⟩) 1 1, .int .i64 4, .slice none 0 0, .slice none 0 0, .slice (some ⟨w.heap.size + 1, 0, none⟩) 5 5, .slice none 0 0, .slice none 0 0, .slice none 0 0, .slice none 0 0, .slice none 0 0, .slice none 0 0] (0, 0) _ HA Try.underlying28 ?_ ?_ ?_; rfl; rfl; rfl; exact i15; rw [hT])
    | (refine load_row ?_ 31 _ rfl w1.heap.size ?_ 31 #[z0, z1, z2, z3, z4, z5, z6, z7, z8, z9, z10, z11, z12] (0, 0) _ HX Try.underlying31 ?_ ?_ ?_; rfl; rfl; rfl; exact i13; rw [hV]))
  refine (HC_sees_v.out 2 _ (SamW.wo_below HWo3.out HK8.out)).mono ?_
  rintro e w9 ⟨rfl, hb⟩
  rw [s2]
  have hc : Below w8.heap.size w8 w9 := hb
  have HK9 := Lib.hid (HK8.out.trans (hc.mono HK8.out.size))
  clear HA HX
  have HA := (HK9.out.block _ LA3).trans HA3.out
  have HX := (HK9.out.block _ LX3).trans HX3.out
  clear hb hc
  go_wp2_with (first
    | (refine load_row ?_ 28 _ rfl (w.heap.size + 1 + 1) ?_ 28 #[.int .i64 0, .int .i64 0, .int .i64 0, .int .i64 0, .slice (some ⟨w.heap.size, 0, none⟩) 1 1, .int .i64 4, .slice none 0 0, .slice none 0 0, .slice (some ⟨w.heap.size + 1, 0, none⟩) 5 5, .slice none 0 0, .slice none 0 0, .slice none 0 0, .slice none 0 0, .slice none 0 0, .slice none 0 0] (0, 0) _ HA Try.underlying28 ?_ ?_ ?_; rfl; rfl; rfl; exact i15; rw [hT])
    | (refine load_row ?_ 31 _ rfl w1.heap.size ?_ 31 #[z0, z1, z2, z3, z4, z5, z6, z7, z8, z9, z10, z11, z12] (0, 0) _ HX Try.underlying31 ?_ ?_ ?_; rfl; rfl; rfl; exact i13; rw [hV]))
  refine (HC_sees_v.out 0 _ (SamW.wo_below HWo3.out HK9.out)).mono ?_
  rintro e w10 ⟨rfl, hb⟩
  rw [s0]
  have hc : Below w9.heap.size w9 w10 := hb
  have HK10 := Lib.hid (HK9.out.trans (hc.mono HK9.out.size))
  clear HA HX
  have HA := (HK10.out.block _ LA3).trans HA3.out
  have HX := (HK10.out.block _ LX3).trans HX3.out
  clear hb hc
  go_wp2_with (first
    | (refine load_row ?_ 28 _ rfl (w.heap.size + 1 + 1) ?_ 28 #[.int .i64 0, .int .i64 0, .int .i64 0, .int .i64 0, .slice (some ⟨w.heap.size, 0, none⟩) 1 1, .int .i64 4, .slice none 0 0, .slice none 0 0, .slice (some ⟨w.heap.size + 1, 0, none⟩) 5 5, .slice none 0 0, .slice none 0 0, .slice none 0 0, .slice none 0 0, .slice none 0 0, .slice none 0 0] (0, 0) _ HA Try.underlying28 ?_ ?_ ?_; rfl; rfl; rfl; exact i15; rw [hT])
    | (refine load_row ?_ 31 _ rfl w1.heap.size ?_ 31 #[z0, z1, z2, z3, z4, z5, z6, z7, z8, z9, z10, z11, z12] (0, 0) _ HX Try.underlying31 ?_ ?_ ?_; rfl; rfl; rfl; exact i13; rw [hV]))
  go_ret
  exact ⟨rfl, HB3.out.trans (HK10.out.mono HB3.out.size)⟩
end Go.Proofs.Ytncdicagadbafaa.AwkV
