/- How an api.Tables among the arguments reads: its numbers, and its slices, of whatever they hold. Conditions: none. -/
import Derived.Test.YtncdicagadbafaaWorldD
import Derived.Test.YtncdicagadbafaaSeqK
namespace Go.Proofs.Ytncdicagadbafaa.TabD
open Go Go.ChangeShapes Go.WideShapes Go.ChangeAt Go.RowKit Go.Deep
open NestP NestW Sq MixP WorldD

/-- A slice's header, and what it reads as. -/
structure Sl (α : Type) where
  a : Option Addr
  n : Nat
  c : Nat
  l : List α
section
variable {H : Type} {en : TypeId × Value → H} {P : Program} {w : World} {base : Nat} {spare : Nat → Bool} {held : Bool}
theorem flat_val {α : Type} {D : α → Prop} {enc : α → List Value} : ∀ l : List {x // D x}, (l.flatMap fun x => enc x.1) = (l.map Subtype.val).flatMap enc
  | [] => rfl
  | x :: l => by simp [flat_val l]
/-- A slice whose elements take k cells each, and of each of which something is known. -/
theorem trod_deep {α : Type} {enc : α → List Value} {D : α → Prop} {k : Nat} (hk : ∀ x, (enc x).length = k) (h0k : 0 < k) {T E : TypeId} (hT : P.underlying T = some (.slice E)) (hE : P.cellsOf E = k)
    (hopen : ∀ (n : Nat) (cs : List Value) (y : DataW H × List MemPlace), cs.length = k → DataW.trod en P w base spare held n E cs = some y → ∃ x, cs = enc x ∧ D x)
    {n : Nat} {v : Value} {y : DataW H × List MemPlace} (h : DataW.trod en P w base spare held n T [v] = some y) : ∃ (l : List α) (A : Option Addr) (m c : Nat), v = .slice A m c ∧ m ≤ c ∧ c ≤ maxLen ∧ Sk.Rd enc w A m l ∧ ∀ x ∈ l, D x := by
  obtain ⟨l, A, m, c, rfl, h1, h2, h3⟩ := Sk.trod_rv (enc := fun x : {x // D x} => enc x.1) (fun x => hk x.1) h0k hT hE (fun n cs y hl h => by
    obtain ⟨x, hx, hd⟩ := hopen n cs y hl h
    exact ⟨⟨x, hd⟩, hx⟩) h
  refine ⟨l.map Subtype.val, A, m, c, rfl, h1, h2, ⟨by rw [List.length_map]; exact h3.1, fun h0 => ?_⟩, fun x hx => ?_⟩
  · obtain ⟨b, o, e, hlt, hc⟩ := h3.2 h0
    exact ⟨b, o, e, hlt, fun j u hu => hc j u (by rw [flat_val]; exact hu)⟩
  · obtain ⟨z, _, rfl⟩ := List.mem_map.1 hx
    exact z.2
theorem trod_deep1 {α : Type} {enc : α → Value} {D : α → Prop} {T E : TypeId} (hT : P.underlying T = some (.slice E)) (hE : P.cellsOf E = 1)
    (hopen : ∀ (n : Nat) (c : Value) (y : DataW H × List MemPlace), DataW.trod en P w base spare held n E [c] = some y → ∃ x, c = enc x ∧ D x)
    {n : Nat} {v : Value} {y : DataW H × List MemPlace} (h : DataW.trod en P w base spare held n T [v] = some y) : ∃ (l : List α) (A : Option Addr) (m c : Nat), v = .slice A m c ∧ m ≤ c ∧ c ≤ maxLen ∧ Sq.Rd enc w A m l ∧ ∀ x ∈ l, D x := by
  obtain ⟨l, A, m, c, rfl, h1, h2, h3⟩ := Sq.trod_rv (enc := fun x : {x // D x} => enc x.1) hT hE (fun n c y h => by
    obtain ⟨x, hx, hd⟩ := hopen n c y h
    exact ⟨⟨x, hd⟩, hx⟩) h
  refine ⟨l.map Subtype.val, A, m, c, rfl, h1, h2, ⟨by rw [List.length_map]; exact h3.1, fun h0 => ?_⟩, fun x hx => ?_⟩
  · obtain ⟨b, o, e, hlt, hc⟩ := h3.2 h0
    refine ⟨b, o, e, hlt, fun i x hx => ?_⟩
    rw [List.getElem?_map] at hx
    obtain ⟨z, hz, rfl⟩ := Option.map_eq_some_iff.1 hx
    exact hc i z hz
  · obtain ⟨z, _, rfl⟩ := List.mem_map.1 hx
    exact z.2
end
theorem cells_bool : Try.prog.cellsOf 4 = 1 := by kernel_rfl
theorem cells_str : Try.prog.cellsOf 9 = 1 := by kernel_rfl
theorem cells_strs : Try.prog.cellsOf 22 = 1 := by kernel_rfl
section
variable {H : Type} {enc : TypeId × Value → H} {w : World} {base : Nat} {spare : Nat → Bool} {held : Bool} {n : Nat} {v : Value} {y : DataW H × List MemPlace}
theorem bool_of (h : DataW.trod enc Try.prog w base spare held n 4 [v] = some y) : ∃ x : Bool, v = .bool x ∧ True := by
  obtain ⟨x, hx, _⟩ := DataW.trod_bool Try.underlying4 h
  exact ⟨x, by simpa using hx, trivial⟩
theorem str_of (h : DataW.trod enc Try.prog w base spare held n 9 [v] = some y) : ∃ x : ByteArray, v = .string x ∧ x.size ≤ maxLen := by
  obtain ⟨x, hx, _, hm⟩ := DataW.trod_string Try.underlying9 h
  exact ⟨x, by simpa using hx, hm⟩
def Ri (w : World) (s : Sl Int) : Prop := s.n ≤ s.c ∧ s.c ≤ maxLen ∧ Sq.Rd I w s.a s.n s.l
theorem Ri.below {w w' : World} {s : Sl Int} (h : Ri w s) (hb : Below w.heap.size w w') : Ri w' s := ⟨h.1, h.2.1, h.2.2.below hb⟩
theorem ints_o (h : DataW.trod enc Try.prog w base spare held n 23 [v] = some y) : ∃ s : Sl Int, v = .slice s.a s.n s.c ∧ Ri w s := by
  obtain ⟨l, A, m, c, rfl, h1, h2, h3⟩ := Sq.trod_rv (enc := I) Try.underlying23 cells_int (fun n c y h => by obtain ⟨x, rfl, _⟩ := int_of h; exact ⟨x, rfl⟩) h
  exact ⟨⟨A, m, c, l⟩, rfl, h1, h2, h3⟩
def Rs (w : World) (s : Sl ByteArray) : Prop := s.n ≤ s.c ∧ s.c ≤ maxLen ∧ Sq.Rd Value.string w s.a s.n s.l ∧ ∀ x ∈ s.l, x.size ≤ maxLen
theorem Rs.below {w w' : World} {s : Sl ByteArray} (h : Rs w s) (hb : Below w.heap.size w w') : Rs w' s := ⟨h.1, h.2.1, h.2.2.1.below hb, h.2.2.2⟩
theorem strs_o (h : DataW.trod enc Try.prog w base spare held n 22 [v] = some y) : ∃ s : Sl ByteArray, v = .slice s.a s.n s.c ∧ Rs w s := by
  obtain ⟨l, A, m, c, rfl, h1, h2, h3, h4⟩ := trod_deep1 (enc := Value.string) (D := fun x => x.size ≤ maxLen) Try.underlying22 cells_str (fun n c y h => str_of h) h
  exact ⟨⟨A, m, c, l⟩, rfl, h1, h2, h3, h4⟩
end

structure WayD where
  di : Int
  tt : Int
  wh : Int
  el : Int
def WayE (t : WayD) : List Value := [.int .i64 t.di, .int .i64 t.tt, .int .i64 t.wh, .int .i64 t.el]
theorem WayE_len (t : WayD) : (WayE t).length = 4 := rfl
def WayR : World → WayD → Prop := fun _ _ => True
theorem WayR.below {w w' : World} {t : WayD} (_ : WayR w t) (_ : Below w.heap.size w w') : WayR w' t := trivial
theorem cells_way_of : Try.prog.cellsOf 136 = 4 := by kernel_rfl
set_option maxRecDepth 100000 in
theorem way_of {H : Type} {enc : TypeId × Value → H} {w : World} {base : Nat} {spare : Nat → Bool} {held : Bool} {fuel : Nat} {cs : List Value} {x : DataW H × List MemPlace} (hl : cs.length = 4) (h : DataW.trod enc Try.prog w base spare held fuel 136 cs = some x) : ∃ t, cs = WayE t ∧ WayR w t := by
  obtain ⟨xs, n, _, hx, _, hlen, hg⟩ := DataW.trod_struct Try.underlying136 h
  match cs, hl with
  | [c0, c1, c2, c3], _ =>
    match xs, hlen with
    | [y0, y1, y2, y3], _ =>
      have e0 : DataW.trod enc Try.prog w base spare held n 3 [c0] = some y0 := by simpa [cells_int] using hg 0 _ rfl
      have e1 : DataW.trod enc Try.prog w base spare held n 3 [c1] = some y1 := by simpa [cells_int] using hg 1 _ rfl
      have e2 : DataW.trod enc Try.prog w base spare held n 3 [c2] = some y2 := by simpa [cells_int] using hg 2 _ rfl
      have e3 : DataW.trod enc Try.prog w base spare held n 3 [c3] = some y3 := by simpa [cells_int] using hg 3 _ rfl
      obtain ⟨x0, rfl, _⟩ := int_of e0
      obtain ⟨x1, rfl, _⟩ := int_of e1
      obtain ⟨x2, rfl, _⟩ := int_of e2
      obtain ⟨x3, rfl, _⟩ := int_of e3
      exact ⟨⟨x0, x1, x2, x3⟩, rfl, trivial⟩

def Rw (w : World) (s : Sl WayD) : Prop := s.n ≤ s.c ∧ s.c ≤ maxLen ∧ Sk.Rd WayE w s.a s.n s.l ∧ ∀ x ∈ s.l, WayR w x
theorem Rw.below {w w' : World} {s : Sl WayD} (h : Rw w s) (hb : Below w.heap.size w w') : Rw w' s := ⟨h.1, h.2.1, h.2.2.1.below hb, fun x hx => WayR.below (h.2.2.2 x hx) hb⟩
theorem cells_ways_o : Try.prog.cellsOf 87 = 1 := by kernel_rfl
theorem ways_o {H : Type} {enc : TypeId × Value → H} {w : World} {base : Nat} {spare : Nat → Bool} {held : Bool} {n : Nat} {v : Value} {y : DataW H × List MemPlace} (h : DataW.trod enc Try.prog w base spare held n 87 [v] = some y) : ∃ s : Sl WayD, v = .slice s.a s.n s.c ∧ Rw w s := by
  obtain ⟨l, A, m, c, rfl, h1, h2, h3, h4⟩ := trod_deep (D := fun x => WayR w x) WayE_len (by omega) Try.underlying87 cells_way_of (fun n cs y hl h => way_of hl h) h
  exact ⟨⟨A, m, c, l⟩, rfl, h1, h2, h3, h4⟩

structure ThV where
  ti : Int
  tx : Int
  pa : Int
  fl : Int
  room : Bool
  pr : Sl Int
  wo : Sl ByteArray
  ad : Sl ByteArray
  wa : Sl WayD
def ThE (t : ThV) : List Value := [.int .i64 t.ti, .int .i64 t.tx, .int .i64 t.pa, .int .i64 t.fl, .bool t.room, .slice t.pr.a t.pr.n t.pr.c, .slice t.wo.a t.wo.n t.wo.c, .slice t.ad.a t.ad.n t.ad.c, .slice t.wa.a t.wa.n t.wa.c]
theorem ThE_len (t : ThV) : (ThE t).length = 9 := rfl
def ThR (w : World) (t : ThV) : Prop := Ri w t.pr ∧ Rs w t.wo ∧ Rs w t.ad ∧ Rw w t.wa
theorem ThR.below {w w' : World} {t : ThV} (h : ThR w t) (hb : Below w.heap.size w w') : ThR w' t := ⟨Ri.below (h.1) hb, Rs.below (h.2.1) hb, Rs.below (h.2.2.1) hb, Rw.below (h.2.2.2) hb⟩
theorem cells_thing_of : Try.prog.cellsOf 89 = 9 := by kernel_rfl
set_option maxRecDepth 100000 in
theorem thing_of {H : Type} {enc : TypeId × Value → H} {w : World} {base : Nat} {spare : Nat → Bool} {held : Bool} {fuel : Nat} {cs : List Value} {x : DataW H × List MemPlace} (hl : cs.length = 9) (h : DataW.trod enc Try.prog w base spare held fuel 89 cs = some x) : ∃ t, cs = ThE t ∧ ThR w t := by
  obtain ⟨xs, n, _, hx, _, hlen, hg⟩ := DataW.trod_struct Try.underlying89 h
  match cs, hl with
  | [c0, c1, c2, c3, c4, c5, c6, c7, c8], _ =>
    match xs, hlen with
    | [y0, y1, y2, y3, y4, y5, y6, y7, y8], _ =>
      have e0 : DataW.trod enc Try.prog w base spare held n 3 [c0] = some y0 := by simpa [cells_int] using hg 0 _ rfl
      have e1 : DataW.trod enc Try.prog w base spare held n 3 [c1] = some y1 := by simpa [cells_int] using hg 1 _ rfl
      have e2 : DataW.trod enc Try.prog w base spare held n 3 [c2] = some y2 := by simpa [cells_int] using hg 2 _ rfl
      have e3 : DataW.trod enc Try.prog w base spare held n 3 [c3] = some y3 := by simpa [cells_int] using hg 3 _ rfl
      have e4 : DataW.trod enc Try.prog w base spare held n 4 [c4] = some y4 := by simpa [cells_bool] using hg 4 _ rfl
      have e5 : DataW.trod enc Try.prog w base spare held n 23 [c5] = some y5 := by simpa [cells_ints] using hg 5 _ rfl
      have e6 : DataW.trod enc Try.prog w base spare held n 22 [c6] = some y6 := by simpa [cells_strs] using hg 6 _ rfl
      have e7 : DataW.trod enc Try.prog w base spare held n 22 [c7] = some y7 := by simpa [cells_strs] using hg 7 _ rfl
      have e8 : DataW.trod enc Try.prog w base spare held n 87 [c8] = some y8 := by simpa [cells_ways_o] using hg 8 _ rfl
      obtain ⟨x0, rfl, _⟩ := int_of e0
      obtain ⟨x1, rfl, _⟩ := int_of e1
      obtain ⟨x2, rfl, _⟩ := int_of e2
      obtain ⟨x3, rfl, _⟩ := int_of e3
      obtain ⟨x4, rfl, _⟩ := bool_of e4
      obtain ⟨x5, rfl, r5⟩ := ints_o e5
      obtain ⟨x6, rfl, r6⟩ := strs_o e6
      obtain ⟨x7, rfl, r7⟩ := strs_o e7
      obtain ⟨x8, rfl, r8⟩ := ways_o e8
      exact ⟨⟨x0, x1, x2, x3, x4, x5, x6, x7, x8⟩, rfl, ⟨r5, r6, r7, r8⟩⟩

def Rt (w : World) (s : Sl ThV) : Prop := s.n ≤ s.c ∧ s.c ≤ maxLen ∧ Sk.Rd ThE w s.a s.n s.l ∧ ∀ x ∈ s.l, ThR w x
theorem Rt.below {w w' : World} {s : Sl ThV} (h : Rt w s) (hb : Below w.heap.size w w') : Rt w' s := ⟨h.1, h.2.1, h.2.2.1.below hb, fun x hx => ThR.below (h.2.2.2 x hx) hb⟩
theorem cells_things_o : Try.prog.cellsOf 24 = 1 := by kernel_rfl
theorem things_o {H : Type} {enc : TypeId × Value → H} {w : World} {base : Nat} {spare : Nat → Bool} {held : Bool} {n : Nat} {v : Value} {y : DataW H × List MemPlace} (h : DataW.trod enc Try.prog w base spare held n 24 [v] = some y) : ∃ s : Sl ThV, v = .slice s.a s.n s.c ∧ Rt w s := by
  obtain ⟨l, A, m, c, rfl, h1, h2, h3, h4⟩ := trod_deep (D := fun x => ThR w x) ThE_len (by omega) Try.underlying24 cells_thing_of (fun n cs y hl h => thing_of hl h) h
  exact ⟨⟨A, m, c, l⟩, rfl, h1, h2, h3, h4⟩

structure SlV where
  ki : Int
  ws : Sl ByteArray
def SlE (t : SlV) : List Value := [.int .i64 t.ki, .slice t.ws.a t.ws.n t.ws.c]
theorem SlE_len (t : SlV) : (SlE t).length = 2 := rfl
def SlR (w : World) (t : SlV) : Prop := Rs w t.ws
theorem SlR.below {w w' : World} {t : SlV} (h : SlR w t) (hb : Below w.heap.size w w') : SlR w' t := Rs.below (h) hb
theorem cells_slot_of : Try.prog.cellsOf 138 = 2 := by kernel_rfl
set_option maxRecDepth 100000 in
theorem slot_of {H : Type} {enc : TypeId × Value → H} {w : World} {base : Nat} {spare : Nat → Bool} {held : Bool} {fuel : Nat} {cs : List Value} {x : DataW H × List MemPlace} (hl : cs.length = 2) (h : DataW.trod enc Try.prog w base spare held fuel 138 cs = some x) : ∃ t, cs = SlE t ∧ SlR w t := by
  obtain ⟨xs, n, _, hx, _, hlen, hg⟩ := DataW.trod_struct Try.underlying138 h
  match cs, hl with
  | [c0, c1], _ =>
    match xs, hlen with
    | [y0, y1], _ =>
      have e0 : DataW.trod enc Try.prog w base spare held n 3 [c0] = some y0 := by simpa [cells_int] using hg 0 _ rfl
      have e1 : DataW.trod enc Try.prog w base spare held n 22 [c1] = some y1 := by simpa [cells_strs] using hg 1 _ rfl
      obtain ⟨x0, rfl, _⟩ := int_of e0
      obtain ⟨x1, rfl, r1⟩ := strs_o e1
      exact ⟨⟨x0, x1⟩, rfl, r1⟩

def Rl (w : World) (s : Sl SlV) : Prop := s.n ≤ s.c ∧ s.c ≤ maxLen ∧ Sk.Rd SlE w s.a s.n s.l ∧ ∀ x ∈ s.l, SlR w x
theorem Rl.below {w w' : World} {s : Sl SlV} (h : Rl w s) (hb : Below w.heap.size w w') : Rl w' s := ⟨h.1, h.2.1, h.2.2.1.below hb, fun x hx => SlR.below (h.2.2.2 x hx) hb⟩
theorem cells_slots_o : Try.prog.cellsOf 122 = 1 := by kernel_rfl
theorem slots_o {H : Type} {enc : TypeId × Value → H} {w : World} {base : Nat} {spare : Nat → Bool} {held : Bool} {n : Nat} {v : Value} {y : DataW H × List MemPlace} (h : DataW.trod enc Try.prog w base spare held n 122 [v] = some y) : ∃ s : Sl SlV, v = .slice s.a s.n s.c ∧ Rl w s := by
  obtain ⟨l, A, m, c, rfl, h1, h2, h3, h4⟩ := trod_deep (D := fun x => SlR w x) SlE_len (by omega) Try.underlying122 cells_slot_of (fun n cs y hl h => slot_of hl h) h
  exact ⟨⟨A, m, c, l⟩, rfl, h1, h2, h3, h4⟩

def LnE (s : Sl SlV) : Value := .slice s.a s.n s.c
def Rn (w : World) (s : Sl (Sl SlV)) : Prop := s.n ≤ s.c ∧ s.c ≤ maxLen ∧ Sq.Rd LnE w s.a s.n s.l ∧ ∀ x ∈ s.l, Rl w x
theorem Rn.below {w w' : World} {s : Sl (Sl SlV)} (h : Rn w s) (hb : Below w.heap.size w w') : Rn w' s := ⟨h.1, h.2.1, h.2.2.1.below hb, fun x hx => Rl.below (h.2.2.2 x hx) hb⟩
theorem cells_lines_o : Try.prog.cellsOf 118 = 1 := by kernel_rfl
theorem lines_o {H : Type} {enc : TypeId × Value → H} {w : World} {base : Nat} {spare : Nat → Bool} {held : Bool} {n : Nat} {v : Value} {y : DataW H × List MemPlace} (h : DataW.trod enc Try.prog w base spare held n 118 [v] = some y) : ∃ s : Sl (Sl SlV), v = .slice s.a s.n s.c ∧ Rn w s := by
  obtain ⟨l, A, m, c, rfl, h1, h2, h3, h4⟩ := trod_deep1 (D := fun x => Rl w x) Try.underlying118 cells_slots_o (fun n c y h => slots_o h) h
  exact ⟨⟨A, m, c, l⟩, rfl, h1, h2, h3, h4⟩

structure AcV where
  me : Bool
  li : Sl (Sl SlV)
def AcE (t : AcV) : List Value := [.bool t.me, .slice t.li.a t.li.n t.li.c]
theorem AcE_len (t : AcV) : (AcE t).length = 2 := rfl
def AcR (w : World) (t : AcV) : Prop := Rn w t.li
theorem AcR.below {w w' : World} {t : AcV} (h : AcR w t) (hb : Below w.heap.size w w') : AcR w' t := Rn.below (h) hb
theorem cells_act_of : Try.prog.cellsOf 120 = 2 := by kernel_rfl
set_option maxRecDepth 100000 in
theorem act_of {H : Type} {enc : TypeId × Value → H} {w : World} {base : Nat} {spare : Nat → Bool} {held : Bool} {fuel : Nat} {cs : List Value} {x : DataW H × List MemPlace} (hl : cs.length = 2) (h : DataW.trod enc Try.prog w base spare held fuel 120 cs = some x) : ∃ t, cs = AcE t ∧ AcR w t := by
  obtain ⟨xs, n, _, hx, _, hlen, hg⟩ := DataW.trod_struct Try.underlying120 h
  match cs, hl with
  | [c0, c1], _ =>
    match xs, hlen with
    | [y0, y1], _ =>
      have e0 : DataW.trod enc Try.prog w base spare held n 4 [c0] = some y0 := by simpa [cells_bool] using hg 0 _ rfl
      have e1 : DataW.trod enc Try.prog w base spare held n 118 [c1] = some y1 := by simpa [cells_lines_o] using hg 1 _ rfl
      obtain ⟨x0, rfl, _⟩ := bool_of e0
      obtain ⟨x1, rfl, r1⟩ := lines_o e1
      exact ⟨⟨x0, x1⟩, rfl, r1⟩

def Ra (w : World) (s : Sl AcV) : Prop := s.n ≤ s.c ∧ s.c ≤ maxLen ∧ Sk.Rd AcE w s.a s.n s.l ∧ ∀ x ∈ s.l, AcR w x
theorem Ra.below {w w' : World} {s : Sl AcV} (h : Ra w s) (hb : Below w.heap.size w w') : Ra w' s := ⟨h.1, h.2.1, h.2.2.1.below hb, fun x hx => AcR.below (h.2.2.2 x hx) hb⟩
theorem cells_acts_o : Try.prog.cellsOf 25 = 1 := by kernel_rfl
theorem acts_o {H : Type} {enc : TypeId × Value → H} {w : World} {base : Nat} {spare : Nat → Bool} {held : Bool} {n : Nat} {v : Value} {y : DataW H × List MemPlace} (h : DataW.trod enc Try.prog w base spare held n 25 [v] = some y) : ∃ s : Sl AcV, v = .slice s.a s.n s.c ∧ Ra w s := by
  obtain ⟨l, A, m, c, rfl, h1, h2, h3, h4⟩ := trod_deep (D := fun x => AcR w x) AcE_len (by omega) Try.underlying25 cells_act_of (fun n cs y hl h => act_of hl h) h
  exact ⟨⟨A, m, c, l⟩, rfl, h1, h2, h3, h4⟩

structure DeV where
  ve : Int
  ph : Int
  no : Int
  se : Int
  wh : Int
  bo : Int
def DeE (t : DeV) : List Value := [.int .i64 t.ve, .int .i64 t.ph, .int .i64 t.no, .int .i64 t.se, .int .i64 t.wh, .int .i64 t.bo]
theorem DeE_len (t : DeV) : (DeE t).length = 6 := rfl
def DeR : World → DeV → Prop := fun _ _ => True
theorem DeR.below {w w' : World} {t : DeV} (_ : DeR w t) (_ : Below w.heap.size w w') : DeR w' t := trivial
theorem cells_deed_of : Try.prog.cellsOf 124 = 6 := by kernel_rfl
set_option maxRecDepth 100000 in
theorem deed_of {H : Type} {enc : TypeId × Value → H} {w : World} {base : Nat} {spare : Nat → Bool} {held : Bool} {fuel : Nat} {cs : List Value} {x : DataW H × List MemPlace} (hl : cs.length = 6) (h : DataW.trod enc Try.prog w base spare held fuel 124 cs = some x) : ∃ t, cs = DeE t ∧ DeR w t := by
  obtain ⟨xs, n, _, hx, _, hlen, hg⟩ := DataW.trod_struct Try.underlying124 h
  match cs, hl with
  | [c0, c1, c2, c3, c4, c5], _ =>
    match xs, hlen with
    | [y0, y1, y2, y3, y4, y5], _ =>
      have e0 : DataW.trod enc Try.prog w base spare held n 3 [c0] = some y0 := by simpa [cells_int] using hg 0 _ rfl
      have e1 : DataW.trod enc Try.prog w base spare held n 3 [c1] = some y1 := by simpa [cells_int] using hg 1 _ rfl
      have e2 : DataW.trod enc Try.prog w base spare held n 3 [c2] = some y2 := by simpa [cells_int] using hg 2 _ rfl
      have e3 : DataW.trod enc Try.prog w base spare held n 3 [c3] = some y3 := by simpa [cells_int] using hg 3 _ rfl
      have e4 : DataW.trod enc Try.prog w base spare held n 3 [c4] = some y4 := by simpa [cells_int] using hg 4 _ rfl
      have e5 : DataW.trod enc Try.prog w base spare held n 3 [c5] = some y5 := by simpa [cells_int] using hg 5 _ rfl
      obtain ⟨x0, rfl, _⟩ := int_of e0
      obtain ⟨x1, rfl, _⟩ := int_of e1
      obtain ⟨x2, rfl, _⟩ := int_of e2
      obtain ⟨x3, rfl, _⟩ := int_of e3
      obtain ⟨x4, rfl, _⟩ := int_of e4
      obtain ⟨x5, rfl, _⟩ := int_of e5
      exact ⟨⟨x0, x1, x2, x3, x4, x5⟩, rfl, trivial⟩

def Rd2 (w : World) (s : Sl DeV) : Prop := s.n ≤ s.c ∧ s.c ≤ maxLen ∧ Sk.Rd DeE w s.a s.n s.l ∧ ∀ x ∈ s.l, DeR w x
theorem Rd2.below {w w' : World} {s : Sl DeV} (h : Rd2 w s) (hb : Below w.heap.size w w') : Rd2 w' s := ⟨h.1, h.2.1, h.2.2.1.below hb, fun x hx => DeR.below (h.2.2.2 x hx) hb⟩
theorem cells_deeds_o : Try.prog.cellsOf 26 = 1 := by kernel_rfl
theorem deeds_o {H : Type} {enc : TypeId × Value → H} {w : World} {base : Nat} {spare : Nat → Bool} {held : Bool} {n : Nat} {v : Value} {y : DataW H × List MemPlace} (h : DataW.trod enc Try.prog w base spare held n 26 [v] = some y) : ∃ s : Sl DeV, v = .slice s.a s.n s.c ∧ Rd2 w s := by
  obtain ⟨l, A, m, c, rfl, h1, h2, h3, h4⟩ := trod_deep (D := fun x => DeR w x) DeE_len (by omega) Try.underlying26 cells_deed_of (fun n cs y hl h => deed_of hl h) h
  exact ⟨⟨A, m, c, l⟩, rfl, h1, h2, h3, h4⟩

structure TbV where
  ti : Int
  au : Int
  rl : Int
  mx : Int
  tx : Sl ByteArray
  fl : Int
  pr : Sl Int
  gl : Sl Int
  th : Sl ThV
  ac : Sl AcV
  de : Sl DeV
  fu : Sl Int
  da : Sl Int
  pm : Sl Int
  lo : Sl Int
def TbE (t : TbV) : List Value := [.int .i64 t.ti, .int .i64 t.au, .int .i64 t.rl, .int .i64 t.mx, .slice t.tx.a t.tx.n t.tx.c, .int .i64 t.fl, .slice t.pr.a t.pr.n t.pr.c, .slice t.gl.a t.gl.n t.gl.c, .slice t.th.a t.th.n t.th.c, .slice t.ac.a t.ac.n t.ac.c, .slice t.de.a t.de.n t.de.c, .slice t.fu.a t.fu.n t.fu.c, .slice t.da.a t.da.n t.da.c, .slice t.pm.a t.pm.n t.pm.c, .slice t.lo.a t.lo.n t.lo.c]
theorem TbE_len (t : TbV) : (TbE t).length = 15 := rfl
def TbR (w : World) (t : TbV) : Prop := Rs w t.tx ∧ Ri w t.pr ∧ Ri w t.gl ∧ Rt w t.th ∧ Ra w t.ac ∧ Rd2 w t.de ∧ Ri w t.fu ∧ Ri w t.da ∧ Ri w t.pm ∧ Ri w t.lo
theorem TbR.below {w w' : World} {t : TbV} (h : TbR w t) (hb : Below w.heap.size w w') : TbR w' t := ⟨Rs.below (h.1) hb, Ri.below (h.2.1) hb, Ri.below (h.2.2.1) hb, Rt.below (h.2.2.2.1) hb, Ra.below (h.2.2.2.2.1) hb, Rd2.below (h.2.2.2.2.2.1) hb, Ri.below (h.2.2.2.2.2.2.1) hb, Ri.below (h.2.2.2.2.2.2.2.1) hb, Ri.below (h.2.2.2.2.2.2.2.2.1) hb, Ri.below (h.2.2.2.2.2.2.2.2.2) hb⟩
theorem cells_tab_of : Try.prog.cellsOf 28 = 15 := by kernel_rfl
set_option maxRecDepth 100000 in
theorem tab_of {H : Type} {enc : TypeId × Value → H} {w : World} {base : Nat} {spare : Nat → Bool} {held : Bool} {fuel : Nat} {cs : List Value} {x : DataW H × List MemPlace} (hl : cs.length = 15) (h : DataW.trod enc Try.prog w base spare held fuel 28 cs = some x) : ∃ t, cs = TbE t ∧ TbR w t := by
  obtain ⟨xs, n, _, hx, _, hlen, hg⟩ := DataW.trod_struct Try.underlying28 h
  match cs, hl with
  | [c0, c1, c2, c3, c4, c5, c6, c7, c8, c9, c10, c11, c12, c13, c14], _ =>
    match xs, hlen with
    | [y0, y1, y2, y3, y4, y5, y6, y7, y8, y9, y10, y11, y12, y13, y14], _ =>
      have e0 : DataW.trod enc Try.prog w base spare held n 3 [c0] = some y0 := by simpa [cells_int] using hg 0 _ rfl
      have e1 : DataW.trod enc Try.prog w base spare held n 3 [c1] = some y1 := by simpa [cells_int] using hg 1 _ rfl
      have e2 : DataW.trod enc Try.prog w base spare held n 3 [c2] = some y2 := by simpa [cells_int] using hg 2 _ rfl
      have e3 : DataW.trod enc Try.prog w base spare held n 3 [c3] = some y3 := by simpa [cells_int] using hg 3 _ rfl
      have e4 : DataW.trod enc Try.prog w base spare held n 22 [c4] = some y4 := by simpa [cells_strs] using hg 4 _ rfl
      have e5 : DataW.trod enc Try.prog w base spare held n 3 [c5] = some y5 := by simpa [cells_int] using hg 5 _ rfl
      have e6 : DataW.trod enc Try.prog w base spare held n 23 [c6] = some y6 := by simpa [cells_ints] using hg 6 _ rfl
      have e7 : DataW.trod enc Try.prog w base spare held n 23 [c7] = some y7 := by simpa [cells_ints] using hg 7 _ rfl
      have e8 : DataW.trod enc Try.prog w base spare held n 24 [c8] = some y8 := by simpa [cells_things_o] using hg 8 _ rfl
      have e9 : DataW.trod enc Try.prog w base spare held n 25 [c9] = some y9 := by simpa [cells_acts_o] using hg 9 _ rfl
      have e10 : DataW.trod enc Try.prog w base spare held n 26 [c10] = some y10 := by simpa [cells_deeds_o] using hg 10 _ rfl
      have e11 : DataW.trod enc Try.prog w base spare held n 23 [c11] = some y11 := by simpa [cells_ints] using hg 11 _ rfl
      have e12 : DataW.trod enc Try.prog w base spare held n 23 [c12] = some y12 := by simpa [cells_ints] using hg 12 _ rfl
      have e13 : DataW.trod enc Try.prog w base spare held n 23 [c13] = some y13 := by simpa [cells_ints] using hg 13 _ rfl
      have e14 : DataW.trod enc Try.prog w base spare held n 23 [c14] = some y14 := by simpa [cells_ints] using hg 14 _ rfl
      obtain ⟨x0, rfl, _⟩ := int_of e0
      obtain ⟨x1, rfl, _⟩ := int_of e1
      obtain ⟨x2, rfl, _⟩ := int_of e2
      obtain ⟨x3, rfl, _⟩ := int_of e3
      obtain ⟨x4, rfl, r4⟩ := strs_o e4
      obtain ⟨x5, rfl, _⟩ := int_of e5
      obtain ⟨x6, rfl, r6⟩ := ints_o e6
      obtain ⟨x7, rfl, r7⟩ := ints_o e7
      obtain ⟨x8, rfl, r8⟩ := things_o e8
      obtain ⟨x9, rfl, r9⟩ := acts_o e9
      obtain ⟨x10, rfl, r10⟩ := deeds_o e10
      obtain ⟨x11, rfl, r11⟩ := ints_o e11
      obtain ⟨x12, rfl, r12⟩ := ints_o e12
      obtain ⟨x13, rfl, r13⟩ := ints_o e13
      obtain ⟨x14, rfl, r14⟩ := ints_o e14
      exact ⟨⟨x0, x1, x2, x3, x4, x5, x6, x7, x8, x9, x10, x11, x12, x13, x14⟩, rfl, ⟨r4, r6, r7, r8, r9, r10, r11, r12, r13, r14⟩⟩

theorem cells15 {w : World} {g : Nat} {t : TypeId} {z0 z1 z2 z3 z4 z5 z6 z7 z8 z9 z10 z11 z12 z13 z14 : Value} (h : w.heap[g]? = some (.cells #[z0, z1, z2, z3, z4, z5, z6, z7, z8, z9, z10, z11, z12, z13, z14] t (0, 0))) :
    w.cell? ⟨g, 0, none⟩ = some z0 ∧ w.cell? ⟨g, 1, none⟩ = some z1 ∧ w.cell? ⟨g, 2, none⟩ = some z2 ∧ w.cell? ⟨g, 3, none⟩ = some z3 ∧ w.cell? ⟨g, 4, none⟩ = some z4 ∧ w.cell? ⟨g, 5, none⟩ = some z5 ∧ w.cell? ⟨g, 6, none⟩ = some z6 ∧ w.cell? ⟨g, 7, none⟩ = some z7 ∧ w.cell? ⟨g, 8, none⟩ = some z8 ∧ w.cell? ⟨g, 9, none⟩ = some z9 ∧ w.cell? ⟨g, 10, none⟩ = some z10 ∧ w.cell? ⟨g, 11, none⟩ = some z11 ∧ w.cell? ⟨g, 12, none⟩ = some z12 ∧ w.cell? ⟨g, 13, none⟩ = some z13 ∧ w.cell? ⟨g, 14, none⟩ = some z14 ∧ (∀ o, w.frozen? ⟨g, o, none⟩ = false) := by
  refine ⟨?_, ?_, ?_, ?_, ?_, ?_, ?_, ?_, ?_, ?_, ?_, ?_, ?_, ?_, ?_, ?_⟩
  all_goals simp [World.cell?, World.frozen?, h]
theorem cells9 {w : World} {g : Nat} {t : TypeId} {z0 z1 z2 z3 z4 z5 z6 z7 z8 : Value} (h : w.heap[g]? = some (.cells #[z0, z1, z2, z3, z4, z5, z6, z7, z8] t (0, 0))) :
    w.cell? ⟨g, 0, none⟩ = some z0 ∧ w.cell? ⟨g, 1, none⟩ = some z1 ∧ w.cell? ⟨g, 2, none⟩ = some z2 ∧ w.cell? ⟨g, 3, none⟩ = some z3 ∧ w.cell? ⟨g, 4, none⟩ = some z4 ∧ w.cell? ⟨g, 5, none⟩ = some z5 ∧ w.cell? ⟨g, 6, none⟩ = some z6 ∧ w.cell? ⟨g, 7, none⟩ = some z7 ∧ w.cell? ⟨g, 8, none⟩ = some z8 ∧ (∀ o, w.frozen? ⟨g, o, none⟩ = false) := by
  refine ⟨?_, ?_, ?_, ?_, ?_, ?_, ?_, ?_, ?_, ?_⟩
  all_goals simp [World.cell?, World.frozen?, h]

set_option maxRecDepth 100000 in
theorem open_tab {H : Type} {enc : TypeId × Value → H} {w : World} {base : Nat} {spare : Nat → Bool} {held : Bool} {v : Value} {d : DataW H} {p : List MemPlace} {r : Reach} {b0 : Nat} (hv : Value.okWide Try.prog w r b0 28 v) (h : DataW.Trod enc Try.prog w base spare held 28 v d p) :
    ∃ t : TbV, v = .agg (TbE t).toArray ∧ TbR w t := by
  obtain ⟨cs, rfl, hsz⟩ := okWide_struct Try.underlying28 hv
  obtain ⟨fuel, hf⟩ := h
  obtain ⟨l⟩ := cs
  obtain ⟨t, rfl, hr⟩ := tab_of (hsz.trans cells_tab_of) hf
  exact ⟨t, rfl, hr⟩
end Go.Proofs.Ytncdicagadbafaa.TabD
