/- How the laws' arguments read: a rule, a command, tables with their rules. Conditions: none. -/
import Derived.Test.YtpbhlphemkdljaaRuleA
import Derived.Test.YtpbhlphemkdljaaLaw
import Derived.Deep.Slices
import Derived.Deep.Fields
import Derived.ChangeSame
namespace Go.Proofs.Ytpbhlphemkdljaa.RuleD
open Go.ChangeShapes Go.WideShapes Go.ChangeAt Go.RowKit Go.Deep
open RuleP RuleX RuleS

theorem cells_int : Try.prog.cellsOf 3 = 1 := by kernel_rfl
theorem cells_strs : Try.prog.cellsOf 29 = 1 := by kernel_rfl
theorem cells_ints : Try.prog.cellsOf 30 = 1 := by kernel_rfl
theorem cells_things : Try.prog.cellsOf 31 = 1 := by kernel_rfl
theorem cells_acts : Try.prog.cellsOf 32 = 1 := by kernel_rfl
theorem cells_deeds : Try.prog.cellsOf 33 = 1 := by kernel_rfl
theorem cellsDeed : Try.prog.cellsOf 23 = 6 := by kernel_rfl
theorem cellsCmd : Try.prog.cellsOf 25 = 5 := by kernel_rfl
theorem cellsTables : Try.prog.cellsOf 35 = 15 := by kernel_rfl
section
variable {H : Type} {enc : TypeId × Value → H} {w : World} {base : Nat} {spare : Nat → Bool} {held : Bool}
theorem fields_deed {fuel : Nat} {cs : List Value} {x : DataW H × List MemPlace} (hl : cs.length = 6) (h : DataW.trod enc Try.prog w base spare held fuel 23 cs = some x) :
    ∃ (c0 c1 c2 c3 c4 c5 : Value) (y0 y1 y2 y3 y4 y5 : DataW H × List MemPlace) (n : Nat), cs = [c0, c1, c2, c3, c4, c5] ∧ x.2 = y0.2 ++ (y1.2 ++ (y2.2 ++ (y3.2 ++ (y4.2 ++ (y5.2))))) ∧ DataW.trod enc Try.prog w base spare held n 3 [c0] = some y0 ∧ DataW.trod enc Try.prog w base spare held n 3 [c1] = some y1 ∧ DataW.trod enc Try.prog w base spare held n 3 [c2] = some y2 ∧ DataW.trod enc Try.prog w base spare held n 3 [c3] = some y3 ∧ DataW.trod enc Try.prog w base spare held n 3 [c4] = some y4 ∧ DataW.trod enc Try.prog w base spare held n 3 [c5] = some y5 := by
  obtain ⟨xs, n, _, hx, _, hlen, hg⟩ := DataW.trod_struct Try.underlying23 h
  match cs, hl with
  | [c0, c1, c2, c3, c4, c5], _ =>
    match xs, hlen with
    | [y0, y1, y2, y3, y4, y5], _ =>
      refine ⟨c0, c1, c2, c3, c4, c5, y0, y1, y2, y3, y4, y5, n, rfl, by simp [hx], ?_, ?_, ?_, ?_, ?_, ?_⟩
      · simpa [cells_int] using hg 0 _ rfl
      · simpa [cells_int] using hg 1 _ rfl
      · simpa [cells_int] using hg 2 _ rfl
      · simpa [cells_int] using hg 3 _ rfl
      · simpa [cells_int] using hg 4 _ rfl
      · simpa [cells_int] using hg 5 _ rfl
theorem fields_cmd {fuel : Nat} {cs : List Value} {x : DataW H × List MemPlace} (hl : cs.length = 5) (h : DataW.trod enc Try.prog w base spare held fuel 25 cs = some x) :
    ∃ (c0 c1 c2 c3 c4 : Value) (y0 y1 y2 y3 y4 : DataW H × List MemPlace) (n : Nat), cs = [c0, c1, c2, c3, c4] ∧ x.2 = y0.2 ++ (y1.2 ++ (y2.2 ++ (y3.2 ++ (y4.2)))) ∧ DataW.trod enc Try.prog w base spare held n 3 [c0] = some y0 ∧ DataW.trod enc Try.prog w base spare held n 3 [c1] = some y1 ∧ DataW.trod enc Try.prog w base spare held n 3 [c2] = some y2 ∧ DataW.trod enc Try.prog w base spare held n 3 [c3] = some y3 ∧ DataW.trod enc Try.prog w base spare held n 3 [c4] = some y4 := by
  obtain ⟨xs, n, _, hx, _, hlen, hg⟩ := DataW.trod_struct Try.underlying25 h
  match cs, hl with
  | [c0, c1, c2, c3, c4], _ =>
    match xs, hlen with
    | [y0, y1, y2, y3, y4], _ =>
      refine ⟨c0, c1, c2, c3, c4, y0, y1, y2, y3, y4, n, rfl, by simp [hx], ?_, ?_, ?_, ?_, ?_⟩
      · simpa [cells_int] using hg 0 _ rfl
      · simpa [cells_int] using hg 1 _ rfl
      · simpa [cells_int] using hg 2 _ rfl
      · simpa [cells_int] using hg 3 _ rfl
      · simpa [cells_int] using hg 4 _ rfl
theorem fields_tables {fuel : Nat} {cs : List Value} {x : DataW H × List MemPlace} (hl : cs.length = 15) (h : DataW.trod enc Try.prog w base spare held fuel 35 cs = some x) :
    ∃ (c0 c1 c2 c3 c4 c5 c6 c7 c8 c9 c10 c11 c12 c13 c14 : Value) (y0 y1 y2 y3 y4 y5 y6 y7 y8 y9 y10 y11 y12 y13 y14 : DataW H × List MemPlace) (n : Nat), cs = [c0, c1, c2, c3, c4, c5, c6, c7, c8, c9, c10, c11, c12, c13, c14] ∧ x.2 = y0.2 ++ (y1.2 ++ (y2.2 ++ (y3.2 ++ (y4.2 ++ (y5.2 ++ (y6.2 ++ (y7.2 ++ (y8.2 ++ (y9.2 ++ (y10.2 ++ (y11.2 ++ (y12.2 ++ (y13.2 ++ (y14.2)))))))))))))) ∧ DataW.trod enc Try.prog w base spare held n 3 [c0] = some y0 ∧ DataW.trod enc Try.prog w base spare held n 3 [c1] = some y1 ∧ DataW.trod enc Try.prog w base spare held n 3 [c2] = some y2 ∧ DataW.trod enc Try.prog w base spare held n 3 [c3] = some y3 ∧ DataW.trod enc Try.prog w base spare held n 29 [c4] = some y4 ∧ DataW.trod enc Try.prog w base spare held n 3 [c5] = some y5 ∧ DataW.trod enc Try.prog w base spare held n 30 [c6] = some y6 ∧ DataW.trod enc Try.prog w base spare held n 30 [c7] = some y7 ∧ DataW.trod enc Try.prog w base spare held n 31 [c8] = some y8 ∧ DataW.trod enc Try.prog w base spare held n 32 [c9] = some y9 ∧ DataW.trod enc Try.prog w base spare held n 33 [c10] = some y10 ∧ DataW.trod enc Try.prog w base spare held n 30 [c11] = some y11 ∧ DataW.trod enc Try.prog w base spare held n 30 [c12] = some y12 ∧ DataW.trod enc Try.prog w base spare held n 30 [c13] = some y13 ∧ DataW.trod enc Try.prog w base spare held n 30 [c14] = some y14 := by
  obtain ⟨xs, n, _, hx, _, hlen, hg⟩ := DataW.trod_struct Try.underlying35 h
  match cs, hl with
  | [c0, c1, c2, c3, c4, c5, c6, c7, c8, c9, c10, c11, c12, c13, c14], _ =>
    match xs, hlen with
    | [y0, y1, y2, y3, y4, y5, y6, y7, y8, y9, y10, y11, y12, y13, y14], _ =>
      refine ⟨c0, c1, c2, c3, c4, c5, c6, c7, c8, c9, c10, c11, c12, c13, c14, y0, y1, y2, y3, y4, y5, y6, y7, y8, y9, y10, y11, y12, y13, y14, n, rfl, by simp [hx], ?_, ?_, ?_, ?_, ?_, ?_, ?_, ?_, ?_, ?_, ?_, ?_, ?_, ?_, ?_⟩
      · simpa [cells_int] using hg 0 _ rfl
      · simpa [cells_int] using hg 1 _ rfl
      · simpa [cells_int] using hg 2 _ rfl
      · simpa [cells_int] using hg 3 _ rfl
      · simpa [cells_strs] using hg 4 _ rfl
      · simpa [cells_int] using hg 5 _ rfl
      · simpa [cells_ints] using hg 6 _ rfl
      · simpa [cells_ints] using hg 7 _ rfl
      · simpa [cells_things] using hg 8 _ rfl
      · simpa [cells_acts] using hg 9 _ rfl
      · simpa [cells_deeds] using hg 10 _ rfl
      · simpa [cells_ints] using hg 11 _ rfl
      · simpa [cells_ints] using hg 12 _ rfl
      · simpa [cells_ints] using hg 13 _ rfl
      · simpa [cells_ints] using hg 14 _ rfl

theorem int_of {n : Nat} {v : Value} {y : DataW H × List MemPlace} (h : DataW.trod enc Try.prog w base spare held n 3 [v] = some y) : ∃ x : Int, v = .int .i64 x ∧ (Lit.int .i64 x).wf = true := by
  obtain ⟨x, hx, _, wx⟩ := DataW.trod_int Try.underlying3 h
  exact ⟨x, by simpa using hx, wx⟩

theorem deed_cells {fuel : Nat} {cs : List Value} {x : DataW H × List MemPlace} (hl : cs.length = 6) (h : DataW.trod enc Try.prog w base spare held fuel 23 cs = some x) :
    ∃ d : Deed, cs = [.int .i64 d.verb, .int .i64 d.phase, .int .i64 d.noun, .int .i64 d.second, .int .i64 d.onlyIf, .int .i64 d.body] := by
  obtain ⟨c0, c1, c2, c3, c4, c5, y0, y1, y2, y3, y4, y5, n, rfl, _, h0, h1, h2, h3, h4, h5⟩ := fields_deed hl h
  obtain ⟨x0, rfl, _⟩ := int_of h0
  obtain ⟨x1, rfl, _⟩ := int_of h1
  obtain ⟨x2, rfl, _⟩ := int_of h2
  obtain ⟨x3, rfl, _⟩ := int_of h3
  obtain ⟨x4, rfl, _⟩ := int_of h4
  obtain ⟨x5, rfl, _⟩ := int_of h5
  exact ⟨⟨x0, x1, x2, x3, x4, x5⟩, rfl⟩

theorem open_deed {r : Reach} {b0 : Nat} {v : Value} {d : DataW H} {p : List MemPlace} (hv : Value.okWide Try.prog w r b0 23 v) (h : DataW.Trod enc Try.prog w base spare held 23 v d p) :
    ∃ x : Deed, v = .agg #[.int .i64 x.verb, .int .i64 x.phase, .int .i64 x.noun, .int .i64 x.second, .int .i64 x.onlyIf, .int .i64 x.body] := by
  obtain ⟨cs, rfl, hsz⟩ := okWide_struct Try.underlying23 hv
  obtain ⟨fuel, hf⟩ := h
  obtain ⟨l⟩ := cs
  obtain ⟨x, rfl⟩ := deed_cells (hsz.trans cellsDeed) hf
  exact ⟨x, rfl⟩

theorem open_cmd {r : Reach} {b0 : Nat} {v : Value} {d : DataW H} {p : List MemPlace} (hv : Value.okWide Try.prog w r b0 25 v) (h : DataW.Trod enc Try.prog w base spare held 25 v d p) :
    ∃ x : Cmd, v = .agg #[.int .i64 x.verb, .int .i64 x.noun, .int .i64 x.second, .int .i64 x.number, .int .i64 x.dir] := by
  obtain ⟨cs, rfl, hsz⟩ := okWide_struct Try.underlying25 hv
  obtain ⟨fuel, hf⟩ := h
  obtain ⟨l⟩ := cs
  obtain ⟨c0, c1, c2, c3, c4, y0, y1, y2, y3, y4, n, rfl, _, h0, h1, h2, h3, h4⟩ := fields_cmd (hsz.trans cellsCmd) hf
  obtain ⟨x0, rfl, _⟩ := int_of h0
  obtain ⟨x1, rfl, _⟩ := int_of h1
  obtain ⟨x2, rfl, _⟩ := int_of h2
  obtain ⟨x3, rfl, _⟩ := int_of h3
  obtain ⟨x4, rfl, _⟩ := int_of h4
  exact ⟨⟨x0, x1, x2, x3, x4⟩, rfl⟩

theorem deed_at {a : Addr} {cs : List Value} (hc : w.cells? base a 6 = some cs) (d : Deed) (hd : cs = [.int .i64 d.verb, .int .i64 d.phase, .int .i64 d.noun, .int .i64 d.second, .int .i64 d.onlyIf, .int .i64 d.body]) :
    a.spot = none ∧ DeedAt w a.block a.off d ∧ a.block < w.heap.size := by
  subst hd
  obtain ⟨_, _, hat⟩ := World.cells?_some hc
  have h0 := hat 0 (by omega)
  obtain ⟨b, o, sp⟩ := a
  have hsp : sp = none := by
    cases sp with
    | none => rfl
    | some s => simp [World.cell?, Addr.add] at h0; split at h0 <;> simp at h0
  subst hsp
  have hb : b < w.heap.size := by
    rcases Nat.lt_or_ge b w.heap.size with h | h
    · exact h
    · simp [World.cell?, Addr.add, Array.getElem?_eq_none h] at h0
  refine ⟨rfl, ⟨?_, ?_, ?_, ?_, ?_, ?_⟩, hb⟩
  · simpa [Addr.add] using hat 0 (by omega)
  · simpa [Addr.add] using hat 1 (by omega)
  · simpa [Addr.add] using hat 2 (by omega)
  · simpa [Addr.add] using hat 3 (by omega)
  · simpa [Addr.add] using hat 4 (by omega)
  · simpa [Addr.add] using hat 5 (by omega)

theorem choose_list {α : Type} {p : Nat → α → Prop} : ∀ n : Nat, (∀ i, i < n → ∃ x, p i x) → ∃ l : List α, l.length = n ∧ ∀ i x, l[i]? = some x → p i x
  | 0, _ => ⟨[], rfl, by simp⟩
  | n + 1, h => by
    obtain ⟨l, hl, hp⟩ := choose_list n (fun i hi => h i (by omega))
    obtain ⟨x, hx⟩ := h n (by omega)
    refine ⟨l ++ [x], by simp [hl], fun i y hy => ?_⟩
    rcases Nat.lt_or_ge i n with hi | hi
    · rw [List.getElem?_append_left (by omega)] at hy; exact hp i y hy
    · rw [List.getElem?_append_right (by omega)] at hy
      have : i = n := by
        rcases Nat.lt_or_ge n i with h' | h'
        · rw [List.getElem?_eq_none (by simp; omega)] at hy; cases hy
        · omega
      subst this
      simp [hl] at hy
      subst hy
      exact hx

theorem trod_deeds {n : Nat} {v : Value} {y : DataW H × List MemPlace} (h : DataW.trod enc Try.prog w base spare held n 33 [v] = some y) :
    ∃ ds : List Deed, Deeds w v ds ∧ ds.length ≤ maxLen := by
  rcases open_slice Try.underlying33 h with ⟨hcs, _⟩ | ⟨a, len, cap, m, n', D, Pl, hcs, hb, hl, hm, hmm, hx, hi⟩
  · obtain rfl : v = .slice none 0 0 := by simpa using hcs
    exact ⟨[], ⟨none, 0, rfl, .inl rfl⟩, by simp⟩
  · obtain rfl : v = .slice (some a) len cap := by simpa using hcs
    have hlm : len ≤ m := by rw [hmm]; split <;> omega
    rw [cellsDeed] at hi
    have hE : ∀ i, i < len → ∃ d : Deed, (a.add (i * 6)).spot = none ∧ DeedAt w (a.add (i * 6)).block (a.add (i * 6)).off d ∧ (a.add (i * 6)).block < w.heap.size := by
      intro i hil
      obtain ⟨cs', hc, ht⟩ := hi i (by omega)
      obtain ⟨_, hcl, _⟩ := World.cells?_some hc
      obtain ⟨d, hd⟩ := deed_cells hcl ht
      exact ⟨d, deed_at hc d hd⟩
    obtain ⟨ds, hdl, hds⟩ := choose_list len hE
    refine ⟨ds, ⟨some a, cap, by rw [hdl], ?_⟩, by omega⟩
    cases len with
    | zero => exact .inl (List.length_eq_zero_iff.1 hdl)
    | succ len =>
      obtain ⟨d0, hs0, _, hb0⟩ := hE 0 (by omega)
      obtain ⟨b, o, sp⟩ := a
      simp only [Nat.zero_mul, Addr.add, if_true] at hs0 hb0
      subst hs0
      refine .inr ⟨b, o, rfl, hb0, fun i d hi' => ?_⟩
      have h1 := (hds i d hi').2.1
      by_cases hz : i * 6 = 0
      · simpa [Addr.add, hz] using h1
      · simpa [Addr.add, hz] using h1

theorem open_tables {r : Reach} {b0 : Nat} {v : Value} {d : DataW H} {p : List MemPlace} (hv : Value.okWide Try.prog w r b0 35 v) (h : DataW.Trod enc Try.prog w base spare held 35 v d p) :
    ∃ (v0 v1 v2 v3 v4 v5 v6 v7 v8 v9 v10 v11 v12 v13 v14 : Value) (ds : List Deed), v = .agg #[v0, v1, v2, v3, v4, v5, v6, v7, v8, v9, v10, v11, v12, v13, v14] ∧ Deeds w v10 ds ∧ ds.length ≤ maxLen := by
  obtain ⟨cs, rfl, hsz⟩ := okWide_struct Try.underlying35 hv
  obtain ⟨fuel, hf⟩ := h
  obtain ⟨l⟩ := cs
  obtain ⟨c0, c1, c2, c3, c4, c5, c6, c7, c8, c9, c10, c11, c12, c13, c14, _, _, _, _, _, _, _, _, _, _, y10, _, _, _, _, n, rfl, _, _, _, _, _, _, _, _, _, _, _, h10, _⟩ := fields_tables (hsz.trans cellsTables) hf
  obtain ⟨ds, h1, h2⟩ := trod_deeds h10
  exact ⟨c0, c1, c2, c3, c4, c5, c6, c7, c8, c9, c10, c11, c12, c13, c14, ds, rfl, h1, h2⟩
end
end Go.Proofs.Ytpbhlphemkdljaa.RuleD
