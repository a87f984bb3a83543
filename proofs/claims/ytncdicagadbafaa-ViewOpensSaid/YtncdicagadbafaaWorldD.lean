/- How an api.World among the arguments reads: seven slices of int, a seed, five ints; within the form's reach the slices are not longer than 2^44. Conditions: none. -/
import Derived.Test.YtncdicagadbafaaNestW
import Derived.Test.YtncdicagadbafaaMixV
import Derived.Test.YtncdicagadbafaaLaw
import Derived.Deep.Slices
import Derived.Deep.Fields
import Derived.ChangeSame
import Derived.SizedLaws
namespace Go.Proofs.Ytncdicagadbafaa.WorldD
open Go Go.ChangeShapes Go.WideShapes Go.ChangeAt Go.RowKit Go.Deep
open NestP NestW Sq MixP

theorem cells_int : Try.prog.cellsOf 3 = 1 := by kernel_rfl
theorem cells_u64 : Try.prog.cellsOf 29 = 1 := by kernel_rfl
theorem cells_ints : Try.prog.cellsOf 23 = 1 := by kernel_rfl
theorem cellsWorld : Try.prog.cellsOf 31 = 13 := by kernel_rfl
theorem bytes_int : Try.prog.bytesOf 3 = 8 := by kernel_rfl
theorem u_of {x : Int} (h : (Lit.int .u64 x).wf = true) : U x := by
  have := bounds_u64 h
  unfold U; omega
section
variable {H : Type} {enc : TypeId × Value → H} {w : World} {base : Nat} {spare : Nat → Bool} {held : Bool}
theorem int_of {n : Nat} {v : Value} {y : DataW H × List MemPlace} (h : DataW.trod enc Try.prog w base spare held n 3 [v] = some y) : ∃ x : Int, v = .int .i64 x ∧ (Lit.int .i64 x).wf = true := by
  obtain ⟨x, hx, _, wx⟩ := DataW.trod_int Try.underlying3 h
  exact ⟨x, by simpa using hx, wx⟩
theorem u64_of {n : Nat} {v : Value} {y : DataW H × List MemPlace} (h : DataW.trod enc Try.prog w base spare held n 29 [v] = some y) : ∃ x : Int, v = .int .u64 x ∧ U x := by
  obtain ⟨x, hx, _, wx⟩ := DataW.trod_int Try.underlying29 h
  exact ⟨x, by simpa using hx, u_of wx⟩
def Fitting (d : DataW H) (t : TypeId) : Prop := (d.weights Try.prog t).all (· ≤ reachBytes) = true
set_option maxRecDepth 100000 in
theorem ints_of {n : Nat} {v : Value} {y : DataW H × List MemPlace} (h : DataW.trod enc Try.prog w base spare held n 23 [v] = some y) :
    ∃ (A : Option Addr) (m c : Nat) (l : List Int), v = .slice A m c ∧ Rd I w A m l ∧ (Fitting y.1 23 → m ≤ 17592186043904) := by
  obtain ⟨l, A, m, c, rfl, hm, _, hr⟩ := trod_rv (enc := I) Try.underlying23 cells_int (fun n c y h => by obtain ⟨x, rfl, _⟩ := int_of h; exact ⟨x, rfl⟩) h
  refine ⟨A, m, c, l, rfl, hr, fun hf => ?_⟩
  rcases open_slice Try.underlying23 h with ⟨hcs, _⟩ | ⟨a, len, cap, m', n', D, Pl, hcs, hb, hl, hm', hmm, hx, hi⟩
  · simp at hcs; omega
  · simp only [List.cons.injEq, Value.slice.injEq, and_true] at hcs
    obtain ⟨_, rfl, _⟩ := hcs
    rw [hx] at hf
    unfold Fitting at hf
    rw [DataW.weights, Try.underlying23] at hf
    have h1 := List.all_eq_true.1 hf _ (List.mem_cons_self ..)
    have h2 := of_decide_eq_true h1
    simp only [bytes_int, reachBytes, List.length_map, List.length_range] at h2
    omega
set_option maxRecDepth 100000 in
theorem fields_world {fuel : Nat} {cs : List Value} {x : DataW H × List MemPlace} (hl : cs.length = 13) (h : DataW.trod enc Try.prog w base spare held fuel 31 cs = some x) :
    ∃ (c0 c1 c2 c3 c4 c5 c6 c7 c8 c9 c10 c11 c12 : Value) (y0 y1 y2 y3 y4 y5 y6 y7 y8 y9 y10 y11 y12 : DataW H × List MemPlace) (n : Nat), cs = [c0, c1, c2, c3, c4, c5, c6, c7, c8, c9, c10, c11, c12] ∧ x.1 = .agg [y0.1, y1.1, y2.1, y3.1, y4.1, y5.1, y6.1, y7.1, y8.1, y9.1, y10.1, y11.1, y12.1] ∧ DataW.trod enc Try.prog w base spare held n 23 [c0] = some y0 ∧ DataW.trod enc Try.prog w base spare held n 23 [c1] = some y1 ∧ DataW.trod enc Try.prog w base spare held n 23 [c2] = some y2 ∧ DataW.trod enc Try.prog w base spare held n 23 [c3] = some y3 ∧ DataW.trod enc Try.prog w base spare held n 23 [c4] = some y4 ∧ DataW.trod enc Try.prog w base spare held n 23 [c5] = some y5 ∧ DataW.trod enc Try.prog w base spare held n 23 [c6] = some y6 ∧ DataW.trod enc Try.prog w base spare held n 29 [c7] = some y7 ∧ DataW.trod enc Try.prog w base spare held n 3 [c8] = some y8 ∧ DataW.trod enc Try.prog w base spare held n 3 [c9] = some y9 ∧ DataW.trod enc Try.prog w base spare held n 3 [c10] = some y10 ∧ DataW.trod enc Try.prog w base spare held n 3 [c11] = some y11 ∧ DataW.trod enc Try.prog w base spare held n 3 [c12] = some y12 := by
  obtain ⟨xs, n, _, hx, _, hlen, hg⟩ := DataW.trod_struct Try.underlying31 h
  match cs, hl with
  | [c0, c1, c2, c3, c4, c5, c6, c7, c8, c9, c10, c11, c12], _ =>
    match xs, hlen with
    | [y0, y1, y2, y3, y4, y5, y6, y7, y8, y9, y10, y11, y12], _ =>
      refine ⟨c0, c1, c2, c3, c4, c5, c6, c7, c8, c9, c10, c11, c12, y0, y1, y2, y3, y4, y5, y6, y7, y8, y9, y10, y11, y12, n, rfl, by simp [hx], ?_, ?_, ?_, ?_, ?_, ?_, ?_, ?_, ?_, ?_, ?_, ?_, ?_⟩
      · simpa [cells_ints] using hg 0 _ rfl
      · simpa [cells_ints] using hg 1 _ rfl
      · simpa [cells_ints] using hg 2 _ rfl
      · simpa [cells_ints] using hg 3 _ rfl
      · simpa [cells_ints] using hg 4 _ rfl
      · simpa [cells_ints] using hg 5 _ rfl
      · simpa [cells_ints] using hg 6 _ rfl
      · simpa [cells_u64] using hg 7 _ rfl
      · simpa [cells_int] using hg 8 _ rfl
      · simpa [cells_int] using hg 9 _ rfl
      · simpa [cells_int] using hg 10 _ rfl
      · simpa [cells_int] using hg 11 _ rfl
      · simpa [cells_int] using hg 12 _ rfl

set_option maxRecDepth 100000 in
theorem open_world {r : Reach} {b0 : Nat} {v : Value} {d : DataW H} {p : List MemPlace} (hv : Value.okWide Try.prog w r b0 31 v) (h : DataW.Trod enc Try.prog w base spare held 31 v d p) :
    ∃ (A0 A1 A2 A3 A4 A5 A6 : Option Addr) (n0 c0 n c1 n2 c2 n3 c3 n4 c4 n5 c5 n6 c6 : Nat) (g : Wd), v = .agg #[.slice A0 n0 c0, .slice A1 n c1, .slice A2 n2 c2, .slice A3 n3 c3, .slice A4 n4 c4, .slice A5 n5 c5, .slice A6 n6 c6, .int .u64 g.seed, .int .i64 g.sc, .int .i64 g.tu, .int .i64 g.ov, .int .i64 g.it, .int .i64 g.go] ∧
      Rd I w A0 n0 g.gl ∧ Rd I w A1 n g.pa ∧ Rd I w A2 n2 g.ch ∧ Rd I w A3 n3 g.ne ∧ Rd I w A4 n4 g.fl ∧ Rd I w A5 n5 g.pr ∧ Rd I w A6 n6 g.ti ∧ U g.seed ∧ (Lit.int .i64 g.sc).wf = true ∧ (Lit.int .i64 g.tu).wf = true ∧ (Lit.int .i64 g.ov).wf = true ∧ (Lit.int .i64 g.it).wf = true ∧ (Lit.int .i64 g.go).wf = true ∧
      (Fitting d 31 → n0 ≤ 17592186043904 ∧ n ≤ 17592186043904 ∧ n2 ≤ 17592186043904 ∧ n3 ≤ 17592186043904 ∧ n4 ≤ 17592186043904 ∧ n5 ≤ 17592186043904 ∧ n6 ≤ 17592186043904) := by
  obtain ⟨cs, rfl, hsz⟩ := okWide_struct Try.underlying31 hv
  obtain ⟨fuel, hf⟩ := h
  obtain ⟨l⟩ := cs
  obtain ⟨e0, e1, e2, e3, e4, e5, e6, e7, e8, e9, e10, e11, e12, y0, y1, y2, y3, y4, y5, y6, y7, y8, y9, y10, y11, y12, fu, rfl, hd, h0, h1, h2, h3, h4, h5, h6, h7, h8, h9, h10, h11, h12⟩ := fields_world (hsz.trans cellsWorld) hf
  obtain ⟨A0, n0, c0, l0, rfl, r0, b0⟩ := ints_of h0
  obtain ⟨A1, n, c1, l1, rfl, r1, b1⟩ := ints_of h1
  obtain ⟨A2, n2, c2, l2, rfl, r2, b2⟩ := ints_of h2
  obtain ⟨A3, n3, c3, l3, rfl, r3, b3⟩ := ints_of h3
  obtain ⟨A4, n4, c4, l4, rfl, r4, b4⟩ := ints_of h4
  obtain ⟨A5, n5, c5, l5, rfl, r5, b5⟩ := ints_of h5
  obtain ⟨A6, n6, c6, l6, rfl, r6, b6⟩ := ints_of h6
  obtain ⟨x7, rfl, w7⟩ := u64_of h7
  obtain ⟨x8, rfl, w8⟩ := int_of h8
  obtain ⟨x9, rfl, w9⟩ := int_of h9
  obtain ⟨x10, rfl, w10⟩ := int_of h10
  obtain ⟨x11, rfl, w11⟩ := int_of h11
  obtain ⟨x12, rfl, w12⟩ := int_of h12
  refine ⟨A0, A1, A2, A3, A4, A5, A6, n0, c0, n, c1, n2, c2, n3, c3, n4, c4, n5, c5, n6, c6, ⟨l0, l1, l2, l3, l4, l5, l6, x7, x8, x9, x10, x11, x12⟩, rfl, r0, r1, r2, r3, r4, r5, r6, w7, w8, w9, w10, w11, w12, fun hw => ?_⟩
  simp only at hd
  subst hd
  unfold Fitting at hw
  rw [DataW.weights, Try.underlying31] at hw
  simp only [DataW.weightsEach, List.map_cons, List.map_nil, List.all_append, Bool.and_eq_true] at hw
  obtain ⟨g0, g1, g2, g3, g4, g5, g6, _⟩ := hw
  exact ⟨b0 g0, b1 g1, b2 g2, b3 g3, b4 g4, b5 g5, b6 g6⟩
/-- A value is a world that reads as g, of slices within the reach. -/
def Wo (w : World) (v : Value) (g : Wd) : Prop :=
  ∃ (A0 A1 A2 A3 A4 A5 A6 : Option Addr) (n0 c0 n c1 n2 c2 n3 c3 n4 c4 n5 c5 n6 c6 : Nat), v = .agg #[.slice A0 n0 c0, .slice A1 n c1, .slice A2 n2 c2, .slice A3 n3 c3, .slice A4 n4 c4, .slice A5 n5 c5, .slice A6 n6 c6, .int .u64 g.seed, .int .i64 g.sc, .int .i64 g.tu, .int .i64 g.ov, .int .i64 g.it, .int .i64 g.go] ∧
    (Rd I w A0 n0 g.gl ∧ Rd I w A1 n g.pa ∧ Rd I w A2 n2 g.ch ∧ Rd I w A3 n3 g.ne ∧ Rd I w A4 n4 g.fl ∧ Rd I w A5 n5 g.pr ∧ Rd I w A6 n6 g.ti) ∧ U g.seed ∧ ((Lit.int .i64 g.sc).wf = true ∧ (Lit.int .i64 g.tu).wf = true ∧ (Lit.int .i64 g.ov).wf = true ∧ (Lit.int .i64 g.it).wf = true ∧ (Lit.int .i64 g.go).wf = true) ∧
    (n0 ≤ 17592186043904 ∧ n ≤ 17592186043904 ∧ n2 ≤ 17592186043904 ∧ n3 ≤ 17592186043904 ∧ n4 ≤ 17592186043904 ∧ n5 ≤ 17592186043904 ∧ n6 ≤ 17592186043904)
set_option maxRecDepth 100000 in
theorem open_wo {r : Reach} {b0 : Nat} {v : Value} {d : DataW H} {p : List MemPlace} (hv : Value.okWide Try.prog w r b0 31 v) (h : DataW.Trod enc Try.prog w base spare held 31 v d p) (hf : Fitting d 31) : ∃ g, Wo w v g := by
  obtain ⟨A0, A1, A2, A3, A4, A5, A6, n0, c0, n, c1, n2, c2, n3, c3, n4, c4, n5, c5, n6, c6, g, rfl, r0, r1, r2, r3, r4, r5, r6, w7, w8, w9, w10, w11, w12, hw⟩ := open_world hv h
  exact ⟨g, A0, A1, A2, A3, A4, A5, A6, n0, c0, n, c1, n2, c2, n3, c3, n4, c4, n5, c5, n6, c6, rfl, ⟨r0, r1, r2, r3, r4, r5, r6⟩, w7, ⟨w8, w9, w10, w11, w12⟩, hw hf⟩
end
end Go.Proofs.Ytncdicagadbafaa.WorldD
