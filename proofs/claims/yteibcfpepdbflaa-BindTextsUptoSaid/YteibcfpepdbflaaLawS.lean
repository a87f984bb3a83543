/- An api.Source among the arguments of a law: how it is opened. -/
import Derived.Test.YteibcfpepdbflaaBindO
import Derived.Test.YteibcfpepdbflaaLaw
import Derived.JoinedCond
namespace Go.Proofs.Yteibcfpepdbflaa.LawS
open Go Go.RowKit Go.ChangeShapes Go.WideShapes Go.ChangeAt BindP BindD BindO
open Byt (str)

section
variable {H : Type} {enc : TypeId × Value → H} {w : World} {base : Nat} {spare : Nat → Bool} {held : Bool}
set_option maxRecDepth 100000 in
theorem open_source {r : Reach} {b0 : Nat} {v : Value} {d : DataW H} {p : List MemPlace} (hv : Value.okWide Try.prog w r b0 29 v) (h : DataW.Trod enc Try.prog w base spare held 29 v d p) :
    ∃ t : So, v = .agg (So.e t).toArray ∧ So.R top w t ∧ So.m t ≤ Rows.uptoBulk d := by
  obtain ⟨cs, rfl, hsz⟩ := okWide_struct Try.underlying29 hv
  obtain ⟨fuel, hf⟩ := h
  obtain ⟨l⟩ := cs
  obtain ⟨t, rfl, hr, hm⟩ := source_of (hsz.trans cells_source) hf
  exact ⟨t, rfl, hr, hm⟩
end
end Go.Proofs.Yteibcfpepdbflaa.LawS
