/-
  NARROWER THAN 'FOR EVERY INPUT', by the rows' own cells (each row's printed sentence says how): BindBook: loops · BindBound: loops.
  DERIVED. THE GIVEN ROWS OF THIS SEAT. 2 by the template 'for every input the law returns true; each argument reads behind the call as it read before'; 0 by the template 'total and deterministic' (their statements: YteibcfpepdbflaaGreatTotals.lean).
  GIVEN WITH THE SEED: the statements are not yours to turn. If you find one false, say at which input.
  Laid BY PROGRAM, IN A SANDBOX (cutbox-rows.mjs): the forced cells as the released guide's own fill.sh prints them over the translation 66f44fe57579987b… (all of the seat's roots in one cut). By AI agents, Wed Nov 11 2026. No macro, syntax, notation, axiom, sorry.
-/
import Derived.Test.YteibcfpepdbflaaGreatChecked
import GoSem.Claim
import GoSem.ClaimJoined
import GoSem.ClaimMapViews
import Derived.JoinedTies
import Derived.KernelRfl
namespace Go.Proofs.YteibcfpepdbflaaGreat
/- THE CELL 'sum', in the pinned program and in every row, IS THE sha256 OF THE DUMP (.gsa) THAT YteibcfpepdbflaaGreatProg.lean LOADS. Nothing in Lean hashes anything: it is a label: what it is worth is what the hold of that sum in a sandbox is worth. -/
noncomputable def Tryz.pinned : Pinned := { name := "yteibcfpepdbflaagreat", sum := "66f44fe57579987bccf06720dbd0aff3cc8a4f7b392abb7605f17e181411de4d", checked := Tryz.checked }
namespace Rows
def none {H : Type} : Left H := { results := [], args := [] }

/-- 'clewlaw17.BindBook': WHATEVER THE INPUT: true; the input reads as it did. -/
def bindBookSpec : ChangeSpec := { name := "bindBook", fn := fun _ => fun
  | [d] => { results := [.lit (.bool true)], args := [d] }
  | _ => none }
def bindBookRow : OpenClaim := { program := "yteibcfpepdbflaagreat", sum := "66f44fe57579987bccf06720dbd0aff3cc8a4f7b392abb7605f17e181411de4d", func := "clew/clewlaw17.BindBook", spec := "bindBook", unfollowed := true, recurses := true, loops := true, apart := false }
def BindBookSaid : Prop := bindBookRow.holds Tryz.pinned (OpenSpec.ofChange bindBookSpec)

/-- ITS FALSE NEIGHBOUR: 'it returns false'. Refute it at one input. -/
def bindBookWrong : ChangeSpec := { name := "bindBook", fn := fun _ => fun
  | [d] => { results := [.lit (.bool false)], args := [d] }
  | _ => none }
def BindBookWrongFalsely : Prop := bindBookRow.holds Tryz.pinned (OpenSpec.ofChange bindBookWrong)

/-- 'clewlaw17.BindBound': WHATEVER THE INPUT: true; the input reads as it did. -/
def bindBoundSpec : ChangeSpec := { name := "bindBound", fn := fun _ => fun
  | [d] => { results := [.lit (.bool true)], args := [d] }
  | _ => none }
def bindBoundRow : OpenClaim := { program := "yteibcfpepdbflaagreat", sum := "66f44fe57579987bccf06720dbd0aff3cc8a4f7b392abb7605f17e181411de4d", func := "clew/clewlaw17.BindBound", spec := "bindBound", unfollowed := true, recurses := true, loops := true, apart := false }
def BindBoundSaid : Prop := bindBoundRow.holds Tryz.pinned (OpenSpec.ofChange bindBoundSpec)

/-- ITS FALSE NEIGHBOUR: 'it returns false'. Refute it at one input. -/
def bindBoundWrong : ChangeSpec := { name := "bindBound", fn := fun _ => fun
  | [d] => { results := [.lit (.bool false)], args := [d] }
  | _ => none }
def BindBoundWrongFalsely : Prop := bindBoundRow.holds Tryz.pinned (OpenSpec.ofChange bindBoundWrong)

/- THE SECOND FORM. 'bulk': how many values and letters a reading holds, each counted each time it is reached (what is shared counts as often as it is met; a slice's spare places count too). A statement '..UptoSaid' is the law's where the arguments, and the package variables that the reading takes, are together of bulk at most 1048576: NARROWER than '..Said'. Prove '..Said' where nothing that the law and all that it calls make is longer than what came in: it says more and counts as full. Else prove '..UptoSaid'. A law counts once. -/
mutual
def uptoBulk {H : Type} : DataW H → Nat
  | .lit (.string bytes) => bytes.length + 1
  | .lit _ => 1
  | .nil => 1
  | .ptr d => uptoBulk d + 1
  | .slice elems spare => uptoBulkAll elems + uptoBulkAll spare + 1
  | .agg parts => uptoBulkAll parts + 1
  | .iface _ d => uptoBulk d + 1
  | .map entries => uptoBulkEntries entries + 1
  | .held _ => 1
def uptoBulkAll {H : Type} : List (DataW H) → Nat
  | [] => 0
  | d :: r => uptoBulk d + uptoBulkAll r
def uptoBulkEntries {H : Type} : List (Lit × DataW H) → Nat
  | [] => 0
  | x :: r => uptoBulkEntry x + uptoBulkEntries r
def uptoBulkEntry {H : Type} : Lit × DataW H → Nat
  | (.string bytes, d) => bytes.length + uptoBulk d + 1
  | (_, d) => uptoBulk d + 1
 end
def uptoSmall : (H : Type) → List (DataW H) → Bool := fun _ ds => decide (uptoBulkAll ds ≤ 1048576)
def OpenSpec.upto (s : _root_.Go.ChangeSpec) : _root_.Go.OpenSpec := { _root_.Go.OpenSpec.ofChange s with cond := some uptoSmall }

/-- 'clewlaw17.BindBook', WHERE WHAT IT READS IS OF BULK AT MOST 1048576: true; the input reads as it did. -/
def bindBookUptoRow : OpenClaim := { program := "yteibcfpepdbflaagreat", sum := "66f44fe57579987bccf06720dbd0aff3cc8a4f7b392abb7605f17e181411de4d", func := "clew/clewlaw17.BindBook", spec := "bindBook", unfollowed := true, recurses := true, loops := true, apart := false, narrowed := true }
def BindBookUptoSaid : Prop := bindBookUptoRow.holds Tryz.pinned (OpenSpec.upto bindBookSpec)

/-- 'clewlaw17.BindBound', WHERE WHAT IT READS IS OF BULK AT MOST 1048576: true; the input reads as it did. -/
def bindBoundUptoRow : OpenClaim := { program := "yteibcfpepdbflaagreat", sum := "66f44fe57579987bccf06720dbd0aff3cc8a4f7b392abb7605f17e181411de4d", func := "clew/clewlaw17.BindBound", spec := "bindBound", unfollowed := true, recurses := true, loops := true, apart := false, narrowed := true }
def BindBoundUptoSaid : Prop := bindBoundUptoRow.holds Tryz.pinned (OpenSpec.upto bindBoundSpec)

end Rows
end Go.Proofs.YteibcfpepdbflaaGreat
