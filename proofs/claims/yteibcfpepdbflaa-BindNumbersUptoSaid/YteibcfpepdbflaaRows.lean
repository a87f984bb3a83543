/-
  NARROWER THAN 'FOR EVERY INPUT', by the rows' own cells (each row's printed sentence says how): BindTexts: loops · BindBlock: loops · BindNumbers: loops.
  DERIVED. THE GIVEN ROWS OF THIS SEAT. 3 by the template 'for every input the law returns true; each argument reads behind the call as it read before'; 0 by the template 'total and deterministic' (their statements: YteibcfpepdbflaaTotals.lean).
  GIVEN WITH THE SEED: the statements are not yours to turn. If you find one false, say at which input.
  Laid BY PROGRAM, IN A SANDBOX (cutbox-rows.mjs): the forced cells as the released guide's own fill.sh prints them over the translation 71862d5e9b04758c… (all of the seat's roots in one cut). By AI agents, Wed Nov 11 2026. No macro, syntax, notation, axiom, sorry.
-/
import Derived.Test.YteibcfpepdbflaaChecked
import GoSem.Claim
import GoSem.ClaimJoined
import GoSem.ClaimMapViews
import Derived.JoinedTies
import Derived.KernelRfl
namespace Go.Proofs.Yteibcfpepdbflaa
/- THE CELL 'sum', in the pinned program and in every row, IS THE sha256 OF THE DUMP (.gsa) THAT YteibcfpepdbflaaProg.lean LOADS. Nothing in Lean hashes anything: it is a label: what it is worth is what the hold of that sum in a sandbox is worth. -/
noncomputable def Try.pinned : Pinned := { name := "yteibcfpepdbflaa", sum := "71862d5e9b04758cc9b00cffffff599c349ad074fb130c2a5f4161ac17ec0129", checked := Try.checked }
namespace Rows
def none {H : Type} : Left H := { results := [], args := [] }

/-- 'clewlaw17.BindTexts': WHATEVER THE INPUT: true; the input reads as it did. -/
def bindTextsSpec : ChangeSpec := { name := "bindTexts", fn := fun _ => fun
  | [d] => { results := [.lit (.bool true)], args := [d] }
  | _ => none }
def bindTextsRow : OpenClaim := { program := "yteibcfpepdbflaa", sum := "71862d5e9b04758cc9b00cffffff599c349ad074fb130c2a5f4161ac17ec0129", func := "clew/clewlaw17.BindTexts", spec := "bindTexts", unfollowed := true, recurses := true, loops := true, apart := false }
def BindTextsSaid : Prop := bindTextsRow.holds Try.pinned (OpenSpec.ofChange bindTextsSpec)

/-- ITS FALSE NEIGHBOUR: 'it returns false'. Refute it at one input. -/
def bindTextsWrong : ChangeSpec := { name := "bindTexts", fn := fun _ => fun
  | [d] => { results := [.lit (.bool false)], args := [d] }
  | _ => none }
def BindTextsWrongFalsely : Prop := bindTextsRow.holds Try.pinned (OpenSpec.ofChange bindTextsWrong)

/-- 'clewlaw17.BindBlock': WHATEVER THE INPUT: true; the input reads as it did. -/
def bindBlockSpec : ChangeSpec := { name := "bindBlock", fn := fun _ => fun
  | [d1, d2] => { results := [.lit (.bool true)], args := [d1, d2] }
  | _ => none }
def bindBlockRow : OpenClaim := { program := "yteibcfpepdbflaa", sum := "71862d5e9b04758cc9b00cffffff599c349ad074fb130c2a5f4161ac17ec0129", func := "clew/clewlaw17.BindBlock", spec := "bindBlock", unfollowed := true, recurses := true, loops := true, apart := false }
def BindBlockSaid : Prop := bindBlockRow.holds Try.pinned (OpenSpec.ofChange bindBlockSpec)

/-- ITS FALSE NEIGHBOUR: 'it returns false'. Refute it at one input. -/
def bindBlockWrong : ChangeSpec := { name := "bindBlock", fn := fun _ => fun
  | [d1, d2] => { results := [.lit (.bool false)], args := [d1, d2] }
  | _ => none }
def BindBlockWrongFalsely : Prop := bindBlockRow.holds Try.pinned (OpenSpec.ofChange bindBlockWrong)

/-- 'clewlaw17.BindNumbers': WHATEVER THE INPUT: true; the input reads as it did. -/
def bindNumbersSpec : ChangeSpec := { name := "bindNumbers", fn := fun _ => fun
  | [d] => { results := [.lit (.bool true)], args := [d] }
  | _ => none }
def bindNumbersRow : OpenClaim := { program := "yteibcfpepdbflaa", sum := "71862d5e9b04758cc9b00cffffff599c349ad074fb130c2a5f4161ac17ec0129", func := "clew/clewlaw17.BindNumbers", spec := "bindNumbers", unfollowed := true, recurses := true, loops := true, apart := false }
def BindNumbersSaid : Prop := bindNumbersRow.holds Try.pinned (OpenSpec.ofChange bindNumbersSpec)

/-- ITS FALSE NEIGHBOUR: 'it returns false'. Refute it at one input. -/
def bindNumbersWrong : ChangeSpec := { name := "bindNumbers", fn := fun _ => fun
  | [d] => { results := [.lit (.bool false)], args := [d] }
  | _ => none }
def BindNumbersWrongFalsely : Prop := bindNumbersRow.holds Try.pinned (OpenSpec.ofChange bindNumbersWrong)

/- THE SECOND FORM. 'bulk': how many values and letters a reading holds, each counted each time it is reached (what is shared counts as often as it is met; a slice's spare places count too). A statement '..UptoSaid' is the law's where the arguments, and the package variables that the reading takes, are together of bulk at most 1048576: NARROWER than '..Said'. Prove '..Said' where nothing that the law and all that it calls make is longer than what came in: it says more and counts as full. Else prove '..UptoSaid'. A law counts once. -/
mutual
def uptoBulk {H : Type} : DataW H → Nat
  | .lit (.string bytes) => bytes.length + 1
  | .lit _ => 1
  | .nil => 1
  | .ptr d => uptoBulk d + 1
  | .slice elems spare => uptoBulkAll elems + uptoBulkAll spare + 1
  | .agg parts => uptoBulkAll parts + 1
  | .iface _ d => uptoBulk d + 1
  | .map entries => uptoBulkEntries entries + 1
  | .held _ => 1
def uptoBulkAll {H : Type} : List (DataW H) → Nat
  | [] => 0
  | d :: r => uptoBulk d + uptoBulkAll r
def uptoBulkEntries {H : Type} : List (Lit × DataW H) → Nat
  | [] => 0
  | x :: r => uptoBulkEntry x + uptoBulkEntries r
def uptoBulkEntry {H : Type} : Lit × DataW H → Nat
  | (.string bytes, d) => bytes.length + uptoBulk d + 1
  | (_, d) => uptoBulk d + 1
 end
def uptoSmall : (H : Type) → List (DataW H) → Bool := fun _ ds => decide (uptoBulkAll ds ≤ 1048576)
def OpenSpec.upto (s : _root_.Go.ChangeSpec) : _root_.Go.OpenSpec := { _root_.Go.OpenSpec.ofChange s with cond := some uptoSmall }

/-- 'clewlaw17.BindTexts', WHERE WHAT IT READS IS OF BULK AT MOST 1048576: true; the input reads as it did. -/
def bindTextsUptoRow : OpenClaim := { program := "yteibcfpepdbflaa", sum := "71862d5e9b04758cc9b00cffffff599c349ad074fb130c2a5f4161ac17ec0129", func := "clew/clewlaw17.BindTexts", spec := "bindTexts", unfollowed := true, recurses := true, loops := true, apart := false, narrowed := true }
def BindTextsUptoSaid : Prop := bindTextsUptoRow.holds Try.pinned (OpenSpec.upto bindTextsSpec)

/-- 'clewlaw17.BindBlock', WHERE WHAT IT READS IS OF BULK AT MOST 1048576: true; the input reads as it did. -/
def bindBlockUptoRow : OpenClaim := { program := "yteibcfpepdbflaa", sum := "71862d5e9b04758cc9b00cffffff599c349ad074fb130c2a5f4161ac17ec0129", func := "clew/clewlaw17.BindBlock", spec := "bindBlock", unfollowed := true, recurses := true, loops := true, apart := false, narrowed := true }
def BindBlockUptoSaid : Prop := bindBlockUptoRow.holds Try.pinned (OpenSpec.upto bindBlockSpec)

/-- 'clewlaw17.BindNumbers', WHERE WHAT IT READS IS OF BULK AT MOST 1048576: true; the input reads as it did. -/
def bindNumbersUptoRow : OpenClaim := { program := "yteibcfpepdbflaa", sum := "71862d5e9b04758cc9b00cffffff599c349ad074fb130c2a5f4161ac17ec0129", func := "clew/clewlaw17.BindNumbers", spec := "bindNumbers", unfollowed := true, recurses := true, loops := true, apart := false, narrowed := true }
def BindNumbersUptoSaid : Prop := bindNumbersUptoRow.holds Try.pinned (OpenSpec.upto bindNumbersSpec)

end Rows
end Go.Proofs.Yteibcfpepdbflaa
