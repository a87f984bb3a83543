/-
  No cell of these rows narrows 'for every input' (looked for: loops, veiled, ifaces, maps, wideKeys, modest, calm, conditions, laid).
  DERIVED. THE GIVEN ROWS OF THIS SEAT. 5 by the template 'for every input the law returns true; each argument reads behind the call as it read before'; 0 by the template 'total and deterministic' (their statements: YthnkfaddjenbhaaTotals.lean).
  GIVEN WITH THE SEED: the statements are not yours to turn. If you find one false, say at which input.
  Laid BY PROGRAM, IN A SANDBOX (cutbox-rows.mjs): the forced cells as the released guide's own fill.sh prints them over the translation c7d61de3b7b4ce65… (all of the seat's roots in one cut). By AI agents, Wed Nov 11 2026. No macro, syntax, notation, axiom, sorry.
-/
import Derived.Test.YthnkfaddjenbhaaChecked
import GoSem.Claim
import GoSem.ClaimJoined
import GoSem.ClaimMapViews
import Derived.JoinedTies
import Derived.KernelRfl
namespace Go.Proofs.Ythnkfaddjenbhaa
/- THE CELL 'sum', in the pinned program and in every row, IS THE sha256 OF THE DUMP (.gsa) THAT YthnkfaddjenbhaaProg.lean LOADS. Nothing in Lean hashes anything: it is a label: what it is worth is what the hold of that sum in a sandbox is worth. -/
noncomputable def Try.pinned : Pinned := { name := "ythnkfaddjenbhaa", sum := "c7d61de3b7b4ce65f79b44f44cf9c9b6e6b2471803574efcbb81ac6188bc5ac3", checked := Try.checked }
namespace Rows
def none {H : Type} : Left H := { results := [], args := [] }

/-- 'clewlaw04.LetterCases': WHATEVER THE INPUT: true; the input reads as it did. -/
def letterCasesSpec : ChangeSpec := { name := "letterCases", fn := fun _ => fun
  | [d] => { results := [.lit (.bool true)], args := [d] }
  | _ => none }
def letterCasesRow : OpenClaim := { program := "ythnkfaddjenbhaa", sum := "c7d61de3b7b4ce65f79b44f44cf9c9b6e6b2471803574efcbb81ac6188bc5ac3", func := "clew/clewlaw04.LetterCases", spec := "letterCases", unfollowed := true, recurses := true, apart := false }
def LetterCasesSaid : Prop := letterCasesRow.holds Try.pinned (OpenSpec.ofChange letterCasesSpec)

/-- ITS FALSE NEIGHBOUR: 'it returns false'. Refute it at one input. -/
def letterCasesWrong : ChangeSpec := { name := "letterCases", fn := fun _ => fun
  | [d] => { results := [.lit (.bool false)], args := [d] }
  | _ => none }
def LetterCasesWrongFalsely : Prop := letterCasesRow.holds Try.pinned (OpenSpec.ofChange letterCasesWrong)

/-- 'clewlaw04.LetterShort': WHATEVER THE INPUT: true; the input reads as it did. -/
def letterShortSpec : ChangeSpec := { name := "letterShort", fn := fun _ => fun
  | [d] => { results := [.lit (.bool true)], args := [d] }
  | _ => none }
def letterShortRow : OpenClaim := { program := "ythnkfaddjenbhaa", sum := "c7d61de3b7b4ce65f79b44f44cf9c9b6e6b2471803574efcbb81ac6188bc5ac3", func := "clew/clewlaw04.LetterShort", spec := "letterShort", unfollowed := true, recurses := true, apart := false }
def LetterShortSaid : Prop := letterShortRow.holds Try.pinned (OpenSpec.ofChange letterShortSpec)

/-- ITS FALSE NEIGHBOUR: 'it returns false'. Refute it at one input. -/
def letterShortWrong : ChangeSpec := { name := "letterShort", fn := fun _ => fun
  | [d] => { results := [.lit (.bool false)], args := [d] }
  | _ => none }
def LetterShortWrongFalsely : Prop := letterShortRow.holds Try.pinned (OpenSpec.ofChange letterShortWrong)

/-- 'clewlaw04.LetterTells': WHATEVER THE INPUT: true; the input reads as it did. -/
def letterTellsSpec : ChangeSpec := { name := "letterTells", fn := fun _ => fun
  | [d] => { results := [.lit (.bool true)], args := [d] }
  | _ => none }
def letterTellsRow : OpenClaim := { program := "ythnkfaddjenbhaa", sum := "c7d61de3b7b4ce65f79b44f44cf9c9b6e6b2471803574efcbb81ac6188bc5ac3", func := "clew/clewlaw04.LetterTells", spec := "letterTells", unfollowed := true, recurses := true, apart := false }
def LetterTellsSaid : Prop := letterTellsRow.holds Try.pinned (OpenSpec.ofChange letterTellsSpec)

/-- ITS FALSE NEIGHBOUR: 'it returns false'. Refute it at one input. -/
def letterTellsWrong : ChangeSpec := { name := "letterTells", fn := fun _ => fun
  | [d] => { results := [.lit (.bool false)], args := [d] }
  | _ => none }
def LetterTellsWrongFalsely : Prop := letterTellsRow.holds Try.pinned (OpenSpec.ofChange letterTellsWrong)

/-- 'clewlaw04.LetterWords': WHATEVER THE INPUT: true; the input reads as it did. -/
def letterWordsSpec : ChangeSpec := { name := "letterWords", fn := fun _ => fun
  | [d] => { results := [.lit (.bool true)], args := [d] }
  | _ => none }
def letterWordsRow : OpenClaim := { program := "ythnkfaddjenbhaa", sum := "c7d61de3b7b4ce65f79b44f44cf9c9b6e6b2471803574efcbb81ac6188bc5ac3", func := "clew/clewlaw04.LetterWords", spec := "letterWords", unfollowed := true, recurses := true, apart := false }
def LetterWordsSaid : Prop := letterWordsRow.holds Try.pinned (OpenSpec.ofChange letterWordsSpec)

/-- ITS FALSE NEIGHBOUR: 'it returns false'. Refute it at one input. -/
def letterWordsWrong : ChangeSpec := { name := "letterWords", fn := fun _ => fun
  | [d] => { results := [.lit (.bool false)], args := [d] }
  | _ => none }
def LetterWordsWrongFalsely : Prop := letterWordsRow.holds Try.pinned (OpenSpec.ofChange letterWordsWrong)

/-- 'clewlaw04.LetterJoins': WHATEVER THE INPUT: true; the input reads as it did. -/
def letterJoinsSpec : ChangeSpec := { name := "letterJoins", fn := fun _ => fun
  | [d1, d2] => { results := [.lit (.bool true)], args := [d1, d2] }
  | _ => none }
def letterJoinsRow : OpenClaim := { program := "ythnkfaddjenbhaa", sum := "c7d61de3b7b4ce65f79b44f44cf9c9b6e6b2471803574efcbb81ac6188bc5ac3", func := "clew/clewlaw04.LetterJoins", spec := "letterJoins", unfollowed := true, recurses := true, apart := false }
def LetterJoinsSaid : Prop := letterJoinsRow.holds Try.pinned (OpenSpec.ofChange letterJoinsSpec)

/-- ITS FALSE NEIGHBOUR: 'it returns false'. Refute it at one input. -/
def letterJoinsWrong : ChangeSpec := { name := "letterJoins", fn := fun _ => fun
  | [d1, d2] => { results := [.lit (.bool false)], args := [d1, d2] }
  | _ => none }
def LetterJoinsWrongFalsely : Prop := letterJoinsRow.holds Try.pinned (OpenSpec.ofChange letterJoinsWrong)

/- THE SECOND FORM. 'bulk': how many values and letters a reading holds, each counted each time it is reached (what is shared counts as often as it is met; a slice's spare places count too). A statement '..UptoSaid' is the law's where the arguments, and the package variables that the reading takes, are together of bulk at most 1048576: NARROWER than '..Said'. Prove '..Said' where nothing that the law and all that it calls make is longer than what came in: it says more and counts as full. Else prove '..UptoSaid'. A law counts once. -/
mutual
def uptoBulk {H : Type} : DataW H → Nat
  | .lit (.string bytes) => bytes.length + 1
  | .lit _ => 1
  | .nil => 1
  | .ptr d => uptoBulk d + 1
  | .slice elems spare => uptoBulkAll elems + uptoBulkAll spare + 1
  | .agg parts => uptoBulkAll parts + 1
  | .iface _ d => uptoBulk d + 1
  | .map entries => uptoBulkEntries entries + 1
  | .held _ => 1
def uptoBulkAll {H : Type} : List (DataW H) → Nat
  | [] => 0
  | d :: r => uptoBulk d + uptoBulkAll r
def uptoBulkEntries {H : Type} : List (Lit × DataW H) → Nat
  | [] => 0
  | x :: r => uptoBulkEntry x + uptoBulkEntries r
def uptoBulkEntry {H : Type} : Lit × DataW H → Nat
  | (.string bytes, d) => bytes.length + uptoBulk d + 1
  | (_, d) => uptoBulk d + 1
 end
def uptoSmall : (H : Type) → List (DataW H) → Bool := fun _ ds => decide (uptoBulkAll ds ≤ 1048576)
def OpenSpec.upto (s : _root_.Go.ChangeSpec) : _root_.Go.OpenSpec := { _root_.Go.OpenSpec.ofChange s with cond := some uptoSmall }

/-- 'clewlaw04.LetterCases', WHERE WHAT IT READS IS OF BULK AT MOST 1048576: true; the input reads as it did. -/
def letterCasesUptoRow : OpenClaim := { program := "ythnkfaddjenbhaa", sum := "c7d61de3b7b4ce65f79b44f44cf9c9b6e6b2471803574efcbb81ac6188bc5ac3", func := "clew/clewlaw04.LetterCases", spec := "letterCases", unfollowed := true, recurses := true, apart := false, narrowed := true }
def LetterCasesUptoSaid : Prop := letterCasesUptoRow.holds Try.pinned (OpenSpec.upto letterCasesSpec)

/-- 'clewlaw04.LetterShort', WHERE WHAT IT READS IS OF BULK AT MOST 1048576: true; the input reads as it did. -/
def letterShortUptoRow : OpenClaim := { program := "ythnkfaddjenbhaa", sum := "c7d61de3b7b4ce65f79b44f44cf9c9b6e6b2471803574efcbb81ac6188bc5ac3", func := "clew/clewlaw04.LetterShort", spec := "letterShort", unfollowed := true, recurses := true, apart := false, narrowed := true }
def LetterShortUptoSaid : Prop := letterShortUptoRow.holds Try.pinned (OpenSpec.upto letterShortSpec)

/-- 'clewlaw04.LetterTells', WHERE WHAT IT READS IS OF BULK AT MOST 1048576: true; the input reads as it did. -/
def letterTellsUptoRow : OpenClaim := { program := "ythnkfaddjenbhaa", sum := "c7d61de3b7b4ce65f79b44f44cf9c9b6e6b2471803574efcbb81ac6188bc5ac3", func := "clew/clewlaw04.LetterTells", spec := "letterTells", unfollowed := true, recurses := true, apart := false, narrowed := true }
def LetterTellsUptoSaid : Prop := letterTellsUptoRow.holds Try.pinned (OpenSpec.upto letterTellsSpec)

/-- 'clewlaw04.LetterWords', WHERE WHAT IT READS IS OF BULK AT MOST 1048576: true; the input reads as it did. -/
def letterWordsUptoRow : OpenClaim := { program := "ythnkfaddjenbhaa", sum := "c7d61de3b7b4ce65f79b44f44cf9c9b6e6b2471803574efcbb81ac6188bc5ac3", func := "clew/clewlaw04.LetterWords", spec := "letterWords", unfollowed := true, recurses := true, apart := false, narrowed := true }
def LetterWordsUptoSaid : Prop := letterWordsUptoRow.holds Try.pinned (OpenSpec.upto letterWordsSpec)

/-- 'clewlaw04.LetterJoins', WHERE WHAT IT READS IS OF BULK AT MOST 1048576: true; the input reads as it did. -/
def letterJoinsUptoRow : OpenClaim := { program := "ythnkfaddjenbhaa", sum := "c7d61de3b7b4ce65f79b44f44cf9c9b6e6b2471803574efcbb81ac6188bc5ac3", func := "clew/clewlaw04.LetterJoins", spec := "letterJoins", unfollowed := true, recurses := true, apart := false, narrowed := true }
def LetterJoinsUptoSaid : Prop := letterJoinsUptoRow.holds Try.pinned (OpenSpec.upto letterJoinsSpec)

end Rows
end Go.Proofs.Ythnkfaddjenbhaa
