/-
  No cell of these rows narrows 'for every input' (looked for: loops, veiled, ifaces, maps, wideKeys, modest, calm, conditions, laid).
  DERIVED. THE GIVEN ROWS OF THIS SEAT. 5 by the template 'for every input the law returns true; each argument reads behind the call as it read before'; 0 by the template 'total and deterministic' (their statements: YtgigkbfgfegdhaaTotals.lean).
  GIVEN WITH THE SEED: the statements are not yours to turn. If you find one false, say at which input.
  Laid BY PROGRAM, IN A SANDBOX (cutbox-rows.mjs): the forced cells as the released guide's own fill.sh prints them over the translation b15c868e393c8549… (all of the seat's roots in one cut). By AI agents, Wed Nov 11 2026. No macro, syntax, notation, axiom, sorry.
-/
import Derived.Test.YtgigkbfgfegdhaaChecked
import GoSem.Claim
import GoSem.ClaimJoined
import GoSem.ClaimMapViews
import Derived.JoinedTies
import Derived.KernelRfl
namespace Go.Proofs.Ytgigkbfgfegdhaa
/- THE CELL 'sum', in the pinned program and in every row, IS THE sha256 OF THE DUMP (.gsa) THAT YtgigkbfgfegdhaaProg.lean LOADS. Nothing in Lean hashes anything: it is a label: what it is worth is what the hold of that sum in a sandbox is worth. -/
noncomputable def Try.pinned : Pinned := { name := "ytgigkbfgfegdhaa", sum := "b15c868e393c854923858bf456ae8a10f58778f3aa744a10a95a0fc52cd1e259", checked := Try.checked }
namespace Rows
def none {H : Type} : Left H := { results := [], args := [] }

/-- 'clewlaw05.MixStates': WHATEVER THE INPUT: true; the input reads as it did. -/
def mixStatesSpec : ChangeSpec := { name := "mixStates", fn := fun _ => fun
  | [d1, d2] => { results := [.lit (.bool true)], args := [d1, d2] }
  | _ => none }
def mixStatesRow : OpenClaim := { program := "ytgigkbfgfegdhaa", sum := "b15c868e393c854923858bf456ae8a10f58778f3aa744a10a95a0fc52cd1e259", func := "clew/clewlaw05.MixStates", spec := "mixStates", unfollowed := true, recurses := true, apart := false }
def MixStatesSaid : Prop := mixStatesRow.holds Try.pinned (OpenSpec.ofChange mixStatesSpec)

/-- ITS FALSE NEIGHBOUR: 'it returns false'. Refute it at one input. -/
def mixStatesWrong : ChangeSpec := { name := "mixStates", fn := fun _ => fun
  | [d1, d2] => { results := [.lit (.bool false)], args := [d1, d2] }
  | _ => none }
def MixStatesWrongFalsely : Prop := mixStatesRow.holds Try.pinned (OpenSpec.ofChange mixStatesWrong)

/-- 'clewlaw05.MixBelow': WHATEVER THE INPUT: true; the input reads as it did. -/
def mixBelowSpec : ChangeSpec := { name := "mixBelow", fn := fun _ => fun
  | [d1, d2] => { results := [.lit (.bool true)], args := [d1, d2] }
  | _ => none }
def mixBelowRow : OpenClaim := { program := "ytgigkbfgfegdhaa", sum := "b15c868e393c854923858bf456ae8a10f58778f3aa744a10a95a0fc52cd1e259", func := "clew/clewlaw05.MixBelow", spec := "mixBelow", unfollowed := true, recurses := true, apart := false }
def MixBelowSaid : Prop := mixBelowRow.holds Try.pinned (OpenSpec.ofChange mixBelowSpec)

/-- ITS FALSE NEIGHBOUR: 'it returns false'. Refute it at one input. -/
def mixBelowWrong : ChangeSpec := { name := "mixBelow", fn := fun _ => fun
  | [d1, d2] => { results := [.lit (.bool false)], args := [d1, d2] }
  | _ => none }
def MixBelowWrongFalsely : Prop := mixBelowRow.holds Try.pinned (OpenSpec.ofChange mixBelowWrong)

/-- 'clewlaw05.MixSkips': WHATEVER THE INPUT: true; the input reads as it did. -/
def mixSkipsSpec : ChangeSpec := { name := "mixSkips", fn := fun _ => fun
  | [d1, d2] => { results := [.lit (.bool true)], args := [d1, d2] }
  | _ => none }
def mixSkipsRow : OpenClaim := { program := "ytgigkbfgfegdhaa", sum := "b15c868e393c854923858bf456ae8a10f58778f3aa744a10a95a0fc52cd1e259", func := "clew/clewlaw05.MixSkips", spec := "mixSkips", unfollowed := true, recurses := true, apart := false }
def MixSkipsSaid : Prop := mixSkipsRow.holds Try.pinned (OpenSpec.ofChange mixSkipsSpec)

/-- ITS FALSE NEIGHBOUR: 'it returns false'. Refute it at one input. -/
def mixSkipsWrong : ChangeSpec := { name := "mixSkips", fn := fun _ => fun
  | [d1, d2] => { results := [.lit (.bool false)], args := [d1, d2] }
  | _ => none }
def MixSkipsWrongFalsely : Prop := mixSkipsRow.holds Try.pinned (OpenSpec.ofChange mixSkipsWrong)

/-- 'clewlaw05.MixParts': WHATEVER THE INPUT: true; the input reads as it did. -/
def mixPartsSpec : ChangeSpec := { name := "mixParts", fn := fun _ => fun
  | [d1, d2, d3] => { results := [.lit (.bool true)], args := [d1, d2, d3] }
  | _ => none }
def mixPartsRow : OpenClaim := { program := "ytgigkbfgfegdhaa", sum := "b15c868e393c854923858bf456ae8a10f58778f3aa744a10a95a0fc52cd1e259", func := "clew/clewlaw05.MixParts", spec := "mixParts", unfollowed := true, recurses := true, apart := false }
def MixPartsSaid : Prop := mixPartsRow.holds Try.pinned (OpenSpec.ofChange mixPartsSpec)

/-- ITS FALSE NEIGHBOUR: 'it returns false'. Refute it at one input. -/
def mixPartsWrong : ChangeSpec := { name := "mixParts", fn := fun _ => fun
  | [d1, d2, d3] => { results := [.lit (.bool false)], args := [d1, d2, d3] }
  | _ => none }
def MixPartsWrongFalsely : Prop := mixPartsRow.holds Try.pinned (OpenSpec.ofChange mixPartsWrong)

/-- 'clewlaw05.MixApart': WHATEVER THE INPUT: true; the input reads as it did. -/
def mixApartSpec : ChangeSpec := { name := "mixApart", fn := fun _ => fun
  | [d1, d2] => { results := [.lit (.bool true)], args := [d1, d2] }
  | _ => none }
def mixApartRow : OpenClaim := { program := "ytgigkbfgfegdhaa", sum := "b15c868e393c854923858bf456ae8a10f58778f3aa744a10a95a0fc52cd1e259", func := "clew/clewlaw05.MixApart", spec := "mixApart", unfollowed := true, recurses := true, apart := false }
def MixApartSaid : Prop := mixApartRow.holds Try.pinned (OpenSpec.ofChange mixApartSpec)

/-- ITS FALSE NEIGHBOUR: 'it returns false'. Refute it at one input. -/
def mixApartWrong : ChangeSpec := { name := "mixApart", fn := fun _ => fun
  | [d1, d2] => { results := [.lit (.bool false)], args := [d1, d2] }
  | _ => none }
def MixApartWrongFalsely : Prop := mixApartRow.holds Try.pinned (OpenSpec.ofChange mixApartWrong)

/- THE SECOND FORM. 'bulk': how many values and letters a reading holds, each counted each time it is reached (what is shared counts as often as it is met; a slice's spare places count too). A statement '..UptoSaid' is the law's where the arguments, and the package variables that the reading takes, are together of bulk at most 1048576: NARROWER than '..Said'. Prove '..Said' where nothing that the law and all that it calls make is longer than what came in: it says more and counts as full. Else prove '..UptoSaid'. A law counts once. -/
mutual
def uptoBulk {H : Type} : DataW H → Nat
  | .lit (.string bytes) => bytes.length + 1
  | .lit _ => 1
  | .nil => 1
  | .ptr d => uptoBulk d + 1
  | .slice elems spare => uptoBulkAll elems + uptoBulkAll spare + 1
  | .agg parts => uptoBulkAll parts + 1
  | .iface _ d => uptoBulk d + 1
  | .map entries => uptoBulkEntries entries + 1
  | .held _ => 1
def uptoBulkAll {H : Type} : List (DataW H) → Nat
  | [] => 0
  | d :: r => uptoBulk d + uptoBulkAll r
def uptoBulkEntries {H : Type} : List (Lit × DataW H) → Nat
  | [] => 0
  | x :: r => uptoBulkEntry x + uptoBulkEntries r
def uptoBulkEntry {H : Type} : Lit × DataW H → Nat
  | (.string bytes, d) => bytes.length + uptoBulk d + 1
  | (_, d) => uptoBulk d + 1
 end
def uptoSmall : (H : Type) → List (DataW H) → Bool := fun _ ds => decide (uptoBulkAll ds ≤ 1048576)
def OpenSpec.upto (s : _root_.Go.ChangeSpec) : _root_.Go.OpenSpec := { _root_.Go.OpenSpec.ofChange s with cond := some uptoSmall }

/-- 'clewlaw05.MixStates', WHERE WHAT IT READS IS OF BULK AT MOST 1048576: true; the input reads as it did. -/
def mixStatesUptoRow : OpenClaim := { program := "ytgigkbfgfegdhaa", sum := "b15c868e393c854923858bf456ae8a10f58778f3aa744a10a95a0fc52cd1e259", func := "clew/clewlaw05.MixStates", spec := "mixStates", unfollowed := true, recurses := true, apart := false, narrowed := true }
def MixStatesUptoSaid : Prop := mixStatesUptoRow.holds Try.pinned (OpenSpec.upto mixStatesSpec)

/-- 'clewlaw05.MixBelow', WHERE WHAT IT READS IS OF BULK AT MOST 1048576: true; the input reads as it did. -/
def mixBelowUptoRow : OpenClaim := { program := "ytgigkbfgfegdhaa", sum := "b15c868e393c854923858bf456ae8a10f58778f3aa744a10a95a0fc52cd1e259", func := "clew/clewlaw05.MixBelow", spec := "mixBelow", unfollowed := true, recurses := true, apart := false, narrowed := true }
def MixBelowUptoSaid : Prop := mixBelowUptoRow.holds Try.pinned (OpenSpec.upto mixBelowSpec)

/-- 'clewlaw05.MixSkips', WHERE WHAT IT READS IS OF BULK AT MOST 1048576: true; the input reads as it did. -/
def mixSkipsUptoRow : OpenClaim := { program := "ytgigkbfgfegdhaa", sum := "b15c868e393c854923858bf456ae8a10f58778f3aa744a10a95a0fc52cd1e259", func := "clew/clewlaw05.MixSkips", spec := "mixSkips", unfollowed := true, recurses := true, apart := false, narrowed := true }
def MixSkipsUptoSaid : Prop := mixSkipsUptoRow.holds Try.pinned (OpenSpec.upto mixSkipsSpec)

/-- 'clewlaw05.MixParts', WHERE WHAT IT READS IS OF BULK AT MOST 1048576: true; the input reads as it did. -/
def mixPartsUptoRow : OpenClaim := { program := "ytgigkbfgfegdhaa", sum := "b15c868e393c854923858bf456ae8a10f58778f3aa744a10a95a0fc52cd1e259", func := "clew/clewlaw05.MixParts", spec := "mixParts", unfollowed := true, recurses := true, apart := false, narrowed := true }
def MixPartsUptoSaid : Prop := mixPartsUptoRow.holds Try.pinned (OpenSpec.upto mixPartsSpec)

/-- 'clewlaw05.MixApart', WHERE WHAT IT READS IS OF BULK AT MOST 1048576: true; the input reads as it did. -/
def mixApartUptoRow : OpenClaim := { program := "ytgigkbfgfegdhaa", sum := "b15c868e393c854923858bf456ae8a10f58778f3aa744a10a95a0fc52cd1e259", func := "clew/clewlaw05.MixApart", spec := "mixApart", unfollowed := true, recurses := true, apart := false, narrowed := true }
def MixApartUptoSaid : Prop := mixApartUptoRow.holds Try.pinned (OpenSpec.upto mixApartSpec)

end Rows
end Go.Proofs.Ytgigkbfgfegdhaa
