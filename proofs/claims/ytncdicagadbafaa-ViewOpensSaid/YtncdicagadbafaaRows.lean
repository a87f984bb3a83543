/-
  No cell of these rows narrows 'for every input' (looked for: loops, veiled, ifaces, maps, wideKeys, modest, calm, conditions, laid).
  DERIVED. THE GIVEN ROWS OF THIS SEAT. 19 by the template 'for every input the law returns true; each argument reads behind the call as it read before'; 0 by the template 'total and deterministic' (their statements: YtncdicagadbafaaTotals.lean).
  GIVEN WITH THE SEED: the statements are not yours to turn. If you find one false, say at which input.
  Laid BY PROGRAM, IN A SANDBOX (cutbox-rows.mjs): the forced cells as the released guide's own fill.sh prints them over the translation 69c0137e06b9bc09… (all of the seat's roots in one cut). By AI agents, Wed Nov 11 2026. No macro, syntax, notation, axiom, sorry.
-/
import Derived.Test.YtncdicagadbafaaChecked
import GoSem.Claim
import GoSem.ClaimJoined
import GoSem.ClaimMapViews
import Derived.JoinedTies
import Derived.KernelRfl
namespace Go.Proofs.Ytncdicagadbafaa
/- THE CELL 'sum', in the pinned program and in every row, IS THE sha256 OF THE DUMP (.gsa) THAT YtncdicagadbafaaProg.lean LOADS. Nothing in Lean hashes anything: it is a label: what it is worth is what the hold of that sum in a sandbox is worth. -/
noncomputable def Try.pinned : Pinned := { name := "ytncdicagadbafaa", sum := "69c0137e06b9bc09b0df912265055b954bb00b3b2a17a52b2b274b1e9549eac2", checked := Try.checked }
namespace Rows
def none {H : Type} : Left H := { results := [], args := [] }

/-- 'clewlaw21.AttrFlags': WHATEVER THE INPUT: true; the input reads as it did. -/
def attrFlagsSpec : ChangeSpec := { name := "attrFlags", fn := fun _ => fun
  | [d1, d2, d3, d4] => { results := [.lit (.bool true)], args := [d1, d2, d3, d4] }
  | _ => none }
def attrFlagsRow : OpenClaim := { program := "ytncdicagadbafaa", sum := "69c0137e06b9bc09b0df912265055b954bb00b3b2a17a52b2b274b1e9549eac2", func := "clew/clewlaw21.AttrFlags", spec := "attrFlags", unfollowed := true, recurses := true, apart := false }
def AttrFlagsSaid : Prop := attrFlagsRow.holds Try.pinned (OpenSpec.ofChange attrFlagsSpec)

/-- ITS FALSE NEIGHBOUR: 'it returns false'. Refute it at one input. -/
def attrFlagsWrong : ChangeSpec := { name := "attrFlags", fn := fun _ => fun
  | [d1, d2, d3, d4] => { results := [.lit (.bool false)], args := [d1, d2, d3, d4] }
  | _ => none }
def AttrFlagsWrongFalsely : Prop := attrFlagsRow.holds Try.pinned (OpenSpec.ofChange attrFlagsWrong)

/-- 'clewlaw21.AttrKeeps': WHATEVER THE INPUT: true; the input reads as it did. -/
def attrKeepsSpec : ChangeSpec := { name := "attrKeeps", fn := fun _ => fun
  | [d1, d2, d3, d4, d5, d6] => { results := [.lit (.bool true)], args := [d1, d2, d3, d4, d5, d6] }
  | _ => none }
def attrKeepsRow : OpenClaim := { program := "ytncdicagadbafaa", sum := "69c0137e06b9bc09b0df912265055b954bb00b3b2a17a52b2b274b1e9549eac2", func := "clew/clewlaw21.AttrKeeps", spec := "attrKeeps", unfollowed := true, recurses := true, apart := false }
def AttrKeepsSaid : Prop := attrKeepsRow.holds Try.pinned (OpenSpec.ofChange attrKeepsSpec)

/-- ITS FALSE NEIGHBOUR: 'it returns false'. Refute it at one input. -/
def attrKeepsWrong : ChangeSpec := { name := "attrKeeps", fn := fun _ => fun
  | [d1, d2, d3, d4, d5, d6] => { results := [.lit (.bool false)], args := [d1, d2, d3, d4, d5, d6] }
  | _ => none }
def AttrKeepsWrongFalsely : Prop := attrKeepsRow.holds Try.pinned (OpenSpec.ofChange attrKeepsWrong)

/-- 'clewlaw21.AttrProps': WHATEVER THE INPUT: true; the input reads as it did. -/
def attrPropsSpec : ChangeSpec := { name := "attrProps", fn := fun _ => fun
  | [d1, d2, d3, d4, d5] => { results := [.lit (.bool true)], args := [d1, d2, d3, d4, d5] }
  | _ => none }
def attrPropsRow : OpenClaim := { program := "ytncdicagadbafaa", sum := "69c0137e06b9bc09b0df912265055b954bb00b3b2a17a52b2b274b1e9549eac2", func := "clew/clewlaw21.AttrProps", spec := "attrProps", unfollowed := true, recurses := true, apart := false }
def AttrPropsSaid : Prop := attrPropsRow.holds Try.pinned (OpenSpec.ofChange attrPropsSpec)

/-- ITS FALSE NEIGHBOUR: 'it returns false'. Refute it at one input. -/
def attrPropsWrong : ChangeSpec := { name := "attrProps", fn := fun _ => fun
  | [d1, d2, d3, d4, d5] => { results := [.lit (.bool false)], args := [d1, d2, d3, d4, d5] }
  | _ => none }
def AttrPropsWrongFalsely : Prop := attrPropsRow.holds Try.pinned (OpenSpec.ofChange attrPropsWrong)

/-- 'clewlaw21.AttrPuts': WHATEVER THE INPUT: true; the input reads as it did. -/
def attrPutsSpec : ChangeSpec := { name := "attrPuts", fn := fun _ => fun
  | [d1, d2, d3, d4, d5, d6, d7] => { results := [.lit (.bool true)], args := [d1, d2, d3, d4, d5, d6, d7] }
  | _ => none }
def attrPutsRow : OpenClaim := { program := "ytncdicagadbafaa", sum := "69c0137e06b9bc09b0df912265055b954bb00b3b2a17a52b2b274b1e9549eac2", func := "clew/clewlaw21.AttrPuts", spec := "attrPuts", unfollowed := true, recurses := true, apart := false }
def AttrPutsSaid : Prop := attrPutsRow.holds Try.pinned (OpenSpec.ofChange attrPutsSpec)

/-- ITS FALSE NEIGHBOUR: 'it returns false'. Refute it at one input. -/
def attrPutsWrong : ChangeSpec := { name := "attrPuts", fn := fun _ => fun
  | [d1, d2, d3, d4, d5, d6, d7] => { results := [.lit (.bool false)], args := [d1, d2, d3, d4, d5, d6, d7] }
  | _ => none }
def AttrPutsWrongFalsely : Prop := attrPutsRow.holds Try.pinned (OpenSpec.ofChange attrPutsWrong)

/-- 'clewlaw20.NestMoves': WHATEVER THE INPUT: true; the input reads as it did. -/
def nestMovesSpec : ChangeSpec := { name := "nestMoves", fn := fun _ => fun
  | [d1, d2, d3] => { results := [.lit (.bool true)], args := [d1, d2, d3] }
  | _ => none }
def nestMovesRow : OpenClaim := { program := "ytncdicagadbafaa", sum := "69c0137e06b9bc09b0df912265055b954bb00b3b2a17a52b2b274b1e9549eac2", func := "clew/clewlaw20.NestMoves", spec := "nestMoves", unfollowed := true, recurses := true, apart := false }
def NestMovesSaid : Prop := nestMovesRow.holds Try.pinned (OpenSpec.ofChange nestMovesSpec)

/-- ITS FALSE NEIGHBOUR: 'it returns false'. Refute it at one input. -/
def nestMovesWrong : ChangeSpec := { name := "nestMoves", fn := fun _ => fun
  | [d1, d2, d3] => { results := [.lit (.bool false)], args := [d1, d2, d3] }
  | _ => none }
def NestMovesWrongFalsely : Prop := nestMovesRow.holds Try.pinned (OpenSpec.ofChange nestMovesWrong)

/-- 'clewlaw20.NestKeeps': WHATEVER THE INPUT: true; the input reads as it did. -/
def nestKeepsSpec : ChangeSpec := { name := "nestKeeps", fn := fun _ => fun
  | [d1, d2] => { results := [.lit (.bool true)], args := [d1, d2] }
  | _ => none }
def nestKeepsRow : OpenClaim := { program := "ytncdicagadbafaa", sum := "69c0137e06b9bc09b0df912265055b954bb00b3b2a17a52b2b274b1e9549eac2", func := "clew/clewlaw20.NestKeeps", spec := "nestKeeps", unfollowed := true, recurses := true, apart := false }
def NestKeepsSaid : Prop := nestKeepsRow.holds Try.pinned (OpenSpec.ofChange nestKeepsSpec)

/-- ITS FALSE NEIGHBOUR: 'it returns false'. Refute it at one input. -/
def nestKeepsWrong : ChangeSpec := { name := "nestKeeps", fn := fun _ => fun
  | [d1, d2] => { results := [.lit (.bool false)], args := [d1, d2] }
  | _ => none }
def NestKeepsWrongFalsely : Prop := nestKeepsRow.holds Try.pinned (OpenSpec.ofChange nestKeepsWrong)

/-- 'clewlaw20.NestTells': WHATEVER THE INPUT: true; the input reads as it did. -/
def nestTellsSpec : ChangeSpec := { name := "nestTells", fn := fun _ => fun
  | [d1, d2, d3] => { results := [.lit (.bool true)], args := [d1, d2, d3] }
  | _ => none }
def nestTellsRow : OpenClaim := { program := "ytncdicagadbafaa", sum := "69c0137e06b9bc09b0df912265055b954bb00b3b2a17a52b2b274b1e9549eac2", func := "clew/clewlaw20.NestTells", spec := "nestTells", unfollowed := true, recurses := true, apart := false }
def NestTellsSaid : Prop := nestTellsRow.holds Try.pinned (OpenSpec.ofChange nestTellsSpec)

/-- ITS FALSE NEIGHBOUR: 'it returns false'. Refute it at one input. -/
def nestTellsWrong : ChangeSpec := { name := "nestTells", fn := fun _ => fun
  | [d1, d2, d3] => { results := [.lit (.bool false)], args := [d1, d2, d3] }
  | _ => none }
def NestTellsWrongFalsely : Prop := nestTellsRow.holds Try.pinned (OpenSpec.ofChange nestTellsWrong)

/-- 'clewlaw20.NestBelow': WHATEVER THE INPUT: true; the input reads as it did. -/
def nestBelowSpec : ChangeSpec := { name := "nestBelow", fn := fun _ => fun
  | [d1, d2] => { results := [.lit (.bool true)], args := [d1, d2] }
  | _ => none }
def nestBelowRow : OpenClaim := { program := "ytncdicagadbafaa", sum := "69c0137e06b9bc09b0df912265055b954bb00b3b2a17a52b2b274b1e9549eac2", func := "clew/clewlaw20.NestBelow", spec := "nestBelow", unfollowed := true, recurses := true, apart := false }
def NestBelowSaid : Prop := nestBelowRow.holds Try.pinned (OpenSpec.ofChange nestBelowSpec)

/-- ITS FALSE NEIGHBOUR: 'it returns false'. Refute it at one input. -/
def nestBelowWrong : ChangeSpec := { name := "nestBelow", fn := fun _ => fun
  | [d1, d2] => { results := [.lit (.bool false)], args := [d1, d2] }
  | _ => none }
def NestBelowWrongFalsely : Prop := nestBelowRow.holds Try.pinned (OpenSpec.ofChange nestBelowWrong)

/-- 'clewlaw25.ValueBins': WHATEVER THE INPUT: true; the input reads as it did. -/
def valueBinsSpec : ChangeSpec := { name := "valueBins", fn := fun _ => fun
  | [d1, d2, d3, d4] => { results := [.lit (.bool true)], args := [d1, d2, d3, d4] }
  | _ => none }
def valueBinsRow : OpenClaim := { program := "ytncdicagadbafaa", sum := "69c0137e06b9bc09b0df912265055b954bb00b3b2a17a52b2b274b1e9549eac2", func := "clew/clewlaw25.ValueBins", spec := "valueBins", unfollowed := true, recurses := true, apart := false }
def ValueBinsSaid : Prop := valueBinsRow.holds Try.pinned (OpenSpec.ofChange valueBinsSpec)

/-- ITS FALSE NEIGHBOUR: 'it returns false'. Refute it at one input. -/
def valueBinsWrong : ChangeSpec := { name := "valueBins", fn := fun _ => fun
  | [d1, d2, d3, d4] => { results := [.lit (.bool false)], args := [d1, d2, d3, d4] }
  | _ => none }
def ValueBinsWrongFalsely : Prop := valueBinsRow.holds Try.pinned (OpenSpec.ofChange valueBinsWrong)

/-- 'clewlaw25.ValueRandom': WHATEVER THE INPUT: true; the input reads as it did. -/
def valueRandomSpec : ChangeSpec := { name := "valueRandom", fn := fun _ => fun
  | [d1, d2] => { results := [.lit (.bool true)], args := [d1, d2] }
  | _ => none }
def valueRandomRow : OpenClaim := { program := "ytncdicagadbafaa", sum := "69c0137e06b9bc09b0df912265055b954bb00b3b2a17a52b2b274b1e9549eac2", func := "clew/clewlaw25.ValueRandom", spec := "valueRandom", unfollowed := true, recurses := true, apart := false }
def ValueRandomSaid : Prop := valueRandomRow.holds Try.pinned (OpenSpec.ofChange valueRandomSpec)

/-- ITS FALSE NEIGHBOUR: 'it returns false'. Refute it at one input. -/
def valueRandomWrong : ChangeSpec := { name := "valueRandom", fn := fun _ => fun
  | [d1, d2] => { results := [.lit (.bool false)], args := [d1, d2] }
  | _ => none }
def ValueRandomWrongFalsely : Prop := valueRandomRow.holds Try.pinned (OpenSpec.ofChange valueRandomWrong)

/-- 'clewlaw25.ValueTruths': WHATEVER THE INPUT: true; the input reads as it did. -/
def valueTruthsSpec : ChangeSpec := { name := "valueTruths", fn := fun _ => fun
  | [d1, d2] => { results := [.lit (.bool true)], args := [d1, d2] }
  | _ => none }
def valueTruthsRow : OpenClaim := { program := "ytncdicagadbafaa", sum := "69c0137e06b9bc09b0df912265055b954bb00b3b2a17a52b2b274b1e9549eac2", func := "clew/clewlaw25.ValueTruths", spec := "valueTruths", unfollowed := true, recurses := true, apart := false }
def ValueTruthsSaid : Prop := valueTruthsRow.holds Try.pinned (OpenSpec.ofChange valueTruthsSpec)

/-- ITS FALSE NEIGHBOUR: 'it returns false'. Refute it at one input. -/
def valueTruthsWrong : ChangeSpec := { name := "valueTruths", fn := fun _ => fun
  | [d1, d2] => { results := [.lit (.bool false)], args := [d1, d2] }
  | _ => none }
def ValueTruthsWrongFalsely : Prop := valueTruthsRow.holds Try.pinned (OpenSpec.ofChange valueTruthsWrong)

/-- 'clewlaw25.ValueWalks': WHATEVER THE INPUT: true; the input reads as it did. -/
def valueWalksSpec : ChangeSpec := { name := "valueWalks", fn := fun _ => fun
  | [d1, d2] => { results := [.lit (.bool true)], args := [d1, d2] }
  | _ => none }
def valueWalksRow : OpenClaim := { program := "ytncdicagadbafaa", sum := "69c0137e06b9bc09b0df912265055b954bb00b3b2a17a52b2b274b1e9549eac2", func := "clew/clewlaw25.ValueWalks", spec := "valueWalks", unfollowed := true, recurses := true, apart := false }
def ValueWalksSaid : Prop := valueWalksRow.holds Try.pinned (OpenSpec.ofChange valueWalksSpec)

/-- ITS FALSE NEIGHBOUR: 'it returns false'. Refute it at one input. -/
def valueWalksWrong : ChangeSpec := { name := "valueWalks", fn := fun _ => fun
  | [d1, d2] => { results := [.lit (.bool false)], args := [d1, d2] }
  | _ => none }
def ValueWalksWrongFalsely : Prop := valueWalksRow.holds Try.pinned (OpenSpec.ofChange valueWalksWrong)

/-- 'clewlaw23.ViewTells': WHATEVER THE INPUT: true; the input reads as it did. -/
def viewTellsSpec : ChangeSpec := { name := "viewTells", fn := fun _ => fun
  | [d] => { results := [.lit (.bool true)], args := [d] }
  | _ => none }
def viewTellsRow : OpenClaim := { program := "ytncdicagadbafaa", sum := "69c0137e06b9bc09b0df912265055b954bb00b3b2a17a52b2b274b1e9549eac2", func := "clew/clewlaw23.ViewTells", spec := "viewTells", unfollowed := true, recurses := true, apart := false }
def ViewTellsSaid : Prop := viewTellsRow.holds Try.pinned (OpenSpec.ofChange viewTellsSpec)

/-- ITS FALSE NEIGHBOUR: 'it returns false'. Refute it at one input. -/
def viewTellsWrong : ChangeSpec := { name := "viewTells", fn := fun _ => fun
  | [d] => { results := [.lit (.bool false)], args := [d] }
  | _ => none }
def ViewTellsWrongFalsely : Prop := viewTellsRow.holds Try.pinned (OpenSpec.ofChange viewTellsWrong)

/-- 'clewlaw23.ViewSees': WHATEVER THE INPUT: true; the input reads as it did. -/
def viewSeesSpec : ChangeSpec := { name := "viewSees", fn := fun _ => fun
  | [d1, d2] => { results := [.lit (.bool true)], args := [d1, d2] }
  | _ => none }
def viewSeesRow : OpenClaim := { program := "ytncdicagadbafaa", sum := "69c0137e06b9bc09b0df912265055b954bb00b3b2a17a52b2b274b1e9549eac2", func := "clew/clewlaw23.ViewSees", spec := "viewSees", unfollowed := true, recurses := true, apart := false }
def ViewSeesSaid : Prop := viewSeesRow.holds Try.pinned (OpenSpec.ofChange viewSeesSpec)

/-- ITS FALSE NEIGHBOUR: 'it returns false'. Refute it at one input. -/
def viewSeesWrong : ChangeSpec := { name := "viewSees", fn := fun _ => fun
  | [d1, d2] => { results := [.lit (.bool false)], args := [d1, d2] }
  | _ => none }
def ViewSeesWrongFalsely : Prop := viewSeesRow.holds Try.pinned (OpenSpec.ofChange viewSeesWrong)

/-- 'clewlaw23.ViewOnce': WHATEVER THE INPUT: true; the input reads as it did. -/
def viewOnceSpec : ChangeSpec := { name := "viewOnce", fn := fun _ => fun
  | [d] => { results := [.lit (.bool true)], args := [d] }
  | _ => none }
def viewOnceRow : OpenClaim := { program := "ytncdicagadbafaa", sum := "69c0137e06b9bc09b0df912265055b954bb00b3b2a17a52b2b274b1e9549eac2", func := "clew/clewlaw23.ViewOnce", spec := "viewOnce", unfollowed := true, recurses := true, apart := false }
def ViewOnceSaid : Prop := viewOnceRow.holds Try.pinned (OpenSpec.ofChange viewOnceSpec)

/-- ITS FALSE NEIGHBOUR: 'it returns false'. Refute it at one input. -/
def viewOnceWrong : ChangeSpec := { name := "viewOnce", fn := fun _ => fun
  | [d] => { results := [.lit (.bool false)], args := [d] }
  | _ => none }
def ViewOnceWrongFalsely : Prop := viewOnceRow.holds Try.pinned (OpenSpec.ofChange viewOnceWrong)

/-- 'clewlaw23.ViewWays': WHATEVER THE INPUT: true; the input reads as it did. -/
def viewWaysSpec : ChangeSpec := { name := "viewWays", fn := fun _ => fun
  | [d] => { results := [.lit (.bool true)], args := [d] }
  | _ => none }
def viewWaysRow : OpenClaim := { program := "ytncdicagadbafaa", sum := "69c0137e06b9bc09b0df912265055b954bb00b3b2a17a52b2b274b1e9549eac2", func := "clew/clewlaw23.ViewWays", spec := "viewWays", unfollowed := true, recurses := true, apart := false }
def ViewWaysSaid : Prop := viewWaysRow.holds Try.pinned (OpenSpec.ofChange viewWaysSpec)

/-- ITS FALSE NEIGHBOUR: 'it returns false'. Refute it at one input. -/
def viewWaysWrong : ChangeSpec := { name := "viewWays", fn := fun _ => fun
  | [d] => { results := [.lit (.bool false)], args := [d] }
  | _ => none }
def ViewWaysWrongFalsely : Prop := viewWaysRow.holds Try.pinned (OpenSpec.ofChange viewWaysWrong)

/-- 'clewlaw23.ViewOpens': WHATEVER THE INPUT: true; the input reads as it did. -/
def viewOpensSpec : ChangeSpec := { name := "viewOpens", fn := fun _ => fun
  | [d] => { results := [.lit (.bool true)], args := [d] }
  | _ => none }
def viewOpensRow : OpenClaim := { program := "ytncdicagadbafaa", sum := "69c0137e06b9bc09b0df912265055b954bb00b3b2a17a52b2b274b1e9549eac2", func := "clew/clewlaw23.ViewOpens", spec := "viewOpens", unfollowed := true, recurses := true, apart := false }
def ViewOpensSaid : Prop := viewOpensRow.holds Try.pinned (OpenSpec.ofChange viewOpensSpec)

/-- ITS FALSE NEIGHBOUR: 'it returns false'. Refute it at one input. -/
def viewOpensWrong : ChangeSpec := { name := "viewOpens", fn := fun _ => fun
  | [d] => { results := [.lit (.bool false)], args := [d] }
  | _ => none }
def ViewOpensWrongFalsely : Prop := viewOpensRow.holds Try.pinned (OpenSpec.ofChange viewOpensWrong)

/-- 'clewlaw20.NestRight': WHATEVER THE INPUT: true; the input reads as it did. -/
def nestRightSpec : ChangeSpec := { name := "nestRight", fn := fun _ => fun
  | [d] => { results := [.lit (.bool true)], args := [d] }
  | _ => none }
def nestRightRow : OpenClaim := { program := "ytncdicagadbafaa", sum := "69c0137e06b9bc09b0df912265055b954bb00b3b2a17a52b2b274b1e9549eac2", func := "clew/clewlaw20.NestRight", spec := "nestRight", unfollowed := true, recurses := true, apart := false }
def NestRightSaid : Prop := nestRightRow.holds Try.pinned (OpenSpec.ofChange nestRightSpec)

/-- ITS FALSE NEIGHBOUR: 'it returns false'. Refute it at one input. -/
def nestRightWrong : ChangeSpec := { name := "nestRight", fn := fun _ => fun
  | [d] => { results := [.lit (.bool false)], args := [d] }
  | _ => none }
def NestRightWrongFalsely : Prop := nestRightRow.holds Try.pinned (OpenSpec.ofChange nestRightWrong)

/-- 'clewlaw25.ValueAsks': WHATEVER THE INPUT: true; the input reads as it did. -/
def valueAsksSpec : ChangeSpec := { name := "valueAsks", fn := fun _ => fun
  | [d1, d2, d3, d4] => { results := [.lit (.bool true)], args := [d1, d2, d3, d4] }
  | _ => none }
def valueAsksRow : OpenClaim := { program := "ytncdicagadbafaa", sum := "69c0137e06b9bc09b0df912265055b954bb00b3b2a17a52b2b274b1e9549eac2", func := "clew/clewlaw25.ValueAsks", spec := "valueAsks", unfollowed := true, recurses := true, apart := false }
def ValueAsksSaid : Prop := valueAsksRow.holds Try.pinned (OpenSpec.ofChange valueAsksSpec)

/-- ITS FALSE NEIGHBOUR: 'it returns false'. Refute it at one input. -/
def valueAsksWrong : ChangeSpec := { name := "valueAsks", fn := fun _ => fun
  | [d1, d2, d3, d4] => { results := [.lit (.bool false)], args := [d1, d2, d3, d4] }
  | _ => none }
def ValueAsksWrongFalsely : Prop := valueAsksRow.holds Try.pinned (OpenSpec.ofChange valueAsksWrong)

/- THE SECOND FORM. 'bulk': how many values and letters a reading holds, each counted each time it is reached (what is shared counts as often as it is met; a slice's spare places count too). A statement '..UptoSaid' is the law's where the arguments, and the package variables that the reading takes, are together of bulk at most 1048576: NARROWER than '..Said'. Prove '..Said' where nothing that the law and all that it calls make is longer than what came in: it says more and counts as full. Else prove '..UptoSaid'. A law counts once. -/
mutual
def uptoBulk {H : Type} : DataW H → Nat
  | .lit (.string bytes) => bytes.length + 1
  | .lit _ => 1
  | .nil => 1
  | .ptr d => uptoBulk d + 1
  | .slice elems spare => uptoBulkAll elems + uptoBulkAll spare + 1
  | .agg parts => uptoBulkAll parts + 1
  | .iface _ d => uptoBulk d + 1
  | .map entries => uptoBulkEntries entries + 1
  | .held _ => 1
def uptoBulkAll {H : Type} : List (DataW H) → Nat
  | [] => 0
  | d :: r => uptoBulk d + uptoBulkAll r
def uptoBulkEntries {H : Type} : List (Lit × DataW H) → Nat
  | [] => 0
  | x :: r => uptoBulkEntry x + uptoBulkEntries r
def uptoBulkEntry {H : Type} : Lit × DataW H → Nat
  | (.string bytes, d) => bytes.length + uptoBulk d + 1
  | (_, d) => uptoBulk d + 1
 end
def uptoSmall : (H : Type) → List (DataW H) → Bool := fun _ ds => decide (uptoBulkAll ds ≤ 1048576)
def OpenSpec.upto (s : _root_.Go.ChangeSpec) : _root_.Go.OpenSpec := { _root_.Go.OpenSpec.ofChange s with cond := some uptoSmall }

/-- 'clewlaw21.AttrFlags', WHERE WHAT IT READS IS OF BULK AT MOST 1048576: true; the input reads as it did. -/
def attrFlagsUptoRow : OpenClaim := { program := "ytncdicagadbafaa", sum := "69c0137e06b9bc09b0df912265055b954bb00b3b2a17a52b2b274b1e9549eac2", func := "clew/clewlaw21.AttrFlags", spec := "attrFlags", unfollowed := true, recurses := true, apart := false, narrowed := true }
def AttrFlagsUptoSaid : Prop := attrFlagsUptoRow.holds Try.pinned (OpenSpec.upto attrFlagsSpec)

/-- 'clewlaw21.AttrKeeps', WHERE WHAT IT READS IS OF BULK AT MOST 1048576: true; the input reads as it did. -/
def attrKeepsUptoRow : OpenClaim := { program := "ytncdicagadbafaa", sum := "69c0137e06b9bc09b0df912265055b954bb00b3b2a17a52b2b274b1e9549eac2", func := "clew/clewlaw21.AttrKeeps", spec := "attrKeeps", unfollowed := true, recurses := true, apart := false, narrowed := true }
def AttrKeepsUptoSaid : Prop := attrKeepsUptoRow.holds Try.pinned (OpenSpec.upto attrKeepsSpec)

/-- 'clewlaw21.AttrProps', WHERE WHAT IT READS IS OF BULK AT MOST 1048576: true; the input reads as it did. -/
def attrPropsUptoRow : OpenClaim := { program := "ytncdicagadbafaa", sum := "69c0137e06b9bc09b0df912265055b954bb00b3b2a17a52b2b274b1e9549eac2", func := "clew/clewlaw21.AttrProps", spec := "attrProps", unfollowed := true, recurses := true, apart := false, narrowed := true }
def AttrPropsUptoSaid : Prop := attrPropsUptoRow.holds Try.pinned (OpenSpec.upto attrPropsSpec)

/-- 'clewlaw21.AttrPuts', WHERE WHAT IT READS IS OF BULK AT MOST 1048576: true; the input reads as it did. -/
def attrPutsUptoRow : OpenClaim := { program := "ytncdicagadbafaa", sum := "69c0137e06b9bc09b0df912265055b954bb00b3b2a17a52b2b274b1e9549eac2", func := "clew/clewlaw21.AttrPuts", spec := "attrPuts", unfollowed := true, recurses := true, apart := false, narrowed := true }
def AttrPutsUptoSaid : Prop := attrPutsUptoRow.holds Try.pinned (OpenSpec.upto attrPutsSpec)

/-- 'clewlaw20.NestMoves', WHERE WHAT IT READS IS OF BULK AT MOST 1048576: true; the input reads as it did. -/
def nestMovesUptoRow : OpenClaim := { program := "ytncdicagadbafaa", sum := "69c0137e06b9bc09b0df912265055b954bb00b3b2a17a52b2b274b1e9549eac2", func := "clew/clewlaw20.NestMoves", spec := "nestMoves", unfollowed := true, recurses := true, apart := false, narrowed := true }
def NestMovesUptoSaid : Prop := nestMovesUptoRow.holds Try.pinned (OpenSpec.upto nestMovesSpec)

/-- 'clewlaw20.NestKeeps', WHERE WHAT IT READS IS OF BULK AT MOST 1048576: true; the input reads as it did. -/
def nestKeepsUptoRow : OpenClaim := { program := "ytncdicagadbafaa", sum := "69c0137e06b9bc09b0df912265055b954bb00b3b2a17a52b2b274b1e9549eac2", func := "clew/clewlaw20.NestKeeps", spec := "nestKeeps", unfollowed := true, recurses := true, apart := false, narrowed := true }
def NestKeepsUptoSaid : Prop := nestKeepsUptoRow.holds Try.pinned (OpenSpec.upto nestKeepsSpec)

/-- 'clewlaw20.NestTells', WHERE WHAT IT READS IS OF BULK AT MOST 1048576: true; the input reads as it did. -/
def nestTellsUptoRow : OpenClaim := { program := "ytncdicagadbafaa", sum := "69c0137e06b9bc09b0df912265055b954bb00b3b2a17a52b2b274b1e9549eac2", func := "clew/clewlaw20.NestTells", spec := "nestTells", unfollowed := true, recurses := true, apart := false, narrowed := true }
def NestTellsUptoSaid : Prop := nestTellsUptoRow.holds Try.pinned (OpenSpec.upto nestTellsSpec)

/-- 'clewlaw20.NestBelow', WHERE WHAT IT READS IS OF BULK AT MOST 1048576: true; the input reads as it did. -/
def nestBelowUptoRow : OpenClaim := { program := "ytncdicagadbafaa", sum := "69c0137e06b9bc09b0df912265055b954bb00b3b2a17a52b2b274b1e9549eac2", func := "clew/clewlaw20.NestBelow", spec := "nestBelow", unfollowed := true, recurses := true, apart := false, narrowed := true }
def NestBelowUptoSaid : Prop := nestBelowUptoRow.holds Try.pinned (OpenSpec.upto nestBelowSpec)

/-- 'clewlaw25.ValueBins', WHERE WHAT IT READS IS OF BULK AT MOST 1048576: true; the input reads as it did. -/
def valueBinsUptoRow : OpenClaim := { program := "ytncdicagadbafaa", sum := "69c0137e06b9bc09b0df912265055b954bb00b3b2a17a52b2b274b1e9549eac2", func := "clew/clewlaw25.ValueBins", spec := "valueBins", unfollowed := true, recurses := true, apart := false, narrowed := true }
def ValueBinsUptoSaid : Prop := valueBinsUptoRow.holds Try.pinned (OpenSpec.upto valueBinsSpec)

/-- 'clewlaw25.ValueRandom', WHERE WHAT IT READS IS OF BULK AT MOST 1048576: true; the input reads as it did. -/
def valueRandomUptoRow : OpenClaim := { program := "ytncdicagadbafaa", sum := "69c0137e06b9bc09b0df912265055b954bb00b3b2a17a52b2b274b1e9549eac2", func := "clew/clewlaw25.ValueRandom", spec := "valueRandom", unfollowed := true, recurses := true, apart := false, narrowed := true }
def ValueRandomUptoSaid : Prop := valueRandomUptoRow.holds Try.pinned (OpenSpec.upto valueRandomSpec)

/-- 'clewlaw25.ValueTruths', WHERE WHAT IT READS IS OF BULK AT MOST 1048576: true; the input reads as it did. -/
def valueTruthsUptoRow : OpenClaim := { program := "ytncdicagadbafaa", sum := "69c0137e06b9bc09b0df912265055b954bb00b3b2a17a52b2b274b1e9549eac2", func := "clew/clewlaw25.ValueTruths", spec := "valueTruths", unfollowed := true, recurses := true, apart := false, narrowed := true }
def ValueTruthsUptoSaid : Prop := valueTruthsUptoRow.holds Try.pinned (OpenSpec.upto valueTruthsSpec)

/-- 'clewlaw25.ValueWalks', WHERE WHAT IT READS IS OF BULK AT MOST 1048576: true; the input reads as it did. -/
def valueWalksUptoRow : OpenClaim := { program := "ytncdicagadbafaa", sum := "69c0137e06b9bc09b0df912265055b954bb00b3b2a17a52b2b274b1e9549eac2", func := "clew/clewlaw25.ValueWalks", spec := "valueWalks", unfollowed := true, recurses := true, apart := false, narrowed := true }
def ValueWalksUptoSaid : Prop := valueWalksUptoRow.holds Try.pinned (OpenSpec.upto valueWalksSpec)

/-- 'clewlaw23.ViewTells', WHERE WHAT IT READS IS OF BULK AT MOST 1048576: true; the input reads as it did. -/
def viewTellsUptoRow : OpenClaim := { program := "ytncdicagadbafaa", sum := "69c0137e06b9bc09b0df912265055b954bb00b3b2a17a52b2b274b1e9549eac2", func := "clew/clewlaw23.ViewTells", spec := "viewTells", unfollowed := true, recurses := true, apart := false, narrowed := true }
def ViewTellsUptoSaid : Prop := viewTellsUptoRow.holds Try.pinned (OpenSpec.upto viewTellsSpec)

/-- 'clewlaw23.ViewSees', WHERE WHAT IT READS IS OF BULK AT MOST 1048576: true; the input reads as it did. -/
def viewSeesUptoRow : OpenClaim := { program := "ytncdicagadbafaa", sum := "69c0137e06b9bc09b0df912265055b954bb00b3b2a17a52b2b274b1e9549eac2", func := "clew/clewlaw23.ViewSees", spec := "viewSees", unfollowed := true, recurses := true, apart := false, narrowed := true }
def ViewSeesUptoSaid : Prop := viewSeesUptoRow.holds Try.pinned (OpenSpec.upto viewSeesSpec)

/-- 'clewlaw23.ViewOnce', WHERE WHAT IT READS IS OF BULK AT MOST 1048576: true; the input reads as it did. -/
def viewOnceUptoRow : OpenClaim := { program := "ytncdicagadbafaa", sum := "69c0137e06b9bc09b0df912265055b954bb00b3b2a17a52b2b274b1e9549eac2", func := "clew/clewlaw23.ViewOnce", spec := "viewOnce", unfollowed := true, recurses := true, apart := false, narrowed := true }
def ViewOnceUptoSaid : Prop := viewOnceUptoRow.holds Try.pinned (OpenSpec.upto viewOnceSpec)

/-- 'clewlaw23.ViewWays', WHERE WHAT IT READS IS OF BULK AT MOST 1048576: true; the input reads as it did. -/
def viewWaysUptoRow : OpenClaim := { program := "ytncdicagadbafaa", sum := "69c0137e06b9bc09b0df912265055b954bb00b3b2a17a52b2b274b1e9549eac2", func := "clew/clewlaw23.ViewWays", spec := "viewWays", unfollowed := true, recurses := true, apart := false, narrowed := true }
def ViewWaysUptoSaid : Prop := viewWaysUptoRow.holds Try.pinned (OpenSpec.upto viewWaysSpec)

/-- 'clewlaw23.ViewOpens', WHERE WHAT IT READS IS OF BULK AT MOST 1048576: true; the input reads as it did. -/
def viewOpensUptoRow : OpenClaim := { program := "ytncdicagadbafaa", sum := "69c0137e06b9bc09b0df912265055b954bb00b3b2a17a52b2b274b1e9549eac2", func := "clew/clewlaw23.ViewOpens", spec := "viewOpens", unfollowed := true, recurses := true, apart := false, narrowed := true }
def ViewOpensUptoSaid : Prop := viewOpensUptoRow.holds Try.pinned (OpenSpec.upto viewOpensSpec)

/-- 'clewlaw20.NestRight', WHERE WHAT IT READS IS OF BULK AT MOST 1048576: true; the input reads as it did. -/
def nestRightUptoRow : OpenClaim := { program := "ytncdicagadbafaa", sum := "69c0137e06b9bc09b0df912265055b954bb00b3b2a17a52b2b274b1e9549eac2", func := "clew/clewlaw20.NestRight", spec := "nestRight", unfollowed := true, recurses := true, apart := false, narrowed := true }
def NestRightUptoSaid : Prop := nestRightUptoRow.holds Try.pinned (OpenSpec.upto nestRightSpec)

/-- 'clewlaw25.ValueAsks', WHERE WHAT IT READS IS OF BULK AT MOST 1048576: true; the input reads as it did. -/
def valueAsksUptoRow : OpenClaim := { program := "ytncdicagadbafaa", sum := "69c0137e06b9bc09b0df912265055b954bb00b3b2a17a52b2b274b1e9549eac2", func := "clew/clewlaw25.ValueAsks", spec := "valueAsks", unfollowed := true, recurses := true, apart := false, narrowed := true }
def ValueAsksUptoSaid : Prop := valueAsksUptoRow.holds Try.pinned (OpenSpec.upto valueAsksSpec)

end Rows
end Go.Proofs.Ytncdicagadbafaa
