/-
  No cell of these rows narrows 'for every input' (looked for: loops, veiled, ifaces, maps, wideKeys, modest, calm, conditions, laid).
  DERIVED. THE GIVEN ROWS OF THIS SEAT. 4 by the template 'for every input the law returns true; each argument reads behind the call as it read before'; 0 by the template 'total and deterministic' (their statements: YtpbhlphemkdljaaTotals.lean).
  GIVEN WITH THE SEED: the statements are not yours to turn. If you find one false, say at which input.
  Laid BY PROGRAM, IN A SANDBOX (cutbox-rows.mjs): the forced cells as the released guide's own fill.sh prints them over the translation 22c69332a67917f5… (all of the seat's roots in one cut). By AI agents, Wed Nov 11 2026. No macro, syntax, notation, axiom, sorry.
-/
import Derived.Test.YtpbhlphemkdljaaChecked
import GoSem.Claim
import GoSem.ClaimJoined
import GoSem.ClaimMapViews
import Derived.JoinedTies
import Derived.KernelRfl
namespace Go.Proofs.Ytpbhlphemkdljaa
/- THE CELL 'sum', in the pinned program and in every row, IS THE sha256 OF THE DUMP (.gsa) THAT YtpbhlphemkdljaaProg.lean LOADS. Nothing in Lean hashes anything: it is a label: what it is worth is what the hold of that sum in a sandbox is worth. -/
noncomputable def Try.pinned : Pinned := { name := "ytpbhlphemkdljaa", sum := "22c69332a67917f5ebd82177c9a8c671e1750a9fb8aced82de8392088080bc4a", checked := Try.checked }
namespace Rows
def none {H : Type} : Left H := { results := [], args := [] }

/-- 'clewlaw39.RuleFits': WHATEVER THE INPUT: true; the input reads as it did. -/
def ruleFitsSpec : ChangeSpec := { name := "ruleFits", fn := fun _ => fun
  | [d1, d2, d3] => { results := [.lit (.bool true)], args := [d1, d2, d3] }
  | _ => none }
def ruleFitsRow : OpenClaim := { program := "ytpbhlphemkdljaa", sum := "22c69332a67917f5ebd82177c9a8c671e1750a9fb8aced82de8392088080bc4a", func := "clew/clewlaw39.RuleFits", spec := "ruleFits", unfollowed := true, recurses := true, apart := false }
def RuleFitsSaid : Prop := ruleFitsRow.holds Try.pinned (OpenSpec.ofChange ruleFitsSpec)

/-- ITS FALSE NEIGHBOUR: 'it returns false'. Refute it at one input. -/
def ruleFitsWrong : ChangeSpec := { name := "ruleFits", fn := fun _ => fun
  | [d1, d2, d3] => { results := [.lit (.bool false)], args := [d1, d2, d3] }
  | _ => none }
def RuleFitsWrongFalsely : Prop := ruleFitsRow.holds Try.pinned (OpenSpec.ofChange ruleFitsWrong)

/-- 'clewlaw39.RuleOrder': WHATEVER THE INPUT: true; the input reads as it did. -/
def ruleOrderSpec : ChangeSpec := { name := "ruleOrder", fn := fun _ => fun
  | [d1, d2, d3] => { results := [.lit (.bool true)], args := [d1, d2, d3] }
  | _ => none }
def ruleOrderRow : OpenClaim := { program := "ytpbhlphemkdljaa", sum := "22c69332a67917f5ebd82177c9a8c671e1750a9fb8aced82de8392088080bc4a", func := "clew/clewlaw39.RuleOrder", spec := "ruleOrder", unfollowed := true, recurses := true, apart := false }
def RuleOrderSaid : Prop := ruleOrderRow.holds Try.pinned (OpenSpec.ofChange ruleOrderSpec)

/-- ITS FALSE NEIGHBOUR: 'it returns false'. Refute it at one input. -/
def ruleOrderWrong : ChangeSpec := { name := "ruleOrder", fn := fun _ => fun
  | [d1, d2, d3] => { results := [.lit (.bool false)], args := [d1, d2, d3] }
  | _ => none }
def RuleOrderWrongFalsely : Prop := ruleOrderRow.holds Try.pinned (OpenSpec.ofChange ruleOrderWrong)

/-- 'clewlaw39.RuleOnce': WHATEVER THE INPUT: true; the input reads as it did. -/
def ruleOnceSpec : ChangeSpec := { name := "ruleOnce", fn := fun _ => fun
  | [d1, d2, d3] => { results := [.lit (.bool true)], args := [d1, d2, d3] }
  | _ => none }
def ruleOnceRow : OpenClaim := { program := "ytpbhlphemkdljaa", sum := "22c69332a67917f5ebd82177c9a8c671e1750a9fb8aced82de8392088080bc4a", func := "clew/clewlaw39.RuleOnce", spec := "ruleOnce", unfollowed := true, recurses := true, apart := false }
def RuleOnceSaid : Prop := ruleOnceRow.holds Try.pinned (OpenSpec.ofChange ruleOnceSpec)

/-- ITS FALSE NEIGHBOUR: 'it returns false'. Refute it at one input. -/
def ruleOnceWrong : ChangeSpec := { name := "ruleOnce", fn := fun _ => fun
  | [d1, d2, d3] => { results := [.lit (.bool false)], args := [d1, d2, d3] }
  | _ => none }
def RuleOnceWrongFalsely : Prop := ruleOnceRow.holds Try.pinned (OpenSpec.ofChange ruleOnceWrong)

/-- 'clewlaw39.RuleParts': WHATEVER THE INPUT: true; the input reads as it did. -/
def rulePartsSpec : ChangeSpec := { name := "ruleParts", fn := fun _ => fun
  | [d1, d2, d3, d4] => { results := [.lit (.bool true)], args := [d1, d2, d3, d4] }
  | _ => none }
def rulePartsRow : OpenClaim := { program := "ytpbhlphemkdljaa", sum := "22c69332a67917f5ebd82177c9a8c671e1750a9fb8aced82de8392088080bc4a", func := "clew/clewlaw39.RuleParts", spec := "ruleParts", unfollowed := true, recurses := true, apart := false }
def RulePartsSaid : Prop := rulePartsRow.holds Try.pinned (OpenSpec.ofChange rulePartsSpec)

/-- ITS FALSE NEIGHBOUR: 'it returns false'. Refute it at one input. -/
def rulePartsWrong : ChangeSpec := { name := "ruleParts", fn := fun _ => fun
  | [d1, d2, d3, d4] => { results := [.lit (.bool false)], args := [d1, d2, d3, d4] }
  | _ => none }
def RulePartsWrongFalsely : Prop := rulePartsRow.holds Try.pinned (OpenSpec.ofChange rulePartsWrong)

/- THE SECOND FORM. 'bulk': how many values and letters a reading holds, each counted each time it is reached (what is shared counts as often as it is met; a slice's spare places count too). A statement '..UptoSaid' is the law's where the arguments, and the package variables that the reading takes, are together of bulk at most 1048576: NARROWER than '..Said'. Prove '..Said' where nothing that the law and all that it calls make is longer than what came in: it says more and counts as full. Else prove '..UptoSaid'. A law counts once. -/
mutual
def uptoBulk {H : Type} : DataW H → Nat
  | .lit (.string bytes) => bytes.length + 1
  | .lit _ => 1
  | .nil => 1
  | .ptr d => uptoBulk d + 1
  | .slice elems spare => uptoBulkAll elems + uptoBulkAll spare + 1
  | .agg parts => uptoBulkAll parts + 1
  | .iface _ d => uptoBulk d + 1
  | .map entries => uptoBulkEntries entries + 1
  | .held _ => 1
def uptoBulkAll {H : Type} : List (DataW H) → Nat
  | [] => 0
  | d :: r => uptoBulk d + uptoBulkAll r
def uptoBulkEntries {H : Type} : List (Lit × DataW H) → Nat
  | [] => 0
  | x :: r => uptoBulkEntry x + uptoBulkEntries r
def uptoBulkEntry {H : Type} : Lit × DataW H → Nat
  | (.string bytes, d) => bytes.length + uptoBulk d + 1
  | (_, d) => uptoBulk d + 1
 end
def uptoSmall : (H : Type) → List (DataW H) → Bool := fun _ ds => decide (uptoBulkAll ds ≤ 1048576)
def OpenSpec.upto (s : _root_.Go.ChangeSpec) : _root_.Go.OpenSpec := { _root_.Go.OpenSpec.ofChange s with cond := some uptoSmall }

/-- 'clewlaw39.RuleFits', WHERE WHAT IT READS IS OF BULK AT MOST 1048576: true; the input reads as it did. -/
def ruleFitsUptoRow : OpenClaim := { program := "ytpbhlphemkdljaa", sum := "22c69332a67917f5ebd82177c9a8c671e1750a9fb8aced82de8392088080bc4a", func := "clew/clewlaw39.RuleFits", spec := "ruleFits", unfollowed := true, recurses := true, apart := false, narrowed := true }
def RuleFitsUptoSaid : Prop := ruleFitsUptoRow.holds Try.pinned (OpenSpec.upto ruleFitsSpec)

/-- 'clewlaw39.RuleOrder', WHERE WHAT IT READS IS OF BULK AT MOST 1048576: true; the input reads as it did. -/
def ruleOrderUptoRow : OpenClaim := { program := "ytpbhlphemkdljaa", sum := "22c69332a67917f5ebd82177c9a8c671e1750a9fb8aced82de8392088080bc4a", func := "clew/clewlaw39.RuleOrder", spec := "ruleOrder", unfollowed := true, recurses := true, apart := false, narrowed := true }
def RuleOrderUptoSaid : Prop := ruleOrderUptoRow.holds Try.pinned (OpenSpec.upto ruleOrderSpec)

/-- 'clewlaw39.RuleOnce', WHERE WHAT IT READS IS OF BULK AT MOST 1048576: true; the input reads as it did. -/
def ruleOnceUptoRow : OpenClaim := { program := "ytpbhlphemkdljaa", sum := "22c69332a67917f5ebd82177c9a8c671e1750a9fb8aced82de8392088080bc4a", func := "clew/clewlaw39.RuleOnce", spec := "ruleOnce", unfollowed := true, recurses := true, apart := false, narrowed := true }
def RuleOnceUptoSaid : Prop := ruleOnceUptoRow.holds Try.pinned (OpenSpec.upto ruleOnceSpec)

/-- 'clewlaw39.RuleParts', WHERE WHAT IT READS IS OF BULK AT MOST 1048576: true; the input reads as it did. -/
def rulePartsUptoRow : OpenClaim := { program := "ytpbhlphemkdljaa", sum := "22c69332a67917f5ebd82177c9a8c671e1750a9fb8aced82de8392088080bc4a", func := "clew/clewlaw39.RuleParts", spec := "ruleParts", unfollowed := true, recurses := true, apart := false, narrowed := true }
def RulePartsUptoSaid : Prop := rulePartsUptoRow.holds Try.pinned (OpenSpec.upto rulePartsSpec)

end Rows
end Go.Proofs.Ytpbhlphemkdljaa
