/-
  No cell of these rows narrows 'for every input' (looked for: loops, veiled, ifaces, maps, wideKeys, modest, calm, conditions, laid).
  DERIVED. THE GIVEN ROWS OF THIS SEAT. 4 by the template 'for every input the law returns true; each argument reads behind the call as it read before'; 0 by the template 'total and deterministic' (their statements: YtmilnfboglhdgaaTotals.lean).
  GIVEN WITH THE SEED: the statements are not yours to turn. If you find one false, say at which input.
  Laid BY PROGRAM, IN A SANDBOX (cutbox-rows.mjs): the forced cells as the released guide's own fill.sh prints them over the translation cd831e9e452e5af0… (all of the seat's roots in one cut). By AI agents, Wed Nov 11 2026. No macro, syntax, notation, axiom, sorry.
-/
import Derived.Test.YtmilnfboglhdgaaChecked
import GoSem.Claim
import GoSem.ClaimJoined
import GoSem.ClaimMapViews
import Derived.JoinedTies
import Derived.KernelRfl
namespace Go.Proofs.Ytmilnfboglhdgaa
/- THE CELL 'sum', in the pinned program and in every row, IS THE sha256 OF THE DUMP (.gsa) THAT YtmilnfboglhdgaaProg.lean LOADS. Nothing in Lean hashes anything: it is a label: what it is worth is what the hold of that sum in a sandbox is worth. -/
noncomputable def Try.pinned : Pinned := { name := "ytmilnfboglhdgaa", sum := "cd831e9e452e5af031bfa2cfb9bf5afff65c7c9ff6c5ce4bab4c50e52689b970", checked := Try.checked }
namespace Rows
def none {H : Type} : Left H := { results := [], args := [] }

/-- 'clewlaw29.PeepOnce': WHATEVER THE INPUT: true; the input reads as it did. -/
def peepOnceSpec : ChangeSpec := { name := "peepOnce", fn := fun _ => fun
  | [d] => { results := [.lit (.bool true)], args := [d] }
  | _ => none }
def peepOnceRow : OpenClaim := { program := "ytmilnfboglhdgaa", sum := "cd831e9e452e5af031bfa2cfb9bf5afff65c7c9ff6c5ce4bab4c50e52689b970", func := "clew/clewlaw29.PeepOnce", spec := "peepOnce", unfollowed := true, recurses := true, apart := false }
def PeepOnceSaid : Prop := peepOnceRow.holds Try.pinned (OpenSpec.ofChange peepOnceSpec)

/-- ITS FALSE NEIGHBOUR: 'it returns false'. Refute it at one input. -/
def peepOnceWrong : ChangeSpec := { name := "peepOnce", fn := fun _ => fun
  | [d] => { results := [.lit (.bool false)], args := [d] }
  | _ => none }
def PeepOnceWrongFalsely : Prop := peepOnceRow.holds Try.pinned (OpenSpec.ofChange peepOnceWrong)

/-- 'clewlaw29.PeepAll': WHATEVER THE INPUT: true; the input reads as it did. -/
def peepAllSpec : ChangeSpec := { name := "peepAll", fn := fun _ => fun
  | [d] => { results := [.lit (.bool true)], args := [d] }
  | _ => none }
def peepAllRow : OpenClaim := { program := "ytmilnfboglhdgaa", sum := "cd831e9e452e5af031bfa2cfb9bf5afff65c7c9ff6c5ce4bab4c50e52689b970", func := "clew/clewlaw29.PeepAll", spec := "peepAll", unfollowed := true, recurses := true, apart := false }
def PeepAllSaid : Prop := peepAllRow.holds Try.pinned (OpenSpec.ofChange peepAllSpec)

/-- ITS FALSE NEIGHBOUR: 'it returns false'. Refute it at one input. -/
def peepAllWrong : ChangeSpec := { name := "peepAll", fn := fun _ => fun
  | [d] => { results := [.lit (.bool false)], args := [d] }
  | _ => none }
def PeepAllWrongFalsely : Prop := peepAllRow.holds Try.pinned (OpenSpec.ofChange peepAllWrong)

/-- 'clewlaw29.PeepLess': WHATEVER THE INPUT: true; the input reads as it did. -/
def peepLessSpec : ChangeSpec := { name := "peepLess", fn := fun _ => fun
  | [d] => { results := [.lit (.bool true)], args := [d] }
  | _ => none }
def peepLessRow : OpenClaim := { program := "ytmilnfboglhdgaa", sum := "cd831e9e452e5af031bfa2cfb9bf5afff65c7c9ff6c5ce4bab4c50e52689b970", func := "clew/clewlaw29.PeepLess", spec := "peepLess", unfollowed := true, recurses := true, apart := false }
def PeepLessSaid : Prop := peepLessRow.holds Try.pinned (OpenSpec.ofChange peepLessSpec)

/-- ITS FALSE NEIGHBOUR: 'it returns false'. Refute it at one input. -/
def peepLessWrong : ChangeSpec := { name := "peepLess", fn := fun _ => fun
  | [d] => { results := [.lit (.bool false)], args := [d] }
  | _ => none }
def PeepLessWrongFalsely : Prop := peepLessRow.holds Try.pinned (OpenSpec.ofChange peepLessWrong)

/-- 'clewlaw29.PeepTicks': WHATEVER THE INPUT: true; the input reads as it did. -/
def peepTicksSpec : ChangeSpec := { name := "peepTicks", fn := fun _ => fun
  | [d] => { results := [.lit (.bool true)], args := [d] }
  | _ => none }
def peepTicksRow : OpenClaim := { program := "ytmilnfboglhdgaa", sum := "cd831e9e452e5af031bfa2cfb9bf5afff65c7c9ff6c5ce4bab4c50e52689b970", func := "clew/clewlaw29.PeepTicks", spec := "peepTicks", unfollowed := true, recurses := true, apart := false }
def PeepTicksSaid : Prop := peepTicksRow.holds Try.pinned (OpenSpec.ofChange peepTicksSpec)

/-- ITS FALSE NEIGHBOUR: 'it returns false'. Refute it at one input. -/
def peepTicksWrong : ChangeSpec := { name := "peepTicks", fn := fun _ => fun
  | [d] => { results := [.lit (.bool false)], args := [d] }
  | _ => none }
def PeepTicksWrongFalsely : Prop := peepTicksRow.holds Try.pinned (OpenSpec.ofChange peepTicksWrong)

/- THE SECOND FORM. 'bulk': how many values and letters a reading holds, each counted each time it is reached (what is shared counts as often as it is met; a slice's spare places count too). A statement '..UptoSaid' is the law's where the arguments, and the package variables that the reading takes, are together of bulk at most 1048576: NARROWER than '..Said'. Prove '..Said' where nothing that the law and all that it calls make is longer than what came in: it says more and counts as full. Else prove '..UptoSaid'. A law counts once. -/
mutual
def uptoBulk {H : Type} : DataW H → Nat
  | .lit (.string bytes) => bytes.length + 1
  | .lit _ => 1
  | .nil => 1
  | .ptr d => uptoBulk d + 1
  | .slice elems spare => uptoBulkAll elems + uptoBulkAll spare + 1
  | .agg parts => uptoBulkAll parts + 1
  | .iface _ d => uptoBulk d + 1
  | .map entries => uptoBulkEntries entries + 1
  | .held _ => 1
def uptoBulkAll {H : Type} : List (DataW H) → Nat
  | [] => 0
  | d :: r => uptoBulk d + uptoBulkAll r
def uptoBulkEntries {H : Type} : List (Lit × DataW H) → Nat
  | [] => 0
  | x :: r => uptoBulkEntry x + uptoBulkEntries r
def uptoBulkEntry {H : Type} : Lit × DataW H → Nat
  | (.string bytes, d) => bytes.length + uptoBulk d + 1
  | (_, d) => uptoBulk d + 1
 end
def uptoSmall : (H : Type) → List (DataW H) → Bool := fun _ ds => decide (uptoBulkAll ds ≤ 1048576)
def OpenSpec.upto (s : _root_.Go.ChangeSpec) : _root_.Go.OpenSpec := { _root_.Go.OpenSpec.ofChange s with cond := some uptoSmall }

/-- 'clewlaw29.PeepOnce', WHERE WHAT IT READS IS OF BULK AT MOST 1048576: true; the input reads as it did. -/
def peepOnceUptoRow : OpenClaim := { program := "ytmilnfboglhdgaa", sum := "cd831e9e452e5af031bfa2cfb9bf5afff65c7c9ff6c5ce4bab4c50e52689b970", func := "clew/clewlaw29.PeepOnce", spec := "peepOnce", unfollowed := true, recurses := true, apart := false, narrowed := true }
def PeepOnceUptoSaid : Prop := peepOnceUptoRow.holds Try.pinned (OpenSpec.upto peepOnceSpec)

/-- 'clewlaw29.PeepAll', WHERE WHAT IT READS IS OF BULK AT MOST 1048576: true; the input reads as it did. -/
def peepAllUptoRow : OpenClaim := { program := "ytmilnfboglhdgaa", sum := "cd831e9e452e5af031bfa2cfb9bf5afff65c7c9ff6c5ce4bab4c50e52689b970", func := "clew/clewlaw29.PeepAll", spec := "peepAll", unfollowed := true, recurses := true, apart := false, narrowed := true }
def PeepAllUptoSaid : Prop := peepAllUptoRow.holds Try.pinned (OpenSpec.upto peepAllSpec)

/-- 'clewlaw29.PeepLess', WHERE WHAT IT READS IS OF BULK AT MOST 1048576: true; the input reads as it did. -/
def peepLessUptoRow : OpenClaim := { program := "ytmilnfboglhdgaa", sum := "cd831e9e452e5af031bfa2cfb9bf5afff65c7c9ff6c5ce4bab4c50e52689b970", func := "clew/clewlaw29.PeepLess", spec := "peepLess", unfollowed := true, recurses := true, apart := false, narrowed := true }
def PeepLessUptoSaid : Prop := peepLessUptoRow.holds Try.pinned (OpenSpec.upto peepLessSpec)

/-- 'clewlaw29.PeepTicks', WHERE WHAT IT READS IS OF BULK AT MOST 1048576: true; the input reads as it did. -/
def peepTicksUptoRow : OpenClaim := { program := "ytmilnfboglhdgaa", sum := "cd831e9e452e5af031bfa2cfb9bf5afff65c7c9ff6c5ce4bab4c50e52689b970", func := "clew/clewlaw29.PeepTicks", spec := "peepTicks", unfollowed := true, recurses := true, apart := false, narrowed := true }
def PeepTicksUptoSaid : Prop := peepTicksUptoRow.holds Try.pinned (OpenSpec.upto peepTicksSpec)

end Rows
end Go.Proofs.Ytmilnfboglhdgaa
