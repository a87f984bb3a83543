/- The walks of the generator: each function of the program and of the reference returns what the plain mathematics says, and leaves what was there. Conditions: a state lies in the range of uint64. -/
import Derived.Test.YtmilnfboglhdgaaRows
import Derived.Test.YtmilnfboglhdgaaMixP
import Derived.Lib.Hide
import Derived.Outline
import Derived.Deep.DeepCutAuto
import Derived.Deep.RegionWith
import Derived.Deep.RegionHeld3
namespace Go.Proofs.Ytmilnfboglhdgaa.MixV
open Go Go.RowKit MixP

theorem join {w w1 w2 : World} (h : Below w.heap.size w w1) (k : Below w1.heap.size w1 w2) : Below w.heap.size w w2 :=
  h.trans (k.mono h.size)

theorem ret2 {j k : IntKind} {a b c d : Int} (h : a = b) (h' : c = d) : Ending.returned (.tuple #[.int j a, .int k c]) = .returned (.tuple #[.int j b, .int k d]) := by rw [h, h']

theorem ret1 {j : IntKind} {a b : Int} (h : a = b) : Ending.returned (.int j a) = .returned (.int j b) := by rw [h]

end Go.Proofs.Ytmilnfboglhdgaa.MixV
