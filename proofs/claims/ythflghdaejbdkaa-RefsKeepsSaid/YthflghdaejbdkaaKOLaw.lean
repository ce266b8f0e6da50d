/- Lemmas of this claim. -/
import Derived.Test.YthflghdaejbdkaaKLib
import Derived.Test.YthflghdaejbdkaaKInts
import Derived.Test.YthflghdaejbdkaaKObjG
namespace Go.Proofs.Ythflghdaejbdkaa
open Go.RowKit Go.Maps
set_option maxHeartbeats 3200000
set_option maxRecDepth 100000
set_option linter.unusedVariables false
theorem Only.bel {w w' : World} (h : Only [] w w') : Below w.heap.size w w' := h.below (Nat.le_refl _) (by simp)
end Go.Proofs.Ythflghdaejbdkaa
