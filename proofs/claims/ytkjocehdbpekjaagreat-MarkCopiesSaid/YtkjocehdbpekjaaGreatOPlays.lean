/- Law ObjectPlays: the walk. -/
import Derived.Test.YtkjocehdbpekjaaGreatOPool
import Derived.Test.YtkjocehdbpekjaaGreatSorted
namespace Go.Proofs.YtkjocehdbpekjaaGreat
open Go.RowKit Go.Maps
set_option maxHeartbeats 6400000
set_option maxRecDepth 100000
set_option linter.unusedVariables false
theorem bel3 {w w1 w2 : World} (h1 : Only [] w w1) (h2 : Only [] w1 w2) : Below w.heap.size w w2 := (h1.trans h2 (by simp)).bel
theorem Hp.handlesN_le (M : Hp) (k : Nat) : (M.handlesN k).length ≤ k := by
  induction k with
  | zero => simp [Hp.handlesN]
  | succ k ih =>
    unfold Hp.handlesN
    rw [List.length_append]
    split <;> simp <;> omega
end Go.Proofs.YtkjocehdbpekjaaGreat
