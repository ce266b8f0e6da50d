/- Layer 11's laws: samePool, and pools that nobody can tell apart. -/
import Derived.Test.YtkjocehdbpekjaaGreatODoT
import Derived.Test.YtkjocehdbpekjaaGreatOUndo
import Derived.Test.YtkjocehdbpekjaaGreatBSameB
namespace Go.Proofs.YtkjocehdbpekjaaGreat
open Go.RowKit Go.Maps
set_option maxHeartbeats 6400000
set_option maxRecDepth 100000
set_option linter.unusedVariables false
theorem drewN_add (w : World) (a b : Nat) : (w.drewN a).drewN b = w.drewN (a + b) := by simp [World.drewN, Nat.add_assoc]
end Go.Proofs.YtkjocehdbpekjaaGreat
