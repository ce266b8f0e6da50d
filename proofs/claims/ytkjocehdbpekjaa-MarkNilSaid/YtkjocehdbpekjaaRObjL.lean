/- Contracts of the reference's heap: NewArray. -/
import Derived.Test.YtkjocehdbpekjaaRObjK
namespace Go.Proofs.Ytkjocehdbpekjaa
open Go.RowKit Go.Maps
set_option maxHeartbeats 6400000
set_option maxRecDepth 100000
set_option linter.unusedVariables false
section
variable {L : Nat → Option Gb} {hb : Nat} {M : Hp} {X : GX}
theorem replicate_snoc {α : Type} (n : Nat) (x : α) : List.replicate n x ++ [x] = List.replicate (n + 1) x := by
  rw [List.replicate_succ']
end
end Go.Proofs.Ytkjocehdbpekjaa
