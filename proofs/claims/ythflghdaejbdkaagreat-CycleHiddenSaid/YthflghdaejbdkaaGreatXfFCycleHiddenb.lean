/- Lemmas of this claim. -/
import Derived.Test.YthflghdaejbdkaaGreatRows
import Derived.ProofKit
import Derived.WalkKit
namespace Go.Proofs.YthflghdaejbdkaaGreat
theorem factCycleHiddenb0 : Tryz.pinned.checked.prog.mayEnter = true := by kernel_rfl
theorem factCycleHiddenb1 : (Rows.cycleHiddenRow.lifted == Tryz.pinned.checked.prog.liftsFinal) = true := by kernel_rfl
theorem factCycleHiddenb2 : (Tryz.pinned.checked.prog.make == some Rows.cycleHiddenRow.make) = true := by kernel_rfl
end Go.Proofs.YthflghdaejbdkaaGreat
