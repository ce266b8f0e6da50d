/- Lemmas of this claim. -/
import Derived.Test.YthflghdaejbdkaaGreatRows
import Derived.ProofKit
import Derived.WalkKit
namespace Go.Proofs.YthflghdaejbdkaaGreat
theorem factCycleSafeb0 : Tryz.pinned.checked.prog.mayEnter = true := by kernel_rfl
theorem factCycleSafeb1 : (Rows.cycleSafeRow.lifted == Tryz.pinned.checked.prog.liftsFinal) = true := by kernel_rfl
theorem factCycleSafeb2 : (Tryz.pinned.checked.prog.make == some Rows.cycleSafeRow.make) = true := by kernel_rfl
end Go.Proofs.YthflghdaejbdkaaGreat
