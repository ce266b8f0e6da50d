/- Lemmas of this claim. -/
import Derived.Test.YthflghdaejbdkaaGreatRows
import Derived.ProofKit
import Derived.WalkKit
namespace Go.Proofs.YthflghdaejbdkaaGreat
theorem factCycleSafea0 : (Rows.cycleSafeRow.inPlace == Tryz.pinned.checked.prog.inPlace 5) = true := by kernel_rfl
theorem factCycleSafea1 : (Rows.cycleSafeRow.unfollowed == Tryz.pinned.checked.prog.unfollowed 5) = true := by kernel_rfl
theorem factCycleSafea2 : (Rows.cycleSafeRow.recurses == Tryz.pinned.checked.prog.recurses 5) = true := by kernel_rfl
theorem factCycleSafea3 : (Rows.cycleSafeRow.named == Tryz.pinned.checked.prog.varsNamed 5) = true := by kernel_rfl
end Go.Proofs.YthflghdaejbdkaaGreat
