/- Lemmas of this claim. -/
import Derived.Test.YthflghdaejbdkaaGreatRows
import Derived.ProofKit
import Derived.WalkKit
namespace Go.Proofs.YthflghdaejbdkaaGreat
theorem factCycleHiddena0 : (Rows.cycleHiddenRow.inPlace == Tryz.pinned.checked.prog.inPlace 6) = true := by kernel_rfl
theorem factCycleHiddena1 : (Rows.cycleHiddenRow.unfollowed == Tryz.pinned.checked.prog.unfollowed 6) = true := by kernel_rfl
theorem factCycleHiddena2 : (Rows.cycleHiddenRow.recurses == Tryz.pinned.checked.prog.recurses 6) = true := by kernel_rfl
theorem factCycleHiddena3 : (Rows.cycleHiddenRow.named == Tryz.pinned.checked.prog.varsNamed 6) = true := by kernel_rfl
end Go.Proofs.YthflghdaejbdkaaGreat
