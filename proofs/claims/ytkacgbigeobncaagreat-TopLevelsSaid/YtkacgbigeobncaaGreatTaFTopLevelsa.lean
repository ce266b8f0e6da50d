/- Lemmas of this claim. -/
import Derived.Test.YtkacgbigeobncaaGreatRows
import Derived.ProofKit
import Derived.WalkKit
namespace Go.Proofs.YtkacgbigeobncaaGreat
theorem factTopLevelsa0 : (Rows.topLevelsRow.inPlace == Tryz.pinned.checked.prog.inPlace 3) = true := by kernel_rfl
theorem factTopLevelsa1 : (Rows.topLevelsRow.unfollowed == Tryz.pinned.checked.prog.unfollowed 3) = true := by kernel_rfl
theorem factTopLevelsa2 : (Rows.topLevelsRow.recurses == Tryz.pinned.checked.prog.recurses 3) = true := by kernel_rfl
theorem factTopLevelsa3 : (Rows.topLevelsRow.named == Tryz.pinned.checked.prog.varsNamed 3) = true := by kernel_rfl
end Go.Proofs.YtkacgbigeobncaaGreat
