/- Lemmas of this claim. -/
import Derived.Test.YtkacgbigeobncaaGreatRows
import Derived.ProofKit
import Derived.WalkKit
namespace Go.Proofs.YtkacgbigeobncaaGreat
theorem factTopLevelsb0 : Tryz.pinned.checked.prog.mayEnter = true := by kernel_rfl
theorem factTopLevelsb1 : (Rows.topLevelsRow.lifted == Tryz.pinned.checked.prog.liftsFinal) = true := by kernel_rfl
theorem factTopLevelsb2 : (Tryz.pinned.checked.prog.make == some Rows.topLevelsRow.make) = true := by kernel_rfl
end Go.Proofs.YtkacgbigeobncaaGreat
