/- Lemmas of this claim. -/
import Derived.Test.YthflghdaejbdkaaGreatRows
import Derived.ProofKit
import Derived.WalkKit
namespace Go.Proofs.YthflghdaejbdkaaGreat
theorem factCycleGivesb0:Tryz.pinned.checked.prog.mayEnter=true:=by kernel_rfl
theorem factCycleGivesb1:(Rows.cycleGivesRow.lifted == Tryz.pinned.checked.prog.liftsFinal)=true:=by kernel_rfl
theorem factCycleGivesb2:(Tryz.pinned.checked.prog.make == some Rows.cycleGivesRow.make)=true:=by kernel_rfl
end Go.Proofs.YthflghdaejbdkaaGreat
