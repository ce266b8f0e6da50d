/- Lemmas of this claim. -/
import Derived.Test.YthflghdaejbdkaaGreatRows
import Derived.ProofKit
import Derived.WalkKit
namespace Go.Proofs.YthflghdaejbdkaaGreat
theorem factCycleProgressb0:Tryz.pinned.checked.prog.mayEnter=true:=by kernel_rfl
theorem factCycleProgressb1:(Rows.cycleProgressRow.lifted == Tryz.pinned.checked.prog.liftsFinal)=true:=by kernel_rfl
theorem factCycleProgressb2:(Tryz.pinned.checked.prog.make == some Rows.cycleProgressRow.make)=true:=by kernel_rfl
end Go.Proofs.YthflghdaejbdkaaGreat
