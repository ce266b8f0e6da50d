/- Lemmas of this claim. -/
import Derived.Test.YthflghdaejbdkaaGreatRows
import Derived.ProofKit
import Derived.WalkKit
namespace Go.Proofs.YthflghdaejbdkaaGreat
theorem factCycleProgressa0:(Rows.cycleProgressRow.inPlace == Tryz.pinned.checked.prog.inPlace 11)=true:=by kernel_rfl
theorem factCycleProgressa1:(Rows.cycleProgressRow.unfollowed == Tryz.pinned.checked.prog.unfollowed 11)=true:=by kernel_rfl
theorem factCycleProgressa2:(Rows.cycleProgressRow.recurses == Tryz.pinned.checked.prog.recurses 11)=true:=by kernel_rfl
theorem factCycleProgressa3:(Rows.cycleProgressRow.named == Tryz.pinned.checked.prog.varsNamed 11)=true:=by kernel_rfl
end Go.Proofs.YthflghdaejbdkaaGreat
