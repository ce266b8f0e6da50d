/- Lemmas of this claim. -/
import Derived.Test.YthflghdaejbdkaaGreatRows
import Derived.ProofKit
import Derived.WalkKit
namespace Go.Proofs.YthflghdaejbdkaaGreat
theorem factCycleGivesa0:(Rows.cycleGivesRow.inPlace == Tryz.pinned.checked.prog.inPlace 12)=true:=by kernel_rfl
theorem factCycleGivesa1:(Rows.cycleGivesRow.unfollowed == Tryz.pinned.checked.prog.unfollowed 12)=true:=by kernel_rfl
theorem factCycleGivesa2:(Rows.cycleGivesRow.recurses == Tryz.pinned.checked.prog.recurses 12)=true:=by kernel_rfl
theorem factCycleGivesa3:(Rows.cycleGivesRow.named == Tryz.pinned.checked.prog.varsNamed 12)=true:=by kernel_rfl
end Go.Proofs.YthflghdaejbdkaaGreat
