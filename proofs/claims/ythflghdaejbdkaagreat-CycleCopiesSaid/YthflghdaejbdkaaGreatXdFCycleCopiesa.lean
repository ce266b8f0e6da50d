/- Lemmas of this claim. -/
import Derived.Test.YthflghdaejbdkaaGreatRows
import Derived.ProofKit
import Derived.WalkKit
namespace Go.Proofs.YthflghdaejbdkaaGreat
theorem factCycleCopiesa0:(Rows.cycleCopiesRow.inPlace == Tryz.pinned.checked.prog.inPlace 8)=true:=by kernel_rfl
theorem factCycleCopiesa1:(Rows.cycleCopiesRow.unfollowed == Tryz.pinned.checked.prog.unfollowed 8)=true:=by kernel_rfl
theorem factCycleCopiesa2:(Rows.cycleCopiesRow.recurses == Tryz.pinned.checked.prog.recurses 8)=true:=by kernel_rfl
theorem factCycleCopiesa3:(Rows.cycleCopiesRow.named == Tryz.pinned.checked.prog.varsNamed 8)=true:=by kernel_rfl
end Go.Proofs.YthflghdaejbdkaaGreat
