/- Lemmas of this claim. -/
import Derived.Test.YthflghdaejbdkaaGreatRows
import Derived.ProofKit
import Derived.WalkKit
namespace Go.Proofs.YthflghdaejbdkaaGreat
theorem factCyclePlaysa0:(Rows.cyclePlaysRow.inPlace == Tryz.pinned.checked.prog.inPlace 7)=true:=by kernel_rfl
theorem factCyclePlaysa1:(Rows.cyclePlaysRow.unfollowed == Tryz.pinned.checked.prog.unfollowed 7)=true:=by kernel_rfl
theorem factCyclePlaysa2:(Rows.cyclePlaysRow.recurses == Tryz.pinned.checked.prog.recurses 7)=true:=by kernel_rfl
theorem factCyclePlaysa3:(Rows.cyclePlaysRow.named == Tryz.pinned.checked.prog.varsNamed 7)=true:=by kernel_rfl
end Go.Proofs.YthflghdaejbdkaaGreat
