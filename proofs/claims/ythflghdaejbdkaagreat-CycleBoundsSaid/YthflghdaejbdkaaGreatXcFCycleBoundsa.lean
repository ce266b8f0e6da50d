/- Lemmas of this claim. -/
import Derived.Test.YthflghdaejbdkaaGreatRows
import Derived.ProofKit
import Derived.WalkKit
namespace Go.Proofs.YthflghdaejbdkaaGreat
theorem factCycleBoundsa0:(Rows.cycleBoundsRow.inPlace == Tryz.pinned.checked.prog.inPlace 10)=true:=by kernel_rfl
theorem factCycleBoundsa1:(Rows.cycleBoundsRow.unfollowed == Tryz.pinned.checked.prog.unfollowed 10)=true:=by kernel_rfl
theorem factCycleBoundsa2:(Rows.cycleBoundsRow.recurses == Tryz.pinned.checked.prog.recurses 10)=true:=by kernel_rfl
theorem factCycleBoundsa3:(Rows.cycleBoundsRow.named == Tryz.pinned.checked.prog.varsNamed 10)=true:=by kernel_rfl
end Go.Proofs.YthflghdaejbdkaaGreat
