/- Lemmas of this claim. -/
import Derived.Test.YthflghdaejbdkaaGreatRows
import Derived.ProofKit
import Derived.WalkKit
namespace Go.Proofs.YthflghdaejbdkaaGreat
theorem factCycleBoundsb0:Tryz.pinned.checked.prog.mayEnter=true:=by kernel_rfl
theorem factCycleBoundsb1:(Rows.cycleBoundsRow.lifted == Tryz.pinned.checked.prog.liftsFinal)=true:=by kernel_rfl
theorem factCycleBoundsb2:(Tryz.pinned.checked.prog.make == some Rows.cycleBoundsRow.make)=true:=by kernel_rfl
end Go.Proofs.YthflghdaejbdkaaGreat
