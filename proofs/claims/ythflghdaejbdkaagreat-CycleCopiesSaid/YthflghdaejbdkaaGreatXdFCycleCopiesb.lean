/- Lemmas of this claim. -/
import Derived.Test.YthflghdaejbdkaaGreatRows
import Derived.ProofKit
import Derived.WalkKit
namespace Go.Proofs.YthflghdaejbdkaaGreat
theorem factCycleCopiesb0:Tryz.pinned.checked.prog.mayEnter=true:=by kernel_rfl
theorem factCycleCopiesb1:(Rows.cycleCopiesRow.lifted == Tryz.pinned.checked.prog.liftsFinal)=true:=by kernel_rfl
theorem factCycleCopiesb2:(Tryz.pinned.checked.prog.make == some Rows.cycleCopiesRow.make)=true:=by kernel_rfl
end Go.Proofs.YthflghdaejbdkaaGreat
