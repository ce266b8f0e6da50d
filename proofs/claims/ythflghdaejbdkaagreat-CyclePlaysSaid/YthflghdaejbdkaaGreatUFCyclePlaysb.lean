/- Lemmas of this claim. -/
import Derived.Test.YthflghdaejbdkaaGreatRows
import Derived.ProofKit
import Derived.WalkKit
namespace Go.Proofs.YthflghdaejbdkaaGreat
theorem factCyclePlaysb0:Tryz.pinned.checked.prog.mayEnter=true:=by kernel_rfl
theorem factCyclePlaysb1:(Rows.cyclePlaysRow.lifted == Tryz.pinned.checked.prog.liftsFinal)=true:=by kernel_rfl
theorem factCyclePlaysb2:(Tryz.pinned.checked.prog.make == some Rows.cyclePlaysRow.make)=true:=by kernel_rfl
end Go.Proofs.YthflghdaejbdkaaGreat
