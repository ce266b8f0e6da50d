/- Contracts of Same on both sides: equal pools. -/
import Derived.Test.YtkjocehdbpekjaaGreatBSame
import Derived.Test.YtkjocehdbpekjaaGreatRBlockE
namespace Go.Proofs.YtkjocehdbpekjaaGreat
open Go.RowKit
set_option maxHeartbeats 3200000
set_option maxRecDepth 100000
set_option linter.unusedVariables false

def Pl.same (P Q : Pl) : Bool := allN (fun i => (P.pg i).same (Q.pg i)) P.n
/-- What the document compares at an address. -/
def Pl.rat (P Q : Pl) (A : Nat) : Bool := decide (P.cell (A : Int) = Q.cell (A : Int)) && ((P.pg (A / 16)).live (A % 16) == (Q.pg (A / 16)).live (A % 16))
def Pl.rsame (P Q : Pl) : Bool := allN (fun i => (P.pg i).cls == (Q.pg i).cls) P.n && allN (P.rat Q) (P.n * 16)
end Go.Proofs.YtkjocehdbpekjaaGreat
