/- Contracts of package block's pools over the model Pl: pair. Contracts of package block's pools over the model Pl: Move. -/
import Derived.Test.YtkjocehdbpekjaaGreatBlock
import Derived.Test.YtkjocehdbpekjaaGreatBModel
namespace Go.Proofs.YtkjocehdbpekjaaGreat
open Go.RowKit
set_option maxHeartbeats 6400000
set_option maxRecDepth 100000
set_option linter.unusedVariables false

theorem PRep.drewTo {w w' : World} {p b : Nat} {P : Pl} (h : PRep w p b P) (k : Drew w w') : PRep w' p b P := h.only (k.only []) (by simp) (by simp)
def pairV (P : Pl) : Value := match P.pair with | none => .tuple #[.int .i64 0, .int .i64 0, .bool false] | some (i, j) => .tuple #[.int .i64 (i : Int), .int .i64 (j : Int), .bool true]

end Go.Proofs.YtkjocehdbpekjaaGreat
namespace Go.Proofs.YtkjocehdbpekjaaGreat
open Go.RowKit
set_option maxHeartbeats 1600000
set_option maxRecDepth 100000
set_option linter.unusedVariables false

theorem PgOnly.keep {b o o2 : Nat} {w w' : World} {q : Pg} (h : PgOnly b o w w') (ho : o2 + 25 ≤ o ∨ o + 25 ≤ o2) (hq : PgAt w b o2 q) : PgAt w' b o2 q := by
  intro r hr
  rw [h.cell _ (by omega)]
  exact hq r hr
end Go.Proofs.YtkjocehdbpekjaaGreat
