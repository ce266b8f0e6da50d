/- Lemmas of this claim. -/
import Derived.Test.YthflghdaejbdkaaKTbB
import Derived.Test.YthflghdaejbdkaaKTbS
namespace Go.Proofs.Ythflghdaejbdkaa
open Go.RowKit Go.Maps
set_option maxHeartbeats 12800000
set_option maxRecDepth 100000
set_option linter.unusedVariables false
theorem sizeSt : (Try.prog.info? 25).map (·.size) = some 2 := by kernel_rfl
theorem row2_cells {w : World} {b T : Nat} {x y : Value} (h : Row w b T [x, y]) : ∀ j v, [x, y][j]? = some v → w.cell? ⟨b, 0 + j, none⟩ = some v := fun j v hv => by rw [Nat.zero_add]; exact h.cell j hv
theorem Recs.only {k : Nat} {w w' : World} {a : Option Addr} {n : Nat} {f : Nat → Nat → Int} (h : Recs k w a n f) (ho : Only [] w w') : Recs k w' a n f :=
  ⟨h.1, h.2.imp id fun ⟨b, o, e, hc⟩ => ⟨b, o, e, fun i hi j hj => ⟨ho.cell (hc i hi j hj).1 (by simp), (hc i hi j hj).2⟩⟩⟩
end Go.Proofs.Ythflghdaejbdkaa
