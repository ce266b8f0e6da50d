/- Lemmas of this claim. -/
import Derived.Test.YthflghdaejbdkaaKOModel
import Derived.Test.YthflghdaejbdkaaKBlockJ
import Derived.Laws.StructEq
import Derived.Test.YthflghdaejbdkaaKObjG
namespace Go.Proofs.Ythflghdaejbdkaa
set_option linter.unusedVariables false
set_option maxRecDepth 100000
theorem setCell_pg {P : Pl} {a n : Int} (x : Nat) : (((P.setCell a n).2).pg x).cls = (P.pg x).cls ∧ (((P.setCell a n).2).pg x).used = (P.pg x).used := by
  unfold Pl.setCell
  split
  · by_cases e : x = a.toNat / 16
    · rw [e]; simp only [Pl.set_same]; exact ⟨trivial, trivial⟩
    · simp only [Pl.set_other _ _ e]; exact ⟨trivial, trivial⟩
  · exact ⟨rfl, rfl⟩
end Go.Proofs.Ythflghdaejbdkaa
