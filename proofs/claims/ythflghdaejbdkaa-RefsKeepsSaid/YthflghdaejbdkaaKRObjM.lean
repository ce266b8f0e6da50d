/- Lemmas of this claim. -/
import Derived.Test.YthflghdaejbdkaaKRObjK
namespace Go.Proofs.Ythflghdaejbdkaa
open Go.RowKit Go.Maps
set_option maxHeartbeats 6400000
set_option maxRecDepth 100000
set_option linter.unusedVariables false
section
variable {L : Nat → Option Gb} {hb : Nat} {M : Hp} {X : GX}
theorem Hp.refs_len {M : Hp} (hk : M.Ok) (k : Int) : (M.refs k).1.length ≤ 48 := by
  unfold Hp.refs
  cases ho : M.ob k with
  | none => simp
  | some o => have := o.refsN_len o.slots.length; have := (hk.th k o ho).le; simp only [Th.refsL]; omega
end
end Go.Proofs.Ythflghdaejbdkaa
