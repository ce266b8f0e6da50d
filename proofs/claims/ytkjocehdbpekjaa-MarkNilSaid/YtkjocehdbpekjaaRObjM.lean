/- Contracts of the reference's heap: Drop, Release. -/
import Derived.Test.YtkjocehdbpekjaaRObjL
namespace Go.Proofs.Ytkjocehdbpekjaa
open Go.RowKit Go.Maps
set_option maxHeartbeats 6400000
set_option maxRecDepth 100000
set_option linter.unusedVariables false
section
variable {L : Nat → Option Gb} {hb : Nat} {M : Hp} {X : GX}
theorem Hp.refersList {M : Hp} {h k : Int} : M.refers h k = (decide (k ≠ h) && decide (h ∈ (M.refs k).1)) := by
  unfold Hp.refers Hp.refs
  cases M.ob k <;> simp
theorem Hp.held_false {M : Hp} {h : Int} (e : ∀ k : Nat, k < 192 → M.refers h ((k : Int) + 1) = false) : M.held h = false := by
  cases hh : M.held h with
  | false => rfl
  | true => obtain ⟨k, hk, h1⟩ := Hp.held_iff.1 hh; rw [e k hk] at h1; cases h1
theorem Hp.refs_len {M : Hp} (hk : M.Ok) (k : Int) : (M.refs k).1.length ≤ 48 := by
  unfold Hp.refs
  cases ho : M.ob k with
  | none => simp
  | some o => have := o.refsN_len o.slots.length; have := (hk.th k o ho).le; simp only [Th.refsL]; omega
end
end Go.Proofs.Ytkjocehdbpekjaa
