/- Law ObjectReaches: the walk. -/
import Derived.Test.YtkjocehdbpekjaaOPlays
import Derived.Test.YtkjocehdbpekjaaHReach
namespace Go.Proofs.Ytkjocehdbpekjaa
open Go.RowKit Go.Maps
set_option maxHeartbeats 12800000
set_option maxRecDepth 100000
set_option linter.unusedVariables false
def listF (n : Nat) (f : Nat → Int) : List Int := (List.range n).map f
theorem listF_at {n : Nat} {f : Nat → Int} {i : Nat} (h : i < n) : gI (listF n f) i = f i := by
  unfold gI listF
  rw [List.getElem?_map, List.getElem?_range h]
  rfl
theorem numsRead {w : World} {a : Option Addr} {len cap : Nat} {f : Nat → Int} (h : Nums w a len f) : Read w (.slice a len cap) (listF len f) := by
  have hl : (listF len f).length = len := by simp [listF]
  rcases h.2 with h | ⟨b, o, e, hc⟩
  · subst h
    exact .inr ⟨a, cap, rfl, rfl⟩
  · refine .inl ⟨b, o, cap, by rw [hl, e], fun i hi => ?_⟩
    rw [hl] at hi
    rw [listF_at hi]
    exact (hc i hi).1
theorem numsWf {w : World} {a : Option Addr} {len : Nat} {f : Nat → Int} (h : Nums w a len f) : ∀ x, x ∈ listF len f → wfI x := by
  intro x hx
  obtain ⟨i, hi, rfl⟩ := mem_gI.1 hx
  have hl : (listF len f).length = len := by simp [listF]
  rw [hl] at hi
  rw [listF_at hi]
  rcases h.2 with h | ⟨b, o, e, hc⟩
  · omega
  · exact (hc i hi).2
theorem reach_err {M : Hp} {roots : List Int} : (M.reach roots).2 = 0 ∨ (M.reach roots).2 = 3 := by
  unfold Hp.reach
  split
  · exact .inr rfl
  · exact .inl rfl
theorem reach_len {M : Hp} {roots : List Int} : (M.reach roots).1.length ≤ 192 := by
  unfold Hp.reach
  split
  · simp
  · exact Hp.reachL_len M roots
theorem reach_ok {M : Hp} (hk : M.Ok) {roots : List Int} (h : (M.reach roots).2 = 0) : M.reach (M.reach roots).1 = ((M.reach roots).1, 0) ∧ ∀ x, x ∈ (M.reach roots).1 → wfI x := by
  unfold Hp.reach at h
  split at h
  · cases h
  · rename_i hb
    have e : M.reach roots = (M.reachL roots, 0) := by unfold Hp.reach; rw [if_neg hb]
    rw [e]
    exact ⟨Hp.reach_again hk hb, fun x hx => by
      have := ((hk.mem_reach hb).1 hx).some hk hb
      exact wfI_mk (by omega)⟩
end Go.Proofs.Ytkjocehdbpekjaa
