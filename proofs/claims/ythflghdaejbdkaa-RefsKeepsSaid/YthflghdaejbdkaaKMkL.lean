/- Lemmas of this claim. -/
import Derived.Test.YthflghdaejbdkaaKRObjP
import Derived.Deep.RegionLaw
import Derived.Deep.Upon
import Derived.Test.YthflghdaejbdkaaKMkG
namespace Go.Proofs.Ythflghdaejbdkaa
open Go.RowKit Go.Maps
set_option maxHeartbeats 3200000
set_option maxRecDepth 100000
set_option linter.unusedVariables false
section
variable {w w' : World}
theorem Only.cell0 {w0 wl : World} (h : Only [] w0 wl) {a : Addr} {v : Value} (hc : w0.cell? a = some v) : wl.cell? a = some v := h.cell hc (by simp)
end
end Go.Proofs.Ythflghdaejbdkaa
namespace Go.Proofs.Ythflghdaejbdkaa
open Go.RowKit Go.Maps
set_option maxHeartbeats 6400000
set_option maxRecDepth 100000
set_option linter.unusedVariables false
def listF (n : Nat) (f : Nat → Int) : List Int := (List.range n).map f
theorem listF_at {n : Nat} {f : Nat → Int} {i : Nat} (h : i < n) : gI (listF n f) i = f i := by
  unfold gI listF
  rw [List.getElem?_map, List.getElem?_range h]
  rfl
theorem numsRead {w : World} {a : Option Addr} {len cap : Nat} {f : Nat → Int} (h : Nums w a len f) : Read w (.slice a len cap) (listF len f) := by
  have hl : (listF len f).length = len := by simp [listF]
  rcases h.2 with h | ⟨b, o, e, hc⟩
  · subst h
    exact .inr ⟨a, cap, rfl, rfl⟩
  · refine .inl ⟨b, o, cap, by rw [hl, e], fun i hi => ?_⟩
    rw [hl] at hi
    rw [listF_at hi]
    exact (hc i hi).1
theorem numsWf {w : World} {a : Option Addr} {len : Nat} {f : Nat → Int} (h : Nums w a len f) : ∀ x, x ∈ listF len f → wfI x := by
  intro x hx
  obtain ⟨i, hi, rfl⟩ := mem_gI.1 hx
  have hl : (listF len f).length = len := by simp [listF]
  rw [hl] at hi
  rw [listF_at hi]
  rcases h.2 with h | ⟨b, o, e, hc⟩
  · omega
  · exact (hc i hi).2
end Go.Proofs.Ythflghdaejbdkaa
namespace Go.Proofs.Ythflghdaejbdkaa
open Go.RowKit Go.Maps
set_option maxHeartbeats 12800000
set_option maxRecDepth 100000
set_option linter.unusedVariables false
end Go.Proofs.Ythflghdaejbdkaa
namespace Go.Proofs.Ythflghdaejbdkaa
open Go.RowKit Go.Maps
set_option maxHeartbeats 12800000
set_option maxRecDepth 100000
set_option linter.unusedVariables false
theorem barg_nil (w : World) : BArg w (.slice none 0 0) [] := .inl ⟨rfl, rfl⟩
def FB (hb q p r : Nat) (m : Mk) : List Asn := [PH hb m.M, GH q m.M, MkA p hb m.col m.list, GkA r q m.col m.list]
end Go.Proofs.Ythflghdaejbdkaa
