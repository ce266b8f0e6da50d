/- Lemmas of this claim. -/
import Derived.Deep.Slices
import Derived.Deep.Fields
import Derived.ChangeSame
import Derived.ProofKit
import Derived.OpenShut
namespace Go.Proofs.Ythflghdaejbdkaa
open Go.ChangeShapes Go.WideShapes Go.Deep
def Recs (k : Nat) (w : World) (a : Option Addr) (len : Nat) (f : Nat → Nat → Int) : Prop :=
  len ≤ 9223372036854775807 ∧ (len = 0 ∨ ∃ b o, a = some ⟨b, o, none⟩ ∧ ∀ i, i < len → ∀ j, j < k → w.cell? ⟨b, o + (i * k + j), none⟩ = some (.int .i64 (f i j)) ∧ (Lit.int .i64 (f i j)).wf = true)
def Nums (w : World) (a : Option Addr) (len : Nat) (f : Nat → Int) : Prop :=
  len ≤ 9223372036854775807 ∧ (len = 0 ∨ ∃ b o, a = some ⟨b, o, none⟩ ∧ ∀ i, i < len → w.cell? ⟨b, o + i, none⟩ = some (.int .i64 (f i)) ∧ (Lit.int .i64 (f i)).wf = true)
theorem spot_add {w : World} {a : Addr} {v : Value} (h : w.cell? (a.add 0) = some v) : ∃ b o, a = ⟨b, o, none⟩ := by
  obtain ⟨b, o, s⟩ := a
  have := World.cell?_spot h
  simp [Addr.add] at this
  exact ⟨b, o, by rw [this]⟩
theorem add_at (b o n : Nat) : (⟨b, o, none⟩ : Addr).add n = ⟨b, o + n, none⟩ := by unfold Addr.add; split <;> simp_all
section
variable {H : Type} {enc : TypeId × Value → H} {P : Program} {w : World} {base : Nat} {spare : Nat → Bool} {held : Bool}
theorem nums_of {t e : TypeId} {fuel len cap : Nat} {a : Option Addr} {x : DataW H × List MemPlace} (ht : P.underlying t = some (.slice e)) (he : P.underlying e = some (.int .i64)) (hc : P.cellsOf e = 1)
    (h : DataW.trod enc P w base spare held fuel t [.slice a len cap] = some x) : ∃ f, Nums w a len f := by
  rcases open_ints ht he hc h with ⟨h1, _⟩ | ⟨a', len', cap', zs, hcs, hb, hl, hm, hz, hx, hcell, hwz⟩
  · simp at h1
    obtain ⟨rfl, rfl, rfl⟩ := h1
    exact ⟨fun _ => 0, by omega, .inl rfl⟩
  · simp at hcs
    obtain ⟨rfl, rfl, rfl⟩ := hcs
    have hm' : maxLen = 9223372036854775807 := rfl
    have hzl : len ≤ zs.length := by rw [hz]; split <;> omega
    rcases Nat.eq_zero_or_pos len with h2 | h2
    · exact ⟨fun _ => 0, by omega, .inl h2⟩
    · obtain ⟨b, o, rfl⟩ := spot_add (hcell 0 (by omega))
      refine ⟨fun i => zs.getD i 0, by omega, .inr ⟨b, o, rfl, fun i hil => ?_⟩⟩
      have h4 := hcell i (by omega)
      rw [add_at] at h4
      refine ⟨h4, hwz _ ?_⟩
      show zs.getD i 0 ∈ zs
      rw [List.getD_eq_getElem?_getD, List.getElem?_eq_getElem (by omega)]
      exact List.getElem_mem _
end
end Go.Proofs.Ythflghdaejbdkaa
