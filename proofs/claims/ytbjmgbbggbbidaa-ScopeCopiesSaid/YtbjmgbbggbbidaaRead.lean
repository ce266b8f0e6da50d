/- Slices of int that are only read. -/
import Derived.Test.YtbjmgbbggbbidaaInts
import Derived.Test.YtbjmgbbggbbidaaLibB
namespace Go.Proofs.Ytbjmgbbggbbidaa
open Go.RowKit
set_option linter.unusedVariables false

/-- A slice that is only read: it holds the numbers l. -/
def Read (w : World) (v : Value) (l : List Int) : Prop :=
  (∃ b o c, v = .slice (some ⟨b, o, none⟩) l.length c ∧ ∀ i, i < l.length → w.cell? ⟨b, o + i, none⟩ = some (.int .i64 (gI l i))) ∨ (∃ oa c, v = .slice oa 0 c ∧ l = [])
theorem Ints.read {w : World} {base : Nat} {v : Value} {l : List Int} (h : Ints w base v l) : Read w v l := by
  rcases h.form with ⟨h1, h2⟩ | ⟨g, cap, h1, _, _, _, h2⟩
  · exact .inr ⟨none, 0, h1, h2⟩
  · exact .inl ⟨g, 0, cap, h1, fun i hi => by rw [Nat.zero_add]; exact h2 i hi⟩
theorem Read.len {w : World} {v : Value} {l : List Int} (h : Read w v l) : ∃ a c, v = .slice a l.length c := by
  rcases h with ⟨b, o, c, h1, _⟩ | ⟨oa, c, h1, h2⟩
  · exact ⟨_, _, h1⟩
  · exact ⟨oa, c, by rw [h1, h2]; rfl⟩
theorem Read.only {w w' : World} {v : Value} {l : List Int} {F : List Nat} (h : Read w v l) (ho : Only F w w') (hF : ∀ k, v.ownBlock = some k → k ∉ F) : Read w' v l := by
  rcases h with ⟨b, o, c, h1, h2⟩ | h1
  · exact .inl ⟨b, o, c, h1, fun i hi => ho.cell (h2 i hi) (hF b (by rw [h1]; rfl))⟩
  · exact .inr h1
theorem Read.lt {w : World} {v : Value} {l : List Int} (h : Read w v l) (h0 : 0 < l.length) {k : Nat} (hk : v.ownBlock = some k) : k < w.heap.size := by
  rcases h with ⟨b, o, c, h1, h2⟩ | ⟨oa, c, h1, h2⟩
  · rw [h1] at hk; cases hk; exact World.block_lt_of_cell? w _ (h2 0 h0)
  · rw [h2] at h0; simp at h0
end Go.Proofs.Ytbjmgbbggbbidaa
