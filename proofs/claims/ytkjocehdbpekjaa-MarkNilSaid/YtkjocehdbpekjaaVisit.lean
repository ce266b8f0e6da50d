/- Reach$1: the closure that notes what is new. -/
import Derived.Test.YtkjocehdbpekjaaSetQ
import Derived.Test.YtkjocehdbpekjaaReach
namespace Go.Proofs.Ytkjocehdbpekjaa
open Go.RowKit Go.Maps
set_option maxHeartbeats 6400000
set_option maxRecDepth 100000
set_option linter.unusedVariables false
/-- How many of the handles are in a set. -/
def cntS (S : Int → Bool) : Nat := cnt (fun k => S ((k : Int) + 1)) 192
theorem cntS_le (S : Int → Bool) : cntS S ≤ 192 := cnt_le _ _
/-- The first i numbers of l are noted. -/
structure VisOk (S : Int → Bool) (Q : List Int) (S2 : Int → Bool) (Q2 : List Int) (l : List Int) (i : Nat) : Prop where
  sub : ∀ x, S2 x = true ↔ S x = true ∨ (x ≠ 0 ∧ ∃ j, j < i ∧ gI l j = x)
  mem : ∀ x, x ∈ Q2 ↔ x ∈ Q ∨ (S x = false ∧ S2 x = true)
  num : cntS S2 + Q.length = cntS S + Q2.length
section
variable {S S2 : Int → Bool} {Q Q2 l : List Int} {i : Nat}
theorem VisOk.start : VisOk S Q S Q l 0 := ⟨fun x => ⟨.inl, fun h => by rcases h with h | ⟨_, j, h, _⟩; exact h; omega⟩, fun x => ⟨.inl, fun h => by rcases h with h | ⟨h1, h2⟩; exact h; rw [h1] at h2; cases h2⟩, rfl⟩
theorem VisOk.skip (h : VisOk S Q S2 Q2 l i) (hx : gI l i = 0 ∨ S2 (gI l i) = true) : VisOk S Q S2 Q2 l (i + 1) :=
  ⟨fun x => by
    rw [h.sub x]
    constructor
    · rintro (h1 | ⟨h1, j, h2, h3⟩)
      · exact .inl h1
      · exact .inr ⟨h1, j, by omega, h3⟩
    · rintro (h1 | ⟨h1, j, h2, h3⟩)
      · exact .inl h1
      · by_cases e : j = i
        · rw [e] at h3
          rcases hx with hx | hx
          · exact absurd (h3.symm.trans hx) h1
          · rw [h3] at hx; exact (h.sub x).1 hx
        · exact .inr ⟨h1, j, by omega, h3⟩, h.mem, h.num⟩
theorem VisOk.add (h : VisOk S Q S2 Q2 l i) {x : Int} (hx : gI l i = x) (h0 : x ≠ 0) (hr : 1 ≤ x ∧ x ≤ 192) (hS : S2 x = false) : VisOk S Q (fun j => if j = x then true else S2 j) (Q2 ++ [x]) l (i + 1) ∧ cntS (fun j => if j = x then true else S2 j) = cntS S2 + 1 := by
  have hcnt : cntS (fun j => if j = x then true else S2 j) = cntS S2 + 1 := by
    obtain ⟨k, hk, rfl⟩ : ∃ k : Nat, k < 192 ∧ x = (k : Int) + 1 := ⟨(x - 1).toNat, by omega, by omega⟩
    have h1 : cnt (fun j : Nat => if (j : Int) + 1 = (k : Int) + 1 then true else S2 ((j : Int) + 1)) 192 = cnt (up (fun j : Nat => S2 ((j : Int) + 1)) k true) 192 := cnt_congr (fun j _ => by
      by_cases e : j = k
      · rw [e, up_same, if_pos rfl]
      · rw [up_other _ _ e, if_neg (by omega)])
    show cnt (fun j : Nat => if (j : Int) + 1 = (k : Int) + 1 then true else S2 ((j : Int) + 1)) 192 = _
    rw [h1]
    exact cnt_set hk hS
  refine ⟨⟨fun y => ?_, fun y => ?_, ?_⟩, hcnt⟩
  · show (if y = x then true else S2 y) = true ↔ _
    by_cases e : y = x
    · rw [if_pos e]
      exact ⟨fun _ => .inr ⟨by rw [e]; exact h0, i, by omega, by rw [hx, e]⟩, fun _ => rfl⟩
    · rw [if_neg e, h.sub y]
      constructor
      · rintro (h1 | ⟨h1, j, h2, h3⟩)
        · exact .inl h1
        · exact .inr ⟨h1, j, by omega, h3⟩
      · rintro (h1 | ⟨h1, j, h2, h3⟩)
        · exact .inl h1
        · by_cases ej : j = i
          · rw [ej, hx] at h3; exact absurd h3.symm e
          · exact .inr ⟨h1, j, by omega, h3⟩
  · rw [List.mem_append, h.mem y]
    show _ ↔ y ∈ Q ∨ (S y = false ∧ (if y = x then true else S2 y) = true)
    by_cases e : y = x
    · rw [if_pos e]
      constructor
      · rintro ((h1 | h1) | h1)
        · exact .inl h1
        · exact .inr ⟨h1.1, rfl⟩
        · refine .inr ⟨?_, rfl⟩
          cases hs : S y with
          | false => rfl
          | true =>
            have := (h.sub y).2 (.inl hs)
            rw [e, hS] at this
            cases this
      · intro _; right; simp [e]
    · rw [if_neg e]
      constructor
      · rintro (h1 | h1)
        · exact h1
        · simp at h1; exact absurd h1 e
      · intro h1; exact .inl h1
  · rw [hcnt, List.length_append]
    have := h.num
    simp only [List.length_cons, List.length_nil]
    omega
end
/-- What the closure captured, and what it points to. -/
structure Seen (w : World) (B vb lb mb : Nat) (lv : Value) (S : Int → Bool) (Q : List Int) : Prop where
  rv : Row w vb 82 [.map (some mb)]
  rl : Row w lb 23 [lv]
  qs : Qsl w B lv Q
  st : SetAt w mb (cntS S) S
  ne : vb ≠ lb ∧ mb ≠ vb ∧ mb ≠ lb ∧ vb < B ∧ lb < B ∧ mb < B
  bw : B ≤ w.heap.size
end Go.Proofs.Ytkjocehdbpekjaa
