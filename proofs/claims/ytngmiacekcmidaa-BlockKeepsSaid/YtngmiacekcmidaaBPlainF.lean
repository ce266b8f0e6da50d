/- Pages of blocks, the plain laws: a block's numbers are kept, told by its address. -/
import Derived.Test.YtngmiacekcmidaaBPlainE
namespace Go.Proofs.Ytngmiacekcmidaa
set_option linter.unusedVariables false

/-- A used block of class c lies at A and holds N, N + 1, .. -/
def Kept (Q : Pl) (c N : Int) (A : Nat) : Prop := ∃ i k, A = 16 * i + k * bsz c ∧ Q.Holds c i k (fun x => N + (x : Int))
theorem Kept.lt {Q : Pl} {c N : Int} {A : Nat} (h : Kept Q c N A) (hc : IsC c) (hn : Q.n ≤ 24) : A < 384 := by
  obtain ⟨i, k, rfl, hh⟩ := h
  have := hh.hi; have h1 := hc.blk hh.kb; have := hc.sz; omega
theorem Kept.tells {Q : Pl} {c N : Int} {A : Nat} (h : Kept Q c N A) (hc : IsC c) {x : Nat} (hx : x < bsz c) : Q.begin ((A : Int) + (x : Int)) = ((A : Int), 0) ∧ Q.cell ((A : Int) + (x : Int)) = (N + (x : Int), 0) := by
  obtain ⟨i, k, rfl, hh⟩ := h
  have := hh.tells hc hx
  rw [Int.natCast_add] at this
  exact this
theorem Kept.do {Q : Pl} (hok : Q.ok) {c N : Int} {A : Nat} (h : Kept Q c N A) (hc : IsC c) {d a b : Int} (h2 : d = 2 → a ≠ (A : Int)) (h3 : d = 3 → a < (A : Int) ∨ (A : Int) + (bsz c : Int) ≤ a) (h4 : d ≠ 4) :
    Kept (Q.do d a b).2.2 c N A := by
  obtain ⟨i, k, rfl, hh⟩ := h
  exact ⟨i, k, rfl, hh.do hok hc h2 (fun e => by have := h3 e; omega) h4⟩
theorem Kept.move {Q : Pl} (hok : Q.ok) {c N : Int} {A : Nat} (h : Kept Q c N A) (hc : IsC c) :
    (Q.move.2.2.1 = 0 ∧ Q.move.1 = (A : Int) ∧ ∃ A' : Nat, Q.move.2.1 = (A' : Int) ∧ Kept Q.move.2.2.2 c N A') ∨ (¬ (Q.move.2.2.1 = 0 ∧ Q.move.1 = (A : Int)) ∧ Kept Q.move.2.2.2 c N A) := by
  obtain ⟨i, k, rfl, hh⟩ := h
  rcases hh.move hok hc with ⟨h1, h2, i', k', h3, h4⟩ | ⟨h1, h2⟩
  · exact .inl ⟨h1, h2, _, h3, i', k', rfl, h4⟩
  · exact .inr ⟨h1, i, k, rfl, h2⟩
theorem Kept.of {Q : Pl} {c N : Int} {i k A : Nat} {v : Nat → Int} (h : Q.Holds c i k v) (hA : A = 16 * i + k * bsz c) (hv : ∀ x, x < bsz c → v x = N + (x : Int)) : Kept Q c N A :=
  ⟨i, k, hA, h.upto fun x hx => (hv x hx).symm⟩
end Go.Proofs.Ytngmiacekcmidaa
