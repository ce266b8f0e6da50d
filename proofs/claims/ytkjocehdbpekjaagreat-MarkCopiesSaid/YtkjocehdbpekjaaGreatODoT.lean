/- Layer 11's laws: a call in both heaps. Layer 11's laws: play. Law ObjectTells: the walk. -/
import Derived.Test.YtkjocehdbpekjaaGreatOFam
import Derived.OwnWalk
namespace Go.Proofs.YtkjocehdbpekjaaGreat
open Go.RowKit Go.Maps
set_option maxHeartbeats 6400000
set_option maxRecDepth 100000
set_option linter.unusedVariables false
section
variable {w0 w : World} {l : List Asn} {p q : Nat} {M : Hp}
/-- What a call in both heaps yields. -/
def ODid (w0 : World) (l : List Asn) (ip iq p q : Nat) (e : Ending) (w1 : World) : Prop :=
  e = .returned (.bool true) ∧ ∃ M', Fam w0 w1 ((l.set ip (PH p M')).set iq (GH q M'))
end
end Go.Proofs.YtkjocehdbpekjaaGreat
namespace Go.Proofs.YtkjocehdbpekjaaGreat
open Go.ChangeShapes Go.WideShapes Go.Deep
open Go.RowKit Go.Maps
set_option maxHeartbeats 6400000
set_option maxRecDepth 100000
set_option linter.unusedVariables false
/-- What play yields. -/
def OPlayed (w0 w1 : World) (vp vq : Value) : Prop := (vp = .pointer none ∧ vq = .pointer none ∧ Fam w0 w1 []) ∨ ∃ p q M, vp = .pointer (some ⟨p, 0, none⟩) ∧ vq = .pointer (some ⟨q, 0, none⟩) ∧ Fam w0 w1 [PH p M, GH q M]
end Go.Proofs.YtkjocehdbpekjaaGreat
namespace Go.Proofs.YtkjocehdbpekjaaGreat
open Go.RowKit Go.Maps
set_option maxHeartbeats 6400000
set_option maxRecDepth 100000
set_option linter.unusedVariables false
theorem same_only {w w' : World} {v : Value} {e : Ending} (h : Same w v e w') : e = .returned v ∧ Only [] w w' := by
  obtain ⟨h1, n, rfl⟩ := h
  exact ⟨h1, (Only.refl _ _).drewN n⟩
theorem exact_only {w w' : World} {v : Value} {e : Ending} (h : Exact w v e w') : e = .returned v ∧ Only [] w w' := by
  obtain ⟨h1, rfl⟩ := h
  exact ⟨h1, Only.refl _ _⟩
theorem exact_two {w w' : World} {n : Int} {e : Ending} (h : Exact w (.tuple #[.slice none 0 0, .int .i64 n]) e w') : TwoL w ([], n) e w' := by
  obtain ⟨h1, rfl⟩ := h
  exact ⟨_, h1, Ints.nil _ _, Only.refl _ _⟩
theorem Hp.blocks_len {M : Hp} (hk : M.Ok) (k : Int) : (M.blocks k).1.length ≤ 7 := by
  unfold Hp.blocks
  cases ho : M.ob k with
  | none => simp
  | some o => exact (hk.blen ho).2.1
theorem OPlayed.only {w1 w2 : World} {vp vq : Value} (h : OPlayed w1 w2 vp vq) : Only [] w1 w2 := by
  rcases h with ⟨_, _, h⟩ | ⟨p, q, M, _, _, h⟩
  · exact h.only
  · exact h.only
theorem Ops.only {w w' : World} {b : Option Addr} {n : Nat} {f : Nat → OpR} (h : Ops w b n f) (ho : Only [] w w') : Ops w' b n f :=
  ⟨h.1, h.2.imp id fun ⟨bb, o, e, hc⟩ => ⟨bb, o, e, fun i hi => (hc i hi).only ho⟩⟩
end Go.Proofs.YtkjocehdbpekjaaGreat
