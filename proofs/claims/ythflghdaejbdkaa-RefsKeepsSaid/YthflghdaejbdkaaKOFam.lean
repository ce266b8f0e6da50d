/- Lemmas of this claim. -/
import Derived.Test.YthflghdaejbdkaaKRObjP
import Derived.Test.YthflghdaejbdkaaKOLaw
import Derived.Test.YthflghdaejbdkaaKArgs
import Derived.Test.YthflghdaejbdkaaKOMaps
import Derived.Lib.SmallJoins
import Derived.Test.YthflghdaejbdkaaKFam
import Derived.Test.YthflghdaejbdkaaKOFull
namespace Go.Proofs.Ythflghdaejbdkaa
open Go.RowKit Go.Maps
set_option maxHeartbeats 6400000
set_option maxRecDepth 100000
set_option linter.unusedVariables false
def PH (p : Nat) (M : Hp) : Asn :=
  ⟨fun w S => M.OkF ∧ ∃ L X, HRep w L p M X ∧ ∀ k, S k ↔ L k ≠ none,
   fun h ho hd => ⟨h.1, by
     obtain ⟨_, L, X, h1, h2⟩ := h
     exact ⟨L, X, h1.only ho (fun k hk => by
       cases e : L k with
       | none => rfl
       | some ℓ => exact absurd ((h2 k).2 (by rw [e]; simp)) (hd k hk)), h2⟩⟩,
   fun h hk => by
     obtain ⟨_, L, X, h1, h2⟩ := h
     exact h1.lt _ ((h2 _).1 hk)⟩
def GH (q : Nat) (M : Hp) : Asn :=
  ⟨fun w S => M.Ok ∧ ∃ L X, GRep w L q M X ∧ ∀ k, S k ↔ L k ≠ none,
   fun h ho hd => ⟨h.1, by
     obtain ⟨_, L, X, h1, h2⟩ := h
     exact ⟨L, X, h1.only ho (fun k hk => by
       cases e : L k with
       | none => rfl
       | some ℓ => exact absurd ((h2 k).2 (by rw [e]; simp)) (hd k hk)), h2⟩⟩,
   fun h hk => by
     obtain ⟨_, L, X, h1, h2⟩ := h
     exact h1.lt _ ((h2 _).1 hk)⟩
theorem lset_same {α : Type} {l : List α} {i : Nat} {a : α} (h : l[i]? = some a) : l.set i a = l := by
  apply List.ext_getElem?
  intro j
  rw [List.getElem?_set]
  by_cases e : i = j
  · subst e; rw [if_pos rfl, if_pos (List.getElem?_eq_some_iff.1 h).1, h]
  · rw [if_neg e]
section
variable {w0 w w' : World} {l : List Asn} {p q : Nat} {M M' : Hp}
theorem Fam.ph (h : Fam w0 w l) (i : Nat) (hi : l[i]? = some (PH p M)) : M.Ok ∧ ∃ L X, HRep w L p M X := by
  obtain ⟨S, ⟨h1, L, X, h2, _⟩, _⟩ := h.get i hi
  exact ⟨h1.ok, L, X, h2⟩
theorem Fam.phF (h : Fam w0 w l) (i : Nat) (hi : l[i]? = some (PH p M)) : M.OkF := by
  obtain ⟨S, ⟨h1, _⟩, _⟩ := h.get i hi
  exact h1
theorem Fam.gh (h : Fam w0 w l) (i : Nat) (hi : l[i]? = some (GH q M)) : M.Ok ∧ ∃ L X, GRep w L q M X := by
  obtain ⟨S, ⟨h1, L, X, h2, _⟩, _⟩ := h.get i hi
  exact ⟨h1, L, X, h2⟩
theorem Fam.pstep (h : Fam w0 w l) (i : Nat) (hi : l[i]? = some (PH p M)) {F : FuncId} {args : Array Value} {r : Value} (hok : M.OkF → M'.OkF) (hc : ∀ L X, HRep w L p M X → M.Ok → Calls Try.prog F args w (HDid w L p r M')) :
    Calls Try.prog F args w (fun e w1 => e = .returned r ∧ Fam w0 w1 (l.set i (PH p M'))) :=
  h.step i hi (A' := PH p M') fun S ⟨hk, L, X, h1, h2⟩ => (hc L X h1 hk.ok).mono fun e w1 ⟨he, L', X', h3, h4, h5⟩ =>
    ⟨he, fun k => L' k ≠ none, ⟨hok hk, L', X', h3, fun k => Iff.rfl⟩, fun k hk => (h4 k hk).imp (fun x => (h2 k).2 x) id, h5.mono (fun k hk => .inl ((h2 k).2 hk))⟩
theorem Fam.gstep (h : Fam w0 w l) (i : Nat) (hi : l[i]? = some (GH q M)) {F : FuncId} {args : Array Value} {r : Value} (hok : M.Ok → M'.Ok) (hc : ∀ L X, GRep w L q M X → M.Ok → Calls Try.prog F args w (GDid w L q r M')) :
    Calls Try.prog F args w (fun e w1 => e = .returned r ∧ Fam w0 w1 (l.set i (GH q M'))) :=
  h.step i hi (A' := GH q M') fun S ⟨hk, L, X, h1, h2⟩ => (hc L X h1 hk).mono fun e w1 ⟨he, L', X', h3, h4, h5⟩ =>
    ⟨he, fun k => L' k ≠ none, ⟨hok hk, L', X', h3, fun k => Iff.rfl⟩, fun k hk => (h4 k hk).imp (fun x => (h2 k).2 x) id, h5.mono (fun k hk => .inl ((h2 k).2 hk))⟩
theorem pborn {L : Nat → Option Lb} {X : HX} (h : HRep w' L p M X) (hk : M.OkF) (hL : ∀ k, L k ≠ none → w.heap.size ≤ k) (ho : Only [] w w') : Born w w' (PH p M) :=
  ⟨ho, fun k => L k ≠ none, ⟨hk, L, X, h, fun k => Iff.rfl⟩, hL⟩
theorem gborn {L : Nat → Option Gb} {X : GX} (h : GRep w' L q M X) (hk : M.Ok) (hL : ∀ k, L k ≠ none → w.heap.size ≤ k) (ho : Only [] w w') : Born w w' (GH q M) :=
  ⟨ho, fun k => L k ≠ none, ⟨hk, L, X, h, fun k => Iff.rfl⟩, hL⟩
end
end Go.Proofs.Ythflghdaejbdkaa
