/- Layer 11's laws: heaps of both sides in one memory; a call in both. -/
import Derived.Test.YtkjocehdbpekjaaGreatRObjP
import Derived.Test.YtkjocehdbpekjaaGreatOLaw
import Derived.Test.YtkjocehdbpekjaaGreatOArgs
import Derived.Test.YtkjocehdbpekjaaGreatFam
import Derived.Test.YtkjocehdbpekjaaGreatOFull
namespace Go.Proofs.YtkjocehdbpekjaaGreat
open Go.RowKit Go.Maps
set_option maxHeartbeats 6400000
set_option maxRecDepth 100000
set_option linter.unusedVariables false
/-- The program's heap. -/
def PH (p : Nat) (M : Hp) : Asn :=
  ⟨fun w S => M.OkF ∧ ∃ L X, HRep w L p M X ∧ ∀ k, S k ↔ L k ≠ none,
   fun h ho hd => ⟨h.1, by
     obtain ⟨_, L, X, h1, h2⟩ := h
     exact ⟨L, X, h1.only ho (fun k hk => by
       cases e : L k with
       | none => rfl
       | some ℓ => exact absurd ((h2 k).2 (by rw [e]; simp)) (hd k hk)), h2⟩⟩,
   fun h hk => by
     obtain ⟨_, L, X, h1, h2⟩ := h
     exact h1.lt _ ((h2 _).1 hk)⟩
/-- The document's heap. -/
def GH (q : Nat) (M : Hp) : Asn :=
  ⟨fun w S => M.Ok ∧ ∃ L X, GRep w L q M X ∧ ∀ k, S k ↔ L k ≠ none,
   fun h ho hd => ⟨h.1, by
     obtain ⟨_, L, X, h1, h2⟩ := h
     exact ⟨L, X, h1.only ho (fun k hk => by
       cases e : L k with
       | none => rfl
       | some ℓ => exact absurd ((h2 k).2 (by rw [e]; simp)) (hd k hk)), h2⟩⟩,
   fun h hk => by
     obtain ⟨_, L, X, h1, h2⟩ := h
     exact h1.lt _ ((h2 _).1 hk)⟩
theorem lset_same {α : Type} {l : List α} {i : Nat} {a : α} (h : l[i]? = some a) : l.set i a = l := by
  apply List.ext_getElem?
  intro j
  rw [List.getElem?_set]
  by_cases e : i = j
  · subst e; rw [if_pos rfl, if_pos (List.getElem?_eq_some_iff.1 h).1, h]
  · rw [if_neg e]
theorem lset_at {α : Type} {l : List α} {i j : Nat} {a b : α} (h : l[j]? = some b) (e : i ≠ j) : (l.set i a)[j]? = some b := by rw [List.getElem?_set_ne e]; exact h
theorem lat_left {α : Type} {l : List α} {i : Nat} {a b : α} (h : l[i]? = some a) : (l ++ [b])[i]? = some a := by rw [List.getElem?_append_left (List.getElem?_eq_some_iff.1 h).1]; exact h
theorem lat_last {α : Type} (l : List α) (b : α) : (l ++ [b])[l.length]? = some b := by simp
theorem lat_lt {α : Type} {l : List α} {i : Nat} {a : α} (h : l[i]? = some a) : i < l.length := (List.getElem?_eq_some_iff.1 h).1
section
variable {w0 w w' : World} {l : List Asn} {p q : Nat} {M M' : Hp}
theorem Fam.ph (h : Fam w0 w l) (i : Nat) (hi : l[i]? = some (PH p M)) : M.Ok ∧ ∃ L X, HRep w L p M X := by
  obtain ⟨S, ⟨h1, L, X, h2, _⟩, _⟩ := h.get i hi
  exact ⟨h1.ok, L, X, h2⟩
theorem Fam.phF (h : Fam w0 w l) (i : Nat) (hi : l[i]? = some (PH p M)) : M.OkF := by
  obtain ⟨S, ⟨h1, _⟩, _⟩ := h.get i hi
  exact h1
theorem Fam.gh (h : Fam w0 w l) (i : Nat) (hi : l[i]? = some (GH q M)) : M.Ok ∧ ∃ L X, GRep w L q M X := by
  obtain ⟨S, ⟨h1, L, X, h2, _⟩, _⟩ := h.get i hi
  exact ⟨h1, L, X, h2⟩
theorem Fam.pstep (h : Fam w0 w l) (i : Nat) (hi : l[i]? = some (PH p M)) {F : FuncId} {args : Array Value} {r : Value} (hok : M.OkF → M'.OkF) (hc : ∀ L X, HRep w L p M X → M.Ok → Calls Tryz.prog F args w (HDid w L p r M')) :
    Calls Tryz.prog F args w (fun e w1 => e = .returned r ∧ Fam w0 w1 (l.set i (PH p M'))) :=
  h.step i hi (A' := PH p M') fun S ⟨hk, L, X, h1, h2⟩ => (hc L X h1 hk.ok).mono fun e w1 ⟨he, L', X', h3, h4, h5⟩ =>
    ⟨he, fun k => L' k ≠ none, ⟨hok hk, L', X', h3, fun k => Iff.rfl⟩, fun k hk => (h4 k hk).imp (fun x => (h2 k).2 x) id, h5.mono (fun k hk => .inl ((h2 k).2 hk))⟩
theorem Fam.gstep (h : Fam w0 w l) (i : Nat) (hi : l[i]? = some (GH q M)) {F : FuncId} {args : Array Value} {r : Value} (hok : M.Ok → M'.Ok) (hc : ∀ L X, GRep w L q M X → M.Ok → Calls Tryz.prog F args w (GDid w L q r M')) :
    Calls Tryz.prog F args w (fun e w1 => e = .returned r ∧ Fam w0 w1 (l.set i (GH q M'))) :=
  h.step i hi (A' := GH q M') fun S ⟨hk, L, X, h1, h2⟩ => (hc L X h1 hk).mono fun e w1 ⟨he, L', X', h3, h4, h5⟩ =>
    ⟨he, fun k => L' k ≠ none, ⟨hok hk, L', X', h3, fun k => Iff.rfl⟩, fun k hk => (h4 k hk).imp (fun x => (h2 k).2 x) id, h5.mono (fun k hk => .inl ((h2 k).2 hk))⟩
theorem pborn {L : Nat → Option Lb} {X : HX} (h : HRep w' L p M X) (hk : M.OkF) (hL : ∀ k, L k ≠ none → w.heap.size ≤ k) (ho : Only [] w w') : Born w w' (PH p M) :=
  ⟨ho, fun k => L k ≠ none, ⟨hk, L, X, h, fun k => Iff.rfl⟩, hL⟩
theorem gborn {L : Nat → Option Gb} {X : GX} (h : GRep w' L q M X) (hk : M.Ok) (hL : ∀ k, L k ≠ none → w.heap.size ≤ k) (ho : Only [] w w') : Born w w' (GH q M) :=
  ⟨ho, fun k => L k ≠ none, ⟨hk, L, X, h, fun k => Iff.rfl⟩, hL⟩
theorem Fam.pop2 {R A B : Asn} {i j : Nat} (h : Fam w0 w (((l ++ [R]).set i A).set j B)) (hi : i < l.length) (hj : j < l.length) : Fam w0 w ((l.set i A).set j B) := by
  rw [List.set_append_left _ _ hi, List.set_append_left _ _ (by simpa using hj)] at h
  exact h.pop
theorem BCap.barg {g : Option Addr} {n k : Nat} {bl : List Bool} (h : BCap w g n k bl) : BArg w (.slice g n k) bl := by
  cases hg : g with
  | none =>
    obtain ⟨h1, h2⟩ := h.nl hg
    subst h1 h2
    exact .inl ⟨rfl, List.eq_nil_of_length_eq_zero h.len⟩
  | some ad =>
    refine .inr ⟨ad, k, by rw [h.len], fun i hi => ?_⟩
    rw [h.len] at hi
    rcases h.rd with e | ⟨b, o, e, hc⟩
    · omega
    · rw [hg] at e
      cases e
      rw [add_at]
      exact hc i hi
/-- The first 20. -/
theorem BCap.barg20 {g : Option Addr} {n k : Nat} {bl : List Bool} (h : BCap w g n k bl) (hn : 20 < n) : BArg w (.slice g 20 k) (bl.take 20) := by
  have hl : (bl.take 20).length = 20 := by rw [List.length_take, h.len]; omega
  cases hg : g with
  | none =>
    obtain ⟨h1, h2⟩ := h.nl hg
    omega
  | some ad =>
    refine .inr ⟨ad, k, by rw [hl], fun i hi => ?_⟩
    rw [hl] at hi
    rcases h.rd with e | ⟨b, o, e, hc⟩
    · omega
    · rw [hg] at e
      cases e
      rw [add_at, hc i (by omega)]
      unfold gB
      rw [List.getElem?_take_of_lt hi]
theorem newObject_long {bl : List Bool} {a : Int} (h : 7 < bl.length) : M.newObject a bl = (0, 1, M) := by unfold Hp.newObject; rw [if_pos (.inr (.inr h))]
end
end Go.Proofs.YtkjocehdbpekjaaGreat
