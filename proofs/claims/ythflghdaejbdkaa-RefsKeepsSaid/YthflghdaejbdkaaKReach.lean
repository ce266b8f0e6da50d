/- Lemmas of this claim. -/
import Derived.Test.YthflghdaejbdkaaKOSeen
namespace Go.Proofs.Ythflghdaejbdkaa
set_option linter.unusedVariables false
set_option maxRecDepth 100000
inductive Hp.Rch (M : Hp) (roots : List Int) : Int → Prop
  | root {x : Int} : x ∈ roots → x ≠ 0 → Hp.Rch M roots x
  | step {x y : Int} {o : Th} : Hp.Rch M roots x → M.ob x = some o → y ∈ o.refsL → Hp.Rch M roots y
def Hp.badRoot (M : Hp) (roots : List Int) : Prop := ∃ x, x ∈ roots ∧ x ≠ 0 ∧ M.ob x = none
open Classical in
noncomputable def Hp.reachN (M : Hp) (roots : List Int) : Nat → List Int
  | 0 => []
  | k + 1 => Hp.reachN M roots k ++ if M.Rch roots ((k : Int) + 1) then [(k : Int) + 1] else []
noncomputable def Hp.reachL (M : Hp) (roots : List Int) : List Int := M.reachN roots 192
open Classical in
noncomputable def Hp.reach (M : Hp) (roots : List Int) : List Int × Int := if M.badRoot roots then ([], 3) else (M.reachL roots, 0)
section
variable {M : Hp} {roots : List Int}
theorem Hp.Ok.refTo (hk : M.Ok) {x y : Int} {o : Th} (ho : M.ob x = some o) (hy : y ∈ o.refsL) : (M.ob y).isSome = true ∧ 1 ≤ y ∧ y ≤ 192 := by
  obtain ⟨s, hs, h1, h2, h3⟩ := Th.of_mem_refsN hy
  have h4 := hk.sl x o ho s hs
  rw [h1, h2] at h4
  have h5 : (M.ob y).isSome = true := by
    unfold Hp.fits at h4
    simp only [if_true, Bool.or_eq_true, decide_eq_true_eq] at h4
    rcases h4 with h4 | h4
    · exact absurd h4 h3
    · exact h4
  obtain ⟨o', ho'⟩ := Option.isSome_iff_exists.1 h5
  exact ⟨h5, hk.hr y o' ho'⟩
theorem Hp.Rch.some (hk : M.Ok) (hb : ¬ M.badRoot roots) {x : Int} (h : M.Rch roots x) : (M.ob x).isSome = true ∧ 1 ≤ x ∧ x ≤ 192 := by
  cases h with
  | root h1 h2 =>
    cases e : M.ob x with
    | none => exact absurd ⟨x, h1, h2, e⟩ hb
    | some o => exact ⟨rfl, hk.hr x o e⟩
  | step h1 h2 h3 => exact hk.refTo h2 h3
theorem Hp.mem_reachN {k : Nat} {x : Int} : x ∈ M.reachN roots k ↔ ∃ j : Nat, j < k ∧ x = (j : Int) + 1 ∧ M.Rch roots x := by
  induction k with
  | zero => simp [Hp.reachN]
  | succ k ih =>
    unfold Hp.reachN
    rw [List.mem_append, ih]
    constructor
    · rintro (⟨j, h1, h2, h3⟩ | h)
      · exact ⟨j, by omega, h2, h3⟩
      · split at h
        · rename_i hs
          simp at h
          subst h
          exact ⟨k, by omega, rfl, hs⟩
        · simp at h
    · rintro ⟨j, h1, h2, h3⟩
      by_cases e : j = k
      · right
        subst e
        subst h2
        rw [if_pos h3]
        simp
      · exact .inl ⟨j, by omega, h2, h3⟩
theorem Hp.Ok.mem_reach (hk : M.Ok) (hb : ¬ M.badRoot roots) {x : Int} : x ∈ M.reachL roots ↔ M.Rch roots x := by
  unfold Hp.reachL
  rw [Hp.mem_reachN]
  constructor
  · rintro ⟨_, _, _, h⟩; exact h
  · intro h
    obtain ⟨_, h1, h2⟩ := h.some hk hb
    exact ⟨x.toNat - 1, by omega, by omega, h⟩
theorem Hp.reachN_len (M : Hp) (roots : List Int) (k : Nat) : (M.reachN roots k).length ≤ k := by
  induction k with
  | zero => simp [Hp.reachN]
  | succ k ih =>
    unfold Hp.reachN
    rw [List.length_append]
    split <;> simp <;> omega
theorem Hp.reachL_len (M : Hp) (roots : List Int) : (M.reachL roots).length ≤ 192 := by unfold Hp.reachL; exact Hp.reachN_len M roots 192
structure MkB (M : Hp) (roots : List Int) (bits : List Bool) : Prop where
  len : bits.length = 193
  zero : gB bits 0 = false
  sound : ∀ k : Nat, k < 193 → gB bits k = true → M.Rch roots (k : Int)
def unm (bits : List Bool) : Nat := cnt (fun k => !gB bits k) 193
theorem MkB.start : MkB M roots (List.replicate 193 false) := ⟨List.length_replicate, gB_rep, fun k _ h => by rw [gB_rep] at h; cases h⟩
theorem MkB.set {bits : List Bool} (h : MkB M roots bits) {k : Nat} (h1 : 1 ≤ k) (h2 : k < 193) (hr : M.Rch roots (k : Int)) : MkB M roots (bits.set k true) := by
  refine ⟨by rw [List.length_set]; exact h.len, ?_, fun j hj e => ?_⟩
  · rw [gB_set (by rw [h.len]; exact h2), if_neg (by omega)]; exact h.zero
  · rw [gB_set (by rw [h.len]; exact h2)] at e
    by_cases ej : j = k
    · rw [ej]; exact hr
    · rw [if_neg ej] at e; exact h.sound j hj e
theorem gB_same {bits : List Bool} {k : Nat} (h : gB bits k = true) : bits.set k true = bits := by
  apply List.ext_getElem?
  intro j
  rw [List.getElem?_set]
  by_cases e : k = j
  · subst e
    rw [if_pos rfl]
    unfold gB at h
    cases e2 : bits[k]? with
    | none => rw [e2] at h; cases h
    | some v =>
      rw [e2] at h
      have hv : v = true := h
      rw [if_pos (List.getElem?_eq_some_iff.1 e2).1, hv]
  · rw [if_neg e]
theorem unm_set {bits : List Bool} (hl : bits.length = 193) {k : Nat} (hk : k < 193) (h : gB bits k = false) : unm (bits.set k true) + 1 = unm bits := by
  have h1 : cnt (fun j => !gB (bits.set k true) j) 193 = cnt (up (fun j => !gB bits j) k false) 193 := cnt_congr (fun j hj => by
    rw [gB_set (by rw [hl]; exact hk)]
    by_cases e : j = k
    · rw [e, if_pos rfl, up_same]; rfl
    · rw [if_neg e, up_other _ _ e])
  unfold unm
  rw [h1]
  exact cnt_clear hk (by rw [h]; rfl)
structure PassB (M : Hp) (roots : List Int) (b0 bits : List Bool) (k : Nat) (rl : List Int) (i : Nat) (m : Bool) : Prop where
  mkb : MkB M roots bits
  sub : ∀ x, gB b0 x = true → gB bits x = true
  no : m = false → bits = b0 ∧ (∀ j : Nat, 1 ≤ j → j ≤ k → gB b0 j = true → ∀ y ∈ (M.refs (j : Int)).1, gB b0 y.toNat = true) ∧ ∀ j, j < i → gB b0 (gI rl j).toNat = true
  yes : m = true → unm bits < unm b0
theorem PassB.start {b0 : List Bool} (h : MkB M roots b0) : PassB M roots b0 b0 0 [] 0 false :=
  ⟨h, fun _ e => e, fun _ => ⟨rfl, fun j h1 h2 => by omega, fun j h1 => by omega⟩, fun e => by cases e⟩
theorem PassB.into {b0 bits : List Bool} {k : Nat} {m : Bool} (h : PassB M roots b0 bits k [] 0 m) (rl : List Int) : PassB M roots b0 bits k rl 0 m :=
  ⟨h.mkb, h.sub, fun e => ⟨(h.no e).1, (h.no e).2.1, fun j hj => by omega⟩, h.yes⟩
theorem PassB.skip {b0 bits : List Bool} {k : Nat} {m : Bool} (h : PassB M roots b0 bits k [] 0 m) (hk : gB bits (k + 1) = false) : PassB M roots b0 bits (k + 1) [] 0 m :=
  ⟨h.mkb, h.sub, fun e => ⟨(h.no e).1, fun j h1 h2 h3 => by
    by_cases ej : j = k + 1
    · rw [ej, ← (h.no e).1, hk] at h3; cases h3
    · exact (h.no e).2.1 j h1 (by omega) h3, fun j hj => by omega⟩, h.yes⟩
theorem PassB.out {b0 bits : List Bool} {k : Nat} {m : Bool} (h : PassB M roots b0 bits k (M.refs ((k + 1 : Nat) : Int)).1 (M.refs ((k + 1 : Nat) : Int)).1.length m) : PassB M roots b0 bits (k + 1) [] 0 m :=
  ⟨h.mkb, h.sub, fun e => ⟨(h.no e).1, fun j h1 h2 h3 => by
    by_cases ej : j = k + 1
    · intro y hy
      rw [ej] at hy
      obtain ⟨i, hi, rfl⟩ := mem_gI.1 hy
      exact (h.no e).2.2 i hi
    · exact (h.no e).2.1 j h1 (by omega) h3, fun j hj => by omega⟩, h.yes⟩
theorem PassB.marked {b0 bits : List Bool} {k i : Nat} {rl : List Int} {m : Bool} (h : PassB M roots b0 bits k rl i m) {y : Nat} (hy : gI rl i = y) (hm : gB bits y = true) : PassB M roots b0 bits k rl (i + 1) m :=
  ⟨h.mkb, h.sub, fun e => ⟨(h.no e).1, (h.no e).2.1, fun j hj => by
    by_cases ej : j = i
    · rw [ej, hy, ← (h.no e).1]; simpa using hm
    · exact (h.no e).2.2 j (by omega)⟩, h.yes⟩
theorem PassB.mark {b0 bits : List Bool} {k i : Nat} {rl : List Int} {m : Bool} (h : PassB M roots b0 bits k rl i m) {y : Nat} (h1 : 1 ≤ y) (h2 : y < 193) (hr : M.Rch roots (y : Int)) (hm : gB bits y = false) : PassB M roots b0 (bits.set y true) k rl (i + 1) true := by
  have hu := unm_set h.mkb.len h2 hm
  refine ⟨h.mkb.set h1 h2 hr, fun x hx => ?_, fun e => (by cases e), fun _ => ?_⟩
  · rw [gB_set (by rw [h.mkb.len]; exact h2)]
    split
    · rfl
    · exact h.sub x hx
  · cases m
    · have := (h.no rfl).1
      rw [this] at hu ⊢
      omega
    · have := h.yes rfl
      omega
theorem MkB.all (hk : M.Ok) (hb : ¬ M.badRoot roots) {bits : List Bool} (hr : ∀ x, x ∈ roots → x ≠ 0 → gB bits x.toNat = true) (hc : ∀ j : Nat, 1 ≤ j → j ≤ 192 → gB bits j = true → ∀ y ∈ (M.refs (j : Int)).1, gB bits y.toNat = true) {x : Int} (h : M.Rch roots x) : gB bits x.toNat = true := by
  induction h with
  | root h1 h2 => exact hr _ h1 h2
  | step h1 h2 h3 ih =>
    have h4 := h1.some hk hb
    rename_i x y o
    refine hc x.toNat (by omega) (by omega) ih y ?_
    rw [show ((x.toNat : Nat) : Int) = x from by omega]
    unfold Hp.refs
    rw [h2]
    exact h3
end
end Go.Proofs.Ythflghdaejbdkaa
