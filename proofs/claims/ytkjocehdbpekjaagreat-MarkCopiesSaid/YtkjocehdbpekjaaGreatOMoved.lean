/- Layer 11: behind moves a heap tells the same; how many moves there can be. No program is spoken of. -/
import Derived.Test.YtkjocehdbpekjaaGreatOUndo
import Derived.Test.YtkjocehdbpekjaaGreatObjK
namespace Go.Proofs.YtkjocehdbpekjaaGreat
set_option linter.unusedVariables false
set_option maxRecDepth 100000
/-- Is a class there? -/
def Pl.has (P : Pl) (c : Int) : Bool := decide (0 < sumN (fun i => if (P.pg i).cls = c then 8 else 0) P.n)
def Pl.tall (P : Pl) (c : Int) : Nat := sumN (fun i => if (P.pg i).cls = c then 8 else 0) P.n
theorem sumN_ge {f : Nat → Nat} {i k : Nat} (hi : i < k) : f i ≤ sumN f k := by
  induction k with
  | zero => omega
  | succ k ih =>
    unfold sumN
    by_cases e : i = k
    · rw [e]; omega
    · have := ih (by omega); omega
theorem Pl.has_iff {P : Pl} {c : Int} : P.has c = true ↔ ∃ i, i < P.n ∧ (P.pg i).cls = c := by
  unfold Pl.has
  rw [decide_eq_true_eq]
  constructor
  · intro h
    apply Classical.byContradiction
    intro hn
    have : sumN (fun i => if (P.pg i).cls = c then 8 else 0) P.n = 0 := sumN_zero.2 (fun i hi => by
      rw [if_neg (fun e => hn ⟨i, hi, e⟩)])
    omega
  · rintro ⟨i, hi, e⟩
    have := sumN_ge (f := fun i => if (P.pg i).cls = c then 8 else 0) hi
    simp only [e, if_true] at this
    omega
theorem Pl.tall_ge {P : Pl} {c : Int} (h : P.has c = true) : 8 ≤ P.tall c := by
  obtain ⟨i, hi, e⟩ := Pl.has_iff.1 h
  have := sumN_ge (f := fun i => if (P.pg i).cls = c then 8 else 0) hi
  simp only [e, if_true] at this
  exact this
theorem Pl.inUse_sum {P : Pl} (h : P.ok) : sumN P.inUse P.n = P.tall 0 + P.tall 1 + P.tall 2 := by
  unfold Pl.tall
  rw [← sumN_add, ← sumN_add]
  refine sumN_congr (fun i hi => ?_)
  unfold Pl.inUse
  rcases (h i hi).cls with e | e | e | e <;> simp [e]
theorem Pl.least_has {P : Pl} {c : Int} (hc : IsC c) (h : P.has c = false) : P.least c P.n = 0 := by
  unfold Pl.least
  cases hf : P.frm c P.n with
  | none => rfl
  | some f =>
    have h1 := Pl.frm_some hf
    have h2 : P.has c = true := Pl.has_iff.2 ⟨f, h1.1, (Pg.partly_iff.1 h1.2.1).1⟩
    rw [h] at h2; cases h2
/-- From P to Q so many moves are at most 8 for each page. -/
theorem moves_bound {P Q : Pl} (hP : P.ok) (hQ : Q.ok) (hn : Q.n = P.n) {k : Nat} (hk : k + Q.pot ≤ P.pot) (hh : ∀ c, IsC c → P.has c = true → Q.has c = true) : k ≤ 8 * P.n := by
  have h1 := Pl.inUse_sum hP
  have h2 := Pl.inUse_sum hQ
  have h3 : sumN P.inUse P.n ≤ 8 * P.n := sumN_le (fun i _ => by unfold Pl.inUse; split <;> omega)
  unfold Pl.pot at hk
  have key : ∀ c, IsC c → P.least c P.n ≤ Q.tall c := fun c hc => by
    cases e : P.has c with
    | false => rw [Pl.least_has hc e]; omega
    | true => have := Pl.tall_ge (hh c hc e); have := Pl.least_le (P := P) hc; omega
  have k0 := key 0 (.inl rfl)
  have k1 := key 1 (.inr (.inl rfl))
  have k2 := key 2 (.inr (.inr rfl))
  omega
theorem Pl.has_moved {P : Pl} {i j : Nat} (hp : P.Pair i j) {c : Int} (h : P.has c = true) : (P.moved i j).has c = true := by
  obtain ⟨x, hx, e⟩ := Pl.has_iff.1 h
  have ej : ((P.moved i j).pg j).cls = (P.pg i).cls := by
    unfold Pl.moved
    simp only [Pl.set_other _ _ hp.ne.symm, Pl.set_same]
    rfl
  by_cases e1 : x = i
  · exact Pl.has_iff.2 ⟨j, hp.hj, by rw [ej, ← e1]; exact e⟩
  · by_cases e2 : x = j
    · exact Pl.has_iff.2 ⟨j, hp.hj, by rw [ej, ← hp.same, ← e2]; exact e⟩
    · refine Pl.has_iff.2 ⟨x, hx, ?_⟩
      rw [← e]
      unfold Pl.moved
      simp only [Pl.set_other _ _ e1, Pl.set_other _ _ e2]
/-- A cell that is set turns neither classes nor what is used. -/
theorem setCell_pg {P : Pl} {a n : Int} (x : Nat) : (((P.setCell a n).2).pg x).cls = (P.pg x).cls ∧ (((P.setCell a n).2).pg x).used = (P.pg x).used := by
  unfold Pl.setCell
  split
  · by_cases e : x = a.toNat / 16
    · rw [e]; simp only [Pl.set_same]; exact ⟨trivial, trivial⟩
    · simp only [Pl.set_other _ _ e]; exact ⟨trivial, trivial⟩
  · exact ⟨rfl, rfl⟩
theorem pot_setCell {P : Pl} (hok : P.ok) {a n : Int} : (P.setCell a n).2.pot = P.pot := by
  have hn := (hok.setCell a n).2
  have hpart : ∀ c x, (((P.setCell a n).2).pg x).partly c = (P.pg x).partly c ∧ ((P.pg x).partly c = true → (((P.setCell a n).2).pg x).count = (P.pg x).count) := fun c x => by
    have h1 := setCell_pg (P := P) (a := a) (n := n) x
    unfold Pg.partly Pg.count
    rw [h1.1, h1.2]
    exact ⟨rfl, fun _ => rfl⟩
  unfold Pl.pot
  rw [hn, (Pl.least_congr (fun i _ => hpart 0 i)).2, (Pl.least_congr (fun i _ => hpart 1 i)).2, (Pl.least_congr (fun i _ => hpart 2 i)).2]
  have : sumN ((P.setCell a n).2.inUse) P.n = sumN P.inUse P.n := sumN_congr (fun i _ => by unfold Pl.inUse; rw [(setCell_pg i).1])
  rw [this]
theorem has_setCell {P : Pl} (hok : P.ok) {a n : Int} {c : Int} (h : P.has c = true) : (P.setCell a n).2.has c = true := by
  obtain ⟨x, hx, e⟩ := Pl.has_iff.1 h
  exact Pl.has_iff.2 ⟨x, by rw [(hok.setCell a n).2]; exact hx, by rw [(setCell_pg x).1]; exact e⟩
/-- Two things that tell the same but for their blocks. -/
structure Th.Like (o o' : Th) : Prop where
  kd : o.kind = o'.kind
  cl : o.cls = o'.cls
  rf : o.refs = o'.refs
  sl : o.slots = o'.slots
def Hp.Like (M N : Hp) : Prop := ∀ k, (M.ob k = none ∧ N.ob k = none) ∨ ∃ o o', M.ob k = some o ∧ N.ob k = some o' ∧ o.Like o'
theorem Hp.Like.refl (M : Hp) : M.Like M := fun k => by
  cases e : M.ob k with
  | none => exact .inl ⟨rfl, rfl⟩
  | some o => exact .inr ⟨o, o, rfl, rfl, rfl, rfl, rfl, rfl⟩
theorem Hp.Like.trans {A B C : Hp} (h : A.Like B) (h2 : B.Like C) : A.Like C := fun k => by
  rcases h k with ⟨a, b⟩ | ⟨o, o', a, b, c⟩
  · rcases h2 k with ⟨d, e⟩ | ⟨_, _, d, _, _⟩
    · exact .inl ⟨a, e⟩
    · rw [b] at d; cases d
  · rcases h2 k with ⟨d, e⟩ | ⟨x, y, d, e, f⟩
    · rw [b] at d; cases d
    · rw [b] at d; cases d
      exact .inr ⟨o, y, a, e, c.kd.trans f.kd, c.cl.trans f.cl, c.rf.trans f.rf, c.sl.trans f.sl⟩
theorem Hp.Like.symm {A B : Hp} (h : A.Like B) : B.Like A := fun k => (h k).imp (fun ⟨a, b⟩ => ⟨b, a⟩) (fun ⟨o, o', a, b, c⟩ => ⟨o', o, b, a, c.kd.symm, c.cl.symm, c.rf.symm, c.sl.symm⟩)
theorem Hp.Like.alike {M N : Hp} (h : M.Like N) : AlikeM M N := fun k _ => by
  rcases h k with ⟨a, b⟩ | ⟨o, o', a, b, c⟩
  · rw [a, b]; exact ⟨rfl, fun _ _ e => by cases e⟩
  · rw [a, b]
    refine ⟨rfl, fun x y e1 e2 => ?_⟩
    cases e1; cases e2
    unfold likeT Th.rlist
    simp [c.kd, c.cl, c.rf, c.sl]
theorem Hp.Like.get {M N : Hp} (h : M.Like N) (x s : Int) : M.get x s = N.get x s := by
  unfold Hp.get
  rcases h x with ⟨a, b⟩ | ⟨o, o', a, b, c⟩
  · rw [a, b]
  · rw [a, b]; simp only [c.sl]
theorem setT_like {P Q : Pl} {ob : Int → Option Th} {h : Int} {o t : Th} (ho : ob h = some o) (hl : t.Like o) : Hp.Like ⟨P, setT ob h (some t)⟩ ⟨Q, ob⟩ := fun k => by
  by_cases e : k = h
  · exact .inr ⟨t, o, by rw [e]; exact setT_same _ _ _, by rw [e]; exact ho, hl⟩
  · show (setT ob h (some t) k = none ∧ ob k = none) ∨ ∃ o o', setT ob h (some t) k = some o ∧ ob k = some o' ∧ o.Like o'
    rw [setT_other _ _ e]
    exact Hp.Like.refl ⟨Q, ob⟩ k
theorem Hp.move_like (M : Hp) : M.move.2.2.Like M := by
  unfold Hp.move
  split
  · split
    · rename_i o eo _
      exact setT_like eo ⟨rfl, rfl, rfl, rfl⟩
    · intro k; exact Hp.Like.refl M k
  · exact Hp.Like.refl M
/-- A move that is done: less is left to move. -/
theorem Hp.Ok.move_pot {M : Hp} (hk : M.Ok) (he : M.move.2.1 = 0) : M.move.2.2.P.pot + 1 ≤ M.P.pot ∧ ∀ c, IsC c → M.P.has c = true → M.move.2.2.P.has c = true := by
  unfold Hp.move at he ⊢
  split
  · rename_i h0
    cases hp : M.P.pair with
    | none => rw [Pl.move_none hp] at h0; cases h0
    | some x =>
      obtain ⟨i, j⟩ := x
      have hpot := Pl.pot_moved hk.p hp
      have hpp := Pl.pair_some hp
      have e4 : M.P.move.2.2.2 = M.P.moved i j := by rw [Pl.move_some hp]
      have hok2 := (hk.p.moved hpp).1
      split
      · unfold Hp.moveAt
        simp only
        rw [e4]
        split
        · exact ⟨hpot, fun c hc h => Pl.has_moved hpp h⟩
        · exact ⟨by rw [pot_setCell hok2]; exact hpot, fun c hc h => has_setCell hok2 (Pl.has_moved hpp h)⟩
      · simp only
        rw [e4]
        exact ⟨hpot, fun c hc h => Pl.has_moved hpp h⟩
  · rename_i h0
    rw [if_neg h0] at he
    exact absurd he h0
theorem Hp.Ok.move_no {M : Hp} (hk : M.Ok) (he : M.move.2.1 ≠ 0) : M.move.2.2 = M ∧ M.P.moves = 0 := by
  have h0 : ¬ M.P.move.2.2.1 = 0 := fun h0 => by
    apply he
    unfold Hp.move
    rw [if_pos h0]
    split <;> rfl
  refine ⟨by unfold Hp.move; rw [if_neg h0], ?_⟩
  cases hp : M.P.pair with
  | none => exact Pl.moves_none hp
  | some x => obtain ⟨i, j⟩ := x; rw [Pl.move_some hp] at h0; exact absurd rfl h0
theorem Hp.Ok.move_n {M : Hp} (hk : M.Ok) : M.move.2.2.P.n = M.P.n := by
  unfold Hp.move
  split
  · split
    · unfold Hp.moveAt
      simp only
      split
      · exact hk.p.move.2
      · exact ((hk.p.move.1).setCell _ _).2.trans hk.p.move.2
    · exact hk.p.move.2
  · rfl
theorem Hp.mem_handlesN {M : Hp} {k : Nat} {x : Int} : x ∈ M.handlesN k ↔ ∃ j : Nat, j < k ∧ x = (j : Int) + 1 ∧ (M.ob x).isSome = true := by
  induction k with
  | zero => simp [Hp.handlesN]
  | succ k ih =>
    unfold Hp.handlesN
    rw [List.mem_append, ih]
    constructor
    · rintro (⟨j, h1, h2, h3⟩ | h)
      · exact ⟨j, by omega, h2, h3⟩
      · split at h
        · rename_i hs
          simp at h
          subst h
          exact ⟨k, by omega, rfl, hs⟩
        · simp at h
    · rintro ⟨j, h1, h2, h3⟩
      by_cases e : j = k
      · right
        subst e
        subst h2
        rw [if_pos h3]
        simp
      · exact .inl ⟨j, by omega, h2, h3⟩
theorem Hp.handle_some {M : Hp} {i : Nat} (hi : i < M.handles.length) : (M.ob (gI M.handles i)).isSome = true := by
  have : gI M.handles i ∈ M.handles := mem_gI.2 ⟨i, hi, rfl⟩
  obtain ⟨_, _, _, h⟩ := Hp.mem_handlesN.1 this
  exact h
end Go.Proofs.YtkjocehdbpekjaaGreat
