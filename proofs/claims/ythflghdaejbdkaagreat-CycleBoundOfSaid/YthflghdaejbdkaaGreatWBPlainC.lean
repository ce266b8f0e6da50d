/- Lemmas of this claim. -/
import Derived.Test.YthflghdaejbdkaaGreatWObjG
import Derived.Test.YthflghdaejbdkaaGreatWOUndo
import Derived.Test.YthflghdaejbdkaaGreatWQModel
namespace Go.Proofs.YthflghdaejbdkaaGreat
open Go.RowKit Go.Maps
set_option maxHeartbeats 3200000
set_option maxRecDepth 100000
set_option linter.unusedVariables false
section
variable {L L2 : Nat → Option Lb} {hb hb2 : Nat} {M M2 : Hp} {X X2 : HX}
end
end Go.Proofs.YthflghdaejbdkaaGreat
namespace Go.Proofs.YthflghdaejbdkaaGreat
open Go.RowKit Go.Maps
set_option maxHeartbeats 3200000
set_option maxRecDepth 100000
set_option linter.unusedVariables false
section
variable {L L2 : Nat → Option Lb} {hb hb2 : Nat} {M M2 : Hp} {X X2 : HX}
end
end Go.Proofs.YthflghdaejbdkaaGreat
namespace Go.Proofs.YthflghdaejbdkaaGreat
open Go.RowKit Go.Maps
set_option maxHeartbeats 3200000
set_option maxRecDepth 100000
set_option linter.unusedVariables false
theorem HNope.only {w w' : World} {v : Value} (h : HNope w v) (ho : Only [] w w') : HNope w' v := by
  rcases h with h | ⟨b, h1, h2⟩
  · exact .inl h
  · exact .inr ⟨b, h1, ho.cellN h2⟩
section
variable {L L2 : Nat → Option Lb} {hb hb2 : Nat} {M M2 : Hp} {X X2 : HX}
end
end Go.Proofs.YthflghdaejbdkaaGreat
namespace Go.Proofs.YthflghdaejbdkaaGreat
set_option linter.unusedVariables false
set_option maxRecDepth 100000
def Pl.has (P : Pl) (c : Int) : Bool := decide (0 < sumN (fun i => if (P.pg i).cls = c then 8 else 0) P.n)
theorem setCell_pg {P : Pl} {a n : Int} (x : Nat) : (((P.setCell a n).2).pg x).cls = (P.pg x).cls ∧ (((P.setCell a n).2).pg x).used = (P.pg x).used := by
  unfold Pl.setCell
  split
  · by_cases e : x = a.toNat / 16
    · rw [e]; simp only [Pl.set_same]; exact ⟨trivial, trivial⟩
    · simp only [Pl.set_other _ _ e]; exact ⟨trivial, trivial⟩
  · exact ⟨rfl, rfl⟩
structure Th.Like (o o' : Th) : Prop where
  kd : o.kind = o'.kind
  cl : o.cls = o'.cls
  rf : o.refs = o'.refs
  sl : o.slots = o'.slots
def Hp.Like (M N : Hp) : Prop := ∀ k, (M.ob k = none ∧ N.ob k = none) ∨ ∃ o o', M.ob k = some o ∧ N.ob k = some o' ∧ o.Like o'
theorem Hp.Like.refl (M : Hp) : M.Like M := fun k => by
  cases e : M.ob k with
  | none => exact .inl ⟨rfl, rfl⟩
  | some o => exact .inr ⟨o, o, rfl, rfl, rfl, rfl, rfl, rfl⟩
theorem Hp.Like.trans {A B C : Hp} (h : A.Like B) (h2 : B.Like C) : A.Like C := fun k => by
  rcases h k with ⟨a, b⟩ | ⟨o, o', a, b, c⟩
  · rcases h2 k with ⟨d, e⟩ | ⟨_, _, d, _, _⟩
    · exact .inl ⟨a, e⟩
    · rw [b] at d; cases d
  · rcases h2 k with ⟨d, e⟩ | ⟨x, y, d, e, f⟩
    · rw [b] at d; cases d
    · rw [b] at d; cases d
      exact .inr ⟨o, y, a, e, c.kd.trans f.kd, c.cl.trans f.cl, c.rf.trans f.rf, c.sl.trans f.sl⟩
theorem Hp.Like.symm {A B : Hp} (h : A.Like B) : B.Like A := fun k => (h k).imp (fun ⟨a, b⟩ => ⟨b, a⟩) (fun ⟨o, o', a, b, c⟩ => ⟨o', o, b, a, c.kd.symm, c.cl.symm, c.rf.symm, c.sl.symm⟩)
theorem Hp.Like.get {M N : Hp} (h : M.Like N) (x s : Int) : M.get x s = N.get x s := by
  unfold Hp.get
  rcases h x with ⟨a, b⟩ | ⟨o, o', a, b, c⟩
  · rw [a, b]
  · rw [a, b]; simp only [c.sl]
theorem Hp.mem_handlesN {M : Hp} {k : Nat} {x : Int} : x ∈ M.handlesN k ↔ ∃ j : Nat, j < k ∧ x = (j : Int) + 1 ∧ (M.ob x).isSome = true := by
  induction k with
  | zero => simp [Hp.handlesN]
  | succ k ih =>
    unfold Hp.handlesN
    rw [List.mem_append, ih]
    constructor
    · rintro (⟨j, h1, h2, h3⟩ | h)
      · exact ⟨j, by omega, h2, h3⟩
      · split at h
        · rename_i hs
          simp at h
          subst h
          exact ⟨k, by omega, rfl, hs⟩
        · simp at h
    · rintro ⟨j, h1, h2, h3⟩
      by_cases e : j = k
      · right
        subst e
        subst h2
        rw [if_pos h3]
        simp
      · exact .inl ⟨j, by omega, h2, h3⟩
theorem Hp.handle_some {M : Hp} {i : Nat} (hi : i < M.handles.length) : (M.ob (gI M.handles i)).isSome = true := by
  have : gI M.handles i ∈ M.handles := mem_gI.2 ⟨i, hi, rfl⟩
  obtain ⟨_, _, _, h⟩ := Hp.mem_handlesN.1 this
  exact h
end Go.Proofs.YthflghdaejbdkaaGreat
namespace Go.Proofs.YthflghdaejbdkaaGreat
set_option linter.unusedVariables false
theorem sumN_two {f g : Nat → Nat} {i j n : Nat} (hi : i < n) (hj : j < n) (hne : i ≠ j) (ho : ∀ x, x < n → x ≠ i → x ≠ j → g x = f x) (h : g i + g j = f i + f j) : sumN g n = sumN f n := by
  have a1 := sumN_up (f := f) (g := fun x => if x = i then g i else f x) hi (fun x _ hx => by simp [hx])
  have a2 := sumN_up (f := fun x => if x = i then g i else f x) (g := g) hj (fun x hx hxj => by
    by_cases e : x = i
    · simp [e]
    · simp only [e, if_false]; exact ho x hx e hxj)
  simp only [if_true, hne.symm, if_false] at a1 a2
  omega
theorem Pl.moved_pages {P : Pl} (h : P.ok) {i j : Nat} (hp : P.Pair i j) :
    (((P.moved i j).pg i).cls = (P.pg i).cls ∧ ((P.moved i j).pg i).count + 1 = (P.pg i).count ∨ ((P.moved i j).pg i).cls = -1 ∧ (P.pg i).count = 1) ∧ ((P.moved i j).pg j).cls = (P.pg i).cls ∧ ((P.moved i j).pg j).count = (P.pg j).count + 1 := by
  obtain ⟨h1, h2, h3⟩ := Pl.moved_count h hp
  refine ⟨?_, ?_, h2⟩
  · have e : (P.moved i j).pg i = (P.pg i).release ((P.pg i).top (P.pg i).cls) := by unfold Pl.moved; rw [Pl.set_same]
    rw [e] at h1 ⊢
    unfold Pg.release Pg.count at h1
    unfold Pg.release
    simp only at h1 ⊢
    by_cases h0 : cnt (up (P.pg i).used ((P.pg i).top (P.pg i).cls) false) 8 = 0
    · right; simp only [h0, if_true]; rw [h0] at h1; exact ⟨trivial, h1.symm⟩
    · left; simp only [h0, if_false]; exact ⟨trivial, h1⟩
  · unfold Pl.moved
    rw [Pl.set_other _ _ hp.ne.symm, Pl.set_same]
    rfl
theorem Pl.used_moved {P : Pl} (h : P.ok) {i j : Nat} (hp : P.Pair i j) (c : Int) (hc : IsC c) : (P.moved i j).usedN c P.n = P.usedN c P.n := by
  obtain ⟨hi, hj1, hj2⟩ := Pl.moved_pages h hp
  obtain ⟨_, _, h3⟩ := Pl.moved_count h hp
  refine sumN_two hp.hi hp.hj hp.ne (fun x _ hxi hxj => by unfold Pl.usedF; rw [h3 x hxi hxj]) ?_
  unfold Pl.usedF
  rw [hj1, hj2, hp.same]
  by_cases e : (P.pg i).cls = c
  · rw [if_pos e, if_pos e, if_pos e]
    rcases hi with ⟨a, b⟩ | ⟨a, b⟩
    · rw [a, if_pos e]; omega
    · rw [a, if_neg (by rcases hc with e | e | e <;> omega)]; omega
  · rw [if_neg e, if_neg e, if_neg e]
    rcases hi with ⟨a, b⟩ | ⟨a, b⟩
    · rw [a, if_neg e]
    · rw [a, if_neg (by rcases hc with e | e | e <;> omega)]
def sumI (f : Nat → Int) : Nat → Int
  | 0 => 0
  | k + 1 => sumI f k + f k
def Pg.blk (p : Pg) (c : Int) (k : Nat) : Int := sumI (fun y => p.cell (k * bsz c + y)) (bsz c)
def Pl.cellN (P : Pl) (x : Nat) : Int := if (P.cell (x : Int)).2 = 0 then (P.cell (x : Int)).1 else 0
end Go.Proofs.YthflghdaejbdkaaGreat
