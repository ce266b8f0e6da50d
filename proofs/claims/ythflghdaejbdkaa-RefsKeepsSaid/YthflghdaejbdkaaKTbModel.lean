/- Lemmas of this claim. -/
import Derived.Test.YthflghdaejbdkaaKMkMod
namespace Go.Proofs.Ythflghdaejbdkaa
set_option linter.unusedVariables false
set_option maxRecDepth 100000
structure En where
  kind : Int
  tgt : Int
  tag : Int
structure Tb where
  ents : List En
  q : List Int
  ph : Nat
  nx : Nat
  fd : Nat → Bool
def eAt (l : List En) (i : Nat) : En := l[i]?.getD ⟨0, 0, 0⟩
def Tb.new : Tb := ⟨[], [], 0, 0, fun _ => false⟩
def Mk.isW (m : Mk) (x : Int) : Bool := (m.M.ob x).isSome && decide (m.col x = 0)
def nxt (l : List En) (k : Int) (n : Nat) : Nat := fst (fun i => decide (n ≤ i) && decide ((eAt l i).kind = k)) l.length
def Tb.at (t : Tb) (ph nx : Nat) : Tb := ⟨t.ents, t.q, ph, nx, t.fd⟩
def Tb.set4 (t : Tb) (n : Nat) : Tb := t.at 4 (nxt t.ents 3 n)
def Tb.set3 (t : Tb) (m : Mk) : Tb := if m.list = [] then t.set4 0 else t.at 3 0
def Tb.set2 (t : Tb) (m : Mk) (n : Nat) : Tb := if nxt t.ents 2 n < t.ents.length then t.at 2 (nxt t.ents 2 n) else t.set3 m
def Tb.find (t : Tb) (m : Mk) : Tb := ⟨t.ents, t.q, t.ph, t.nx, fun i => decide ((eAt t.ents i).kind = 2) && m.isW (eAt t.ents i).tgt⟩
def Tb.set1 (t : Tb) (m : Mk) (n : Nat) : Tb := if nxt t.ents 1 n < t.ents.length then t.at 1 (nxt t.ents 1 n) else (t.find m).set2 m 0
def Tb.settle (t : Tb) (m : Mk) : Tb := if t.ph = 1 then t.set1 m t.nx else if t.ph = 2 then t.set2 m t.nx else if t.ph = 3 then t.set3 m else if t.ph = 4 then t.set4 t.nx else t
def Tb.add (t : Tb) (m : Mk) (k x g : Int) : Int × Int × Tb :=
  if k < 1 ∨ 3 < k then (0, 1, t) else if t.ph ≠ 0 then (0, 13, t) else if (m.M.ob x).isSome = false then (0, 3, t) else if 20 ≤ t.ents.length then (0, 2, t)
  else (t.ents.length, 0, ⟨t.ents ++ [⟨k, x, g⟩], t.q, t.ph, t.nx, t.fd⟩)
def Tb.target (t : Tb) (i : Int) : Int × Int := if i < 0 ∨ (t.ents.length : Int) ≤ i then (0, 1) else ((eAt t.ents i.toNat).tgt, 0)
def Tb.begin (t : Tb) (m : Mk) : Int × Tb := if t.ph ≠ 0 ∨ m.list ≠ [] then (13, t) else (0, (t.at 1 0).settle m)
def En.off (e : En) : En := ⟨e.kind, 0, e.tag⟩
def Tb.clear (t : Tb) (m : Mk) (i : Nat) : Tb × Mk :=
  let e := eAt t.ents i
  if t.ph = 2 then (if t.fd i then (⟨t.ents.set i e.off, t.q ++ [e.tag], t.ph, t.nx, t.fd⟩, m.shade e.tgt) else (t, m))
  else (if m.isW e.tgt then ⟨t.ents.set i e.off, t.q, t.ph, t.nx, t.fd⟩ else t, m)
def Tb.step (t : Tb) (m : Mk) : Int × Int × Int × Tb × Mk :=
  if t.ph = 0 then (0, 0, 13, t, m) else
  let s := t.settle m
  if s.ph = 3 then (3, m.step.1, 0, s.settle m.step.2.2, m.step.2.2)
  else if s.ents.length ≤ s.nx then (0, 0, 3, s.at 0 0, m)
  else let c := s.clear m s.nx; ((s.ph : Int), (s.nx : Int), 0, (c.1.at s.ph (s.nx + 1)).settle c.2, c.2)
def Tb.steps : Nat → Tb × Mk → Tb × Mk
  | 0, s => s
  | k + 1, s => let u := Tb.steps k s; ((u.1.step u.2).2.2.2.1, (u.1.step u.2).2.2.2.2)
section
variable {t : Tb} {m : Mk} {l : List En} {k : Int} {n i : Nat}
theorem nxt_le : nxt l k n ≤ l.length := fst_le _ _
theorem nxt_at (h : nxt l k n < l.length) : n ≤ nxt l k n ∧ (eAt l (nxt l k n)).kind = k := by
  have := (fst_spec (fun i => decide (n ≤ i) && decide ((eAt l i).kind = k)) l.length).2 h
  simp only [Bool.and_eq_true, decide_eq_true_eq] at this
  exact this
theorem nxt_skip (h1 : n ≤ i) (h2 : i < nxt l k n) : (eAt l i).kind ≠ k := fun e => by
  have := (fst_spec (fun i => decide (n ≤ i) && decide ((eAt l i).kind = k)) l.length).1 i h2
  simp [h1, e] at this
theorem eAt_set {e : En} (hi : i < l.length) (j : Nat) : eAt (l.set i e) j = if j = i then e else eAt l j := by
  unfold eAt
  rw [List.getElem?_set]
  by_cases h : i = j
  · subst h; rw [if_pos rfl, if_pos hi, if_pos rfl]; rfl
  · rw [if_neg h, if_neg (Ne.symm h)]
end
end Go.Proofs.Ythflghdaejbdkaa
