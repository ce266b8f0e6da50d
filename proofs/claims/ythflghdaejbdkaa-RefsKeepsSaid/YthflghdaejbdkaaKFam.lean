/- Lemmas of this claim. -/
import Derived.Test.YthflghdaejbdkaaKOMaps
namespace Go.Proofs.Ythflghdaejbdkaa
open Go.RowKit Go.Maps
set_option maxRecDepth 100000
set_option linter.unusedVariables false
structure Asn where
  holds : World → (Nat → Prop) → Prop
  keep : ∀ {w w' : World} {S T : Nat → Prop}, holds w S → OnlyP T w w' → (∀ k, T k → ¬ S k) → holds w' S
  lt : ∀ {w : World} {S : Nat → Prop} {k : Nat}, holds w S → S k → k < w.heap.size
def Fam (w0 w : World) (l : List Asn) : Prop :=
  Only [] w0 w ∧ ∃ S : Nat → Nat → Prop, (∀ (i : Nat) (A : Asn), l[i]? = some A → A.holds w (S i)) ∧ (∀ i j, i < l.length → j < l.length → i ≠ j → ∀ k, S i k → ¬ S j k) ∧ (∀ i, i < l.length → ∀ k, S i k → w0.heap.size ≤ k)
def Turn (w : World) (S : Nat → Prop) (A' : Asn) (r : Value) (e : Ending) (w' : World) : Prop :=
  e = .returned r ∧ ∃ S', A'.holds w' S' ∧ (∀ k, S' k → S k ∨ w.heap.size ≤ k) ∧ OnlyP S w w'
def Born (w w' : World) (A : Asn) : Prop := Only [] w w' ∧ ∃ S, A.holds w' S ∧ ∀ k, S k → w.heap.size ≤ k
section
variable {w0 w w' w1 : World} {l : List Asn} {A A' : Asn}
theorem Fam.only (h : Fam w0 w l) : Only [] w0 w := h.1
theorem Fam.nil (w : World) : Fam w w [] := ⟨Only.refl _ _, fun _ _ => False, fun i A h => by simp at h, fun i j h => by simp at h, fun i h => by simp at h⟩
theorem Fam.cell (h : Fam w0 w l) {a : Addr} {v : Value} (hc : w0.cell? a = some v) : w.cell? a = some v := h.1.cell hc (by simp)
theorem Fam.get (h : Fam w0 w l) (i : Nat) (hi : l[i]? = some A) : ∃ S, A.holds w S ∧ ∀ k, S k → w0.heap.size ≤ k := by
  obtain ⟨_, S, h1, _, h3⟩ := h
  exact ⟨S i, h1 i A hi, h3 i (List.getElem?_eq_some_iff.1 hi).1⟩
theorem Fam.onlyP {T : Nat → Prop} (h : Fam w0 w l) (ho : OnlyP T w w') (hT : ∀ k, T k → k < w0.heap.size → False) (hd : ∀ (i : Nat) (A : Asn) (S : Nat → Prop), l[i]? = some A → A.holds w S → ∀ k, T k → ¬ S k) : Fam w0 w' l := by
  obtain ⟨h0, S, h1, h2, h3⟩ := h
  exact ⟨⟨ho.os.trans h0.os, ho.tape.trans h0.tape, ho.output.trans h0.output, Nat.le_trans h0.size ho.size, fun k hk hn => by
    rw [ho.block k (Nat.lt_of_lt_of_le hk h0.size) (fun x => hT k x hk)]
    exact h0.block k hk hn⟩, S, fun i A hi => A.keep (h1 i A hi) ho (hd i A (S i) hi (h1 i A hi)), h2, h3⟩
theorem Fam.only0 (h : Fam w0 w l) (ho : Only [] w w') : Fam w0 w' l :=
  h.onlyP (T := fun _ => False) ho.toP0 (fun _ x => x.elim) (fun _ _ _ _ _ _ x => x.elim)
theorem Fam.drew (h : Fam w0 w l) : Fam w0 w.drew l := h.only0 (Only.refl _ _).drew
theorem Fam.drewN (h : Fam w0 w l) (n : Nat) : Fam w0 (w.drewN n) l := h.only0 ((Only.refl _ _).drewN n)
theorem Fam.alloc (h : Fam w0 w l) (o : Obj) : Fam w0 (w.alloc o) l := h.only0 ((Only.refl _ _).alloc o)
theorem Fam.step {P : Program} (h : Fam w0 w l) (i : Nat) (hi : l[i]? = some A) {F : FuncId} {args : Array Value} {r : Value} (hc : ∀ S, A.holds w S → Calls P F args w (Turn w S A' r)) :
    Calls P F args w (fun e w1 => e = .returned r ∧ Fam w0 w1 (l.set i A')) := by
  obtain ⟨h0, S, h1, h2, h3⟩ := h
  refine (hc (S i) (h1 i A hi)).mono fun e w1 ht => ?_
  have hil := (List.getElem?_eq_some_iff.1 hi).1
  obtain ⟨he, S', hA, hS, ho⟩ := ht
  refine ⟨he, ⟨ho.os.trans h0.os, ho.tape.trans h0.tape, ho.output.trans h0.output, Nat.le_trans h0.size ho.size, fun k hk hn => by
    rw [ho.block k (Nat.lt_of_lt_of_le hk h0.size) (fun x => by have := h3 i hil k x; omega)]
    exact h0.block k hk hn⟩, fun j => if j = i then S' else S j, fun j B hj => ?_, fun a b ha hb hab k => ?_, fun j hj k hk => ?_⟩
  · try simp only
    by_cases e : j = i
    · rw [if_pos e]
      rw [e, List.getElem?_set_self hil] at hj
      cases hj
      exact hA
    · rw [if_neg e]
      rw [List.getElem?_set_ne (fun x => e x.symm)] at hj
      exact B.keep (h1 j B hj) ho (h2 i j hil (List.getElem?_eq_some_iff.1 hj).1 (fun x => e x.symm))
  · rw [List.length_set] at ha hb
    try simp only
    intro h4 h5
    by_cases e1 : a = i
    · by_cases e2 : b = i
      · exact hab (e1.trans e2.symm)
      · rw [if_pos e1] at h4
        rw [if_neg e2] at h5
        rcases hS k h4 with h6 | h6
        · exact h2 i b hil hb (fun x => e2 x.symm) k h6 h5
        · have := (l[b]'hb).lt (h1 b _ (List.getElem?_eq_getElem hb)) h5; omega
    · by_cases e2 : b = i
      · rw [if_neg e1] at h4
        rw [if_pos e2] at h5
        rcases hS k h5 with h6 | h6
        · exact h2 i a hil ha (fun x => e1 x.symm) k h6 h4
        · have := (l[a]'ha).lt (h1 a _ (List.getElem?_eq_getElem ha)) h4; omega
      · rw [if_neg e1] at h4
        rw [if_neg e2] at h5
        exact h2 a b ha hb hab k h4 h5
  · rw [List.length_set] at hj
    try simp only at hk
    by_cases e : j = i
    · rw [if_pos e] at hk
      rcases hS k hk with h6 | h6
      · exact h3 i hil k h6
      · have := h0.size; omega
    · rw [if_neg e] at hk
      exact h3 j hj k hk
theorem Fam.add (h : Fam w0 w l) (hb : Born w w' A) : Fam w0 w' (l ++ [A]) := by
  obtain ⟨ho, T, hA, hT⟩ := hb
  obtain ⟨h0, S, h1, h2, h3⟩ := h
  have hlt : ∀ i, i < l.length → ∀ k, S i k → k < w.heap.size := fun i hi k hk => (l[i]'hi).lt (h1 i _ (List.getElem?_eq_getElem hi)) hk
  refine ⟨h0.trans ho (by simp), fun j => if j = l.length then T else S j, fun j B hj => ?_, fun a b ha hb hab k => ?_, fun j hj k hk => ?_⟩
  · try simp only
    by_cases e : j = l.length
    · rw [if_pos e]
      rw [e] at hj
      simp at hj
      rw [← hj]
      exact hA
    · rw [if_neg e]
      have hjl : j < l.length := by
        have := (List.getElem?_eq_some_iff.1 hj).1
        simp at this; omega
      rw [List.getElem?_append_left hjl] at hj
      exact B.keep (h1 j B hj) (ho.toP0 (S := fun _ => False)) (fun _ x => x.elim)
  · simp at ha hb
    try simp only
    intro h4 h5
    by_cases e1 : a = l.length
    · by_cases e2 : b = l.length
      · exact hab (e1.trans e2.symm)
      · rw [if_pos e1] at h4
        rw [if_neg e2] at h5
        have := hT k h4; have := hlt b (by omega) k h5; omega
    · by_cases e2 : b = l.length
      · rw [if_neg e1] at h4
        rw [if_pos e2] at h5
        have := hT k h5; have := hlt a (by omega) k h4; omega
      · rw [if_neg e1] at h4
        rw [if_neg e2] at h5
        exact h2 a b (by omega) (by omega) hab k h4 h5
  · simp at hj
    try simp only at hk
    by_cases e : j = l.length
    · rw [if_pos e] at hk; have := hT k hk; have := h0.size; omega
    · rw [if_neg e] at hk; exact h3 j (by omega) k hk
theorem Fam.pop (h : Fam w0 w (l ++ [A])) : Fam w0 w l := by
  obtain ⟨h0, S, h1, h2, h3⟩ := h
  refine ⟨h0, S, fun i B hi => h1 i B ?_, fun i j hi hj => h2 i j (by simp; omega) (by simp; omega), fun i hi => h3 i (by simp; omega)⟩
  rw [List.getElem?_append_left (List.getElem?_eq_some_iff.1 hi).1]
  exact hi
def RowA (b T : Nat) (cs : List Value) : Asn :=
  ⟨fun w S => Row w b T cs ∧ ∀ k, S k ↔ k = b, fun h ho hd => ⟨ho.row h.1 (fun x => hd b x ((h.2 b).2 rfl)), h.2⟩, fun h hk => by rw [(h.2 _).1 hk]; exact h.1.lt⟩
theorem Fam.row {b T : Nat} {cs : List Value} (h : Fam w0 w l) (i : Nat) (hi : l[i]? = some (RowA b T cs)) : Row w b T cs := by
  obtain ⟨S, h1, _⟩ := h.get i hi
  exact h1.1
theorem Fam.addRow (h : Fam w0 w l) (T : Nat) (cs : List Value) : Fam w0 (w.alloc (.cells cs.toArray T)) (l ++ [RowA w.heap.size T cs]) :=
  h.add ⟨(Only.refl [] w).alloc _, fun k => k = w.heap.size, ⟨Row.new w T cs, fun k => Iff.rfl⟩, fun k hk => by rw [hk]; exact Nat.le_refl _⟩
def IntsA (v : Value) (l : List Int) : Asn :=
  ⟨fun w S => Ints w 0 v l ∧ ∀ k, S k ↔ v.ownBlock = some k, fun h ho hd => ⟨h.1.onlyP ho (fun k hk x => hd k x ((h.2 k).2 hk)), h.2⟩, fun h hk => (h.1.own _ ((h.2 _).1 hk)).2⟩
theorem Fam.ints {v : Value} {m : List Int} (h : Fam w0 w l) (i : Nat) (hi : l[i]? = some (IntsA v m)) : Ints w 0 v m := by
  obtain ⟨S, h1, _⟩ := h.get i hi
  exact h1.1
theorem Fam.addInts {v : Value} {m : List Int} (h : Fam w0 w l) (ho : Only [] w w') (hi : Ints w' w.heap.size v m) : Fam w0 w' (l ++ [IntsA v m]) :=
  h.add ⟨ho, fun k => v.ownBlock = some k, ⟨hi.base (Nat.zero_le _), fun k => Iff.rfl⟩, fun k hk => (hi.own k hk).1⟩
end
end Go.Proofs.Ythflghdaejbdkaa
