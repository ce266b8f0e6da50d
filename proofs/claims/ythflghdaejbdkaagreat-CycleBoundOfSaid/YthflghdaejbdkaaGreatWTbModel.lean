/- Lemmas of this claim. -/
import Derived.Test.YthflghdaejbdkaaGreatWMkMap
import Derived.Test.YthflghdaejbdkaaGreatWMkMod
namespace Go.Proofs.YthflghdaejbdkaaGreat
open Go.RowKit Go.Maps
set_option maxRecDepth 100000
set_option linter.unusedVariables false
def NoA : Asn := ⟨fun _ S => ∀ k, ¬ S k, fun h _ _ => h, fun h hk => absurd hk (h _)⟩
def stars (L : List Asn) (w : World) (S : Nat → Prop) (T : Nat → Nat → Prop) : Prop :=
  (∀ (i : Nat) (A : Asn), L[i]? = some A → A.holds w (T i)) ∧ (∀ i j, i < L.length → j < L.length → i ≠ j → ∀ k, T i k → ¬ T j k) ∧ ∀ k, S k ↔ ∃ i, i < L.length ∧ T i k
def Star (L : List Asn) : Asn :=
  ⟨fun w S => ∃ T, stars L w S T,
   fun ⟨T, h1, h2, h3⟩ ho hd => ⟨T, fun i A hi => A.keep (h1 i A hi) ho (fun k hk x => hd k hk ((h3 k).2 ⟨i, (List.getElem?_eq_some_iff.1 hi).1, x⟩)), h2, h3⟩,
   fun ⟨T, h1, h2, h3⟩ hk => by
     obtain ⟨i, hi, hT⟩ := (h3 _).1 hk
     exact (L[i]'hi).lt (h1 i _ (List.getElem?_eq_getElem hi)) hT⟩
def Some1 {X : Type} (P : X → Prop) (F : X → List Asn) : Asn :=
  ⟨fun w S => ∃ x, P x ∧ (Star (F x)).holds w S, fun ⟨x, h1, h2⟩ ho hd => ⟨x, h1, (Star (F x)).keep h2 ho hd⟩, fun ⟨x, _, h2⟩ hk => (Star (F x)).lt h2 hk⟩
section
variable {w0 w : World} {l L : List Asn} {i : Nat}
theorem Fam.selC (h : Fam w0 w l) {l' : List Asn} (σ : Nat → Nat) (h1 : ∀ i A, l'[i]? = some A → l[σ i]? = some A) (h2 : ∀ i j, i < l'.length → j < l'.length → i ≠ j → σ i ≠ σ j) : Fam w0 w l' := by
  obtain ⟨h0, S, a, b, c⟩ := h
  have hlt : ∀ i, i < l'.length → σ i < l.length := fun i hi => (List.getElem?_eq_some_iff.1 (h1 i _ (List.getElem?_eq_getElem hi))).1
  exact ⟨h0, fun i => S (σ i), fun i A hi => a _ A (h1 i A hi), fun i j hi hj hij => b _ _ (hlt i hi) (hlt j hj) (h2 i j hi hj hij), fun i hi => c _ (hlt i hi)⟩
theorem Fam.setRowC (h : Fam w0 w l) (i : Nat) {b T : Nat} {cs : List Value} (hi : l[i]? = some (RowA b T cs)) (j : Nat) (v : Value) : Fam w0 (w.setCell ⟨b, j, none⟩ v) (l.set i (RowA b T (cs.set j v))) :=
  h.turn i hi fun S hS => ⟨S, ⟨hS.1.set j v, hS.2⟩, fun k hk => .inl hk, (OnlyP.refl _ _).set (.inl ((hS.2 b).2 rfl)) _⟩
theorem Fam.open1 {X : Type} {P : X → Prop} {F : X → List Asn} (h : Fam w0 w l) (hi : l[i]? = some (Some1 P F)) : ∃ x, P x ∧ Fam w0 w (F x ++ l.set i NoA) := by
  obtain ⟨h0, S, h1, h2, h3⟩ := h
  have hil := (List.getElem?_eq_some_iff.1 hi).1
  obtain ⟨x, hx, T, t1, t2, t3⟩ := h1 i _ hi
  have hlen : (F x ++ l.set i NoA).length = (F x).length + l.length := by rw [List.length_append, List.length_set]
  refine ⟨x, hx, h0, fun j => if j < (F x).length then T j else if j - (F x).length = i then (fun _ => False) else S (j - (F x).length), fun j A hj => ?_, fun a b ha hb hab k => ?_, fun j hj k hk => ?_⟩
  · by_cases e : j < (F x).length
    · simp only [e, if_true]
      rw [List.getElem?_append_left e] at hj
      exact t1 j A hj
    · simp only [e, if_false]
      rw [List.getElem?_append_right (by omega)] at hj
      by_cases e2 : j - (F x).length = i
      · simp only [e2, if_true]
        rw [e2, List.getElem?_set_self hil] at hj
        cases hj
        exact fun k hk => hk
      · simp only [e2, if_false]
        rw [List.getElem?_set_ne (fun x => e2 x.symm)] at hj
        exact h1 _ A hj
  · rw [hlen] at ha hb
    by_cases ea : a < (F x).length
    · simp only [ea, if_true]
      by_cases eb : b < (F x).length
      · simp only [eb, if_true]
        exact t2 a b ea eb hab k
      · simp only [eb, if_false]
        by_cases e2 : b - (F x).length = i
        · simp only [e2, if_true]; exact fun _ h => h
        · simp only [e2, if_false]
          exact fun hk => h2 i (b - (F x).length) hil (by omega) (fun e => e2 e.symm) k ((t3 k).2 ⟨a, ea, hk⟩)
    · simp only [ea, if_false]
      by_cases e1 : a - (F x).length = i
      · simp only [e1, if_true]; exact fun h => h.elim
      · simp only [e1, if_false]
        by_cases eb : b < (F x).length
        · simp only [eb, if_true]
          exact fun hk hb2 => h2 (a - (F x).length) i (by omega) hil e1 k hk ((t3 k).2 ⟨b, eb, hb2⟩)
        · simp only [eb, if_false]
          by_cases e2 : b - (F x).length = i
          · simp only [e2, if_true]; exact fun _ h => h
          · simp only [e2, if_false]
            exact h2 _ _ (by omega) (by omega) (by omega) k
  · rw [hlen] at hj
    by_cases e : j < (F x).length
    · simp only [e, if_true] at hk
      exact h3 i hil k ((t3 k).2 ⟨j, e, hk⟩)
    · simp only [e, if_false] at hk
      by_cases e2 : j - (F x).length = i
      · simp only [e2, if_true] at hk
      · simp only [e2, if_false] at hk
        exact h3 _ (by omega) k hk
theorem Fam.close1 {X : Type} {P : X → Prop} {F : X → List Asn} {L l : List Asn} (x : X) (hx : P x) (hF : F x = L) (h : Fam w0 w (L ++ l)) (hi : l[i]? = some NoA) : Fam w0 w (l.set i (Some1 P F)) := by
  obtain ⟨h0, S, h1, h2, h3⟩ := h
  have hil := (List.getElem?_eq_some_iff.1 hi).1
  have hlen : (L ++ l).length = L.length + l.length := List.length_append
  have hst : (Star (F x)).holds w (fun k => ∃ j, j < L.length ∧ S j k) := by
    rw [hF]
    exact ⟨S, fun j A hj => h1 j A (by rw [List.getElem?_append_left (List.getElem?_eq_some_iff.1 hj).1]; exact hj), fun a b ha hb hab => h2 a b (by omega) (by omega) hab, fun k => Iff.rfl⟩
  refine ⟨h0, fun j => if j = i then (fun k => ∃ j, j < L.length ∧ S j k) else S (L.length + j), fun j A hj => ?_, fun a b ha hb hab k => ?_, fun j hj k hk => ?_⟩
  · by_cases e : j = i
    · simp only [e, if_true]
      rw [e, List.getElem?_set_self hil] at hj
      cases hj
      exact ⟨x, hx, hst⟩
    · simp only [e, if_false]
      rw [List.getElem?_set_ne (fun x => e x.symm)] at hj
      exact h1 _ A (by rw [List.getElem?_append_right (by omega)]; simpa using hj)
  · rw [List.length_set] at ha hb
    by_cases ea : a = i
    · simp only [ea, if_true]
      have eb : b ≠ i := fun e => hab (ea.trans e.symm)
      simp only [eb, if_false]
      rintro ⟨j, hj, hk⟩
      exact h2 j (L.length + b) (by omega) (by omega) (by omega) k hk
    · simp only [ea, if_false]
      by_cases eb : b = i
      · simp only [eb, if_true]
        rintro hk ⟨j, hj, hk2⟩
        exact h2 (L.length + a) j (by omega) (by omega) (by omega) k hk hk2
      · simp only [eb, if_false]
        exact h2 _ _ (by omega) (by omega) (by omega) k
  · rw [List.length_set] at hj
    by_cases e : j = i
    · simp only [e, if_true] at hk
      obtain ⟨j', hj', hk⟩ := hk
      exact h3 j' (by omega) k hk
    · simp only [e, if_false] at hk
      exact h3 (L.length + j) (by omega) k hk
theorem Fam.close2 {X : Type} {P : X → Prop} {F : X → List Asn} {L l : List Asn} (x : X) (hx : P x) (hF : F x = L) (h : Fam w0 w (L ++ l)) : Fam w0 w (l ++ [Some1 P F]) := by
  have h1 : Fam w0 w (L ++ (l ++ [NoA])) := by
    rw [← List.append_assoc]
    exact h.add ⟨Only.refl _ _, fun _ => False, fun _ hk => hk, fun _ hk => hk.elim⟩
  have h2 := h1.close1 (i := l.length) x hx hF (by simp)
  rwa [List.set_append_right _ _ (Nat.le_refl _), Nat.sub_self] at h2
theorem Fam.rest (h : Fam w0 w (L ++ l)) : Fam w0 w l :=
  h.selC (fun i => L.length + i) (fun i B hi => by rw [List.getElem?_append_right (by omega)]; simpa using hi) (fun i j _ _ hij e => hij (by omega))
theorem set_NoA {i : Nat} {A : Asn} : (l.set i NoA).set i A = l.set i A := by rw [List.set_set]
theorem get_NoA {i : Nat} (h : i < l.length) : (l.set i NoA)[i]? = some NoA := List.getElem?_set_self h
end
end Go.Proofs.YthflghdaejbdkaaGreat
namespace Go.Proofs.YthflghdaejbdkaaGreat
set_option linter.unusedVariables false
set_option maxRecDepth 100000
structure En where
  kind : Int
  tgt : Int
  tag : Int
structure Tb where
  ents : List En
  q : List Int
  ph : Nat
  nx : Nat
  fd : Nat → Bool
def eAt (l : List En) (i : Nat) : En := l[i]?.getD ⟨0, 0, 0⟩
def Tb.new : Tb := ⟨[], [], 0, 0, fun _ => false⟩
def Mk.isW (m : Mk) (x : Int) : Bool := (m.M.ob x).isSome && decide (m.col x = 0)
def nxt (l : List En) (k : Int) (n : Nat) : Nat := fst (fun i => decide (n ≤ i) && decide ((eAt l i).kind = k)) l.length
def Tb.at (t : Tb) (ph nx : Nat) : Tb := ⟨t.ents, t.q, ph, nx, t.fd⟩
def Tb.set4 (t : Tb) (n : Nat) : Tb := t.at 4 (nxt t.ents 3 n)
def Tb.set3 (t : Tb) (m : Mk) : Tb := if m.list = [] then t.set4 0 else t.at 3 0
def Tb.set2 (t : Tb) (m : Mk) (n : Nat) : Tb := if nxt t.ents 2 n < t.ents.length then t.at 2 (nxt t.ents 2 n) else t.set3 m
def Tb.find (t : Tb) (m : Mk) : Tb := ⟨t.ents, t.q, t.ph, t.nx, fun i => decide ((eAt t.ents i).kind = 2) && m.isW (eAt t.ents i).tgt⟩
def Tb.set1 (t : Tb) (m : Mk) (n : Nat) : Tb := if nxt t.ents 1 n < t.ents.length then t.at 1 (nxt t.ents 1 n) else (t.find m).set2 m 0
def Tb.settle (t : Tb) (m : Mk) : Tb := if t.ph = 1 then t.set1 m t.nx else if t.ph = 2 then t.set2 m t.nx else if t.ph = 3 then t.set3 m else if t.ph = 4 then t.set4 t.nx else t
def Tb.add (t : Tb) (m : Mk) (k x g : Int) : Int × Int × Tb :=
  if k < 1 ∨ 3 < k then (0, 1, t) else if t.ph ≠ 0 then (0, 13, t) else if (m.M.ob x).isSome = false then (0, 3, t) else if 20 ≤ t.ents.length then (0, 2, t)
  else (t.ents.length, 0, ⟨t.ents ++ [⟨k, x, g⟩], t.q, t.ph, t.nx, t.fd⟩)
def Tb.kind (t : Tb) (i : Int) : Int × Int := if i < 0 ∨ (t.ents.length : Int) ≤ i then (0, 1) else ((eAt t.ents i.toNat).kind, 0)
def Tb.take (t : Tb) : Int × Int × Tb := match t.q with | [] => (0, 3, t) | x :: r => (x, 0, ⟨t.ents, r, t.ph, t.nx, t.fd⟩)
def Tb.begin (t : Tb) (m : Mk) : Int × Tb := if t.ph ≠ 0 ∨ m.list ≠ [] then (13, t) else (0, (t.at 1 0).settle m)
def En.off (e : En) : En := ⟨e.kind, 0, e.tag⟩
def Tb.clear (t : Tb) (m : Mk) (i : Nat) : Tb × Mk :=
  let e := eAt t.ents i
  if t.ph = 2 then (if t.fd i then (⟨t.ents.set i e.off, t.q ++ [e.tag], t.ph, t.nx, t.fd⟩, m.shade e.tgt) else (t, m))
  else (if m.isW e.tgt then ⟨t.ents.set i e.off, t.q, t.ph, t.nx, t.fd⟩ else t, m)
def Tb.step (t : Tb) (m : Mk) : Int × Int × Int × Tb × Mk :=
  if t.ph = 0 then (0, 0, 13, t, m) else
  let s := t.settle m
  if s.ph = 3 then (3, m.step.1, 0, s.settle m.step.2.2, m.step.2.2)
  else if s.ents.length ≤ s.nx then (0, 0, 3, s.at 0 0, m)
  else let c := s.clear m s.nx; ((s.ph : Int), (s.nx : Int), 0, (c.1.at s.ph (s.nx + 1)).settle c.2, c.2)
def Tb.steps : Nat → Tb × Mk → Tb × Mk
  | 0, s => s
  | k + 1, s => let u := Tb.steps k s; ((u.1.step u.2).2.2.2.1, (u.1.step u.2).2.2.2.2)
structure Tb.Ok (t : Tb) : Prop where
  le : t.ents.length ≤ 20
  ph : t.ph ≤ 4
  kd : ∀ i, i < t.ents.length → 1 ≤ (eAt t.ents i).kind ∧ (eAt t.ents i).kind ≤ 3
section
variable {t : Tb} {m : Mk} {l : List En} {k : Int} {n i : Nat}
theorem nxt_le : nxt l k n ≤ l.length := fst_le _ _
theorem nxt_at (h : nxt l k n < l.length) : n ≤ nxt l k n ∧ (eAt l (nxt l k n)).kind = k := by
  have := (fst_spec (fun i => decide (n ≤ i) && decide ((eAt l i).kind = k)) l.length).2 h
  simp only [Bool.and_eq_true, decide_eq_true_eq] at this
  exact this
theorem nxt_skip (h1 : n ≤ i) (h2 : i < nxt l k n) : (eAt l i).kind ≠ k := fun e => by
  have := (fst_spec (fun i => decide (n ≤ i) && decide ((eAt l i).kind = k)) l.length).1 i h2
  simp [h1, e] at this
theorem eAt_set {e : En} (hi : i < l.length) (j : Nat) : eAt (l.set i e) j = if j = i then e else eAt l j := by
  unfold eAt
  rw [List.getElem?_set]
  by_cases h : i = j
  · subst h; rw [if_pos rfl, if_pos hi, if_pos rfl]; rfl
  · rw [if_neg h, if_neg (Ne.symm h)]
end
end Go.Proofs.YthflghdaejbdkaaGreat
