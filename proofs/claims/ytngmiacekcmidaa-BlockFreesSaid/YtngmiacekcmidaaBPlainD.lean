/- Pages of blocks, the plain laws: all used blocks freed, one after the other. -/
import Derived.Test.YtngmiacekcmidaaBPlain
namespace Go.Proofs.Ytngmiacekcmidaa

/-- The s-th block to be freed: from the front or from the back. -/
def Pl.posB (P : Pl) (back : Bool) (s : Nat) : Nat := if back then (P.lives (16 * P.n)).length - 1 - s else s
def Pl.atB (P : Pl) (back : Bool) (s : Nat) : Nat := (P.lives (16 * P.n))[P.posB back s]?.getD 0
theorem Pl.posB_lt (P : Pl) (back : Bool) {s : Nat} (h : s < (P.lives (16 * P.n)).length) : P.posB back s < (P.lives (16 * P.n)).length := by
  unfold Pl.posB; split <;> omega
theorem Pl.atB_get (P : Pl) (back : Bool) {s : Nat} (h : s < (P.lives (16 * P.n)).length) : (P.lives (16 * P.n))[P.posB back s]? = some (P.atB back s) := by
  unfold Pl.atB
  rw [List.getElem?_eq_getElem (P.posB_lt back h)]
  rfl
theorem Pl.atB_mem (P : Pl) (back : Bool) {s : Nat} (h : s < (P.lives (16 * P.n)).length) : P.atB back s < 16 * P.n ∧ P.liveA (P.atB back s) = true :=
  Pl.lives_mem.1 (List.mem_of_getElem? (P.atB_get back h))
theorem Pl.atB_inj (P : Pl) (back : Bool) {s r : Nat} (hs : s < (P.lives (16 * P.n)).length) (hr : r < (P.lives (16 * P.n)).length) (h : P.atB back s = P.atB back r) : s = r := by
  have h1 := P.atB_get back hs
  have h2 := P.atB_get back hr
  rw [← h] at h2
  have h3 := (List.getElem?_inj (P.posB_lt back hs) (P.lives_nodup _)).1 (h1.trans h2.symm)
  unfold Pl.posB at h3
  cases back with
  | true => simp only [if_true] at h3; omega
  | false => simpa using h3
theorem Pl.atB_all (P : Pl) (back : Bool) {y : Nat} (hy : y < 16 * P.n) (hl : P.liveA y = true) : ∃ s, s < (P.lives (16 * P.n)).length ∧ P.atB back s = y := by
  obtain ⟨j, hj, e⟩ := List.getElem_of_mem (Pl.lives_mem.2 ⟨hy, hl⟩)
  have e2 : (P.lives (16 * P.n))[j]? = some y := by rw [List.getElem?_eq_getElem hj, e]
  cases back with
  | true =>
    refine ⟨(P.lives (16 * P.n)).length - 1 - j, by omega, ?_⟩
    have e3 : P.posB true ((P.lives (16 * P.n)).length - 1 - j) = j := by unfold Pl.posB; simp only [if_true]; omega
    unfold Pl.atB
    rw [e3, e2]
    rfl
  | false =>
    refine ⟨j, hj, ?_⟩
    have e3 : P.posB false j = j := by unfold Pl.posB; simp
    unfold Pl.atB
    rw [e3, e2]
    rfl
theorem Pl.free_err {P : Pl} {a : Int} (h : (P.free a).1 ≠ 0) : (P.free a).2 = P := by
  unfold Pl.free at h ⊢
  split at h
  · split at h
    · exact absurd rfl h
    · rename_i h1 h2; rw [if_pos h1, if_neg h2]
  · rename_i h1; rw [if_neg h1]
/-- Of the pool P the first i blocks have been freed. -/
structure Freed (P Q : Pl) (back : Bool) (i : Nat) : Prop where
  ok : Q.ok
  n : Q.n = P.n
  live : ∀ y, y < 16 * P.n → (Q.liveA y = true ↔ P.liveA y = true ∧ ∀ s, s < i → P.atB back s ≠ y)
theorem Freed.start {P : Pl} (h : P.ok) (back : Bool) : Freed P P back 0 := ⟨h, rfl, fun y _ => ⟨fun h => ⟨h, fun s hs => by omega⟩, fun h => h.1⟩⟩
theorem Freed.step {P Q : Pl} {back : Bool} {i : Nat} (h : Freed P Q back i) (hi : i < (P.lives (16 * P.n)).length) :
    (Q.free (P.atB back i : Nat)).1 = 0 ∧ ((Q.free (P.atB back i : Nat)).2.free (P.atB back i : Nat)).1 = 3 ∧ ((Q.free (P.atB back i : Nat)).2.free (P.atB back i : Nat)).2 = (Q.free (P.atB back i : Nat)).2 ∧ Freed P (Q.free (P.atB back i : Nat)).2 back (i + 1) := by
  obtain ⟨h1, h2⟩ := P.atB_mem back hi
  have h3 : Q.liveA (P.atB back i) = true := (h.live _ h1).2 ⟨h2, fun s hs e => by have := P.atB_inj back (by omega) hi e; omega⟩
  obtain ⟨f1, f2, f3⟩ := Pl.free_live h.ok (by rw [h.n]; exact h1) h3
  refine ⟨f1, f3, Pl.free_err (by rw [f3]; decide), (h.ok.free _).1, (h.ok.free _).2.trans h.n, fun y hy => ?_⟩
  rw [f2 y (by rw [h.n]; exact hy)]
  simp only [Bool.and_eq_true, decide_eq_true_eq]
  rw [h.live y hy]
  constructor
  · rintro ⟨⟨a, b⟩, c⟩
    refine ⟨a, fun s hs e => ?_⟩
    by_cases hs2 : s < i
    · exact b s hs2 e
    · have : s = i := by omega
      subst this
      exact c e.symm
  · rintro ⟨a, b⟩
    exact ⟨⟨a, fun s hs => b s (by omega)⟩, fun e => b i (by omega) e.symm⟩
theorem Freed.done {P Q : Pl} {back : Bool} {i : Nat} (h : Freed P Q back i) (hi : (P.lives (16 * P.n)).length ≤ i) : Q.freeN P.n = P.n ∧ Q.partN P.n = 0 ∧ Q.fullN P.n = 0 := by
  have := Pl.all_free h.ok (fun y hy => by
    rw [h.n] at hy
    cases hl : Q.liveA y with
    | false => rfl
    | true =>
      exfalso
      obtain ⟨a, b⟩ := (h.live y hy).1 hl
      obtain ⟨s, hs, e⟩ := P.atB_all back hy a
      exact b s (by omega) e)
  rw [h.n] at this
  exact this
/-- The program's row of them. -/
def Pl.livesI (P : Pl) (k : Nat) : List Int := (P.lives k).map fun (n : Nat) => (n : Int)
theorem Pl.livesI_len (P : Pl) (k : Nat) : (P.livesI k).length = (P.lives k).length := by unfold Pl.livesI; simp
theorem Pl.livesI_yes {P : Pl} {k : Nat} (h : P.liveA k = true) : P.livesI (k + 1) = P.livesI k ++ [(k : Int)] := by
  unfold Pl.livesI; rw [Pl.lives_succ, h]; simp
theorem Pl.livesI_no {P : Pl} {k : Nat} (h : P.liveA k = false) : P.livesI (k + 1) = P.livesI k := by
  unfold Pl.livesI; rw [Pl.lives_succ, h]; simp
theorem Pl.lives_le (P : Pl) (k : Nat) : (P.lives k).length ≤ k := by rw [Pl.lives_len]; exact cnt_le _ _
end Go.Proofs.Ytngmiacekcmidaa
