/- The queue of the program and that of the reference do and tell the same: plain lemmas. -/
import Derived.Test.YtemdkffkpdhciaaQModel
namespace Go.Proofs.Ytemdkffkpdhciaa

/-- The two queues hold the same. -/
structure Cpl (s : QSt) (t : RSt) : Prop where
  sok : s.ok
  tok : t.ok
  n : s.cells.length = t.size + 1
  put : s.put = t.putS
  take : s.take = t.takeS
  head : s.head = t.taken % (t.size + 1)
  tail : s.tail = t.over % (t.size + 1)
  le : t.over - t.taken ≤ t.size
  ws : ∀ k, t.taken ≤ k → k < t.over → gI s.cells (k % (t.size + 1)) = gI t.words k
  pw : 1 ≤ t.putS → s.word = gI t.words t.over
  room : 2 ≤ t.putS → t.over - t.taken < t.size
  p3 : t.putS = 3 → gI s.cells (t.over % (t.size + 1)) = gI t.words t.over
  some2 : 2 ≤ t.takeS → t.taken < t.over
  t3 : t.takeS = 3 → s.taken = gI t.words t.taken

theorem gI_append_left {l r : List Int} {k : Nat} (h : k < l.length) : gI (l ++ r) k = gI l k := by
  simp [gI, List.getElem?_append, h]
theorem gI_append_at (l : List Int) (x : Int) : gI (l ++ [x]) l.length = x := by simp [gI]
theorem gI_take {l : List Int} {k n : Nat} (h : k < n) : gI (l.take n) k = gI l k := by simp [gI, List.getElem?_take_of_lt h]
theorem gI_set_ne {l : List Int} {i k : Nat} {x : Int} (h : i ≠ k) : gI (l.set i x) k = gI l k := by simp [gI, List.getElem?_set_ne h]
theorem gI_set_eq {l : List Int} {i : Nat} {x : Int} (h : i < l.length) : gI (l.set i x) i = x := by simp [gI, h]

theorem Cpl.new (n : Nat) (h1 : 1 ≤ n) (h2 : n ≤ 8) : Cpl (QSt.new n) { size := n, over := 0, taken := 0, words := [], putS := 0, takeS := 0 } := by
  refine ⟨QSt.new_ok n h1 h2, ⟨h1, h2, Nat.le_refl _, rfl, by simp, by simp, .inl rfl⟩, by simp [QSt.new], rfl, rfl, by simp [QSt.new], by simp [QSt.new], by simp, ?_, by simp, by simp, by simp, by simp, by simp⟩
  intro k h3 h4
  simp at h4

theorem Cpl.beginPut {s : QSt} {t : RSt} (h : Cpl s t) (n : Int) : (t.beginPut n).1 = (s.beginPut n).1 ∧ Cpl (s.beginPut n).2 (t.beginPut n).2 := by
  have hs := (h.sok.beginPut n).1
  have ht := (h.tok.beginPut n).1
  have h' := h
  obtain ⟨sok, tok, hn, put, take, head, tail, le, ws, pw, room, p3, some2, t3⟩ := h
  by_cases hw : isWordB n = true
  · by_cases hp : t.putS = 0
    · rw [QSt.beginPut_a hw (by omega)] at hs ⊢
      rw [RSt.beginPut_a hw hp] at ht ⊢
      have hov : t.words.length = t.over := by have := tok.ov; rw [if_pos hp] at this; exact this
      refine ⟨rfl, hs, ht, hn, rfl, take, head, tail, le, ?_, ?_, by simp, by simp, some2, ?_⟩
      · intro k h1 h2
        rw [gI_append_left (by simp only at h2; omega)]
        exact ws k h1 h2
      · intro _
        show n = gI (t.words ++ [n]) t.over
        rw [← hov, gI_append_at]
      · intro h3
        have := some2 (by simp only at h3; omega)
        rw [gI_append_left (by simp only; omega)]
        exact t3 h3
    · rw [QSt.beginPut_b hw (by omega), RSt.beginPut_b hw hp]
      exact ⟨rfl, h'⟩
  · rw [QSt.beginPut_c hw, RSt.beginPut_c hw]
    exact ⟨rfl, h'⟩

theorem Cpl.beginTake {s : QSt} {t : RSt} (h : Cpl s t) : t.beginTake.1 = s.beginTake.1 ∧ Cpl s.beginTake.2 t.beginTake.2 := by
  have hs := h.sok.beginTake.1
  have ht := h.tok.beginTake.1
  have h' := h
  obtain ⟨sok, tok, hn, put, take, head, tail, le, ws, pw, room, p3, some2, t3⟩ := h
  by_cases hp : t.takeS = 0
  · rw [QSt.beginTake_a (by omega)] at hs ⊢
    rw [RSt.beginTake_a hp] at ht ⊢
    exact ⟨rfl, hs, ht, hn, put, rfl, head, tail, le, ws, pw, room, p3, by simp, by simp⟩
  · rw [QSt.beginTake_b (by omega), RSt.beginTake_b hp]
    exact ⟨rfl, h'⟩

theorem mod_ne {a b n : Nat} (h1 : a < b) (h2 : b - a < n) : a % n ≠ b % n := by
  intro h
  have h3 : (b - a) % n = 0 := Nat.sub_mod_eq_zero_of_mod_eq h.symm
  rw [Nat.mod_eq_of_lt h2] at h3
  omega

theorem Cpl.full {s : QSt} {t : RSt} (h : Cpl s t) : s.nx s.tail = s.head ↔ t.over - t.taken = t.size := by
  have h1 := h.tok.tk
  have h2 := h.le
  have h3 := h.tok.n1
  have e : s.nx s.tail = (t.over + 1) % (t.size + 1) := by
    unfold QSt.nx
    rw [h.n, h.tail, Nat.mod_add_mod]
  rw [e, h.head]
  constructor
  · intro h4
    rcases Nat.lt_or_ge (t.over - t.taken) t.size with h5 | h5
    · exact absurd h4.symm (mod_ne (by omega) (by omega))
    · omega
  · intro h4
    have : t.over + 1 = t.taken + (t.size + 1) := by omega
    rw [this, Nat.add_mod_right]

theorem Cpl.empty {s : QSt} {t : RSt} (h : Cpl s t) : s.head = s.tail ↔ t.over = t.taken := by
  have h1 := h.tok.tk
  have h2 := h.le
  rw [h.head, h.tail]
  constructor
  · intro h4
    rcases Nat.lt_or_ge t.taken t.over with h5 | h5
    · exact absurd h4 (mod_ne h5 (by omega))
    · omega
  · intro h4
    rw [h4]

theorem Cpl.stepPut {s : QSt} {t : RSt} (h : Cpl s t) : t.stepPut.1 = s.stepPut.1 ∧ t.stepPut.2.1 = s.stepPut.2.1 ∧ t.stepPut.2.2.1 = s.stepPut.2.2.1 ∧ Cpl s.stepPut.2.2.2 t.stepPut.2.2.2 := by
  have hs := h.sok.stepPut.1
  have ht := h.tok.stepPut.1
  have hfull := h.full
  have h' := h
  obtain ⟨sok, tok, hn, put, take, head, tail, le, ws, pw, room, p3, some2, t3⟩ := h
  have hps := tok.ps
  have htk := tok.tk
  have hn1 := tok.n1
  have hcase : t.putS = 0 ∨ t.putS = 1 ∨ t.putS = 2 ∨ t.putS = 3 := by omega
  rcases hcase with h0 | h0 | h0 | h0
  · rw [QSt.stepPut_0 (by omega), RSt.stepPut_0 h0]
    exact ⟨rfl, rfl, rfl, h'⟩
  · by_cases h2 : t.over - t.taken = t.size
    · rw [QSt.stepPut_1a (by omega) (hfull.2 h2)] at hs ⊢
      rw [RSt.stepPut_1a h0 h2] at ht ⊢
      refine ⟨rfl, rfl, rfl, hs, ht, hn, rfl, take, head, tail, le, ?_, by simp, by simp, by simp, some2, ?_⟩
      · intro k h3 h4
        rw [gI_take h4]
        exact ws k h3 h4
      · intro h3
        rw [gI_take (by have := some2 (by simp only at h3; omega); exact this)]
        exact t3 h3
    · rw [QSt.stepPut_1b (by omega) (fun hh => h2 (hfull.1 hh))] at hs ⊢
      rw [RSt.stepPut_1b h0 h2] at ht ⊢
      exact ⟨rfl, rfl, rfl, hs, ht, hn, rfl, take, head, tail, le, ws, fun _ => pw (by omega), fun _ => (by show t.over - t.taken < t.size; omega), by simp, some2, t3⟩
  · have hr := room (by omega)
    have hw := pw (by omega)
    have hto := sok.tl
    rw [QSt.stepPut_2 (by omega)] at hs ⊢
    rw [RSt.stepPut_2 h0] at ht ⊢
    refine ⟨rfl, rfl, rfl, hs, ht, by simpa using hn, rfl, take, head, tail, le, ?_, fun _ => hw, fun _ => hr, fun _ => ?_, some2, t3⟩
    · intro k h3 h4
      have h3' : t.taken ≤ k := h3
      have h4' : k < t.over := h4
      show gI (s.cells.set s.tail s.word) (k % (t.size + 1)) = _
      rw [gI_set_ne (by rw [tail]; exact (mod_ne h4' (by omega)).symm)]
      exact ws k h3 h4
    · show gI (s.cells.set s.tail s.word) (t.over % (t.size + 1)) = _
      rw [← tail, gI_set_eq hto]
      exact hw
  · have hr := room (by omega)
    have hp3 := p3 h0
    rw [QSt.stepPut_3 (by omega)] at hs ⊢
    rw [RSt.stepPut_3 h0] at ht ⊢
    refine ⟨rfl, rfl, rfl, hs, ht, hn, rfl, take, head, ?_, ?_, ?_, by simp, by simp, by simp, ?_, t3⟩
    · show s.nx s.tail = (t.over + 1) % (t.size + 1)
      unfold QSt.nx
      rw [hn, tail, Nat.mod_add_mod]
    · show t.over + 1 - t.taken ≤ t.size
      omega
    · intro k h4 h5
      rcases Nat.lt_or_ge k t.over with h6 | h6
      · exact ws k h4 h6
      · have : k = t.over := by simp only at h5; omega
        subst this
        exact hp3
    · intro h4
      have := some2 h4
      show t.taken < t.over + 1
      omega

theorem Cpl.stepTake {s : QSt} {t : RSt} (h : Cpl s t) : t.stepTake.1 = s.stepTake.1 ∧ t.stepTake.2.1 = s.stepTake.2.1 ∧ t.stepTake.2.2.1 = s.stepTake.2.2.1 ∧ t.stepTake.2.2.2.1 = s.stepTake.2.2.2.1 ∧ Cpl s.stepTake.2.2.2.2 t.stepTake.2.2.2.2 := by
  have hs := h.sok.stepTake.1
  have ht := h.tok.stepTake.1
  have hem := h.empty
  have h' := h
  obtain ⟨sok, tok, hn, put, take, head, tail, le, ws, pw, room, p3, some2, t3⟩ := h
  have hts := tok.ts
  have htk := tok.tk
  have hcase : t.takeS = 0 ∨ t.takeS = 1 ∨ t.takeS = 2 ∨ t.takeS = 3 := by omega
  rcases hcase with h0 | h0 | h0 | h0
  · rw [QSt.stepTake_0 (by omega), RSt.stepTake_0 h0]
    exact ⟨rfl, rfl, rfl, rfl, h'⟩
  · by_cases h2 : t.over = t.taken
    · rw [QSt.stepTake_1a (by omega) (hem.2 h2)] at hs ⊢
      rw [RSt.stepTake_1a h0 h2] at ht ⊢
      exact ⟨rfl, rfl, rfl, rfl, hs, ht, hn, put, rfl, head, tail, le, ws, pw, room, p3, by simp, by simp⟩
    · rw [QSt.stepTake_1b (by omega) (fun hh => h2 (hem.1 hh))] at hs ⊢
      rw [RSt.stepTake_1b h0 h2] at ht ⊢
      exact ⟨rfl, rfl, rfl, rfl, hs, ht, hn, put, rfl, head, tail, le, ws, pw, room, p3, fun _ => (by show t.taken < t.over; omega), by simp⟩
  · have hlt := some2 (by omega)
    rw [QSt.stepTake_2 (by omega)] at hs ⊢
    rw [RSt.stepTake_2 h0] at ht ⊢
    refine ⟨rfl, rfl, rfl, rfl, hs, ht, hn, put, rfl, head, tail, le, ws, pw, room, p3, fun _ => hlt, fun _ => ?_⟩
    show gI s.cells s.head = gI t.words t.taken
    rw [head]
    exact ws _ (Nat.le_refl _) hlt
  · have hlt := some2 (by omega)
    have ht3 := t3 h0
    rw [QSt.stepTake_3 (by omega)] at hs ⊢
    rw [RSt.stepTake_3 h0] at ht ⊢
    refine ⟨rfl, rfl, ht3.symm, rfl, hs, ht, hn, put, rfl, ?_, tail, ?_, ?_, pw, ?_, p3, by simp, by simp⟩
    · show s.nx s.head = (t.taken + 1) % (t.size + 1)
      unfold QSt.nx
      rw [hn, head, Nat.mod_add_mod]
    · show t.over - (t.taken + 1) ≤ t.size
      omega
    · intro k h4 h5
      exact ws k (by simp only at h4; omega) h5
    · intro h4
      have := room h4
      show t.over - (t.taken + 1) < t.size
      omega

/-- Both tell the same words. -/
theorem Cpl.items {s : QSt} {t : RSt} (h : Cpl s t) : t.items = s.items ∧ s.len = t.over - t.taken := by
  have h1 := h.tok.tk
  have h2 := h.le
  have h3 := h.tok.n1
  have hov : t.over ≤ t.words.length := by have := h.tok.ov; split at this <;> omega
  have hl : s.len = t.over - t.taken := by
    have e := (s.pl_tail h.sok (t.over - t.taken))
    have e2 : s.pl (t.over - t.taken) = s.tail := by
      unfold QSt.pl
      rw [h.n, h.head, h.tail, Nat.mod_add_mod]
      congr 1
      omega
    rcases Nat.lt_or_ge s.len (t.over - t.taken) with h5 | h5
    · have h6 := (s.pl_tail h.sok s.len (Nat.le_refl _)).2 rfl
      unfold QSt.pl at h6
      rw [h.n, h.head, h.tail, Nat.mod_add_mod] at h6
      exact absurd h6 (mod_ne (by omega) (by omega))
    · exact ((e h5).1 e2).symm
  refine ⟨?_, hl⟩
  apply List.ext_getElem?
  intro i
  unfold QSt.items RSt.items
  rw [hl]
  rcases Nat.lt_or_ge i (t.over - t.taken) with hi | hi
  · rw [List.getElem?_drop, List.getElem?_take_of_lt (by omega), List.getElem?_map, List.getElem?_range hi]
    have hw := h.ws (t.taken + i) (by omega) (by omega)
    have hp : s.pl i = (t.taken + i) % (t.size + 1) := by
      unfold QSt.pl
      rw [h.n, h.head, Nat.mod_add_mod]
    simp only [Option.map_some, hp, hw]
    rw [List.getElem?_eq_getElem (by omega), gI, List.getElem?_eq_getElem (by omega)]
    rfl
  · rw [List.getElem?_eq_none (by simp; omega), List.getElem?_eq_none (by simp; omega)]
end Go.Proofs.Ytemdkffkpdhciaa
