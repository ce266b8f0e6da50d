/- QueueOrders: what holds between the two sides' steps: plain lemmas. -/
import Derived.Test.YtemdkffkpdhciaaQCpl
namespace Go.Proofs.Ytemdkffkpdhciaa
set_option linter.unusedVariables false

structure OInv (n k : Nat) (f : Nat → Int) (s : QSt) (t : RSt) (b s0 s1 : Nat) (w0 w1 : Bool) (P T : List Int) : Prop where
  cpl : Cpl s t
  size : t.size = n
  bk : b ≤ k
  hP : P = t.words.take t.over
  hT : T = t.words.take t.taken
  put : t.putS = if s0 = 0 then 0 else s0 + 1
  s02 : s0 ≤ 2
  last : s0 ≠ 0 → 0 < b ∧ gI t.words t.over = f (b - 1)
  hw0 : s0 ≠ 0 → w0 = true
  take : t.takeS = if s1 = 0 then 0 else s1 + 1
  s12 : s1 ≤ 2
  hw1 : s1 ≠ 0 → w1 = true
  wk : t.words.length ≤ k

section
variable {n k : Nat} {f : Nat → Int} {s : QSt} {t : RSt} {b s0 s1 : Nat} {w0 w1 : Bool} {P T : List Int}
theorem OInv.over_le (h : OInv n k f s t b s0 s1 w0 w1 P T) : t.over ≤ t.words.length ∧ t.taken ≤ t.over := by
  have h1 := h.cpl.tok.ov
  have h2 := h.cpl.tok.tk
  split at h1 <;> omega
theorem OInv.lenP (h : OInv n k f s t b s0 s1 w0 w1 P T) : P.length = t.over := by
  have := h.over_le; rw [h.hP, List.length_take]; omega
theorem OInv.lenT (h : OInv n k f s t b s0 s1 w0 w1 P T) : T.length = t.taken := by
  have := h.over_le; rw [h.hT, List.length_take]; omega
theorem OInv.more (h : OInv n k f s t b s0 s1 w0 w1 P T) : OInv n (k + 1) f s t b s0 s1 w0 w1 P T :=
  ⟨h.cpl, h.size, Nat.le_succ_of_le h.bk, h.hP, h.hT, h.put, h.s02, h.last, h.hw0, h.take, h.s12, h.hw1, Nat.le_succ_of_le h.wk⟩
/-- What the law asks behind each step. -/
theorem OInv.tells (h : OInv n k f s t b s0 s1 w0 w1 P T) : s.items = P.drop T.length ∧ s.len ≤ n ∧ T.length ≤ P.length ∧ P.length ≤ k ∧ s.len ≤ 8 := by
  have h1 := h.over_le
  have h2 := h.cpl.items
  have h3 := h.cpl.le
  have h4 := h.wk
  have h5 := h.cpl.tok.n8
  rw [h.lenP, h.lenT, h2.2, ← h2.1, h.hP]
  refine ⟨rfl, ?_, h1.2, by omega, by omega⟩
  rw [← h.size]; exact h3
theorem OInv.new (hn1 : 1 ≤ n) (hn8 : n ≤ 8) : OInv n 0 f (QSt.new n) { size := n, over := 0, taken := 0, words := [], putS := 0, takeS := 0 } 0 0 0 false false [] [] :=
  ⟨Cpl.new n hn1 hn8, rfl, Nat.le_refl _, rfl, rfl, rfl, by omega, by simp, by simp, rfl, by omega, by simp, by simp⟩

theorem OInv.putNew (h : OInv n k f s t b 0 s1 w0 w1 P T) (hw : isWordB (f b) = true) :
    (s.beginPut (f b)).1 = 0 ∧ (P.length - T.length < n → ∃ s' t', (s.beginPut (f b)).2.stepPut = (false, false, 0, s') ∧ OInv n (k + 1) f s' t' (b + 1) 1 s1 true w1 P T) ∧
      (¬ P.length - T.length < n → ∃ s' t', (s.beginPut (f b)).2.stepPut = (true, false, 0, s') ∧ OInv n (k + 1) f s' t' (b + 1) 0 s1 false w1 P T) := by
  have hp : t.putS = 0 := h.put
  have hsp : s.put = 0 := by rw [h.cpl.put]; exact hp
  have hov := h.cpl.tok.ov
  rw [if_pos hp] at hov
  have hle := h.over_le
  have hc := (h.cpl.beginPut (f b)).2
  have hbs : (s.beginPut (f b)).1 = 0 := by rw [QSt.beginPut_a hw hsp]
  rw [RSt.beginPut_a hw hp] at hc
  rw [h.lenP, h.lenT]
  obtain ⟨e1, e2, e3, e4⟩ := hc.stepPut
  have hst : t.putS = 0 := hp
  refine ⟨hbs, fun hr => ?_, fun hr => ?_⟩
  · have hf : ¬ t.over - t.taken = t.size := by rw [h.size]; omega
    rw [RSt.stepPut_1b (s := { t with putS := 1, words := t.words ++ [f b] }) rfl hf] at e1 e2 e3 e4
    refine ⟨_, _, Prod.ext e1.symm (Prod.ext e2.symm (Prod.ext e3.symm rfl)), e4, h.size, Nat.succ_le_succ h.bk, ?_, ?_, rfl, by omega, fun _ => ⟨by omega, ?_⟩, fun _ => rfl, h.take, h.s12, h.hw1, ?_⟩
    · show P = (t.words ++ [f b]).take t.over
      rw [List.take_append_of_le_length hle.1]; exact h.hP
    · show T = (t.words ++ [f b]).take t.taken
      rw [List.take_append_of_le_length (by omega)]; exact h.hT
    · show gI (t.words ++ [f b]) t.over = f (b + 1 - 1)
      rw [show t.over = t.words.length from hov.symm, gI_append_at]; rfl
    · show (t.words ++ [f b]).length ≤ k + 1
      have := h.wk
      simp; omega
  · have hf : t.over - t.taken = t.size := by have := h.cpl.le; rw [h.size] at this ⊢; omega
    rw [RSt.stepPut_1a (s := { t with putS := 1, words := t.words ++ [f b] }) rfl hf] at e1 e2 e3 e4
    have ew : (t.words ++ [f b]).take t.over = t.words := by rw [← hov]; simp
    refine ⟨_, _, Prod.ext e1.symm (Prod.ext e2.symm (Prod.ext e3.symm rfl)), e4, h.size, Nat.succ_le_succ h.bk, ?_, ?_, rfl, by omega, fun h0 => absurd rfl h0, fun h0 => absurd rfl h0, h.take, h.s12, h.hw1, ?_⟩
    · show P = ((t.words ++ [f b]).take t.over).take t.over
      rw [ew]; exact h.hP
    · show T = ((t.words ++ [f b]).take t.over).take t.taken
      rw [ew]; exact h.hT
    · show ((t.words ++ [f b]).take t.over).length ≤ k + 1
      rw [ew]; have := h.wk; omega
theorem OInv.putOn1 (h : OInv n k f s t b 1 s1 w0 w1 P T) : ∃ s' t', s.stepPut = (false, false, 0, s') ∧ OInv n (k + 1) f s' t' b 2 s1 w0 w1 P T := by
  have hp : t.putS = 2 := h.put
  obtain ⟨e1, e2, e3, e4⟩ := h.cpl.stepPut
  rw [RSt.stepPut_2 hp] at e1 e2 e3 e4
  exact ⟨_, _, Prod.ext e1.symm (Prod.ext e2.symm (Prod.ext e3.symm rfl)), e4, h.size, Nat.le_succ_of_le h.bk, h.hP, h.hT, rfl, by omega, fun _ => h.last (by omega), fun _ => h.hw0 (by omega), h.take, h.s12, h.hw1, Nat.le_succ_of_le h.wk⟩
theorem OInv.putOn2 (h : OInv n k f s t b 2 s1 w0 w1 P T) : ∃ s' t', s.stepPut = (true, true, 0, s') ∧ OInv n (k + 1) f s' t' b 0 s1 w0 w1 (P ++ [f (b - 1)]) T := by
  have hp : t.putS = 3 := h.put
  have hov := h.cpl.tok.ov
  rw [if_neg (by omega)] at hov
  obtain ⟨e1, e2, e3, e4⟩ := h.cpl.stepPut
  rw [RSt.stepPut_3 hp] at e1 e2 e3 e4
  refine ⟨_, _, Prod.ext e1.symm (Prod.ext e2.symm (Prod.ext e3.symm rfl)), e4, h.size, Nat.le_succ_of_le h.bk, ?_, h.hT, rfl, by omega, fun h0 => absurd rfl h0, fun h0 => absurd rfl h0, h.take, h.s12, h.hw1, Nat.le_succ_of_le h.wk⟩
  show P ++ [f (b - 1)] = t.words.take (t.over + 1)
  rw [List.take_succ_eq_append_getElem (by omega), ← (h.last (by omega)).2, h.hP]
  congr 1
  simp [gI, show t.over < t.words.length by omega]
theorem OInv.takeNew (h : OInv n k f s t b s0 0 w0 w1 P T) :
    s.beginTake.1 = 0 ∧ (T.length < P.length → ∃ s' t', s.beginTake.2.stepTake = (false, false, 0, 0, s') ∧ OInv n (k + 1) f s' t' b s0 1 w0 true P T) ∧
      (¬ T.length < P.length → ∃ s' t', s.beginTake.2.stepTake = (true, false, 0, 0, s') ∧ OInv n (k + 1) f s' t' b s0 0 w0 false P T) := by
  have hp : t.takeS = 0 := h.take
  have hsp : s.take = 0 := by rw [h.cpl.take]; exact hp
  have hle := h.over_le
  have hc := h.cpl.beginTake.2
  have hbs : s.beginTake.1 = 0 := by rw [QSt.beginTake_a hsp]
  rw [RSt.beginTake_a hp] at hc
  rw [h.lenP, h.lenT]
  obtain ⟨e1, e2, e3, e3', e4⟩ := hc.stepTake
  refine ⟨hbs, fun hr => ?_, fun hr => ?_⟩
  · have hf : ¬ t.over = t.taken := by omega
    rw [RSt.stepTake_1b (s := { t with takeS := 1 }) rfl hf] at e1 e2 e3 e3' e4
    exact ⟨_, _, Prod.ext e1.symm (Prod.ext e2.symm (Prod.ext e3.symm (Prod.ext e3'.symm rfl))), e4, h.size, Nat.le_succ_of_le h.bk, h.hP, h.hT, h.put, h.s02, h.last, h.hw0, rfl, by omega, fun _ => rfl, Nat.le_succ_of_le h.wk⟩
  · have hf : t.over = t.taken := by omega
    rw [RSt.stepTake_1a (s := { t with takeS := 1 }) rfl hf] at e1 e2 e3 e3' e4
    exact ⟨_, _, Prod.ext e1.symm (Prod.ext e2.symm (Prod.ext e3.symm (Prod.ext e3'.symm rfl))), e4, h.size, Nat.le_succ_of_le h.bk, h.hP, h.hT, h.put, h.s02, h.last, h.hw0, rfl, by omega, fun h0 => absurd rfl h0, Nat.le_succ_of_le h.wk⟩
theorem OInv.takeOn1 (h : OInv n k f s t b s0 1 w0 w1 P T) : ∃ s' t', s.stepTake = (false, false, 0, 0, s') ∧ OInv n (k + 1) f s' t' b s0 2 w0 w1 P T := by
  have hp : t.takeS = 2 := h.take
  obtain ⟨e1, e2, e3, e3', e4⟩ := h.cpl.stepTake
  rw [RSt.stepTake_2 hp] at e1 e2 e3 e3' e4
  exact ⟨_, _, Prod.ext e1.symm (Prod.ext e2.symm (Prod.ext e3.symm (Prod.ext e3'.symm rfl))), e4, h.size, Nat.le_succ_of_le h.bk, h.hP, h.hT, h.put, h.s02, h.last, h.hw0, rfl, by omega, fun _ => h.hw1 (by omega), Nat.le_succ_of_le h.wk⟩
theorem OInv.takeOn2 (h : OInv n k f s t b s0 2 w0 w1 P T) : ∃ s' t', s.stepTake = (true, true, gI P T.length, 0, s') ∧ T.length < P.length ∧ OInv n (k + 1) f s' t' b s0 0 w0 w1 P (T ++ [gI P T.length]) := by
  have hp : t.takeS = 3 := h.take
  have hlt := h.cpl.some2 (by omega)
  have hle := h.over_le
  obtain ⟨e1, e2, e3, e3', e4⟩ := h.cpl.stepTake
  rw [RSt.stepTake_3 hp] at e1 e2 e3 e3' e4
  have eg : gI P T.length = gI t.words t.taken := by rw [h.lenT, h.hP, gI_take hlt]
  refine ⟨_, _, Prod.ext e1.symm (Prod.ext e2.symm (Prod.ext (e3.symm.trans eg.symm) (Prod.ext e3'.symm rfl))), by rw [h.lenP, h.lenT]; exact hlt, e4, h.size, Nat.le_succ_of_le h.bk, h.hP, ?_, h.put, h.s02, h.last, h.hw0, rfl, by omega, fun h0 => absurd rfl h0, Nat.le_succ_of_le h.wk⟩
  show T ++ [gI P T.length] = t.words.take (t.taken + 1)
  rw [List.take_succ_eq_append_getElem (by omega), eg, h.hT]
  congr 1
  simp [gI, show t.taken < t.words.length by omega]
end
end Go.Proofs.Ytemdkffkpdhciaa
