/- Play of the program and of the reference as plain functions; both give the same. -/
import Derived.Test.YtemdkffkpdhciaaQCpl
namespace Go.Proofs.Ytemdkffkpdhciaa

/-- Play of the program, on its way. -/
structure PSt where
  q : QSt
  puts : List Int
  takes : Nat
  put : List Bool
  taken : List Int
def PSt.putStep (σ : PSt) : PSt := { σ with q := σ.q.stepPut.2.2.2, put := if σ.q.stepPut.1 then σ.put ++ [σ.q.stepPut.2.1] else σ.put }
def PSt.takeStep (σ : PSt) : PSt := { σ with q := σ.q.stepTake.2.2.2.2, taken := if σ.q.stepTake.2.1 then σ.taken ++ [σ.q.stepTake.2.2.1] else σ.taken }
def PSt.step (σ : PSt) (x : Int) : PSt :=
  if x = 0 then
    if σ.q.put = 0 then
      match σ.puts with
      | [] => σ
      | y :: ys => PSt.putStep { σ with q := (σ.q.beginPut y).2, puts := ys }
    else σ.putStep
  else
    if σ.q.take = 0 then (if σ.takes = 0 then σ else PSt.takeStep { σ with q := σ.q.beginTake.2, takes := σ.takes - 1 }) else σ.takeStep

/-- Play of the reference, on its way. -/
structure RPl where
  q : RSt
  begun : Nat
  takes : Nat
  put : List Bool
  taken : List Int
def RPl.putStep (ρ : RPl) : RPl := { ρ with q := ρ.q.stepPut.2.2.2, put := if ρ.q.stepPut.1 then ρ.put ++ [ρ.q.stepPut.2.1] else ρ.put }
def RPl.takeStep (ρ : RPl) : RPl := { ρ with q := ρ.q.stepTake.2.2.2.2, taken := if ρ.q.stepTake.2.1 then ρ.taken ++ [ρ.q.stepTake.2.2.1] else ρ.taken }
def RPl.step (puts : List Int) (ρ : RPl) (x : Int) : RPl :=
  if x = 0 then
    if ρ.q.putS = 0 then
      if ρ.begun = puts.length then ρ else RPl.putStep { ρ with q := (ρ.q.beginPut (gI puts ρ.begun)).2, begun := ρ.begun + 1 }
    else ρ.putStep
  else
    if ρ.q.takeS = 0 then (if ρ.takes = 0 then ρ else RPl.takeStep { ρ with q := ρ.q.beginTake.2, takes := ρ.takes - 1 }) else ρ.takeStep

structure PCpl (ps : List Int) (σ : PSt) (ρ : RPl) : Prop where
  q : Cpl σ.q ρ.q
  puts : σ.puts = ps.drop ρ.begun
  begun : ρ.begun ≤ ps.length
  takes : ρ.takes = σ.takes
  put : ρ.put = σ.put
  taken : ρ.taken = σ.taken
  words : ρ.q.words.length ≤ ρ.begun

theorem PCpl.putStep {puts : List Int} {σ : PSt} {ρ : RPl} (h : PCpl puts σ ρ) : PCpl puts σ.putStep ρ.putStep := by
  obtain ⟨h1, h2, h3, h4⟩ := h.q.stepPut
  have h5 := h.q.tok.stepPut.2.2
  refine ⟨h4, h.puts, h.begun, h.takes, ?_, h.taken, Nat.le_trans h5 h.words⟩
  show (if ρ.q.stepPut.1 then ρ.put ++ [ρ.q.stepPut.2.1] else ρ.put) = (if σ.q.stepPut.1 then σ.put ++ [σ.q.stepPut.2.1] else σ.put)
  rw [h1, h2, h.put]
theorem PCpl.takeStep {puts : List Int} {σ : PSt} {ρ : RPl} (h : PCpl puts σ ρ) : PCpl puts σ.takeStep ρ.takeStep := by
  obtain ⟨h1, h2, h3, h4, h5⟩ := h.q.stepTake
  refine ⟨h5, h.puts, h.begun, h.takes, h.put, ?_, by show ρ.q.stepTake.2.2.2.2.words.length ≤ _; rw [h.q.tok.stepTake.2.2]; exact h.words⟩
  show (if ρ.q.stepTake.2.1 then ρ.taken ++ [ρ.q.stepTake.2.2.1] else ρ.taken) = (if σ.q.stepTake.2.1 then σ.taken ++ [σ.q.stepTake.2.2.1] else σ.taken)
  rw [h2, h3, h.taken]
theorem PCpl.step {puts : List Int} {σ : PSt} {ρ : RPl} (h : PCpl puts σ ρ) (x : Int) : PCpl puts (σ.step x) (ρ.step puts x) := by
  unfold PSt.step RPl.step
  by_cases hx : x = 0
  · rw [if_pos hx, if_pos hx]
    by_cases hp : ρ.q.putS = 0
    · rw [if_pos hp, if_pos (by rw [h.q.put]; exact hp)]
      by_cases hb : ρ.begun = puts.length
      · have e : σ.puts = [] := by rw [h.puts, hb, List.drop_length]
        rw [if_pos hb, e]
        exact h
      · have hlt : ρ.begun < puts.length := by have := h.begun; omega
        have e : σ.puts = gI puts ρ.begun :: puts.drop (ρ.begun + 1) := by
          rw [h.puts, List.drop_eq_getElem_cons hlt]
          simp [gI, hlt]
        rw [if_neg hb, e]
        have h1 := h.q.beginPut (gI puts ρ.begun)
        have h2 := (h.q.tok.beginPut (gI puts ρ.begun)).2.2
        have hw := h.words
        exact PCpl.putStep ⟨h1.2, rfl, hlt, h.takes, h.put, h.taken, Nat.le_trans h2 (Nat.succ_le_succ hw)⟩
    · rw [if_neg hp, if_neg (by rw [h.q.put]; exact hp)]
      exact h.putStep
  · rw [if_neg hx, if_neg hx]
    by_cases hp : ρ.q.takeS = 0
    · rw [if_pos hp, if_pos (by rw [h.q.take]; exact hp)]
      by_cases ht : ρ.takes = 0
      · rw [if_pos ht, if_pos (by rw [← h.takes]; exact ht)]
        exact h
      · rw [if_neg ht, if_neg (by rw [← h.takes]; exact ht)]
        have h1 := h.q.beginTake
        exact PCpl.takeStep ⟨h1.2, h.puts, h.begun, by show ρ.takes - 1 = σ.takes - 1; rw [h.takes], h.put, h.taken, by show ρ.q.beginTake.2.words.length ≤ _; rw [h.q.tok.beginTake.2.2]; exact h.words⟩
    · rw [if_neg hp, if_neg (by rw [h.q.take]; exact hp)]
      exact h.takeStep
theorem PCpl.foldl {puts : List Int} : ∀ (l : List Int) {σ : PSt} {ρ : RPl}, PCpl puts σ ρ → PCpl puts (l.foldl PSt.step σ) (l.foldl (RPl.step puts) ρ)
  | [], _, _, h => h
  | x :: l, _, _, h => PCpl.foldl l (h.step x)
end Go.Proofs.Ytemdkffkpdhciaa
