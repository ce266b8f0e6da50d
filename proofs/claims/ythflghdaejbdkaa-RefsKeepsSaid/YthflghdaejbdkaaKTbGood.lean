/- Lemmas of this claim. -/
import Derived.Test.YthflghdaejbdkaaKTbModel
namespace Go.Proofs.Ythflghdaejbdkaa
set_option linter.unusedVariables false
set_option maxRecDepth 100000
def Tb.zeros (t : Tb) : Nat := cnt (fun i => decide ((eAt t.ents i).tgt = 0)) t.ents.length
structure Tb.Base (t : Tb) (m : Mk) : Prop where
  le : t.ents.length ≤ 20
  kd : ∀ i, i < t.ents.length → 1 ≤ (eAt t.ents i).kind ∧ (eAt t.ents i).kind ≤ 3
  us : ∀ i, i < t.ents.length → (eAt t.ents i).tgt ≠ 0 → (m.M.ob (eAt t.ents i).tgt).isSome = true
  ql : t.q.length ≤ t.zeros
structure Tb.Good (t : Tb) (m : Mk) : Prop where
  b : t.Base m
  p4 : t.ph ≤ 4
  nl : t.nx ≤ t.ents.length
  z3 : t.ph = 3 → t.nx = 0
  fd : t.ph = 2 → ∀ i, t.nx ≤ i → i < t.ents.length → t.fd i = true → (eAt t.ents i).tgt ≠ 0
structure Tb.Stl (s : Tb) (m : Mk) : Prop where
  p1 : 1 ≤ s.ph
  a : s.ph = 1 ∨ s.ph = 2 → s.nx < s.ents.length ∧ (eAt s.ents s.nx).kind = (s.ph : Int)
  c : s.ph = 3 → m.list ≠ []
  d : s.ph = 4 → s.nx < s.ents.length → (eAt s.ents s.nx).kind = 3
section
variable {t s : Tb} {m m' : Mk} {l : List En} {n i : Nat} {k : Int}
theorem Tb.Base.at (h : t.Base m) (a n : Nat) : (t.at a n).Base m := ⟨h.le, h.kd, h.us, h.ql⟩
theorem Tb.Base.find (h : t.Base m) : (t.find m).Base m := ⟨h.le, h.kd, h.us, h.ql⟩
theorem Tb.zeros_le : t.zeros ≤ t.ents.length := cnt_le _ _
theorem Tb.Base.q20 (h : t.Base m) : t.q.length ≤ 20 := by have := h.ql; have := h.le; have := Tb.zeros_le (t := t); omega
theorem Tb.Base.tg (h : t.Base m) (hk : m.M.Ok) {i : Nat} (hi : i < t.ents.length) : 0 ≤ (eAt t.ents i).tgt ∧ (eAt t.ents i).tgt ≤ 192 := by
  by_cases e : (eAt t.ents i).tgt = 0
  · rw [e]; omega
  · have := hk.inR (h.us i hi e); omega
theorem Tb.Base.marker (h : t.Base m) (hM : ∀ k, (m.M.ob k).isSome = true → (m'.M.ob k).isSome = true) : t.Base m' := ⟨h.le, h.kd, fun i hi e => hM _ (h.us i hi e), h.ql⟩
theorem Tb.Good.marker (h : t.Good m) (hM : ∀ k, (m.M.ob k).isSome = true → (m'.M.ob k).isSome = true) : t.Good m' := ⟨h.b.marker hM, h.p4, h.nl, h.z3, h.fd⟩
theorem Tb.good_set4 (h : t.Base m) (n : Nat) : (t.set4 n).Good m := ⟨h.at _ _, Nat.le_refl 4, nxt_le, fun e => by simp [Tb.set4, Tb.at] at e, fun e => by simp [Tb.set4, Tb.at] at e⟩
theorem Tb.stl_set4 (n : Nat) : (t.set4 n).Stl m := ⟨by show 1 ≤ 4; omega, fun e => by simp [Tb.set4, Tb.at] at e, fun e => by simp [Tb.set4, Tb.at] at e, fun _ h => (nxt_at h).2⟩
theorem Tb.good_set3 (h : t.Base m) : (t.set3 m).Good m := by
  unfold Tb.set3
  split
  · exact Tb.good_set4 h 0
  · exact ⟨h.at _ _, by show 3 ≤ 4; omega, Nat.zero_le _, fun _ => rfl, fun e => by simp [Tb.at] at e⟩
theorem Tb.stl_set3 : (t.set3 m).Stl m := by
  unfold Tb.set3
  split
  · exact Tb.stl_set4 0
  · rename_i h
    exact ⟨by show 1 ≤ 3; omega, fun e => by simp [Tb.at] at e, fun _ => h, fun e => by simp [Tb.at] at e⟩
theorem Tb.good_set2 (h : t.Base m) (hf : ∀ i, n ≤ i → i < t.ents.length → t.fd i = true → (eAt t.ents i).tgt ≠ 0) : (t.set2 m n).Good m := by
  unfold Tb.set2
  split
  · rename_i h1
    exact ⟨h.at _ _, by show 2 ≤ 4; omega, nxt_le, fun e => by simp [Tb.at] at e, fun _ i hi hl hd => hf i (Nat.le_trans (nxt_at h1).1 hi) hl hd⟩
  · exact Tb.good_set3 h
theorem Tb.stl_set2 : (t.set2 m n).Stl m := by
  unfold Tb.set2
  split
  · rename_i h1
    exact ⟨by show 1 ≤ 2; omega, fun _ => ⟨h1, (nxt_at h1).2⟩, fun e => by simp [Tb.at] at e, fun e => by simp [Tb.at] at e⟩
  · exact Tb.stl_set3
theorem isW_ne (hk : m.M.Ok) {x : Int} (h : m.isW x = true) : x ≠ 0 ∧ (m.M.ob x).isSome = true := by
  unfold Mk.isW at h
  simp only [Bool.and_eq_true, decide_eq_true_eq] at h
  have := hk.inR h.1
  exact ⟨by omega, h.1⟩
theorem Tb.good_set1 (hk : m.M.Ok) (h : t.Base m) : (t.set1 m n).Good m := by
  unfold Tb.set1
  split
  · exact ⟨h.at _ _, by show 1 ≤ 4; omega, nxt_le, fun e => by simp [Tb.at] at e, fun e => by simp [Tb.at] at e⟩
  · refine Tb.good_set2 h.find fun i _ hi hd => ?_
    have h2 : (decide ((eAt t.ents i).kind = 2) && m.isW (eAt t.ents i).tgt) = true := hd
    rw [Bool.and_eq_true] at h2
    exact (isW_ne hk h2.2).1
theorem Tb.stl_set1 : (t.set1 m n).Stl m := by
  unfold Tb.set1
  split
  · rename_i h1
    exact ⟨Nat.le_refl 1, fun _ => ⟨h1, (nxt_at h1).2⟩, fun e => by simp [Tb.at] at e, fun e => by simp [Tb.at] at e⟩
  · exact Tb.stl_set2
theorem Tb.Good.settle (hk : m.M.Ok) (h : t.Good m) : (t.settle m).Good m := by
  unfold Tb.settle
  split
  · exact Tb.good_set1 hk h.b
  split
  · rename_i e; exact Tb.good_set2 h.b (h.fd e)
  split
  · exact Tb.good_set3 h.b
  split
  · exact Tb.good_set4 h.b _
  · exact h
theorem Tb.stl_settle (h1 : 1 ≤ t.ph) (h4 : t.ph ≤ 4) : (t.settle m).Stl m := by
  unfold Tb.settle
  split
  · exact Tb.stl_set1
  split
  · exact Tb.stl_set2
  split
  · exact Tb.stl_set3
  split
  · exact Tb.stl_set4 _
  · omega
theorem Tb.set4_same (n : Nat) : (t.set4 n).ents = t.ents ∧ (t.set4 n).q = t.q := ⟨rfl, rfl⟩
theorem Tb.set3_same : (t.set3 m).ents = t.ents ∧ (t.set3 m).q = t.q := by unfold Tb.set3; split <;> exact ⟨rfl, rfl⟩
theorem Tb.set2_same : (t.set2 m n).ents = t.ents ∧ (t.set2 m n).q = t.q := by
  unfold Tb.set2
  split
  · exact ⟨rfl, rfl⟩
  · exact Tb.set3_same
theorem Tb.set1_same : (t.set1 m n).ents = t.ents ∧ (t.set1 m n).q = t.q := by
  unfold Tb.set1
  split
  · exact ⟨rfl, rfl⟩
  · exact ⟨Tb.set2_same.1, Tb.set2_same.2⟩
theorem Tb.settle_same : (t.settle m).ents = t.ents ∧ (t.settle m).q = t.q := by
  unfold Tb.settle
  split
  · exact Tb.set1_same
  split
  · exact Tb.set2_same
  split
  · exact Tb.set3_same
  split
  · exact Tb.set4_same _
  · exact ⟨rfl, rfl⟩
theorem zeros_off (hi : i < t.ents.length) {q : List Int} {ph nx : Nat} {fd : Nat → Bool} : (⟨t.ents.set i (eAt t.ents i).off, q, ph, nx, fd⟩ : Tb).zeros = t.zeros + if (eAt t.ents i).tgt = 0 then 0 else 1 := by
  have h1 : (⟨t.ents.set i (eAt t.ents i).off, q, ph, nx, fd⟩ : Tb).zeros = cnt (up (fun j => decide ((eAt t.ents j).tgt = 0)) i true) t.ents.length := by
    unfold Tb.zeros
    show cnt _ (t.ents.set i _).length = _
    rw [List.length_set]
    refine cnt_congr fun j hj => ?_
    show decide ((eAt (t.ents.set i _) j).tgt = 0) = _
    rw [eAt_set hi]
    by_cases e : j = i
    · rw [if_pos e, e, up_same]; rfl
    · rw [if_neg e, up_other _ _ e]
  rw [h1]
  by_cases e : (eAt t.ents i).tgt = 0
  · rw [if_pos e]
    refine cnt_congr fun j hj => ?_
    by_cases e2 : j = i
    · rw [e2, up_same, e]; rfl
    · rw [up_other _ _ e2]
  · rw [if_neg e]
    exact cnt_set hi (by simp [e])
theorem Tb.Base.off (h : t.Base m) (hi : i < t.ents.length) {q : List Int} {ph nx : Nat} {fd : Nat → Bool} (hq : q.length ≤ t.q.length + if (eAt t.ents i).tgt = 0 then 0 else 1) : (⟨t.ents.set i (eAt t.ents i).off, q, ph, nx, fd⟩ : Tb).Base m := by
  refine ⟨by show (t.ents.set i _).length ≤ 20; rw [List.length_set]; exact h.le, fun j hj => ?_, fun j hj he => ?_, ?_⟩
  · have hj2 : j < t.ents.length := by have : j < (t.ents.set i (eAt t.ents i).off).length := hj; rw [List.length_set] at this; exact this
    show 1 ≤ (eAt (t.ents.set i _) j).kind ∧ (eAt (t.ents.set i _) j).kind ≤ 3
    rw [eAt_set hi]
    split
    · exact h.kd i hi
    · exact h.kd j hj2
  · have hj2 : j < t.ents.length := by have : j < (t.ents.set i (eAt t.ents i).off).length := hj; rw [List.length_set] at this; exact this
    replace he : (eAt (t.ents.set i (eAt t.ents i).off) j).tgt ≠ 0 := he
    show (m.M.ob (eAt (t.ents.set i _) j).tgt).isSome = true
    rw [eAt_set hi] at he ⊢
    split
    · rename_i e; rw [if_pos e] at he; exact absurd rfl he
    · rename_i e; rw [if_neg e] at he; exact h.us j hj2 he
  · rw [zeros_off hi]
    have := h.ql
    show q.length ≤ _
    omega
theorem Mk.shade_left {x : Int} : (m.shade x).left = m.left := by
  unfold Mk.left
  rw [Mk.shade_M]
  refine cnt_congr fun j hj => ?_
  rcases Mk.shade_col (m := m) (x := x) ((j : Int) + 1) with h | ⟨_, _, h2, h3⟩
  · rw [h]
  · rw [h2, h3]; rfl
theorem Tb.clear_facts (h : s.Good m) (hs : s.Stl m) (hi : s.nx < s.ents.length) (h3 : s.ph ≠ 3) (hk : m.M.Ok) : (s.clear m s.nx).1.Base m ∧ (s.clear m s.nx).1.ents.length = s.ents.length ∧ (s.clear m s.nx).1.fd = s.fd ∧ (s.clear m s.nx).1.ph = s.ph ∧ (∀ j, j ≠ s.nx → eAt (s.clear m s.nx).1.ents j = eAt s.ents j) ∧ ((s.clear m s.nx).2 = m ∨ ∃ x, (s.clear m s.nx).2 = m.shade x) := by
  unfold Tb.clear
  simp only
  split
  · split
    · rename_i e hd
      refine ⟨h.b.off hi (by rw [List.length_append, if_neg (h.fd e _ (Nat.le_refl _) hi hd)]; exact Nat.le_refl _), by show (s.ents.set _ _).length = _; rw [List.length_set], rfl, rfl, fun j hj => ?_, .inr ⟨_, rfl⟩⟩
      show eAt (s.ents.set _ _) j = _
      rw [eAt_set hi, if_neg hj]
    · exact ⟨h.b, rfl, rfl, rfl, fun _ _ => rfl, .inl rfl⟩
  · split
    · refine ⟨h.b.off hi (by omega), by show (s.ents.set _ _).length = _; rw [List.length_set], rfl, rfl, fun j hj => ?_, .inl rfl⟩
      show eAt (s.ents.set _ _) j = _
      rw [eAt_set hi, if_neg hj]
    · exact ⟨h.b, rfl, rfl, rfl, fun _ _ => rfl, .inl rfl⟩
theorem clear_mk (hm : m.Ok) (hc : m' = m ∨ ∃ x, m' = m.shade x) : m'.Ok ∧ m'.M = m.M ∧ m'.left = m.left := by
  rcases hc with rfl | ⟨x, rfl⟩
  · exact ⟨hm, rfl, rfl⟩
  · exact ⟨hm.shade x, Mk.shade_M, Mk.shade_left⟩
theorem Tb.Good.clear (h : s.Good m) (hs : s.Stl m) (hi : s.nx < s.ents.length) (h3 : s.ph ≠ 3) (hm : m.Ok) : ((s.clear m s.nx).1.at s.ph (s.nx + 1)).Good (s.clear m s.nx).2 := by
  obtain ⟨h1, h2, h4, h5, h6, h7⟩ := Tb.clear_facts h hs hi h3 hm.hf.ok
  have h8 := clear_mk hm h7
  clear h7
  generalize s.clear m s.nx = c at *
  obtain ⟨c1, c2⟩ := c
  replace h2 : c1.ents.length = s.ents.length := h2
  refine ⟨(Tb.Base.at h1 _ _).marker (fun k hk => by rw [h8.2.1]; exact hk), h.p4, by show s.nx + 1 ≤ c1.ents.length; omega, fun e => absurd e h3, fun e i hi1 hi2 hd => ?_⟩
  replace hd : c1.fd i = true := hd
  replace hi2 : i < c1.ents.length := hi2
  replace hi1 : s.nx + 1 ≤ i := hi1
  replace h4 : c1.fd = s.fd := h4
  rw [h4] at hd
  rw [h2] at hi2
  show (eAt c1.ents i).tgt ≠ 0
  rw [h6 i (by omega)]
  exact h.fd e i (by omega) hi2 hd
def Tb.mu (t : Tb) (m : Mk) : Nat := (4 - t.ph) * 300 + m.left + (t.ents.length - t.nx)
theorem mu_at (t : Tb) (m : Mk) (a n : Nat) : (t.at a n).mu m = (4 - a) * 300 + m.left + (t.ents.length - n) := rfl
theorem mu_set4 (hn : n ≤ t.ents.length) : (t.set4 n).mu m ≤ m.left + (t.ents.length - n) := by
  show (t.at 4 _).mu m ≤ _
  rw [mu_at]
  by_cases h : nxt t.ents 3 n < t.ents.length
  · have := (nxt_at h).1; omega
  · have := nxt_le (l := t.ents) (k := 3) (n := n); omega
theorem mu_set3 (hl : t.ents.length ≤ 20) : (t.set3 m).mu m ≤ 300 + m.left + t.ents.length := by
  unfold Tb.set3
  split
  · have := mu_set4 (t := t) (m := m) (Nat.zero_le _); omega
  · rw [mu_at]; omega
theorem mu_set2 (hl : t.ents.length ≤ 20) (hn : n ≤ t.ents.length) : (t.set2 m n).mu m ≤ 600 + m.left + (t.ents.length - n) := by
  unfold Tb.set2
  split
  · rename_i h; rw [mu_at]; have := (nxt_at h).1; omega
  · have := mu_set3 (t := t) (m := m) hl; omega
theorem mu_set1 (hl : t.ents.length ≤ 20) (hn : n ≤ t.ents.length) : (t.set1 m n).mu m ≤ 900 + m.left + (t.ents.length - n) := by
  unfold Tb.set1
  split
  · rename_i h; rw [mu_at]; have := (nxt_at h).1; omega
  · have := mu_set2 (t := t.find m) (m := m) (n := 0) hl (Nat.zero_le _)
    have h2 : (t.find m).ents.length = t.ents.length := rfl
    omega
theorem mu_settle (h : t.Good m) (h1 : 1 ≤ t.ph) : (t.settle m).mu m ≤ t.mu m := by
  have h4 := h.p4
  have hl := h.b.le
  have hn := h.nl
  unfold Tb.settle
  split
  · rename_i e; have := mu_set1 (m := m) hl hn; unfold Tb.mu at *; rw [e]; omega
  split
  · rename_i e; have := mu_set2 (m := m) hl hn; unfold Tb.mu at *; rw [e]; omega
  split
  · rename_i e; have := mu_set3 (m := m) hl; have h0 := h.z3 e; unfold Tb.mu at *; rw [e, h0]; omega
  split
  · rename_i e; have := mu_set4 (m := m) hn; unfold Tb.mu at *; rw [e]; omega
  · omega
theorem Tb.Good.step (h : t.Good m) (hm : m.Ok) : (t.step m).2.2.2.1.Good (t.step m).2.2.2.2 ∧ (t.step m).2.2.2.2.Ok ∧ (t.step m).2.2.2.2.M = m.M ∧ (t.ph ≠ 0 → ((t.step m).2.2.1 = 0 ∧ 1 ≤ (t.step m).2.2.2.1.ph ∧ (t.step m).2.2.2.1.mu (t.step m).2.2.2.2 < t.mu m) ∨ ((t.step m).2.2.1 = 3 ∧ (t.step m).2.2.2.1.ph = 0)) := by
  by_cases h0 : t.ph = 0
  · unfold Tb.step
    rw [if_pos h0]
    exact ⟨h, hm, rfl, fun e => absurd h0 e⟩
  have h1 : 1 ≤ t.ph := by omega
  have hk := hm.hf.ok
  have hs := h.settle hk
  have hst := Tb.stl_settle (m := m) h1 h.p4
  have hmu := mu_settle h h1
  unfold Tb.step
  rw [if_neg h0]
  simp only
  generalize t.settle m = s at *
  split
  · rename_i e
    have hM := Mk.step_M (m := m)
    have hg : s.Good m.step.2.2 := hs.marker (fun k hk => by rw [hM]; exact hk)
    refine ⟨hg.settle (by rw [hM]; exact hk), hm.step, hM, fun _ => .inl ⟨rfl, (Tb.stl_settle (by omega) hs.p4).p1, ?_⟩⟩
    have h5 := mu_settle hg (by omega)
    have h6 := Mk.left_step hm (hst.c e)
    have h7 : s.mu m.step.2.2 + 1 = s.mu m := by unfold Tb.mu; omega
    show (s.settle m.step.2.2).mu m.step.2.2 < t.mu m
    omega
  split
  · refine ⟨⟨hs.b.at _ _, Nat.zero_le _, Nat.zero_le _, fun _ => rfl, fun e => by simp [Tb.at] at e⟩, hm, rfl, fun _ => .inr ⟨rfl, rfl⟩⟩
  · rename_i e3 el
    have hi : s.nx < s.ents.length := by omega
    obtain ⟨c1, c2, c3, c4, c5, c6⟩ := Tb.clear_facts hs hst hi e3 hk
    obtain ⟨d1, d2, d3⟩ := clear_mk hm c6
    have hg := hs.clear hst hi e3 hm
    have hp : 1 ≤ ((s.clear m s.nx).1.at s.ph (s.nx + 1)).ph := hst.p1
    refine ⟨hg.settle (by rw [d2]; exact hk), d1, d2, fun _ => .inl ⟨rfl, (Tb.stl_settle hp hg.p4).p1, ?_⟩⟩
    have h5 := mu_settle hg hp
    have h6 : ((s.clear m s.nx).1.at s.ph (s.nx + 1)).mu (s.clear m s.nx).2 = (4 - s.ph) * 300 + m.left + (s.ents.length - (s.nx + 1)) := by
      rw [mu_at, d3, c2]
    have h7 : s.mu m = (4 - s.ph) * 300 + m.left + (s.ents.length - s.nx) := rfl
    show (((s.clear m s.nx).1.at s.ph (s.nx + 1)).settle (s.clear m s.nx).2).mu (s.clear m s.nx).2 < t.mu m
    omega
theorem Tb.Good.steps (h : t.Good m) (hm : m.Ok) (k : Nat) : (Tb.steps k (t, m)).1.Good (Tb.steps k (t, m)).2 ∧ (Tb.steps k (t, m)).2.Ok ∧ (Tb.steps k (t, m)).2.M = m.M := by
  induction k with
  | zero => exact ⟨h, hm, rfl⟩
  | succ k ih =>
    have := ih.1.step ih.2.1
    exact ⟨this.1, this.2.1, this.2.2.1.trans ih.2.2⟩
def Tb.over (s : Tb × Mk) : Prop := (s.1.step s.2).2.2.1 ≠ 0
open Classical in
noncomputable def Tb.fins (t : Tb) (m : Mk) : Nat := if h : ∃ i, Tb.over (Tb.steps i (t, m)) ∧ ∀ j, j < i → ¬ Tb.over (Tb.steps j (t, m)) then Classical.choose h else 0
noncomputable def Tb.finish (t : Tb) (m : Mk) : Int × Int × Tb × Mk := if t.ph = 0 then (0, 13, t, m) else ((t.fins m : Int), 0, (Tb.steps (t.fins m + 1) (t, m)).1, (Tb.steps (t.fins m + 1) (t, m)).2)
theorem Tb.steps_on (h : t.Good m) (hm : m.Ok) (hp : t.ph ≠ 0) (k : Nat) (hk : ∀ j, j < k → ¬ Tb.over (Tb.steps j (t, m))) : (Tb.steps k (t, m)).1.ph ≠ 0 ∧ (Tb.steps k (t, m)).1.mu (Tb.steps k (t, m)).2 + k ≤ t.mu m := by
  induction k with
  | zero => exact ⟨hp, Nat.le_refl _⟩
  | succ k ih =>
    obtain ⟨h1, h2⟩ := ih (fun j hj => hk j (by omega))
    have hg := h.steps hm k
    have hn := hk k (by omega)
    have hs := (hg.1.step hg.2.1).2.2.2 h1
    show ((Tb.steps k (t, m)).1.step (Tb.steps k (t, m)).2).2.2.2.1.ph ≠ 0 ∧ ((Tb.steps k (t, m)).1.step (Tb.steps k (t, m)).2).2.2.2.1.mu ((Tb.steps k (t, m)).1.step (Tb.steps k (t, m)).2).2.2.2.2 + (k + 1) ≤ t.mu m
    unfold Tb.over at hn
    generalize Tb.steps k (t, m) = u at *
    rcases hs with hs | hs
    · exact ⟨by omega, by omega⟩
    · exact absurd hs.1 (by rw [Classical.not_not.1 hn]; decide)
theorem Tb.fins_spec (h : t.Good m) (hm : m.Ok) (hp : t.ph ≠ 0) : Tb.over (Tb.steps (t.fins m) (t, m)) ∧ (∀ j, j < t.fins m → ¬ Tb.over (Tb.steps j (t, m))) ∧ t.fins m ≤ 1500 := by
  have hmu : t.mu m ≤ 1412 := by
    have := Mk.left_le (m := m)
    have := h.b.le
    unfold Tb.mu; omega
  have hex : ∃ i, Tb.over (Tb.steps i (t, m)) ∧ ∀ j, j < i → ¬ Tb.over (Tb.steps j (t, m)) := by
    classical
    have h0 := fst_spec (fun i => decide (Tb.over (Tb.steps i (t, m)))) 1500
    generalize fst (fun i => decide (Tb.over (Tb.steps i (t, m)))) 1500 = i at h0
    have hb : ∀ j, j < i → ¬ Tb.over (Tb.steps j (t, m)) := fun j hj => of_decide_eq_false (h0.1 j hj)
    have h1 := (Tb.steps_on h hm hp i hb).2
    exact ⟨i, of_decide_eq_true (h0.2 (by omega)), hb⟩
  have he : t.fins m = Classical.choose hex := by unfold Tb.fins; rw [dif_pos hex]
  obtain ⟨h3, h4⟩ := Classical.choose_spec hex
  rw [← he] at h3 h4
  have h1 := (Tb.steps_on h hm hp _ h4).2
  exact ⟨h3, h4, by omega⟩
theorem Tb.fins_eq (h : t.Good m) (hm : m.Ok) (hp : t.ph ≠ 0) {i : Nat} (hi : ∀ j, j < i → ¬ Tb.over (Tb.steps j (t, m))) (he : Tb.over (Tb.steps i (t, m))) : i = t.fins m := by
  obtain ⟨h1, h2, _⟩ := Tb.fins_spec h hm hp
  rcases Nat.lt_trichotomy i (t.fins m) with h3 | h3 | h3
  · exact absurd he (h2 i h3)
  · exact h3
  · exact absurd h1 (hi _ h3)
theorem Tb.Good.finish (h : t.Good m) (hm : m.Ok) : (t.finish m).2.2.1.Good (t.finish m).2.2.2 ∧ (t.finish m).2.2.2.Ok ∧ (t.finish m).2.2.2.M = m.M ∧ (t.finish m).2.2.1.ph = 0 := by
  unfold Tb.finish
  by_cases h0 : t.ph = 0
  · rw [if_pos h0]; exact ⟨h, hm, rfl, h0⟩
  · rw [if_neg h0]
    obtain ⟨h1, h2, _⟩ := Tb.fins_spec h hm h0
    have hg := h.steps hm (t.fins m + 1)
    refine ⟨hg.1, hg.2.1, hg.2.2, ?_⟩
    have hk := h.steps hm (t.fins m)
    have hs := (hk.1.step hk.2.1).2.2.2 (Tb.steps_on h hm h0 _ h2).1
    rcases hs with hs | hs
    · exact absurd hs.1 h1
    · exact hs.2
theorem Tb.Good.new : Tb.new.Good m := ⟨⟨by show 0 ≤ 20; omega, fun i hi => absurd hi (Nat.not_lt_zero _), fun i hi => absurd hi (Nat.not_lt_zero _), Nat.le_refl 0⟩, Nat.zero_le _, Nat.le_refl _, fun e => rfl, fun e => by simp [Tb.new] at e⟩
theorem Tb.Good.begin (h : t.Good m) (hk : m.M.Ok) : (t.begin m).2.Good m := by
  unfold Tb.begin
  split
  · exact h
  · exact Tb.Good.settle hk ⟨h.b.at _ _, by show 1 ≤ 4; omega, Nat.zero_le _, fun e => by simp [Tb.at] at e, fun e => by simp [Tb.at] at e⟩
theorem eAt_app (l : List En) (e : En) {i : Nat} (hi : i < l.length + 1) : eAt (l ++ [e]) i = if i = l.length then e else eAt l i := by
  unfold eAt
  by_cases h : i = l.length
  · rw [if_pos h, h]; simp
  · rw [if_neg h, List.getElem?_append_left (by omega)]
theorem Tb.Good.add (h : t.Good m) (kd x g : Int) : (t.add m kd x g).2.2.Good m := by
  unfold Tb.add
  split
  · exact h
  split
  · exact h
  split
  · exact h
  split
  · exact h
  · rename_i h1 h2 h3 h4
    have hl : (t.ents ++ [⟨kd, x, g⟩] : List En).length = t.ents.length + 1 := by simp
    have h0 : t.ph = 0 := Classical.not_not.1 h2
    refine ⟨⟨by show (t.ents ++ _).length ≤ 20; rw [hl]; omega, fun i hi => ?_, fun i hi he => ?_, ?_⟩, h.p4, by show t.nx ≤ (t.ents ++ _).length; rw [hl]; have := h.nl; omega, h.z3, fun e => ?_⟩
    · have hi2 : i < t.ents.length + 1 := by rw [← hl]; exact hi
      show 1 ≤ (eAt (t.ents ++ _) i).kind ∧ (eAt (t.ents ++ _) i).kind ≤ 3
      rw [eAt_app _ _ hi2]
      split
      · show 1 ≤ kd ∧ kd ≤ 3; omega
      · exact h.b.kd i (by omega)
    · have hi2 : i < t.ents.length + 1 := by rw [← hl]; exact hi
      replace he : (eAt (t.ents ++ [⟨kd, x, g⟩]) i).tgt ≠ 0 := he
      show (m.M.ob (eAt (t.ents ++ _) i).tgt).isSome = true
      rw [eAt_app _ _ hi2] at he ⊢
      split
      · show (m.M.ob x).isSome = true
        cases e : (m.M.ob x).isSome
        · exact absurd e h3
        · rfl
      · rename_i e; rw [if_neg e] at he; exact h.b.us i (by omega) he
    · have hq := h.b.ql
      show t.q.length ≤ cnt (fun i => decide ((eAt (t.ents ++ [⟨kd, x, g⟩]) i).tgt = 0)) (t.ents ++ [(⟨kd, x, g⟩ : En)]).length
      rw [hl]
      show _ ≤ cnt _ t.ents.length + _
      have hc : cnt (fun i => decide ((eAt (t.ents ++ [⟨kd, x, g⟩]) i).tgt = 0)) t.ents.length = t.zeros := cnt_congr fun j hj => by
        rw [eAt_app t.ents ⟨kd, x, g⟩ (show j < t.ents.length + 1 by omega), if_neg (by omega)]
      omega
    · exact absurd (show t.ph = 2 from e) (by omega)
end
end Go.Proofs.Ythflghdaejbdkaa
