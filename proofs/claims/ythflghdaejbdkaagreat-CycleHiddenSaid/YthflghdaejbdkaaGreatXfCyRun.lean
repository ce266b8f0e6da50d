/- Lemmas of this claim. -/
import Derived.Test.YthflghdaejbdkaaGreatXfCyModel
namespace Go.Proofs.YthflghdaejbdkaaGreat
set_option linter.unusedVariables false
set_option maxRecDepth 100000
section
variable {M : Hp} {x : Int}
theorem hs_mem {k : Nat} (h : x ∈ M.handlesN k) : (M.ob x).isSome = true ∧ 1 ≤ x ∧ x ≤ (k : Int) := by
  induction k with
  | zero => cases h
  | succ k ih =>
    unfold Hp.handlesN at h
    rcases List.mem_append.1 h with h | h
    · have := ih h; exact ⟨this.1, this.2.1, by omega⟩
    · split at h
      · rename_i e
        have e2 : x = (k : Int) + 1 := by simpa using h
        rw [e2]; exact ⟨e, by omega, by omega⟩
      · cases h
theorem hs_nodup (M : Hp) (k : Nat) : (M.handlesN k).Nodup := by
  induction k with
  | zero => exact List.nodup_nil
  | succ k ih =>
    unfold Hp.handlesN
    rw [List.nodup_append]
    refine ⟨ih, by split <;> simp, fun a ha b hb e => ?_⟩
    have h1 := hs_mem ha
    split at hb
    · have : b = (k : Int) + 1 := by simpa using hb
      omega
    · cases hb
theorem hs_of {k : Nat} (h : (M.ob x).isSome = true) (h1 : 1 ≤ x) (h2 : x ≤ (k : Int)) : x ∈ M.handlesN k := by
  induction k with
  | zero => omega
  | succ k ih =>
    unfold Hp.handlesN
    by_cases e : x = (k : Int) + 1
    · rw [← e, if_pos h]; simp
    · exact List.mem_append_left _ (ih (by omega))
theorem Hp.Ok.mem_hs (hk : M.Ok) : x ∈ M.handles ↔ (M.ob x).isSome = true :=
  ⟨fun h => (hs_mem h).1, fun h => hs_of h (hk.inR h).1 (hk.inR h).2⟩
theorem Mk.mem_white {m : Mk} (hk : m.M.Ok) : x ∈ m.white ↔ (m.M.ob x).isSome = true ∧ m.col x = 0 := by
  unfold Mk.white
  rw [List.mem_filter, decide_eq_true_eq, hk.mem_hs]
theorem Mk.white_nodup (m : Mk) : m.white.Nodup := (hs_nodup m.M 192).filter _
def Hp.Same (M N : Hp) : Prop := ∀ k, (N.ob k).isSome = (M.ob k).isSome
theorem Hp.Same.refl (M : Hp) : M.Same M := fun _ => rfl
theorem Hp.Same.trans {M N O : Hp} (h : M.Same N) (h2 : N.Same O) : M.Same O := fun k => (h2 k).trans (h k)
theorem Hp.set_same (M : Hp) (h s v : Int) : M.Same (M.set h s v).2 := fun k => M.set_some h s v k
theorem blankS_facts (hk : M.OkF) (h : Int) (k : Nat) : (M.blankS h k).OkF ∧ M.Same (M.blankS h k) := by
  induction k with
  | zero => exact ⟨hk, .refl M⟩
  | succ k ih =>
    unfold Hp.blankS
    split
    · exact ⟨ih.1.set _ _ _, ih.2.trans (Hp.set_same _ _ _ _)⟩
    · exact ih
theorem blankL_facts (hk : M.OkF) (l : List Int) (k : Nat) : (M.blankL l k).OkF ∧ M.Same (M.blankL l k) := by
  induction k with
  | zero => exact ⟨hk, .refl M⟩
  | succ k ih =>
    have := blankS_facts ih.1 (gI l k) ((M.blankL l k).len (gI l k)).toNat
    exact ⟨this.1, ih.2.trans this.2⟩
theorem move_same (M : Hp) : M.Same M.move.2.2 := fun k => by
  unfold Hp.move
  split
  · split
    · rename_i o ho _
      unfold Hp.moveAt
      show (setT M.ob _ _ k).isSome = _
      by_cases e : k = (M.owner M.P.move.1 : Int) + 1
      · rw [e, setT_same, ho]; rfl
      · rw [setT_other _ _ e]
    · rfl
  · rfl
theorem release_other (M : Hp) {h k : Int} (e : k ≠ h) : (M.release h).2.ob k = M.ob k := by
  unfold Hp.release
  split
  · rfl
  · split
    · rfl
    · show setT M.ob h none k = _
      rw [setT_other _ _ e]
theorem len_range (hk : M.Ok) (h : Int) : 0 ≤ M.len h ∧ M.len h ≤ 48 := by
  unfold Hp.len Hp.type
  split
  · exact ⟨Int.le_refl 0, by decide⟩
  · rename_i o ho
    have := (hk.th h o ho).le
    show 0 ≤ (o.slots.length : Int) ∧ (o.slots.length : Int) ≤ 48
    omega
theorem blocks_range (hk : M.Ok) (h : Int) : (M.blocks h).1.length ≤ 7 := by
  unfold Hp.blocks
  split
  · exact Nat.zero_le _
  · rename_i o ho
    exact (hk.blen ho).2.1
end
section
variable {c : Co}
theorem Tb.Good.us2 {t : Tb} {m m' : Mk} (h : t.Good m) (hu : ∀ i, i < t.ents.length → (eAt t.ents i).tgt ≠ 0 → (m'.M.ob (eAt t.ents i).tgt).isSome = true) : t.Good m' :=
  ⟨⟨h.b.le, h.b.kd, hu, h.b.ql⟩, h.p4, h.nl, h.z3, h.fd⟩
theorem Co.Okc.mark (h : c.Okc) (hp : c.ph = 1 ∨ c.ph = 2) : c.mark.2.Okc := by
  have hm := h.mo hp
  have hM : c.m.step.2.2.M = c.m.M := Mk.step_M
  refine ⟨by show c.m.step.2.2.M.OkF; rw [hM]; exact h.hf, fun _ => hm.step, fun h1 h2 => absurd hp (by intro h3; rcases h3 with h3 | h3; exact h1 h3; exact h2 h3), h.tg.marker (fun k hk => by show (c.m.step.2.2.M.ob k).isSome = true; rw [hM]; exact hk), h.t0, h.p4, h.sw, fun x hx => by show (c.m.step.2.2.M.ob x).isSome = true; rw [hM]; exact h.su x hx, h.sn, h.st, fun e e2 => (h.pa e e2).mono (stepAt_nz hm), fun e e2 => (h.al e e2).mono (stepAt_nz hm), h.cr1, h.c0, h.rt, h.pg, h.mv⟩
theorem Co.Okc.refsB (h : c.Okc) (hp : c.ph = 1) (hl : c.m.list = []) : c.refsB.2.Okc := by
  have hm := h.mo (.inl hp)
  have ht := h.t0 (by omega)
  have hb := Pst.begin h.tg hm ht hl
  refine ⟨h.hf, fun _ => hm, fun _ h2 => absurd rfl h2, h.tg.begin hm.hf.ok, fun h2 => absurd rfl h2, by show 2 ≤ 4; omega, fun _ => h.sw (by omega), h.su, h.sn, fun i hi => ?_, fun _ _ => hb.2, fun _ e => absurd e hb.1, h.cr1, fun e => (by cases e), h.rt, h.pg, h.mv⟩
  show _ ∉ c.sw
  rw [h.sw (by omega)]
  simp
theorem Co.sweepTo_cr (c : Co) (s : List Int) : (c.sweepTo s).2.cr = c.cr := rfl
theorem Co.Okc.sweepTo (h : c.Okc) (hp : c.ph = 2) (ht : c.t.ph = 0) (hl : c.m.list = []) {s : List Int} (hs : ∀ x, x ∈ s → (c.m.M.ob x).isSome = true ∧ c.m.col x = 0) (hn : s.Nodup) : (c.sweepTo s).2.Okc := by
  have hm := h.mo (.inr hp)
  obtain ⟨h1, h2⟩ := blankL_facts h.hf s s.length
  refine ⟨h1, fun e => (by rcases e with e | e <;> cases e), fun _ _ => hl, h.tg.marker (fun k hk => by show ((c.m.M.blankL s s.length).ob k).isSome = true; rw [h2 k]; exact hk), fun _ => ht, by show 3 ≤ 4; omega, fun e => absurd rfl e, fun x hx => by show ((c.m.M.blankL s s.length).ob x).isSome = true; rw [h2 x]; exact (hs x hx).1, hn, fun i hi hx => ?_, fun e => (by cases e), fun e => (by cases e), h.cr1, fun e => (by cases e), h.rt, h.pg, h.mv⟩
  obtain ⟨h3, h4⟩ := hs _ hx
  rcases h.al hp ht i hi with h5 | h5
  · have := (h.hf.ok.inR h3).1
    have h6 : (eAt (c.sweepTo s).2.t.ents i).tgt = 0 := h5
    omega
  · exact h5 h4
theorem Co.Okc.sweepB (h : c.Okc) (hp : c.ph = 2) (ht : c.t.ph = 0) (hl : c.m.list = []) : c.sweepB.2.Okc := by
  unfold Co.sweepB
  exact h.sweepTo hp ht hl (fun x hx => (Mk.mem_white h.hf.ok).1 hx) c.m.white_nodup
theorem Co.Okc.tail (h : c.Okc) (hp : c.ph = 2) (ht : c.t.ph = 0) : c.tail.2.Okc := by
  unfold Co.tail
  split
  · rename_i hl; exact h.sweepB hp ht hl
  · exact h.mark (.inr hp)
def Co.stepT (c : Co) : Co := { c with t := (c.t.step c.m).2.2.2.1, m := (c.t.step c.m).2.2.2.2 }
theorem Co.Okc.stepT (h : c.Okc) (hp : c.ph = 2) : c.stepT.Okc ∧ ((c.t.step c.m).2.2.1 ≠ 0 → c.stepT.t.ph = 0) ∧ ((c.t.step c.m).2.2.1 = 0 → c.stepT.t.ph ≠ 0) := by
  have hm := h.mo (.inr hp)
  obtain ⟨g1, g2, g3, _⟩ := h.tg.step hm
  have hsw := h.sw (by omega)
  have base : ∀ (hpa : c.stepT.t.ph ≠ 0 → Pst c.stepT.t c.stepT.m) (hal : c.stepT.t.ph = 0 → c.stepT.t.All c.stepT.m), c.stepT.Okc := fun hpa hal =>
    ⟨by show (c.t.step c.m).2.2.2.2.M.OkF; rw [g3]; exact h.hf, fun _ => g2, fun _ h2 => absurd hp h2, g1, fun h2 => absurd hp h2, h.p4, h.sw, fun x hx => by show ((c.t.step c.m).2.2.2.2.M.ob x).isSome = true; rw [g3]; exact h.su x hx, h.sn, fun i hi => by show _ ∉ c.sw; rw [hsw]; simp, fun _ e => hpa e, fun _ e => hal e, h.cr1, h.c0, h.rt, h.pg, h.mv⟩
  by_cases h0 : c.t.ph = 0
  · have hs : c.t.step c.m = (0, 0, 13, c.t, c.m) := by unfold Tb.step; rw [if_pos h0]
    have ht : c.stepT.t = c.t := by show (c.t.step c.m).2.2.2.1 = _; rw [hs]
    have hm2 : c.stepT.m = c.m := by show (c.t.step c.m).2.2.2.2 = _; rw [hs]
    refine ⟨base (fun e => absurd (by rw [ht]; exact h0) e) (fun _ => by rw [ht, hm2]; exact h.al hp h0), fun _ => by rw [ht]; exact h0, fun e => ?_⟩
    rw [hs] at e; cases e
  · obtain ⟨s1, s2⟩ := (h.pa hp h0).step h.tg hm h0
    by_cases e0 : (c.t.step c.m).2.2.1 = 0
    · obtain ⟨s3, s4⟩ := s1 e0
      exact ⟨base (fun _ => s4) (fun e => absurd e s3), fun e => absurd e0 e, fun _ => s3⟩
    · obtain ⟨s3, s4, s5⟩ := s2 e0
      exact ⟨base (fun e => absurd s3 e) (fun _ => s4), fun _ => s3, fun e => absurd e e0⟩
theorem Co.refs_eq (c : Co) : c.refs = if (c.t.step c.m).2.2.1 = 0 then (if (c.t.step c.m).1 = 3 then 1 + c.m.M.len (c.t.step c.m).2.1 else 1, c.stepT) else c.stepT.tail := rfl
theorem Co.Okc.refs (h : c.Okc) (hp : c.ph = 2) : c.refs.2.Okc := by
  obtain ⟨h1, h2, h3⟩ := h.stepT hp
  rw [Co.refs_eq]
  split
  · exact h1
  · rename_i e
    exact h1.tail hp (h2 e)
theorem Co.Okc.free (h : c.Okc) (hp : c.ph = 3) : c.free.2.Okc := by
  have ht := h.t0 (by omega)
  unfold Co.free
  cases e : c.sw with
  | nil => exact ⟨h.hf, fun e => (by rcases e with e | e <;> cases e), fun _ _ => h.nl (by omega) (by omega), h.tg, fun _ => ht, Nat.le_refl 4, fun _ => rfl, fun x hx => (by cases hx), List.nodup_nil, fun i hi hx => (by cases hx), fun e => by (cases e), fun e => by (cases e), h.cr1, fun e => by (cases e), h.rt, h.pg, Nat.zero_le _⟩
  | cons x r =>
    have hn := h.sn
    rw [e] at hn
    obtain ⟨hn1, hn2⟩ := List.nodup_cons.1 hn
    have hx : ∀ y, y ∈ r → y ≠ x := fun y hy e2 => hn1 (by rw [← e2]; exact hy)
    refine ⟨h.hf.release x, fun e => by have e2 : c.ph = 1 ∨ c.ph = 2 := e; omega, h.nl, h.tg.us2 (fun i hi hz => ?_), h.t0, h.p4, fun e2 => absurd hp e2, fun y hy => ?_, hn2, fun i hi hy => ?_, fun e2 => by have e3 : c.ph = 2 := e2; omega, fun e2 => by have e3 : c.ph = 2 := e2; omega, h.cr1, h.c0, h.rt, h.pg, h.mv⟩
    · show ((c.m.M.release x).2.ob (eAt c.t.ents i).tgt).isSome = true
      rw [release_other _ (fun e2 => h.st i hi (by rw [e, e2]; exact List.mem_cons_self))]
      exact h.tg.b.us i hi hz
    · show ((c.m.M.release x).2.ob y).isSome = true
      rw [release_other _ (hx y hy)]
      exact h.su y (by rw [e]; exact List.mem_cons_of_mem _ hy)
    · exact h.st i hi (by rw [e]; exact List.mem_cons_of_mem _ hy)
theorem Co.Okc.heap (h : c.Okc) (hp : ¬ (c.ph = 1 ∨ c.ph = 2)) {M : Hp} (hM : M.OkF) (hu : ∀ k, (c.m.M.ob k).isSome = true → (M.ob k).isSome = true) : ({ c with m := c.m.put M } : Co).Okc :=
  ⟨hM, fun e => absurd e hp, h.nl, h.tg.marker hu, h.t0, h.p4, h.sw, fun x hx => hu x (h.su x hx), h.sn, h.st, fun e => absurd (.inr e) hp, fun e => absurd (.inr e) hp, h.cr1, h.c0, h.rt, h.pg, h.mv⟩
theorem Co.Okc.marker (h : c.Okc) (hp : c.ph = 1 ∨ c.ph = 2) {m : Mk} (hm : m.Ok) (hu : ∀ k, (c.m.M.ob k).isSome = true → (m.M.ob k).isSome = true) (hc : ∀ k, c.m.col k ≠ 0 → m.col k ≠ 0) : ({ c with m := m } : Co).Okc :=
  ⟨hm.hf, fun _ => hm, fun h1 h2 => absurd hp (by intro h3; rcases h3 with h3 | h3; exact h1 h3; exact h2 h3), h.tg.marker hu, h.t0, h.p4, h.sw, fun x hx => hu x (h.su x hx), h.sn, h.st, fun e e2 => (h.pa e e2).mono hc, fun e e2 => (h.al e e2).mono hc, h.cr1, h.c0, h.rt, h.pg, h.mv⟩
theorem Co.Okc.move (h : c.Okc) (hp : c.ph = 4) : c.move.2.Okc := by
  have ht := h.t0 (by omega)
  unfold Co.move
  split
  · exact ⟨h.hf, fun e => (by rcases e with e | e <;> cases e), fun _ _ => h.nl (by omega) (by omega), h.tg, fun _ => ht, Nat.zero_le _, fun _ => h.sw (by omega), h.su, h.sn, h.st, fun e => by (cases e), fun e => by (cases e), by show (-193 : Int) ≤ 0; omega, fun _ => rfl, h.rt, h.pg, h.mv⟩
  · rename_i hc
    have h1 := h.heap (by omega) h.hf.move (fun k hk => by rw [move_same]; exact hk)
    exact ⟨h1.hf, h1.mo, h1.nl, h1.tg, h1.t0, h1.p4, h1.sw, h1.su, h1.sn, h1.st, h1.pa, h1.al, h1.cr1, h1.c0, h1.rt, h1.pg, by have h2 := h.mv; have h3 : c.mv ≠ 8 * c.pages := fun e => hc (.inl e); show c.mv + 1 ≤ 8 * c.pages; omega⟩
theorem Co.Okc.step (h : c.Okc) : c.step.2.2.Okc := by
  unfold Co.step
  by_cases h0 : c.ph = 0
  · rw [if_pos h0]; exact h
  rw [if_neg h0]
  by_cases h1 : c.ph = 1
  · rw [if_pos h1]
    by_cases hl : c.m.list = []
    · rw [if_pos hl]; exact h.refsB h1 hl
    · rw [if_neg hl]; exact h.mark (.inl h1)
  rw [if_neg h1]
  by_cases h2 : c.ph = 2
  · rw [if_pos h2]; exact h.refs h2
  rw [if_neg h2]
  by_cases h3 : c.ph = 3
  · rw [if_pos h3]; exact h.free h3
  rw [if_neg h3]
  exact h.move (by have := h.p4; omega)
theorem Co.Okc.credit (h : c.Okc) (hp : c.ph ≠ 0) {n : Int} (hn : -193 ≤ n) : ({ c with cr := n } : Co).Okc :=
  ⟨h.hf, h.mo, h.nl, h.tg, h.t0, h.p4, h.sw, h.su, h.sn, h.st, h.pa, h.al, hn, fun e => absurd e hp, h.rt, h.pg, h.mv⟩
theorem Co.step_cr (c : Co) : c.step.2.2.cr = c.cr ∨ (c.step.2.2.ph = 0 ∧ c.step.2.2.cr = 0) := by
  unfold Co.step
  by_cases h0 : c.ph = 0
  · rw [if_pos h0]; exact .inl rfl
  rw [if_neg h0]
  by_cases h1 : c.ph = 1
  · rw [if_pos h1]
    by_cases hl : c.m.list = []
    · rw [if_pos hl]; exact .inl rfl
    · rw [if_neg hl]; exact .inl rfl
  rw [if_neg h1]
  by_cases h2 : c.ph = 2
  · rw [if_pos h2]
    show c.refs.2.cr = c.cr ∨ _
    rw [Co.refs_eq]
    split
    · exact .inl rfl
    · unfold Co.tail
      split
      · unfold Co.sweepB; exact .inl (Co.sweepTo_cr _ _)
      · exact .inl rfl
  rw [if_neg h2]
  by_cases h3 : c.ph = 3
  · rw [if_pos h3]
    show c.free.2.cr = c.cr ∨ _
    unfold Co.free
    split <;> exact .inl rfl
  rw [if_neg h3]
  show c.move.2.cr = c.cr ∨ (c.move.2.ph = 0 ∧ c.move.2.cr = 0)
  unfold Co.move
  split
  · exact .inr ⟨rfl, rfl⟩
  · exact .inl rfl
theorem Co.Ok.step (h : c.Ok) : c.step.2.2.Ok := ⟨h.k.step, by rcases c.step_cr with h1 | ⟨_, h1⟩; rw [h1]; exact h.cr2; rw [h1]; decide⟩
theorem bsz_range {k : Int} (h : k ≤ 2) : 2 ≤ bsz k ∧ bsz k ≤ 8 := by
  unfold bsz
  have h1 : k.toNat = 0 ∨ k.toNat = 1 ∨ k.toNat = 2 := by omega
  rcases h1 with h1 | h1 | h1 <;> rw [h1] <;> decide
theorem class_le {P : Pl} (hk : P.ok) (i : Int) : (P.class i).1 ≤ 2 := by
  unfold Pl.class
  split
  · decide
  · rename_i h
    have := (hk i.toNat (by omega)).cls
    show (P.pg i.toNat).cls ≤ 2
    rcases this with h1 | h1 | h1 | h1 <;> omega
theorem Co.tail_cost (h : c.Okc) : 1 ≤ c.tail.1 ∧ c.tail.1 ≤ 49 := by
  unfold Co.tail
  split
  · exact ⟨Int.le_refl 1, by show (1 : Int) ≤ 49; decide⟩
  · have := len_range h.hf.ok c.m.step.1
    show 1 ≤ 1 + c.m.M.len c.m.step.1 ∧ 1 + c.m.M.len c.m.step.1 ≤ 49
    omega
theorem Co.Okc.cost (h : c.Okc) (hp : c.ph ≠ 0) : 1 ≤ c.step.1 ∧ c.step.1 ≤ 60 ∧ c.step.2.1 = 0 := by
  unfold Co.step
  rw [if_neg hp]
  by_cases h1 : c.ph = 1
  · rw [if_pos h1]
    by_cases hl : c.m.list = []
    · rw [if_pos hl]; exact ⟨Int.le_refl 1, by show (1 : Int) ≤ 60; decide, rfl⟩
    · rw [if_neg hl]
      have := len_range h.hf.ok c.m.step.1
      show 1 ≤ 1 + c.m.M.len c.m.step.1 ∧ 1 + c.m.M.len c.m.step.1 ≤ 60 ∧ _
      exact ⟨by omega, by omega, rfl⟩
  rw [if_neg h1]
  by_cases h2 : c.ph = 2
  · rw [if_pos h2]
    show 1 ≤ c.refs.1 ∧ c.refs.1 ≤ 60 ∧ (0 : Int) = 0
    obtain ⟨k1, k2, _⟩ := h.stepT h2
    rw [Co.refs_eq]
    split
    · have hl := len_range h.hf.ok (c.t.step c.m).2.1
      generalize c.m.M.len (c.t.step c.m).2.1 = n at *
      by_cases e3 : (c.t.step c.m).1 = 3
      · rw [if_pos e3]
        show 1 ≤ 1 + n ∧ 1 + n ≤ 60 ∧ _
        exact ⟨by omega, by omega, rfl⟩
      · rw [if_neg e3]; exact ⟨Int.le_refl 1, by show (1 : Int) ≤ 60; decide, rfl⟩
    · have := Co.tail_cost k1
      exact ⟨this.1, by omega, rfl⟩
  rw [if_neg h2]
  by_cases h3 : c.ph = 3
  · rw [if_pos h3]
    show 1 ≤ c.free.1 ∧ c.free.1 ≤ 60 ∧ (0 : Int) = 0
    unfold Co.free
    split
    · exact ⟨Int.le_refl 1, by show (1 : Int) ≤ 60; decide, rfl⟩
    · rename_i x r e
      have := blocks_range h.hf.ok x
      show 1 ≤ 1 + ((c.m.M.blocks x).1.length : Int) ∧ 1 + ((c.m.M.blocks x).1.length : Int) ≤ 60 ∧ _
      exact ⟨by omega, by omega, rfl⟩
  rw [if_neg h3]
  show 1 ≤ c.move.1 ∧ c.move.1 ≤ 60 ∧ (0 : Int) = 0
  unfold Co.move
  split
  · exact ⟨Int.le_refl 1, by show (1 : Int) ≤ 60; decide, rfl⟩
  · have := bsz_range (class_le h.hf.ok.p (c.m.M.P.move.1.tdiv 16))
    show 1 ≤ 4 + (bsz _ : Int) ∧ 4 + (bsz _ : Int) ≤ 60 ∧ _
    exact ⟨by omega, by omega, rfl⟩
theorem Co.step_idle (hp : c.ph = 0) : c.step = (0, 13, c) := by unfold Co.step; rw [if_pos hp]
end
end Go.Proofs.YthflghdaejbdkaaGreat
namespace Go.Proofs.YthflghdaejbdkaaGreat
set_option linter.unusedVariables false
set_option maxRecDepth 100000
section
variable {c : Co}
def Co.mu (c : Co) : Nat := if c.ph = 0 then 0 else if c.ph = 1 then 30000 + c.m.left else if c.ph = 2 then 20000 + (if c.t.ph = 0 then c.m.left else 300 + c.t.mu c.m) else if c.ph = 3 then 10000 + c.sw.length else 1 + (8 * c.pages - c.mv)
theorem tmu_le {t : Tb} {m : Mk} (h : t.Good m) : t.mu m ≤ 1412 := by
  have := Mk.left_le (m := m)
  have := h.b.le
  unfold Tb.mu; omega
theorem white_len (m : Mk) : m.white.length ≤ 192 := by
  have h1 : m.white.length ≤ m.M.handles.length := List.length_filter_le _ _
  have h2 : m.M.handles.length = m.used := (Mk.used_len m).symm
  have h3 : m.used ≤ 192 := cnt_le _ _
  omega
theorem Co.Okc.sw_len (h : c.Okc) : c.sw.length ≤ 192 := nodup_le h.sn (fun x hx => h.hf.ok.inR (h.su x hx))
theorem Co.mu_le (h : c.Okc) : c.mu ≤ 30192 := by
  have h1 := Mk.left_le (m := c.m)
  have h2 := tmu_le h.tg
  have h3 := h.sw_len
  have h4 := h.pg
  unfold Co.mu
  split
  · omega
  split
  · omega
  split
  · split <;> omega
  split
  · omega
  · omega
theorem mark_left (hm : c.m.Ok) (hl : c.m.list ≠ []) : c.mark.2.m.left + 1 = c.m.left := Mk.left_step hm hl
theorem sweepTo_mu (c : Co) (s : List Int) : (c.sweepTo s).2.mu = 10000 + s.length := by
  have h : ∀ d : Co, d.ph = 3 → d.mu = 10000 + d.sw.length := fun d hd => by unfold Co.mu; rw [if_neg (by omega), if_neg (by omega), if_neg (by omega), if_pos hd]
  exact h _ rfl
theorem Co.mu_step (h : c.Okc) (hp : c.ph ≠ 0) : c.step.2.2.mu < c.mu := by
  have hl192 := Mk.left_le (m := c.m)
  unfold Co.step
  rw [if_neg hp]
  by_cases h1 : c.ph = 1
  · rw [if_pos h1]
    have e1 : c.mu = 30000 + c.m.left := by unfold Co.mu; rw [if_neg hp, if_pos h1]
    by_cases hl : c.m.list = []
    · rw [if_pos hl, e1]
      have hk := h.refsB h1 hl
      have h3 := tmu_le hk.tg
      have h4 : c.refsB.2.m.left = c.m.left := rfl
      show c.refsB.2.mu < _
      have e2 : c.refsB.2.mu = 20000 + (if c.refsB.2.t.ph = 0 then c.refsB.2.m.left else 300 + c.refsB.2.t.mu c.refsB.2.m) := by
        unfold Co.mu
        rw [if_neg (show ¬ c.refsB.2.ph = 0 by show ¬ (2 : Nat) = 0; decide), if_neg (show ¬ c.refsB.2.ph = 1 by show ¬ (2 : Nat) = 1; decide), if_pos (show c.refsB.2.ph = 2 from rfl)]
      rw [e2]
      split <;> omega
    · rw [if_neg hl, e1]
      have h2 := mark_left (h.mo (.inl h1)) hl
      show c.mark.2.mu < _
      have e2 : c.mark.2.mu = 30000 + c.mark.2.m.left := by
        unfold Co.mu
        rw [if_neg (show ¬ c.mark.2.ph = 0 from hp), if_pos (show c.mark.2.ph = 1 from h1)]
      omega
  rw [if_neg h1]
  by_cases h2 : c.ph = 2
  · rw [if_pos h2]
    have hm := h.mo (.inr h2)
    have emu : ∀ d : Co, d.ph = 2 → d.mu = 20000 + (if d.t.ph = 0 then d.m.left else 300 + d.t.mu d.m) := fun d hd => by
      unfold Co.mu
      rw [if_neg (by omega), if_neg (by omega), if_pos hd]
    obtain ⟨k1, k2, k3⟩ := h.stepT h2
    obtain ⟨g1, g2, g3, g4⟩ := h.tg.step hm
    show c.refs.2.mu < _
    rw [Co.refs_eq, emu c h2]
    split
    · rename_i e0
      have hne : c.stepT.t.ph ≠ 0 := k3 e0
      have hc0 : c.t.ph ≠ 0 := fun e => by
        have hs : c.t.step c.m = (0, 0, 13, c.t, c.m) := by unfold Tb.step; rw [if_pos e]
        rw [hs] at e0; cases e0
      show c.stepT.mu < _
      rw [emu c.stepT h2, if_neg hne, if_neg hc0]
      rcases g4 hc0 with g5 | g5
      · have : c.stepT.t.mu c.stepT.m < c.t.mu c.m := g5.2.2
        omega
      · rw [e0] at g5; cases g5.1
    · rename_i e0
      have hz : c.stepT.t.ph = 0 := k2 e0
      have hml : c.stepT.m = c.m := by
        by_cases hc0 : c.t.ph = 0
        · have hs : c.t.step c.m = (0, 0, 13, c.t, c.m) := by unfold Tb.step; rw [if_pos hc0]
          show (c.t.step c.m).2.2.2.2 = _
          rw [hs]
        · exact (((h.pa h2 hc0).step h.tg hm hc0).2 e0).2.2
      unfold Co.tail
      split
      · have := white_len c.stepT.m
        unfold Co.sweepB
        rw [sweepTo_mu]
        omega
      · rename_i hl
        have h4 := mark_left (k1.mo (.inr h2)) hl
        show c.stepT.mark.2.mu < _
        rw [emu c.stepT.mark.2 h2, if_pos (show c.stepT.mark.2.t.ph = 0 from hz)]
        rw [hml] at h4
        split
        · omega
        · omega
  rw [if_neg h2]
  by_cases h3 : c.ph = 3
  · rw [if_pos h3]
    have e1 : c.mu = 10000 + c.sw.length := by unfold Co.mu; rw [if_neg hp, if_neg h1, if_neg h2, if_pos h3]
    show c.free.2.mu < _
    rw [e1]
    unfold Co.free
    cases e : c.sw with
    | nil =>
      show (1 + (8 * c.pages - 0)) < _
      have := h.pg
      simp only [List.length_nil]; omega
    | cons x r =>
      simp only
      have e2 : ({ c with sw := r, m := c.m.put (c.m.M.release x).2 } : Co).mu = 10000 + r.length := by
        unfold Co.mu
        rw [if_neg (by exact hp), if_neg (by exact h1), if_neg (by exact h2), if_pos (by exact h3)]
      rw [e2, List.length_cons]; omega
  rw [if_neg h3]
  have e1 : c.mu = 1 + (8 * c.pages - c.mv) := by unfold Co.mu; rw [if_neg hp, if_neg h1, if_neg h2, if_neg h3]
  show c.move.2.mu < _
  rw [e1]
  unfold Co.move
  split
  · show 0 < _
    omega
  · rename_i hc
    have h5 := h.mv
    have h6 : c.mv ≠ 8 * c.pages := fun e => hc (.inl e)
    have e2 : ({ c with m := c.m.put c.m.M.move.2.2, mv := c.mv + 1 } : Co).mu = 1 + (8 * c.pages - (c.mv + 1)) := by
      unfold Co.mu
      rw [if_neg (by exact hp), if_neg (by exact h1), if_neg (by exact h2), if_neg (by exact h3)]
    show ({ c with m := c.m.put c.m.M.move.2.2, mv := c.mv + 1 } : Co).mu < _
    rw [e2]; omega
theorem Co.Okc.steps (h : c.Okc) : ∀ k, (Co.steps k c).Okc
  | 0 => h
  | k + 1 => (Co.Okc.steps h k).step
theorem Co.steps_mu (h : c.Okc) (k : Nat) (hk : ∀ j, j < k → (Co.steps j c).ph ≠ 0) : (Co.steps k c).mu + k ≤ c.mu := by
  induction k with
  | zero => exact Nat.le_refl _
  | succ k ih =>
    have h1 := ih (fun j hj => hk j (by omega))
    have h2 := Co.mu_step (h.steps k) (hk k (by omega))
    show (Co.steps k c).step.2.2.mu + (k + 1) ≤ _
    omega
theorem Co.fins_spec (h : c.Okc) : (Co.steps c.fins c).ph = 0 ∧ (∀ j, j < c.fins → (Co.steps j c).ph ≠ 0) ∧ c.fins ≤ 31000 := by
  have hex : ∃ i, (Co.steps i c).ph = 0 ∧ ∀ j, j < i → (Co.steps j c).ph ≠ 0 := by
    have h0 := fst_spec (fun i => decide ((Co.steps i c).ph = 0)) 31000
    generalize fst (fun i => decide ((Co.steps i c).ph = 0)) 31000 = i at h0
    have hb : ∀ j, j < i → (Co.steps j c).ph ≠ 0 := fun j hj => of_decide_eq_false (h0.1 j hj)
    have h1 := Co.steps_mu h i hb
    have h2 := Co.mu_le h
    exact ⟨i, of_decide_eq_true (h0.2 (by omega)), hb⟩
  have he : c.fins = Classical.choose hex := by unfold Co.fins; rw [dif_pos hex]
  obtain ⟨h3, h4⟩ := Classical.choose_spec hex
  rw [← he] at h3 h4
  have h1 := Co.steps_mu h _ h4
  have h2 := Co.mu_le h
  exact ⟨h3, h4, by omega⟩
theorem Co.fins_eq (h : c.Okc) {i : Nat} (hi : ∀ j, j < i → (Co.steps j c).ph ≠ 0) (he : (Co.steps i c).ph = 0) : i = c.fins := by
  obtain ⟨h1, h2, _⟩ := Co.fins_spec h
  rcases Nat.lt_trichotomy i c.fins with h3 | h3 | h3
  · exact absurd he (h2 i h3)
  · exact h3
  · exact absurd h1 (hi _ h3)
theorem Co.costs_le (h : c.Okc) (k : Nat) : 0 ≤ Co.costs k c ∧ Co.costs k c ≤ 60 * (k : Int) := by
  induction k with
  | zero => exact ⟨Int.le_refl 0, by show (0 : Int) ≤ 60 * 0; decide⟩
  | succ k ih =>
    show 0 ≤ Co.costs k c + (Co.steps k c).step.1 ∧ Co.costs k c + (Co.steps k c).step.1 ≤ 60 * ((k + 1 : Nat) : Int)
    by_cases hp : (Co.steps k c).ph = 0
    · rw [Co.step_idle hp]
      show 0 ≤ Co.costs k c + 0 ∧ Co.costs k c + 0 ≤ _
      omega
    · have := (h.steps k).cost hp
      omega
theorem Co.Okc.pay (h : c.Okc) (hs : ¬ c.stops) : c.pay.Okc := by
  have hp : c.ph ≠ 0 := fun e => hs (.inl e)
  have hc := h.cost hp
  have hge : c.step.1 ≤ c.cr := by
    rcases Int.lt_or_le c.cr c.step.1 with h1 | h1
    · exact absurd (.inr h1) hs
    · exact h1
  exact (h.credit hp (n := c.cr - c.step.1) (by omega)).step
theorem Co.pay_cr (c : Co) : c.pay.cr = c.cr - c.step.1 ∨ (c.pay.ph = 0 ∧ c.pay.cr = 0) := Co.step_cr ({ c with cr := c.cr - c.step.1 } : Co)
def Co.nu (c : Co) : Nat := if c.ph = 0 then 0 else c.cr.toNat + 1
theorem Co.nu_pay (h : c.Okc) (hs : ¬ c.stops) : c.pay.nu < c.nu := by
  have hp : c.ph ≠ 0 := fun e => hs (.inl e)
  have hc := h.cost hp
  have hge : c.step.1 ≤ c.cr := by
    rcases Int.lt_or_le c.cr c.step.1 with h1 | h1
    · exact absurd (.inr h1) hs
    · exact h1
  unfold Co.nu
  rw [if_neg hp]
  split
  · omega
  · rename_i hq
    rcases c.pay_cr with h1 | h1
    · rw [h1]; omega
    · exact absurd h1.1 hq
theorem Co.pays_ok (h : c.Okc) (k : Nat) (hk : ∀ j, j < k → ¬ (Co.pays j c).stops) : (Co.pays k c).Okc ∧ (Co.pays k c).nu + k ≤ c.nu ∧ (Co.pays k c).cr ≤ max c.cr 0 := by
  induction k with
  | zero => exact ⟨h, Nat.le_refl _, by show c.cr ≤ _; omega⟩
  | succ k ih =>
    obtain ⟨h1, h2, h3⟩ := ih (fun j hj => hk j (by omega))
    have hn := hk k (by omega)
    have h4 := Co.nu_pay h1 hn
    refine ⟨h1.pay hn, by show (Co.pays k c).pay.nu + (k + 1) ≤ _; omega, ?_⟩
    show (Co.pays k c).pay.cr ≤ _
    have hp : (Co.pays k c).ph ≠ 0 := fun e => hn (.inl e)
    have hc := h1.cost hp
    rcases (Co.pays k c).pay_cr with h5 | h5 <;> omega
theorem Co.gives_spec (h : c.Okc) : (Co.pays c.gives c).stops ∧ (∀ j, j < c.gives → ¬ (Co.pays j c).stops) ∧ c.gives ≤ c.nu := by
  classical
  have hex : ∃ i, (Co.pays i c).stops ∧ ∀ j, j < i → ¬ (Co.pays j c).stops := by
    have h0 := fst_spec (fun i => decide ((Co.pays i c).stops)) (c.nu + 1)
    generalize fst (fun i => decide ((Co.pays i c).stops)) (c.nu + 1) = i at h0
    have hb : ∀ j, j < i → ¬ (Co.pays j c).stops := fun j hj => of_decide_eq_false (h0.1 j hj)
    have h1 := (Co.pays_ok h i hb).2.1
    exact ⟨i, of_decide_eq_true (h0.2 (by omega)), hb⟩
  have he : c.gives = Classical.choose hex := by unfold Co.gives; rw [dif_pos hex]
  obtain ⟨h3, h4⟩ := Classical.choose_spec hex
  rw [← he] at h3 h4
  have h1 := (Co.pays_ok h _ h4).2.1
  exact ⟨h3, h4, by omega⟩
theorem Co.gives_eq (h : c.Okc) {i : Nat} (hi : ∀ j, j < i → ¬ (Co.pays j c).stops) (he : (Co.pays i c).stops) : i = c.gives := by
  obtain ⟨h1, h2, _⟩ := Co.gives_spec h
  rcases Nat.lt_trichotomy i c.gives with h3 | h3 | h3
  · exact absurd he (h2 i h3)
  · exact h3
  · exact absurd h1 (hi _ h3)
theorem Co.Okc.more (h : c.Okc) (hp : c.ph ≠ 0) {n : Int} (hn : 0 ≤ n) : (c.more n).Okc := h.credit hp (by have := h.cr1; omega)
theorem Co.Ok.give (h : c.Ok) {n : Int} (hn : 0 ≤ n) : (c.give n).2.Ok := by
  unfold Co.give
  split
  · exact h
  · rename_i hp
    have h1 := h.k.more hp hn
    obtain ⟨h2, h3, _⟩ := Co.gives_spec h1
    have h4 := (Co.pays_ok h1 _ h3).1
    refine ⟨h4, ?_⟩
    show (Co.pays (c.more n).gives (c.more n)).cr ≤ 60
    rcases h2 with h2 | h2
    · have := h4.c0 h2; omega
    · by_cases hq : (Co.pays (c.more n).gives (c.more n)).ph = 0
      · have := h4.c0 hq; omega
      · have := (h4.cost hq).2.1; omega
theorem Co.Ok.giveE (h : c.Ok) (n : Int) : (c.giveE n).2.2.Ok := by
  unfold Co.giveE
  split
  · exact h
  · exact h.give (by omega)
theorem bar_iff : c.bar = true ↔ c.ph = 1 ∨ c.ph = 2 := by unfold Co.bar; exact decide_eq_true_iff
theorem made_M {m : Mk} {r : Int × Int × Hp} : (m.made r).2.2.M = r.2.2 := by unfold Mk.made; simp only; split <;> rfl
theorem Co.Ok.newObj (h : c.Ok) (k : Int) (l : List Bool) : (c.newObj k l).2.2.Ok := by
  unfold Co.newObj
  split
  · rename_i hb
    have hp := bar_iff.1 hb
    exact ⟨h.k.marker hp ((h.k.mo hp).newObject k l) (fun x hx => by show ((c.m.made (c.m.M.newObject k l)).2.2.M.ob x).isSome = true; rw [made_M, (c.m.M.newObject_new k l).old x hx]; exact hx) made_nz, h.cr2⟩
  · rename_i hb
    exact ⟨h.k.heap (fun e => hb (bar_iff.2 e)) (h.k.hf.newObject k l) (fun x hx => by rw [(c.m.M.newObject_new k l).old x hx]; exact hx), h.cr2⟩
theorem Co.Ok.newArr (h : c.Ok) (k a n : Int) : (c.newArr k a n).2.2.Ok := by
  unfold Co.newArr
  split
  · rename_i hb
    have hp := bar_iff.1 hb
    exact ⟨h.k.marker hp ((h.k.mo hp).newArray k a n) (fun x hx => by show ((c.m.made (c.m.M.newArray k a n)).2.2.M.ob x).isSome = true; rw [made_M, (c.m.M.newArray_new k a n).old x hx]; exact hx) made_nz, h.cr2⟩
  · rename_i hb
    exact ⟨h.k.heap (fun e => hb (bar_iff.2 e)) (h.k.hf.newArray k a n) (fun x hx => by rw [(c.m.M.newArray_new k a n).old x hx]; exact hx), h.cr2⟩
theorem Co.Ok.newObject (h : c.Ok) (k : Int) (l : List Bool) : (c.newObject k l).2.2.Ok := by
  unfold Co.newObject
  split
  · exact h
  · exact (h.give h.k.rt.1).newObj k l
theorem arrN_range {n : Int} (h0 : 0 ≤ n) (h : n ≤ 48) : 1 ≤ arrN n ∧ arrN n ≤ 7 := by
  unfold arrN
  split
  · rw [Int.tdiv_eq_ediv_of_nonneg (by omega)]; omega
  · omega
theorem Co.Ok.newArray (h : c.Ok) (k a n : Int) : (c.newArray k a n).2.2.Ok := by
  unfold Co.newArray
  split
  · exact h
  · rename_i hc
    have h1 := arrN_range (n := n) (by omega) (by omega)
    exact (h.give (Int.mul_nonneg h.k.rt.1 (by omega))).newArr k a n
theorem store_M {m : Mk} (a s v : Int) : (m.store a s v).2.M = (m.M.set a s v).2 := by
  unfold Mk.store
  simp only
  split
  · rw [Mk.shade_M, Mk.shade_M]; rfl
  · rfl
theorem Co.Ok.store (h : c.Ok) (a s v : Int) : (c.store a s v).2.Ok := by
  unfold Co.store
  split
  · exact h
  split
  · rename_i hb
    have hp := bar_iff.1 hb
    exact ⟨h.k.marker hp ((h.k.mo hp).store a s v) (fun x hx => by rw [store_M, Hp.set_some]; exact hx) (store_nz a s v), h.cr2⟩
  · rename_i hb
    exact ⟨h.k.heap (fun e => hb (bar_iff.2 e)) (h.k.hf.set a s v) (fun x hx => by rw [Hp.set_some]; exact hx), h.cr2⟩
theorem Co.Ok.begin (h : c.Ok) (l : List Int) : (c.begin l).2.Ok := by
  unfold Co.begin
  split
  · exact h
  split
  · exact h
  split
  · exact h
  rename_i h1 h2 h3
  have hk := h.k
  have h0 : c.ph = 0 := Classical.not_not.1 h2
  have ht := hk.t0 (by omega)
  have hM : ((Mk.start c.m.M).shades l).M = c.m.M := Mk.shades_M _ _
  refine ⟨⟨by show ((Mk.start c.m.M).shades l).M.OkF; rw [hM]; exact hk.hf, fun _ => Mk.Ok.shades _ _ (Mk.Ok.start hk.hf), fun e => absurd rfl e, hk.tg.marker (fun x hx => by show (((Mk.start c.m.M).shades l).M.ob x).isSome = true; rw [hM]; exact hx), fun _ => ht, by show 1 ≤ 4; omega, fun _ => hk.sw (by omega), fun x hx => by show (((Mk.start c.m.M).shades l).M.ob x).isSome = true; rw [hM]; exact hk.su x hx, hk.sn, hk.st, fun e => by (cases e), fun e => by (cases e), by show -193 ≤ -1 - (l.length : Int); omega, fun e => by (cases e), hk.rt, hk.pg, Nat.zero_le _⟩, by show -1 - (l.length : Int) ≤ 60; omega⟩
theorem Co.Ok.new {n : Nat} {r : Int} (h1 : 1 ≤ n) (h24 : n ≤ 24) (hr : 0 ≤ r ∧ r ≤ 100) : (Co.new n r).Ok :=
  ⟨⟨Hp.OkF.new h1 h24, fun e => by rcases e with e | e <;> (cases e), fun _ _ => rfl, Tb.Good.new, fun _ => rfl, Nat.zero_le _, fun _ => rfl, fun x hx => by (cases hx), List.nodup_nil, fun i hi => absurd hi (Nat.not_lt_zero _), fun e => by (cases e), fun e => by (cases e), by show (-193 : Int) ≤ 0; decide, fun _ => rfl, hr, ⟨h1, h24⟩, Nat.zero_le _⟩, by show (0 : Int) ≤ 60; decide⟩
end
end Go.Proofs.YthflghdaejbdkaaGreat
