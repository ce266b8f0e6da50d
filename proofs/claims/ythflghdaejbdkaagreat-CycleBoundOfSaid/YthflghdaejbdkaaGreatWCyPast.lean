/- Lemmas of this claim. -/
import Derived.Test.YthflghdaejbdkaaGreatWTbCyc
namespace Go.Proofs.YthflghdaejbdkaaGreat
set_option linter.unusedVariables false
set_option maxRecDepth 100000
def En.fine (e : En) (m : Mk) : Prop := e.tgt = 0 ∨ m.col e.tgt ≠ 0
structure Pst (t : Tb) (m : Mk) : Prop where
  p : ∀ i, i < t.ents.length → t.past t.ph t.nx i → (eAt t.ents i).fine m
  f : t.ph = 2 → ∀ i, i < t.ents.length → (eAt t.ents i).kind = 2 → t.fd i = false → (eAt t.ents i).fine m
def Tb.All (t : Tb) (m : Mk) : Prop := ∀ i, i < t.ents.length → (eAt t.ents i).fine m
section
variable {t t' s : Tb} {m m' : Mk} {n i k : Nat}
theorem En.fine.mono {e : En} (h : e.fine m) (hc : ∀ x, m.col x ≠ 0 → m'.col x ≠ 0) : e.fine m' := h.imp id (hc _)
theorem Pst.mono (h : Pst t m) (hc : ∀ x, m.col x ≠ 0 → m'.col x ≠ 0) : Pst t m' := ⟨fun i hi hp => (h.p i hi hp).mono hc, fun e i hi hk hf => (h.f e i hi hk hf).mono hc⟩
theorem Tb.All.mono (h : t.All m) (hc : ∀ x, m.col x ≠ 0 → m'.col x ≠ 0) : t.All m' := fun i hi => (h i hi).mono hc
theorem fine_of (hb : t.Base m) (hi : i < t.ents.length) (hw : m.isW (eAt t.ents i).tgt = false) : (eAt t.ents i).fine m := by
  by_cases hz : (eAt t.ents i).tgt = 0
  · exact .inl hz
  · refine .inr fun h0 => ?_
    unfold Mk.isW at hw
    rw [hb.us i hi hz, h0] at hw
    cases hw
theorem Pst.move (h : Pst t m) {t' : Tb} (he : t'.ents = t.ents) (hp : ∀ i, i < t.ents.length → (t.past t'.ph t'.nx i ↔ t.past t.ph t.nx i)) (hf : t'.ph = 2 → ∀ i, i < t.ents.length → (eAt t.ents i).kind = 2 → t'.fd i = false → (eAt t.ents i).fine m) : Pst t' m := by
  refine ⟨fun i hi hn => ?_, fun e i hi hk hfd => ?_⟩
  · have hq : t.past t'.ph t'.nx i := by unfold Tb.past at hn ⊢; rw [he] at hn; exact hn
    rw [he] at hi ⊢
    exact h.p i hi ((hp i hi).1 hq)
  · rw [he] at hi hk ⊢
    exact hf e i hi hk hfd
theorem Pst.set4 (hb : t.Base m) (h : Pst (t.at 4 n) m) (hn : n ≤ t.ents.length) : Pst (t.set4 n) m := by
  refine h.move rfl (fun i hi => past_skip (t0 := t.at 4 n) (a := 4) (nx := n) (nx' := nxt t.ents 3 n) (nxt_ge hn 3) (fun i hi h1 h2 e => ?_) hi) (fun e => by simp [Tb.set4, Tb.at] at e)
  have h3 := nxt_skip (l := t.ents) (k := 3) h1 h2
  have h4 := key_of (hb.kd i hi)
  have h5 : (eAt t.ents i).key = 4 := e
  omega
theorem Pst.set3 (hb : t.Base m) (h : Pst (t.at 3 0) m) : Pst (t.set3 m) m := by
  unfold Tb.set3
  split
  · refine Pst.set4 hb (h.move (t' := t.at 4 0) rfl (fun i hi => past_next (t0 := t.at 3 0) (a := 3) (b := 4) (nx := 0) hb.kd (by omega) (fun i hi => ?_) (fun i hi _ => ?_) hi) (fun e => by simp [Tb.at] at e)) (Nat.zero_le _)
    · have := key_of (hb.kd i hi)
      show (eAt t.ents i).key ≤ _ ∨ _ ≤ (eAt t.ents i).key
      omega
    · have := key_of (hb.kd i hi)
      show (eAt t.ents i).key ≠ _
      omega
  · exact h
theorem Pst.set2 (hb : t.Base m) (h : Pst (t.at 2 n) m) (hn : n ≤ t.ents.length) : Pst (t.set2 m n) m := by
  have hge := nxt_ge hn 2
  have hks : ∀ i, i < t.ents.length → n ≤ i → i < nxt t.ents 2 n → (eAt t.ents i).key ≠ ((2 : Nat) : Int) := fun i hi h1 h2 e => by
    have := key_of (hb.kd i hi)
    have := nxt_skip (l := t.ents) (k := 2) h1 h2
    omega
  unfold Tb.set2
  split
  · exact h.move rfl (fun i hi => past_skip (t0 := t.at 2 n) hge hks hi) (fun _ => h.f rfl)
  · rename_i h1
    have h2 := nxt_le (l := t.ents) (k := 2) (n := n)
    refine Pst.set3 hb (h.move (t' := t.at 3 0) rfl (fun i hi => past_next (t0 := t.at 2 n) (a := 2) (b := 3) (nx := n) hb.kd (by omega) (fun i hi => ?_) (fun i hi h3 => hks i hi h3 (Nat.lt_of_lt_of_le (show i < t.ents.length from hi) (by omega))) hi) (fun e => by simp [Tb.at] at e))
    have := key_of (hb.kd i hi)
    show (eAt t.ents i).key ≤ _ ∨ _ ≤ (eAt t.ents i).key
    omega
theorem Pst.set1 (hb : t.Base m) (h : Pst (t.at 1 n) m) (hn : n ≤ t.ents.length) : Pst (t.set1 m n) m := by
  have hge := nxt_ge hn 1
  have hks : ∀ i, i < t.ents.length → n ≤ i → i < nxt t.ents 1 n → (eAt t.ents i).key ≠ ((1 : Nat) : Int) := fun i hi h1 h2 e => by
    have := key_of (hb.kd i hi)
    have := nxt_skip (l := t.ents) (k := 1) h1 h2
    omega
  unfold Tb.set1
  split
  · exact h.move rfl (fun i hi => past_skip (t0 := t.at 1 n) hge hks hi) (fun e => by simp [Tb.at] at e)
  · rename_i h1
    have h2 := nxt_le (l := t.ents) (k := 1) (n := n)
    refine Pst.set2 (t := t.find m) hb.find (h.move (t' := (t.find m).at 2 0) rfl (fun i hi => past_next (t0 := t.at 1 n) (a := 1) (b := 2) (nx := n) hb.kd (by omega) (fun i hi => ?_) (fun i hi h3 => hks i hi h3 (Nat.lt_of_lt_of_le (show i < t.ents.length from hi) (by omega))) hi) (fun _ i hi hk hf => ?_)) (Nat.zero_le _)
    · have := key_of (hb.kd i hi)
      show (eAt t.ents i).key ≤ _ ∨ _ ≤ (eAt t.ents i).key
      omega
    · have hk2 : (eAt t.ents i).kind = 2 := hk
      have hf2 : (decide ((eAt t.ents i).kind = 2) && m.isW (eAt t.ents i).tgt) = false := hf
      rw [hk2] at hf2
      exact fine_of (t := t) hb hi hf2
theorem Pst.settle (hb : t.Base m) (h : Pst t m) (hn : t.nx ≤ t.ents.length) (h3 : t.ph = 3 → t.nx = 0) : Pst (t.settle m) m := by
  obtain ⟨ents, q, ph, nx, fd⟩ := t
  unfold Tb.settle
  split
  · rename_i e; cases e; exact Pst.set1 hb h hn
  split
  · rename_i e; cases e; exact Pst.set2 hb h hn
  split
  · rename_i e; cases e; have h0 := h3 rfl; cases h0; exact Pst.set3 hb h
  split
  · rename_i e; cases e; exact Pst.set4 hb h hn
  · exact h
theorem Pst.start (hb : t.Base m) : Pst (t.at 1 0) m := by
  refine ⟨fun i hi hp => ?_, fun e => by simp [Tb.at] at e⟩
  have h1 := key_of (hb.kd i hi)
  unfold Tb.past at hp
  have h2 : (t.at 1 0).ph = 1 := rfl
  have h3 : (t.at 1 0).nx = 0 := rfl
  rw [h2, h3] at hp
  have h4 : (eAt (t.at 1 0).ents i).key = (eAt t.ents i).key := rfl
  omega
theorem shade_nz {x : Int} : ∀ y, m.col y ≠ 0 → (m.shade x).col y ≠ 0 := fun y hy => by
  rcases Mk.shade_col (m := m) (x := x) y with h | ⟨_, _, h, _⟩
  · rw [h]; exact hy
  · exact absurd h hy
theorem stepAt_nz (hm : m.Ok) : ∀ y, m.col y ≠ 0 → m.step.2.2.col y ≠ 0 := fun y hy => by
  unfold Mk.step
  cases e : m.list with
  | nil => exact hy
  | cons x l =>
    rcases Mk.step_col hm e y with ⟨h1, _⟩ | ⟨_, h1⟩ | ⟨_, h1, _⟩
    · show (m.stepAt x).col y ≠ 0; rw [h1]; decide
    · show (m.stepAt x).col y ≠ 0; rw [h1]; exact hy
    · exact absurd h1 hy
theorem made_nz {r : Int × Int × Hp} : ∀ y, m.col y ≠ 0 → (m.made r).2.2.col y ≠ 0 := fun y hy => by
  unfold Mk.made
  simp only
  split
  · show setI m.col r.1 2 y ≠ 0
    by_cases e : y = r.1
    · rw [e, setI_same]; decide
    · rw [setI_other _ _ e]; exact hy
  · exact hy
theorem store_nz (a b c : Int) : ∀ y, m.col y ≠ 0 → (m.store a b c).2.col y ≠ 0 := fun y hy => by
  unfold Mk.store
  simp only
  split
  · exact shade_nz _ (shade_nz (m := m.put _) _ hy)
  · exact hy
theorem Pst.step (h : Pst t m) (hg : t.Good m) (hm : m.Ok) (hp : t.ph ≠ 0) : ((t.step m).2.2.1 = 0 → (t.step m).2.2.2.1.ph ≠ 0 ∧ Pst (t.step m).2.2.2.1 (t.step m).2.2.2.2) ∧ ((t.step m).2.2.1 ≠ 0 → (t.step m).2.2.2.1.ph = 0 ∧ (t.step m).2.2.2.1.All (t.step m).2.2.2.2 ∧ (t.step m).2.2.2.2 = m) := by
  have hs := h.settle hg.b hg.nl hg.z3
  have hst := Tb.stl_settle (m := m) (t := t) (by omega) hg.p4
  have hgs := hg.settle hm.hf.ok
  have hstep := (hg.step hm).2.2.2 hp
  refine ⟨fun h0 => ⟨?_, ?_⟩, fun h0 => ?_⟩
  · rcases hstep with ⟨_, h1, _⟩ | ⟨h1, _⟩
    · omega
    · omega
  · unfold Tb.step at h0 ⊢
    rw [if_neg hp] at h0 ⊢
    simp only at h0 ⊢
    generalize t.settle m = s at *
    by_cases h3 : s.ph = 3
    · rw [if_pos h3] at h0 ⊢
      exact (hs.mono (stepAt_nz hm)).settle (hgs.b.marker (fun k hk => by rw [Mk.step_M]; exact hk)) hgs.nl hgs.z3
    · rw [if_neg h3] at h0 ⊢
      by_cases hl : s.ents.length ≤ s.nx
      · rw [if_pos hl] at h0
        exact absurd h0 (by show ¬ ((3 : Int) = 0); decide)
      · rw [if_neg hl]
        have hi : s.nx < s.ents.length := by omega
        have hgc := hgs.clear hst hi h3 hm
        refine Pst.settle hgc.b ?_ hgc.nl hgc.z3
        have hkx : (eAt s.ents s.nx).key = (s.ph : Int) := by
          have hky := key_of (hgs.b.kd s.nx hi)
          have hp1 := hst.p1
          have hp4 := hgs.p4
          by_cases e1 : s.ph = 1 ∨ s.ph = 2
          · have := (hst.a e1).2
            omega
          · have e4 : s.ph = 4 := by omega
            have := hst.d e4 hi
            omega
        have hpast : ∀ i, s.past s.ph (s.nx + 1) i → i ≠ s.nx → s.past s.ph s.nx i := fun i h1 h2 => by
          rcases h1 with h1 | ⟨h1, h3⟩
          · exact .inl h1
          · exact .inr ⟨h1, by omega⟩
        -- what turns is the entry alone, its kind stays, and it is fine behind it
        have key : ∀ (ents' : List En) (q' : List Int) (m' : Mk), ents'.length = s.ents.length → (∀ j, j ≠ s.nx → eAt ents' j = eAt s.ents j) → (eAt ents' s.nx).kind = (eAt s.ents s.nx).kind → (eAt ents' s.nx).fine m' → (∀ y, m.col y ≠ 0 → m'.col y ≠ 0) → Pst ⟨ents', q', s.ph, s.nx + 1, s.fd⟩ m' := fun ents' q' m' h1 h2 h3 h4 h5 => by
          refine ⟨fun i hi hpa => ?_, fun e i hi hk hf => ?_⟩
          · show (eAt ents' i).fine m'
            by_cases e : i = s.nx
            · rw [e]; exact h4
            · rw [h2 i e]
              refine (hs.p i (by rw [← h1]; exact hi) (hpast i ?_ e)).mono h5
              have hpa2 : (eAt ents' i).key < (s.ph : Int) ∨ ((eAt ents' i).key = (s.ph : Int) ∧ i < s.nx + 1) := hpa
              rw [h2 i e] at hpa2
              exact hpa2
          · show (eAt ents' i).fine m'
            have hk2 : (eAt ents' i).kind = 2 := hk
            by_cases e2 : i = s.nx
            · rw [e2]; exact h4
            · rw [h2 i e2] at hk2 ⊢
              exact (hs.f e i (by rw [← h1]; exact hi) hk2 hf).mono h5
        have hoff : (eAt (s.ents.set s.nx (eAt s.ents s.nx).off) s.nx).kind = (eAt s.ents s.nx).kind := by rw [off_at hi]; rfl
        have hoff2 : ∀ m' : Mk, (eAt (s.ents.set s.nx (eAt s.ents s.nx).off) s.nx).fine m' := fun m' => by rw [off_at hi]; exact .inl rfl
        unfold Tb.clear
        simp only
        by_cases e2 : s.ph = 2
        · rw [if_pos e2]
          have hk2 : (eAt s.ents s.nx).kind = 2 := (hst.a (.inr e2)).2.trans (by rw [e2]; rfl)
          by_cases hf : s.fd s.nx = true
          · rw [if_pos hf]
            exact key _ _ _ (List.length_set ..) (off_oth hi) hoff (hoff2 _) shade_nz
          · rw [if_neg hf]
            exact key s.ents s.q m rfl (fun _ _ => rfl) rfl (hs.f e2 _ hi hk2 (by cases hx : s.fd s.nx; rfl; exact absurd hx hf)) (fun _ x => x)
        · rw [if_neg e2]
          by_cases hw : m.isW (eAt s.ents s.nx).tgt = true
          · rw [if_pos hw]
            exact key _ _ m (List.length_set ..) (off_oth hi) hoff (hoff2 _) (fun _ x => x)
          · rw [if_neg hw]
            exact key s.ents s.q m rfl (fun _ _ => rfl) rfl (fine_of hgs.b hi (by cases hx : m.isW (eAt s.ents s.nx).tgt; rfl; exact absurd hx hw)) (fun _ x => x)
  · unfold Tb.step at h0 ⊢
    rw [if_neg hp] at h0 ⊢
    simp only at h0 ⊢
    generalize t.settle m = s at *
    by_cases h3 : s.ph = 3
    · rw [if_pos h3] at h0; exact absurd rfl h0
    · rw [if_neg h3] at h0 ⊢
      by_cases hl : s.ents.length ≤ s.nx
      · rw [if_pos hl]
        refine ⟨rfl, fun i hi => hs.p i hi ?_, rfl⟩
        have hp1 := hst.p1
        have hp4 := hgs.p4
        have e4 : s.ph = 4 := by
          by_cases e1 : s.ph = 1 ∨ s.ph = 2
          · have := (hst.a e1).1; omega
          · omega
        have hi2 : i < s.ents.length := hi
        have hky := key_of (hgs.b.kd i hi2)
        unfold Tb.past
        omega
      · rw [if_neg hl] at h0
        exact absurd rfl h0
theorem Pst.begin (hg : t.Good m) (hm : m.Ok) (h0 : t.ph = 0) (hl : m.list = []) : (t.begin m).2.ph ≠ 0 ∧ Pst (t.begin m).2 m := by
  have hbe : t.begin m = (0, (t.at 1 0).settle m) := by
    unfold Tb.begin
    rw [if_neg (by intro h; rcases h with h | h; exact h h0; exact h hl)]
  rw [hbe]
  have hst := Tb.stl_settle (t := t.at 1 0) (m := m) (Nat.le_refl 1) (by show 1 ≤ 4; omega)
  refine ⟨?_, (Pst.start hg.b).settle (hg.b.at _ _) (Nat.zero_le _) (fun _ => rfl)⟩
  have := hst.p1
  show ((t.at 1 0).settle m).ph ≠ 0
  omega
end
end Go.Proofs.YthflghdaejbdkaaGreat
