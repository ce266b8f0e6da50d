/- Lemmas of this claim. -/
import Derived.Test.YthflghdaejbdkaaGreatXfTbGood
namespace Go.Proofs.YthflghdaejbdkaaGreat
set_option linter.unusedVariables false
set_option maxRecDepth 100000
def En.key (e : En) : Int := if e.kind = 3 then 4 else e.kind
def Tb.past (t0 : Tb) (ph nx : Nat) (i : Nat) : Prop := (eAt t0.ents i).key < (ph : Int) ∨ ((eAt t0.ents i).key = (ph : Int) ∧ i < nx)
section
variable {t0 t : Tb} {m0 m : Mk} {n i k : Nat}
theorem key_of {e : En} (h : 1 ≤ e.kind ∧ e.kind ≤ 3) : (e.key = 1 ∧ e.kind = 1) ∨ (e.key = 2 ∧ e.kind = 2) ∨ (e.key = 4 ∧ e.kind = 3) := by
  unfold En.key
  by_cases h3 : e.kind = 3
  · rw [if_pos h3]; exact .inr (.inr ⟨rfl, h3⟩)
  · rw [if_neg h3]; omega
theorem past_next {a b : Nat} (hk : ∀ i, i < t0.ents.length → 1 ≤ (eAt t0.ents i).kind ∧ (eAt t0.ents i).kind ≤ 3) (hb : a < b) (hbt : ∀ i, i < t0.ents.length → (eAt t0.ents i).key ≤ (a : Int) ∨ (b : Int) ≤ (eAt t0.ents i).key) {nx : Nat} (hn : ∀ i, i < t0.ents.length → nx ≤ i → (eAt t0.ents i).key ≠ (a : Int)) (hi : i < t0.ents.length) : t0.past b 0 i ↔ t0.past a nx i := by
  unfold Tb.past
  have h1 := hbt i hi
  have h2 := hn i hi
  constructor
  · rintro (h | h)
    · by_cases e : (eAt t0.ents i).key = (a : Int)
      · exact .inr ⟨e, by have := fun x => h2 x e; omega⟩
      · exact .inl (by omega)
    · omega
  · rintro (h | h)
    · exact .inl (by omega)
    · exact .inl (by omega)
theorem past_skip {a nx nx' : Nat} (hle : nx ≤ nx') (hn : ∀ i, i < t0.ents.length → nx ≤ i → i < nx' → (eAt t0.ents i).key ≠ (a : Int)) (hi : i < t0.ents.length) : t0.past a nx' i ↔ t0.past a nx i := by
  unfold Tb.past
  have h2 := hn i hi
  constructor
  · rintro (h | h)
    · exact .inl h
    · exact .inr ⟨h.1, by have := fun x => h2 x h.2 h.1; omega⟩
  · rintro (h | h)
    · exact .inl h
    · exact .inr ⟨h.1, by omega⟩
theorem nxt_ge (hn : n ≤ t.ents.length) (a : Int) : n ≤ nxt t.ents a n := by
  by_cases h : nxt t.ents a n < t.ents.length
  · exact (nxt_at h).1
  · have := nxt_le (l := t.ents) (k := a) (n := n); omega
theorem shade_bl {x : Int} (h : ∀ y, m0.col y = 2 → m.col y = 2) : ∀ y, m0.col y = 2 → (m.shade x).col y = 2 := fun y hy => by
  have h1 := h y hy
  rcases Mk.shade_col (m := m) (x := x) y with h2 | ⟨_, _, h2, _⟩
  · rw [h2]; exact h1
  · rw [h1] at h2; cases h2
theorem step_bl (hm : m.Ok) (h : ∀ y, m0.col y = 2 → m.col y = 2) : ∀ y, m0.col y = 2 → m.step.2.2.col y = 2 := fun y hy => by
  have h1 := h y hy
  unfold Mk.step
  split
  · exact h1
  · rename_i x t e
    rcases Mk.step_col hm e y with ⟨h2, _⟩ | ⟨_, h2⟩ | ⟨_, h2, _⟩
    · exact h2
    · show (m.stepAt x).col y = 2
      rw [h2]; exact h1
    · rw [h1] at h2; cases h2
theorem off_oth {l : List En} {x : Nat} (hx : x < l.length) : ∀ j, j ≠ x → eAt (l.set x (eAt l x).off) j = eAt l j := fun j hj => by rw [eAt_set hx, if_neg hj]
theorem off_at {l : List En} {x : Nat} (hx : x < l.length) : eAt (l.set x (eAt l x).off) x = (eAt l x).off := by rw [eAt_set hx, if_pos rfl]
end
end Go.Proofs.YthflghdaejbdkaaGreat
namespace Go.Proofs.YthflghdaejbdkaaGreat
set_option linter.unusedVariables false
set_option maxRecDepth 100000
def En.fine (e : En) (m : Mk) : Prop := e.tgt = 0 ∨ m.col e.tgt ≠ 0
structure Pst (t : Tb) (m : Mk) : Prop where
  p : ∀ i, i < t.ents.length → t.past t.ph t.nx i → (eAt t.ents i).fine m
  f : t.ph = 2 → ∀ i, i < t.ents.length → (eAt t.ents i).kind = 2 → t.fd i = false → (eAt t.ents i).fine m
def Tb.All (t : Tb) (m : Mk) : Prop := ∀ i, i < t.ents.length → (eAt t.ents i).fine m
section
variable {t t' s : Tb} {m m' : Mk} {n i k : Nat}
theorem En.fine.mono {e : En} (h : e.fine m) (hc : ∀ x, m.col x ≠ 0 → m'.col x ≠ 0) : e.fine m' := h.imp id (hc _)
theorem Pst.mono (h : Pst t m) (hc : ∀ x, m.col x ≠ 0 → m'.col x ≠ 0) : Pst t m' := ⟨fun i hi hp => (h.p i hi hp).mono hc, fun e i hi hk hf => (h.f e i hi hk hf).mono hc⟩
theorem Tb.All.mono (h : t.All m) (hc : ∀ x, m.col x ≠ 0 → m'.col x ≠ 0) : t.All m' := fun i hi => (h i hi).mono hc
theorem fine_of (hb : t.Base m) (hi : i < t.ents.length) (hw : m.isW (eAt t.ents i).tgt = false) : (eAt t.ents i).fine m := by
  by_cases hz : (eAt t.ents i).tgt = 0
  · exact .inl hz
  · refine .inr fun h0 => ?_
    unfold Mk.isW at hw
    rw [hb.us i hi hz, h0] at hw
    cases hw
theorem Pst.move (h : Pst t m) {t' : Tb} (he : t'.ents = t.ents) (hp : ∀ i, i < t.ents.length → (t.past t'.ph t'.nx i ↔ t.past t.ph t.nx i)) (hf : t'.ph = 2 → ∀ i, i < t.ents.length → (eAt t.ents i).kind = 2 → t'.fd i = false → (eAt t.ents i).fine m) : Pst t' m := by
  refine ⟨fun i hi hn => ?_, fun e i hi hk hfd => ?_⟩
  · have hq : t.past t'.ph t'.nx i := by unfold Tb.past at hn ⊢; rw [he] at hn; exact hn
    rw [he] at hi ⊢
    exact h.p i hi ((hp i hi).1 hq)
  · rw [he] at hi hk ⊢
    exact hf e i hi hk hfd
theorem Pst.set4 (hb : t.Base m) (h : Pst (t.at 4 n) m) (hn : n ≤ t.ents.length) : Pst (t.set4 n) m := by
  refine h.move rfl (fun i hi => past_skip (t0 := t.at 4 n) (a := 4) (nx := n) (nx' := nxt t.ents 3 n) (nxt_ge hn 3) (fun i hi h1 h2 e => ?_) hi) (fun e => by simp [Tb.set4, Tb.at] at e)
  have h3 := nxt_skip (l := t.ents) (k := 3) h1 h2
  have h4 := key_of (hb.kd i hi)
  have h5 : (eAt t.ents i).key = 4 := e
  omega
theorem Pst.set3 (hb : t.Base m) (h : Pst (t.at 3 0) m) : Pst (t.set3 m) m := by
  unfold Tb.set3
  split
  · refine Pst.set4 hb (h.move (t' := t.at 4 0) rfl (fun i hi => past_next (t0 := t.at 3 0) (a := 3) (b := 4) (nx := 0) hb.kd (by omega) (fun i hi => ?_) (fun i hi _ => ?_) hi) (fun e => by simp [Tb.at] at e)) (Nat.zero_le _)
    · have := key_of (hb.kd i hi)
      show (eAt t.ents i).key ≤ _ ∨ _ ≤ (eAt t.ents i).key
      omega
    · have := key_of (hb.kd i hi)
      show (eAt t.ents i).key ≠ _
      omega
  · exact h
theorem Pst.set2 (hb : t.Base m) (h : Pst (t.at 2 n) m) (hn : n ≤ t.ents.length) : Pst (t.set2 m n) m := by
  have hge := nxt_ge hn 2
  have hks : ∀ i, i < t.ents.length → n ≤ i → i < nxt t.ents 2 n → (eAt t.ents i).key ≠ ((2 : Nat) : Int) := fun i hi h1 h2 e => by
    have := key_of (hb.kd i hi)
    have := nxt_skip (l := t.ents) (k := 2) h1 h2
    omega
  unfold Tb.set2
  split
  · exact h.move rfl (fun i hi => past_skip (t0 := t.at 2 n) hge hks hi) (fun _ => h.f rfl)
  · rename_i h1
    have h2 := nxt_le (l := t.ents) (k := 2) (n := n)
    refine Pst.set3 hb (h.move (t' := t.at 3 0) rfl (fun i hi => past_next (t0 := t.at 2 n) (a := 2) (b := 3) (nx := n) hb.kd (by omega) (fun i hi => ?_) (fun i hi h3 => hks i hi h3 (Nat.lt_of_lt_of_le (show i < t.ents.length from hi) (by omega))) hi) (fun e => by simp [Tb.at] at e))
    have := key_of (hb.kd i hi)
    show (eAt t.ents i).key ≤ _ ∨ _ ≤ (eAt t.ents i).key
    omega
theorem Pst.set1 (hb : t.Base m) (h : Pst (t.at 1 n) m) (hn : n ≤ t.ents.length) : Pst (t.set1 m n) m := by
  have hge := nxt_ge hn 1
  have hks : ∀ i, i < t.ents.length → n ≤ i → i < nxt t.ents 1 n → (eAt t.ents i).key ≠ ((1 : Nat) : Int) := fun i hi h1 h2 e => by
    have := key_of (hb.kd i hi)
    have := nxt_skip (l := t.ents) (k := 1) h1 h2
    omega
  unfold Tb.set1
  split
  · exact h.move rfl (fun i hi => past_skip (t0 := t.at 1 n) hge hks hi) (fun e => by simp [Tb.at] at e)
  · rename_i h1
    have h2 := nxt_le (l := t.ents) (k := 1) (n := n)
    refine Pst.set2 (t := t.find m) hb.find (h.move (t' := (t.find m).at 2 0) rfl (fun i hi => past_next (t0 := t.at 1 n) (a := 1) (b := 2) (nx := n) hb.kd (by omega) (fun i hi => ?_) (fun i hi h3 => hks i hi h3 (Nat.lt_of_lt_of_le (show i < t.ents.length from hi) (by omega))) hi) (fun _ i hi hk hf => ?_)) (Nat.zero_le _)
    · have := key_of (hb.kd i hi)
      show (eAt t.ents i).key ≤ _ ∨ _ ≤ (eAt t.ents i).key
      omega
    · have hk2 : (eAt t.ents i).kind = 2 := hk
      have hf2 : (decide ((eAt t.ents i).kind = 2) && m.isW (eAt t.ents i).tgt) = false := hf
      rw [hk2] at hf2
      exact fine_of (t := t) hb hi hf2
theorem Pst.settle (hb : t.Base m) (h : Pst t m) (hn : t.nx ≤ t.ents.length) (h3 : t.ph = 3 → t.nx = 0) : Pst (t.settle m) m := by
  obtain ⟨ents, q, ph, nx, fd⟩ := t
  unfold Tb.settle
  split
  · rename_i e; cases e; exact Pst.set1 hb h hn
  split
  · rename_i e; cases e; exact Pst.set2 hb h hn
  split
  · rename_i e; cases e; have h0 := h3 rfl; cases h0; exact Pst.set3 hb h
  split
  · rename_i e; cases e; exact Pst.set4 hb h hn
  · exact h
theorem Pst.start (hb : t.Base m) : Pst (t.at 1 0) m := by
  refine ⟨fun i hi hp => ?_, fun e => by simp [Tb.at] at e⟩
  have h1 := key_of (hb.kd i hi)
  unfold Tb.past at hp
  have h2 : (t.at 1 0).ph = 1 := rfl
  have h3 : (t.at 1 0).nx = 0 := rfl
  rw [h2, h3] at hp
  have h4 : (eAt (t.at 1 0).ents i).key = (eAt t.ents i).key := rfl
  omega
theorem shade_nz {x : Int} : ∀ y, m.col y ≠ 0 → (m.shade x).col y ≠ 0 := fun y hy => by
  rcases Mk.shade_col (m := m) (x := x) y with h | ⟨_, _, h, _⟩
  · rw [h]; exact hy
  · exact absurd h hy
theorem stepAt_nz (hm : m.Ok) : ∀ y, m.col y ≠ 0 → m.step.2.2.col y ≠ 0 := fun y hy => by
  unfold Mk.step
  cases e : m.list with
  | nil => exact hy
  | cons x l =>
    rcases Mk.step_col hm e y with ⟨h1, _⟩ | ⟨_, h1⟩ | ⟨_, h1, _⟩
    · show (m.stepAt x).col y ≠ 0; rw [h1]; decide
    · show (m.stepAt x).col y ≠ 0; rw [h1]; exact hy
    · exact absurd h1 hy
theorem made_nz {r : Int × Int × Hp} : ∀ y, m.col y ≠ 0 → (m.made r).2.2.col y ≠ 0 := fun y hy => by
  unfold Mk.made
  simp only
  split
  · show setI m.col r.1 2 y ≠ 0
    by_cases e : y = r.1
    · rw [e, setI_same]; decide
    · rw [setI_other _ _ e]; exact hy
  · exact hy
theorem store_nz (a b c : Int) : ∀ y, m.col y ≠ 0 → (m.store a b c).2.col y ≠ 0 := fun y hy => by
  unfold Mk.store
  simp only
  split
  · exact shade_nz _ (shade_nz (m := m.put _) _ hy)
  · exact hy
theorem Pst.step (h : Pst t m) (hg : t.Good m) (hm : m.Ok) (hp : t.ph ≠ 0) : ((t.step m).2.2.1 = 0 → (t.step m).2.2.2.1.ph ≠ 0 ∧ Pst (t.step m).2.2.2.1 (t.step m).2.2.2.2) ∧ ((t.step m).2.2.1 ≠ 0 → (t.step m).2.2.2.1.ph = 0 ∧ (t.step m).2.2.2.1.All (t.step m).2.2.2.2 ∧ (t.step m).2.2.2.2 = m) := by
  have hs := h.settle hg.b hg.nl hg.z3
  have hst := Tb.stl_settle (m := m) (t := t) (by omega) hg.p4
  have hgs := hg.settle hm.hf.ok
  have hstep := (hg.step hm).2.2.2 hp
  refine ⟨fun h0 => ⟨?_, ?_⟩, fun h0 => ?_⟩
  · rcases hstep with ⟨_, h1, _⟩ | ⟨h1, _⟩
    · omega
    · omega
  · unfold Tb.step at h0 ⊢
    rw [if_neg hp] at h0 ⊢
    simp only at h0 ⊢
    generalize t.settle m = s at *
    by_cases h3 : s.ph = 3
    · rw [if_pos h3] at h0 ⊢
      exact (hs.mono (stepAt_nz hm)).settle (hgs.b.marker (fun k hk => by rw [Mk.step_M]; exact hk)) hgs.nl hgs.z3
    · rw [if_neg h3] at h0 ⊢
      by_cases hl : s.ents.length ≤ s.nx
      · rw [if_pos hl] at h0
        exact absurd h0 (by show ¬ ((3 : Int) = 0); decide)
      · rw [if_neg hl]
        have hi : s.nx < s.ents.length := by omega
        have hgc := hgs.clear hst hi h3 hm
        refine Pst.settle hgc.b ?_ hgc.nl hgc.z3
        have hkx : (eAt s.ents s.nx).key = (s.ph : Int) := by
          have hky := key_of (hgs.b.kd s.nx hi)
          have hp1 := hst.p1
          have hp4 := hgs.p4
          by_cases e1 : s.ph = 1 ∨ s.ph = 2
          · have := (hst.a e1).2
            omega
          · have e4 : s.ph = 4 := by omega
            have := hst.d e4 hi
            omega
        have hpast : ∀ i, s.past s.ph (s.nx + 1) i → i ≠ s.nx → s.past s.ph s.nx i := fun i h1 h2 => by
          rcases h1 with h1 | ⟨h1, h3⟩
          · exact .inl h1
          · exact .inr ⟨h1, by omega⟩
        -- what turns is the entry alone, its kind stays, and it is fine behind it
        have key : ∀ (ents' : List En) (q' : List Int) (m' : Mk), ents'.length = s.ents.length → (∀ j, j ≠ s.nx → eAt ents' j = eAt s.ents j) → (eAt ents' s.nx).kind = (eAt s.ents s.nx).kind → (eAt ents' s.nx).fine m' → (∀ y, m.col y ≠ 0 → m'.col y ≠ 0) → Pst ⟨ents', q', s.ph, s.nx + 1, s.fd⟩ m' := fun ents' q' m' h1 h2 h3 h4 h5 => by
          refine ⟨fun i hi hpa => ?_, fun e i hi hk hf => ?_⟩
          · show (eAt ents' i).fine m'
            by_cases e : i = s.nx
            · rw [e]; exact h4
            · rw [h2 i e]
              refine (hs.p i (by rw [← h1]; exact hi) (hpast i ?_ e)).mono h5
              have hpa2 : (eAt ents' i).key < (s.ph : Int) ∨ ((eAt ents' i).key = (s.ph : Int) ∧ i < s.nx + 1) := hpa
              rw [h2 i e] at hpa2
              exact hpa2
          · show (eAt ents' i).fine m'
            have hk2 : (eAt ents' i).kind = 2 := hk
            by_cases e2 : i = s.nx
            · rw [e2]; exact h4
            · rw [h2 i e2] at hk2 ⊢
              exact (hs.f e i (by rw [← h1]; exact hi) hk2 hf).mono h5
        have hoff : (eAt (s.ents.set s.nx (eAt s.ents s.nx).off) s.nx).kind = (eAt s.ents s.nx).kind := by rw [off_at hi]; rfl
        have hoff2 : ∀ m' : Mk, (eAt (s.ents.set s.nx (eAt s.ents s.nx).off) s.nx).fine m' := fun m' => by rw [off_at hi]; exact .inl rfl
        unfold Tb.clear
        simp only
        by_cases e2 : s.ph = 2
        · rw [if_pos e2]
          have hk2 : (eAt s.ents s.nx).kind = 2 := (hst.a (.inr e2)).2.trans (by rw [e2]; rfl)
          by_cases hf : s.fd s.nx = true
          · rw [if_pos hf]
            exact key _ _ _ (List.length_set ..) (off_oth hi) hoff (hoff2 _) shade_nz
          · rw [if_neg hf]
            exact key s.ents s.q m rfl (fun _ _ => rfl) rfl (hs.f e2 _ hi hk2 (by cases hx : s.fd s.nx; rfl; exact absurd hx hf)) (fun _ x => x)
        · rw [if_neg e2]
          by_cases hw : m.isW (eAt s.ents s.nx).tgt = true
          · rw [if_pos hw]
            exact key _ _ m (List.length_set ..) (off_oth hi) hoff (hoff2 _) (fun _ x => x)
          · rw [if_neg hw]
            exact key s.ents s.q m rfl (fun _ _ => rfl) rfl (fine_of hgs.b hi (by cases hx : m.isW (eAt s.ents s.nx).tgt; rfl; exact absurd hx hw)) (fun _ x => x)
  · unfold Tb.step at h0 ⊢
    rw [if_neg hp] at h0 ⊢
    simp only at h0 ⊢
    generalize t.settle m = s at *
    by_cases h3 : s.ph = 3
    · rw [if_pos h3] at h0; exact absurd rfl h0
    · rw [if_neg h3] at h0 ⊢
      by_cases hl : s.ents.length ≤ s.nx
      · rw [if_pos hl]
        refine ⟨rfl, fun i hi => hs.p i hi ?_, rfl⟩
        have hp1 := hst.p1
        have hp4 := hgs.p4
        have e4 : s.ph = 4 := by
          by_cases e1 : s.ph = 1 ∨ s.ph = 2
          · have := (hst.a e1).1; omega
          · omega
        have hi2 : i < s.ents.length := hi
        have hky := key_of (hgs.b.kd i hi2)
        unfold Tb.past
        omega
      · rw [if_neg hl] at h0
        exact absurd rfl h0
theorem Pst.begin (hg : t.Good m) (hm : m.Ok) (h0 : t.ph = 0) (hl : m.list = []) : (t.begin m).2.ph ≠ 0 ∧ Pst (t.begin m).2 m := by
  have hbe : t.begin m = (0, (t.at 1 0).settle m) := by
    unfold Tb.begin
    rw [if_neg (by intro h; rcases h with h | h; exact h h0; exact h hl)]
  rw [hbe]
  have hst := Tb.stl_settle (t := t.at 1 0) (m := m) (Nat.le_refl 1) (by show 1 ≤ 4; omega)
  refine ⟨?_, (Pst.start hg.b).settle (hg.b.at _ _) (Nat.zero_le _) (fun _ => rfl)⟩
  have := hst.p1
  show ((t.at 1 0).settle m).ph ≠ 0
  omega
end
end Go.Proofs.YthflghdaejbdkaaGreat
namespace Go.Proofs.YthflghdaejbdkaaGreat
set_option linter.unusedVariables false
set_option maxRecDepth 100000
def Hp.len (M : Hp) (h : Int) : Int := (M.type h).2.2.1
def Hp.blankS (M : Hp) (h : Int) : Nat → Hp
  | 0 => M
  | k + 1 => if ((M.blankS h k).isRef h (k : Int)).1 = true then ((M.blankS h k).set h (k : Int) 0).2 else M.blankS h k
def Hp.blank (M : Hp) (h : Int) : Hp := M.blankS h (M.len h).toNat
def Hp.blankL (M : Hp) (l : List Int) : Nat → Hp
  | 0 => M
  | k + 1 => (M.blankL l k).blank (gI l k)
structure Co where
  m : Mk
  t : Tb
  ph : Nat
  cr : Int
  rate : Int
  pages : Nat
  sw : List Int
  mv : Nat
def Co.new (pages : Nat) (rate : Int) : Co := ⟨Mk.start (Hp.new pages), Tb.new, 0, 0, rate, pages, [], 0⟩
def Co.setM (c : Co) (m : Mk) : Co := { c with m := m }
def Co.mark (c : Co) : Int × Co := (1 + c.m.M.len c.m.step.1, { c with m := c.m.step.2.2 })
def Co.sweepTo (c : Co) (s : List Int) : Int × Co := (1, { c with ph := 3, sw := s, m := c.m.put (c.m.M.blankL s s.length) })
def Co.sweepB (c : Co) : Int × Co := c.sweepTo c.m.white
def Co.refsB (c : Co) : Int × Co := (1, { c with ph := 2, t := (c.t.begin c.m).2 })
def Co.tail (c : Co) : Int × Co := if c.m.list = [] then c.sweepB else c.mark
def Co.refs (c : Co) : Int × Co :=
  if (c.t.step c.m).2.2.1 = 0 then (if (c.t.step c.m).1 = 3 then 1 + c.m.M.len (c.t.step c.m).2.1 else 1, { c with t := (c.t.step c.m).2.2.2.1, m := (c.t.step c.m).2.2.2.2 })
  else ({ c with t := (c.t.step c.m).2.2.2.1, m := (c.t.step c.m).2.2.2.2 } : Co).tail
def Co.free (c : Co) : Int × Co := match c.sw with
  | [] => (1, { c with ph := 4, mv := 0 })
  | h :: r => (1 + ((c.m.M.blocks h).1.length : Int), { c with sw := r, m := c.m.put (c.m.M.release h).2 })
def Co.move (c : Co) : Int × Co :=
  if c.mv = 8 * c.pages ∨ c.m.M.P.move.2.2.1 ≠ 0 then (1, { c with ph := 0, cr := 0 })
  else (4 + (bsz (c.m.M.P.class (c.m.M.P.move.1.tdiv 16)).1 : Int), { c with m := c.m.put c.m.M.move.2.2, mv := c.mv + 1 })
def Co.step (c : Co) : Int × Int × Co :=
  if c.ph = 0 then (0, 13, c)
  else if c.ph = 1 then (if c.m.list = [] then (c.refsB.1, 0, c.refsB.2) else (c.mark.1, 0, c.mark.2))
  else if c.ph = 2 then (c.refs.1, 0, c.refs.2)
  else if c.ph = 3 then (c.free.1, 0, c.free.2)
  else (c.move.1, 0, c.move.2)
def Co.steps : Nat → Co → Co | 0, c => c | k + 1, c => (Co.steps k c).step.2.2
def Co.costs : Nat → Co → Int | 0, _ => 0 | k + 1, c => Co.costs k c + (Co.steps k c).step.1
def Co.pay (c : Co) : Co := ({ c with cr := c.cr - c.step.1 } : Co).step.2.2
def Co.stops (c : Co) : Prop := c.ph = 0 ∨ c.cr < c.step.1
def Co.pays : Nat → Co → Co | 0, c => c | k + 1, c => (Co.pays k c).pay
open Classical in
noncomputable def Co.fins (c : Co) : Nat := if h : ∃ i, (Co.steps i c).ph = 0 ∧ ∀ j, j < i → (Co.steps j c).ph ≠ 0 then Classical.choose h else 0
open Classical in
noncomputable def Co.gives (c : Co) : Nat := if h : ∃ i, (Co.pays i c).stops ∧ ∀ j, j < i → ¬ (Co.pays j c).stops then Classical.choose h else 0
noncomputable def Co.finish (c : Co) : Int × Int × Int × Co := if c.ph = 0 then (0, 0, 13, c) else ((c.fins : Int), Co.costs c.fins c, 0, Co.steps c.fins c)
def Co.more (c : Co) (n : Int) : Co := { c with cr := c.cr + n }
noncomputable def Co.give (c : Co) (n : Int) : Int × Co := if c.ph = 0 then (0, c) else (((c.more n).gives : Int), Co.pays (c.more n).gives (c.more n))
noncomputable def Co.giveE (c : Co) (n : Int) : Int × Int × Co := if n < 0 ∨ 10000 < n then (0, 1, c) else ((c.give n).1, 0, (c.give n).2)
open Classical in
noncomputable def Co.begin (c : Co) (roots : List Int) : Int × Co :=
  if 192 < roots.length then (1, c) else if c.ph ≠ 0 then (13, c) else if c.m.M.badRoot roots then (3, c)
  else (0, { c with m := (Mk.start c.m.M).shades roots, ph := 1, cr := -1 - (roots.length : Int), mv := 0 })
def Co.hid (c : Co) (h : Int) : Bool := if c.ph = 2 then c.m.isW h else decide (h ∈ c.sw)
def Co.bar (c : Co) : Bool := decide (c.ph = 1 ∨ c.ph = 2)
def Co.newObj (c : Co) (k : Int) (l : List Bool) : Int × Int × Co :=
  if c.bar then ((c.m.newObject k l).1, (c.m.newObject k l).2.1, { c with m := (c.m.newObject k l).2.2 })
  else ((c.m.M.newObject k l).1, (c.m.M.newObject k l).2.1, { c with m := c.m.put (c.m.M.newObject k l).2.2 })
def Co.newArr (c : Co) (k a n : Int) : Int × Int × Co :=
  if c.bar then ((c.m.newArray k a n).1, (c.m.newArray k a n).2.1, { c with m := (c.m.newArray k a n).2.2 })
  else ((c.m.M.newArray k a n).1, (c.m.M.newArray k a n).2.1, { c with m := c.m.put (c.m.M.newArray k a n).2.2 })
noncomputable def Co.newObject (c : Co) (k : Int) (l : List Bool) : Int × Int × Co := if k < 0 ∨ 10 ≤ k ∨ 7 < l.length then (0, 1, c) else (c.give c.rate).2.newObj k l
def arrN (n : Int) : Int := if 7 < n then 1 + (n + 7).tdiv 8 else 1
noncomputable def Co.newArray (c : Co) (k a n : Int) : Int × Int × Co :=
  if n < 0 ∨ 48 < n ∨ ¬ ((k = 3 ∧ a = 0) ∨ (k = 4 ∧ 0 ≤ a ∧ a < 10)) then (0, 1, c) else (c.give (c.rate * arrN n)).2.newArr k a n
def Co.get (c : Co) (h s : Int) : Int × Int := if c.hid h then (0, 3) else c.m.M.get h s
def Co.store (c : Co) (h s v : Int) : Int × Co :=
  if c.hid h = true ∨ ((c.m.M.isRef h s).1 = true ∧ c.hid v = true) then (3, c)
  else if c.bar then ((c.m.store h s v).1, { c with m := (c.m.store h s v).2 }) else ((c.m.M.set h s v).1, { c with m := c.m.put (c.m.M.set h s v).2 })
structure Co.Okc (c : Co) : Prop where
  hf : c.m.M.OkF
  mo : c.ph = 1 ∨ c.ph = 2 → c.m.Ok
  nl : c.ph ≠ 1 → c.ph ≠ 2 → c.m.list = []
  tg : c.t.Good c.m
  t0 : c.ph ≠ 2 → c.t.ph = 0
  p4 : c.ph ≤ 4
  sw : c.ph ≠ 3 → c.sw = []
  su : ∀ x, x ∈ c.sw → (c.m.M.ob x).isSome = true
  sn : c.sw.Nodup
  st : ∀ i, i < c.t.ents.length → (eAt c.t.ents i).tgt ∉ c.sw
  pa : c.ph = 2 → c.t.ph ≠ 0 → Pst c.t c.m
  al : c.ph = 2 → c.t.ph = 0 → c.t.All c.m
  cr1 : -193 ≤ c.cr
  c0 : c.ph = 0 → c.cr = 0
  rt : 0 ≤ c.rate ∧ c.rate ≤ 100
  pg : 1 ≤ c.pages ∧ c.pages ≤ 24
  mv : c.mv ≤ 8 * c.pages
structure Co.Ok (c : Co) : Prop where
  k : c.Okc
  cr2 : c.cr ≤ 60
end Go.Proofs.YthflghdaejbdkaaGreat
