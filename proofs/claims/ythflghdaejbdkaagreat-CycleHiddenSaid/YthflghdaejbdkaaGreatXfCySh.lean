/- Lemmas of this claim. -/
import Derived.Test.YthflghdaejbdkaaGreatXfCyGiv
import Derived.Test.YthflghdaejbdkaaGreatXfOFull
import Derived.Test.YthflghdaejbdkaaGreatXfCyModel
namespace Go.Proofs.YthflghdaejbdkaaGreat
set_option linter.unusedVariables false
set_option maxRecDepth 100000
structure Sv (c : Co) (k : Int) : Prop where
  us : (c.m.M.ob k).isSome = true
  p1 : c.ph = 1 → Cov c.m k
  p2 : c.ph = 2 → c.m.col k = 2
  p3 : c.ph = 3 → k ∉ c.sw
def Wh (M N : Hp) (k : Int) : Prop := ∀ o, M.ob k = some o → ∃ o', N.ob k = some o' ∧ o'.refs = o.refs ∧ o'.slots = o.slots
section
variable {c : Co} {k : Int} {M N O : Hp} {m : Mk} {t : Tb}
theorem Wh.refl (M : Hp) (k : Int) : Wh M M k := fun o ho => ⟨o, ho, rfl, rfl⟩
theorem Wh.of (h : N.ob k = M.ob k) : Wh M N k := fun o ho => ⟨o, h.trans ho, rfl, rfl⟩
theorem Wh.trans (h : Wh M N k) (h2 : Wh N O k) : Wh M O k := fun o ho => by
  obtain ⟨o1, a, b, d⟩ := h o ho
  obtain ⟨o2, a2, b2, d2⟩ := h2 o1 a
  exact ⟨o2, a2, b2.trans b, d2.trans d⟩
theorem Wh.some (h : Wh M N k) (hs : (M.ob k).isSome = true) : (N.ob k).isSome = true := by
  obtain ⟨o, ho⟩ := Option.isSome_iff_exists.1 hs
  obtain ⟨o1, a, _⟩ := h o ho
  rw [a]
  rfl
theorem shade_bl2 {x : Int} (h : m.col k = 2) : (m.shade x).col k = 2 := shade_bl (m0 := m) (fun _ h => h) k h
theorem step_bl2 (hm : m.Ok) (h : m.col k = 2) : m.step.2.2.col k = 2 := step_bl (m0 := m) hm (fun _ h => h) k h
theorem tstep_bl (hm : m.Ok) (h : m.col k = 2) : (t.step m).2.2.2.2.col k = 2 := by
  unfold Tb.step
  split
  · exact h
  simp only
  split
  · exact step_bl2 hm h
  split
  · exact h
  · show ((t.settle m).clear m (t.settle m).nx).2.col k = 2
    unfold Tb.clear
    simp only
    split
    · split
      · exact shade_bl2 h
      · exact h
    · exact h
theorem Sv.step (hk : c.Okc) (h : Sv c k) : Sv c.step.2.2 k ∧ Wh c.m.M c.step.2.2.m.M k := by
  unfold Co.step
  by_cases h0 : c.ph = 0
  · rw [if_pos h0]; exact ⟨h, Wh.refl _ _⟩
  rw [if_neg h0]
  by_cases h1 : c.ph = 1
  · rw [if_pos h1]
    have hm := hk.mo (.inl h1)
    by_cases hl : c.m.list = []
    · rw [if_pos hl]
      exact ⟨⟨h.us, fun e => absurd e (by show ¬ (2 : Nat) = 1; decide), fun _ => Cov.end hm hl (h.p1 h1), fun e => absurd e (by show ¬ (2 : Nat) = 3; decide)⟩, Wh.refl _ _⟩
    · rw [if_neg hl]
      have hM : c.m.step.2.2.M = c.m.M := Mk.step_M
      exact ⟨⟨by show (c.m.step.2.2.M.ob k).isSome = true; rw [hM]; exact h.us, fun _ => Cov.step hm (h.p1 h1), fun e => absurd (show c.ph = 2 from e) (by omega), fun e => absurd (show c.ph = 3 from e) (by omega)⟩, Wh.of (by show c.m.step.2.2.M.ob k = _; rw [hM])⟩
  rw [if_neg h1]
  by_cases h2 : c.ph = 2
  · rw [if_pos h2]
    have hm := hk.mo (.inr h2)
    show Sv c.refs.2 k ∧ Wh c.m.M c.refs.2.m.M k
    have hM : c.stepT.m.M = c.m.M := hk.stepT_M h2
    have hc : c.stepT.m.col k = 2 := tstep_bl hm (h.p2 h2)
    have hp : c.stepT.ph = 2 := h2
    have hok := (hk.stepT h2).1
    rw [Co.refs_eq]
    split
    · exact ⟨⟨by rw [hM]; exact h.us, fun e => absurd e (by rw [hp]; decide), fun _ => hc, fun e => absurd e (by rw [hp]; decide)⟩, Wh.of (by rw [hM])⟩
    · unfold Co.tail
      split
      · unfold Co.sweepB
        obtain ⟨d1, _⟩ := blankAll_ob (M := c.stepT.m.M) (by rw [hM]; exact hk.hf) (l := c.stepT.m.white) (Mk.white_nodup _) (fun x hx => ((Mk.mem_white (by rw [hM]; exact hk.hf.ok)).1 hx).1)
        have hnw : k ∉ c.stepT.m.white := fun e => by
          have := ((Mk.mem_white (by rw [hM]; exact hk.hf.ok)).1 e).2
          rw [hc] at this
          cases this
        generalize c.stepT.m.white = ws at *
        have hob : ((c.stepT.sweepTo ws).2.m.M.ob k) = c.m.M.ob k := by
          show (c.stepT.m.M.blankL ws ws.length).ob k = _
          rw [d1 k hnw, hM]
        exact ⟨⟨by rw [hob]; exact h.us, fun e => (by cases e), fun e => (by cases e), fun _ => hnw⟩, Wh.of hob⟩
      · have hmT : c.stepT.m.Ok := hok.mo (.inr hp)
        have hM2 : c.stepT.m.step.2.2.M = c.m.M := Mk.step_M.trans hM
        exact ⟨⟨by show (c.stepT.m.step.2.2.M.ob k).isSome = true; rw [hM2]; exact h.us, fun e => absurd (show c.stepT.ph = 1 from e) (by rw [hp]; decide), fun _ => step_bl2 hmT hc, fun e => absurd (show c.stepT.ph = 3 from e) (by rw [hp]; decide)⟩, Wh.of (by show c.stepT.m.step.2.2.M.ob k = _; rw [hM2])⟩
  rw [if_neg h2]
  by_cases h3 : c.ph = 3
  · rw [if_pos h3]
    have hn := h.p3 h3
    show Sv c.free.2 k ∧ Wh c.m.M c.free.2.m.M k
    unfold Co.free
    cases e : c.sw with
    | nil => exact ⟨⟨h.us, fun e => (by cases e), fun e => (by cases e), fun e => (by cases e)⟩, Wh.refl _ _⟩
    | cons x r =>
      rw [e] at hn
      have hne : k ≠ x := fun e2 => hn (by rw [e2]; exact List.mem_cons_self)
      have hob : (c.m.M.release x).2.ob k = c.m.M.ob k := release_other _ hne
      exact ⟨⟨by show ((c.m.M.release x).2.ob k).isSome = true; rw [hob]; exact h.us, fun e2 => absurd (show c.ph = 1 from e2) h1, fun e2 => absurd (show c.ph = 2 from e2) h2, fun _ e2 => hn (List.mem_cons_of_mem _ e2)⟩, Wh.of hob⟩
  · rw [if_neg h3]
    show Sv c.move.2 k ∧ Wh c.m.M c.move.2.m.M k
    unfold Co.move
    split
    · exact ⟨⟨h.us, fun e => (by cases e), fun e => (by cases e), fun e => (by cases e)⟩, Wh.refl _ _⟩
    · have hw : Wh c.m.M c.m.M.move.2.2 k := fun o ho => by
        rcases Hp.move_like c.m.M k with ⟨_, e⟩ | ⟨o1, o2, e1, e2, hl⟩
        · rw [ho] at e; cases e
        · rw [ho] at e2
          cases e2
          exact ⟨o1, e1, hl.rf, hl.sl⟩
      exact ⟨⟨hw.some h.us, fun e2 => absurd (show c.ph = 1 from e2) h1, fun e2 => absurd (show c.ph = 2 from e2) h2, fun e2 => absurd (show c.ph = 3 from e2) h3⟩, hw⟩
theorem Sv.cred (h : Sv c k) (n : Int) : Sv { c with cr := n } k := ⟨h.us, h.p1, h.p2, h.p3⟩
theorem Sv.pays (hk : c.Okc) (h : Sv c k) : ∀ i, (∀ j, j < i → ¬ (Co.pays j c).stops) → Sv (Co.pays i c) k ∧ Wh c.m.M (Co.pays i c).m.M k
  | 0, _ => ⟨h, Wh.refl _ _⟩
  | i + 1, hi => by
    obtain ⟨h1, h2⟩ := Sv.pays hk h i (fun j hj => hi j (by omega))
    have hok := (Co.pays_ok hk i (fun j hj => hi j (by omega))).1
    have hn := hi i (by omega)
    have hp : (Co.pays i c).ph ≠ 0 := fun e => hn (.inl e)
    have he := pay_eq (c := Co.pays i c) hp
    obtain ⟨h3, h4⟩ := h1.step hok
    show Sv (Co.pays i c).pay k ∧ Wh c.m.M (Co.pays i c).pay.m.M k
    rw [he]
    split
    · exact ⟨h3, h2.trans h4⟩
    · exact ⟨h3.cred _, h2.trans h4⟩
theorem Sv.give (hk : c.Okc) (h : Sv c k) {n : Int} (hn : 0 ≤ n) : Sv (c.give n).2 k ∧ Wh c.m.M (c.give n).2.m.M k := by
  unfold Co.give
  split
  · exact ⟨h, Wh.refl _ _⟩
  next hp =>
    have hd := hk.more hp hn
    exact Sv.pays (c := c.more n) hd (h.cred _) _ (Co.gives_spec hd).2.1
theorem Sv.giveE (hk : c.Okc) (h : Sv c k) (n : Int) : Sv (c.giveE n).2.2 k ∧ Wh c.m.M (c.giveE n).2.2.m.M k := by
  unfold Co.giveE
  split
  · exact ⟨h, Wh.refl _ _⟩
  · exact h.give hk (by omega)
theorem svm_M (m : Mk) (r : Int × Int × Hp) : (m.made r).2.2.M = r.2.2 := by unfold Mk.made; simp only; split <;> rfl
theorem made_bl {r : Int × Int × Hp} (h : m.col k = 2) : (m.made r).2.2.col k = 2 := by
  unfold Mk.made
  simp only
  split
  · show setI m.col r.1 2 k = 2
    unfold setI
    split
    · rfl
    · exact h
  · exact h
theorem made_new {r : Int × Int × Hp} (h : r.2.1 = 0) : (m.made r).2.2.col r.1 = 2 := by
  unfold Mk.made
  simp only
  rw [if_pos h]
  show setI m.col r.1 2 r.1 = 2
  unfold setI
  rw [if_pos rfl]
theorem Sv.new (hk : c.Okc) {r : Int × Int × Hp} (hr : NewOf c.m.M r) {c' : Co} (hc : c' = if c.bar then { c with m := (c.m.made r).2.2 } else { c with m := c.m.put r.2.2 }) :
    (∀ k, Sv c k → Sv c' k ∧ Wh c.m.M c'.m.M k) ∧ (r.2.1 = 0 → Sv c' r.1) ∧ c'.m.M = r.2.2 ∧ c'.ph = c.ph := by
  have hM : c'.m.M = r.2.2 := by
    rw [hc]
    split
    · exact svm_M _ _
    · rfl
  have hp : c'.ph = c.ph := by rw [hc]; split <;> rfl
  have hsw : c'.sw = c.sw := by rw [hc]; split <;> rfl
  have hbar : c.ph = 1 ∨ c.ph = 2 → c'.m = (c.m.made r).2.2 := fun e => by
    rw [hc, if_pos (by unfold Co.bar; exact decide_eq_true e)]
  refine ⟨fun k h => ?_, fun e => ?_, hM, hp⟩
  · have hob : c'.m.M.ob k = c.m.M.ob k := by rw [hM]; exact hr.old k h.us
    refine ⟨⟨by rw [hob]; exact h.us, fun e => ?_, fun e => ?_, fun e => ?_⟩, Wh.of hob⟩
    · rw [hp] at e
      rw [hbar (.inl e)]
      exact Cov.made (hk.mo (.inl e)) hr (h.p1 e)
    · rw [hp] at e
      rw [hbar (.inr e)]
      exact made_bl (h.p2 e)
    · rw [hp] at e
      rw [hsw]
      exact h.p3 e
  · obtain ⟨hn, _, o, ho, _⟩ := hr.yes e
    refine ⟨by rw [hM, ho]; rfl, fun e1 => ?_, fun e1 => ?_, fun e1 => ?_⟩
    · rw [hp] at e1
      rw [hbar (.inl e1)]
      exact .inl (made_new e)
    · rw [hp] at e1
      rw [hbar (.inr e1)]
      exact made_new e
    · rw [hsw]
      intro hm
      have := hk.su _ hm
      rw [hn] at this
      cases this
theorem store_bl (a s v : Int) (h : m.col k = 2) : (m.store a s v).2.col k = 2 := by
  unfold Mk.store
  simp only
  split
  · exact shade_bl2 (shade_bl2 h)
  · exact h
theorem svs_M (a s v : Int) : (m.store a s v).2.M = (m.M.set a s v).2 := by
  unfold Mk.store
  simp only
  split
  · rw [Mk.shade_M, Mk.shade_M]; rfl
  · rfl
theorem Sv.store (hk : c.Okc) (a s v : Int) (h : Sv c k) : Sv (c.store a s v).2 k := by
  unfold Co.store
  split
  · exact h
  split
  · refine ⟨?_, fun e => Cov.store (hk.mo (.inl e)) a s v (h.p1 e), fun e => store_bl a s v (h.p2 e), h.p3⟩
    show ((c.m.store a s v).2.M.ob k).isSome = true
    rw [svs_M, Hp.set_some]
    exact h.us
  · next hb =>
    have hnb : ¬ (c.ph = 1 ∨ c.ph = 2) := fun e => hb (by unfold Co.bar; exact decide_eq_true e)
    refine ⟨?_, fun e => absurd (.inl e) hnb, fun e => absurd (.inr e) hnb, h.p3⟩
    show ((c.m.M.set a s v).2.ob k).isSome = true
    rw [Hp.set_some]
    exact h.us
theorem store_heap (a s v : Int) : (c.store a s v).2.m.M = if c.hid a = true ∨ ((c.m.M.isRef a s).1 = true ∧ c.hid v = true) then c.m.M else (c.m.M.set a s v).2 := by
  unfold Co.store
  split
  · rfl
  split
  · exact svs_M _ _ _
  · rfl
theorem Sv.seen (hk : c.Okc) (h : Sv c k) : c.hid k = false := by
  unfold Co.hid
  split
  · next e =>
    unfold Mk.isW
    rw [h.p2 e, h.us]
    rfl
  · next e =>
    by_cases e3 : c.ph = 3
    · exact decide_eq_false (h.p3 e3)
    · exact decide_eq_false (fun hm => by rw [hk.sw e3] at hm; cases hm)
theorem Sv.begin (hk : c.Okc) (hp : c.ph = 0) {l : List Int} (hl : l.length ≤ 192) (hb : ¬ c.m.M.badRoot l) (hr : c.m.M.Rch l k) : Sv (c.begin l).2 k ∧ (c.begin l).2.m.M = c.m.M ∧ (c.begin l).1 = 0 := by
  have hM : ((Mk.start c.m.M).shades l).M = c.m.M := Mk.shades_M _ _
  unfold Co.begin
  rw [if_neg (by omega), if_neg (fun e => e hp), if_neg hb]
  have hs := Snap.start (roots := l) hk.hf hb
  have hmem : k ∈ c.m.M.reachL l := (hk.hf.ok.mem_reach hb).2 hr
  refine ⟨⟨?_, fun _ => hs.cov k hmem, fun e => (by cases e), fun e => by cases e⟩, hM, rfl⟩
  show (((Mk.start c.m.M).shades l).M.ob k).isSome = true
  rw [hM]
  exact (Hp.Rch.some hk.hf.ok hb hr).1
end
end Go.Proofs.YthflghdaejbdkaaGreat
namespace Go.Proofs.YthflghdaejbdkaaGreat
set_option linter.unusedVariables false
set_option maxRecDepth 100000
structure Md where
  slots : List (List Int)
  refs : List (List Bool)
  keeps : List (Int × Nat)
  lost : Bool
def Md.sl (d : Md) (i : Nat) : List Int := d.slots[i]?.getD []
def Md.rf (d : Md) (i : Nat) : List Bool := d.refs[i]?.getD []
def Fits (K : Nat → Prop) (φ : Nat → Int) (ref : Bool) (v x : Int) : Prop := if ref = true then (v = 0 ∧ x = 0) ∨ ∃ j : Nat, v = (j : Int) ∧ K j ∧ x = φ j else x = v
structure Sf (d : Md) (K : Nat → Prop) (φ : Nat → Int) (c : Co) : Prop where
  len : d.refs.length = d.slots.length
  kp : ∀ p, p ∈ d.keeps → K p.2 ∧ p.1 = φ p.2
  rg : ∀ i, K i → 1 ≤ i ∧ i < d.slots.length
  rl : ∀ i, (d.rf i).length = (d.sl i).length
  inj : ∀ i j, K i → K j → φ i = φ j → i = j
  sv : ∀ i, K i → Sv c (φ i)
  ob : ∀ i, K i → ∃ o, c.m.M.ob (φ i) = some o ∧ o.refs = d.rf i ∧ o.slots.length = (d.sl i).length ∧ ∀ s, s < (d.sl i).length → Fits K φ (gB o.refs s) (gI (d.sl i) s) (gI o.slots s)
variable {d : Md} {K K' : Nat → Prop} {φ φ' : Nat → Int} {c c' : Co}
theorem Fits.mono {r : Bool} {v x : Int} (h : Fits K φ r v x) (hK : ∀ j, K j → K' j ∧ φ' j = φ j) : Fits K' φ' r v x := by
  unfold Fits at h ⊢
  split at h
  · rw [if_pos (by assumption)]
    rcases h with h | ⟨j, h1, h2, h3⟩
    · exact .inl h
    · exact .inr ⟨j, h1, (hK j h2).1, h3.trans (hK j h2).2.symm⟩
  · rw [if_neg (by assumption)]
    exact h
theorem Sf.work (h : Sf d K φ c) (hw : ∀ k, Sv c k → Sv c' k ∧ Wh c.m.M c'.m.M k) : Sf d K φ c' := by
  refine ⟨h.len, h.kp, h.rg, h.rl, h.inj, fun i hi => (hw _ (h.sv i hi)).1, fun i hi => ?_⟩
  obtain ⟨o, h1, h2, h3, h4⟩ := h.ob i hi
  obtain ⟨o', g1, g2, g3⟩ := (hw _ (h.sv i hi)).2 o h1
  refine ⟨o', g1, g2.trans h2, by rw [g3]; exact h3, fun s hs => ?_⟩
  rw [g2, g3]
  exact h4 s hs
theorem Sf.step (h : Sf d K φ c) (hk : c.Okc) : Sf d K φ c.step.2.2 := h.work fun k hs => hs.step hk
theorem Sf.giveE (h : Sf d K φ c) (hk : c.Okc) (n : Int) : Sf d K φ (c.giveE n).2.2 := h.work fun k hs => hs.giveE hk n
def Md.held (d : Md) : List Int := d.keeps.map (fun p => p.1)
theorem Sf.held_used (h : Sf d K φ c) : ¬ c.m.M.badRoot d.held := fun ⟨x, hx, _, hn⟩ => by
  obtain ⟨p, hp, rfl⟩ := List.mem_map.1 hx
  obtain ⟨h1, h2⟩ := h.kp p hp
  have := (h.sv _ h1).us
  rw [← h2, hn] at this
  cases this
theorem Sf.begin (h : Sf d K φ c) (hk : c.Okc) (hp : c.ph = 0) (hl : d.keeps.length ≤ 192) : Sf d (fun i => K i ∧ c.m.M.Rch d.held (φ i)) φ (c.begin d.held).2 ∧ (c.begin d.held).1 = 0 := by
  have hb := h.held_used
  have hl2 : d.held.length ≤ 192 := by unfold Md.held; rw [List.length_map]; exact hl
  have hM : (c.begin d.held).2.m.M = c.m.M ∧ (c.begin d.held).1 = 0 := by
    have hM : ((Mk.start c.m.M).shades d.held).M = c.m.M := Mk.shades_M _ _
    unfold Co.begin
    rw [if_neg (by omega), if_neg (fun e => e hp), if_neg hb]
    exact ⟨hM, rfl⟩
  refine ⟨⟨h.len, fun p hp2 => ?_, fun i hi => h.rg i hi.1, h.rl, fun i j hi hj => h.inj i j hi.1 hj.1, fun i hi => (Sv.begin hk hp hl2 hb hi.2).1, fun i hi => ?_⟩, hM.2⟩
  · obtain ⟨h1, h2⟩ := h.kp p hp2
    have hx := hk.hf.ok.inR (h.sv _ h1).us
    exact ⟨⟨h1, .root (List.mem_map.2 ⟨p, hp2, h2⟩) (by omega)⟩, h2⟩
  · obtain ⟨o, h1, h2, h3, h4⟩ := h.ob i hi.1
    rw [hM.1]
    refine ⟨o, h1, h2, h3, fun s hs => ?_⟩
    have h5 := h4 s hs
    unfold Fits at h5 ⊢
    split at h5
    · next hr =>
      rw [if_pos hr]
      rcases h5 with h5 | ⟨j, e1, e2, e3⟩
      · exact .inl h5
      · have hx := hk.hf.ok.inR (h.sv _ e2).us
        refine .inr ⟨j, e1, ⟨e2, .step hi.2 h1 ?_⟩, e3⟩
        rw [← e3]
        exact Th.mem_refsN (by rw [h3]; exact hs) hr (by rw [e3]; omega)
    · next hr =>
      rw [if_neg hr]
      exact h5
theorem Sf.keeps (h : Sf d K φ c) {l : List (Int × Nat)} (hl : ∀ p, p ∈ l → p ∈ d.keeps ∨ (K p.2 ∧ p.1 = φ p.2)) {b : Bool} : Sf { d with keeps := l, lost := b } K φ c :=
  ⟨h.len, fun p hp => by rcases hl p hp with e | e; exact h.kp p e; exact e, h.rg, h.rl, h.inj, h.sv, h.ob⟩
theorem Sf.get (h : Sf d K φ c) (hk : c.Okc) {i s : Nat} (hi : K i) (hs : s < (d.sl i).length) : ∃ x, c.get (φ i) s = (x, 0) ∧ Fits K φ (gB (d.rf i) s) (gI (d.sl i) s) x ∧ (∀ j : Nat, gB (d.rf i) s = true → gI (d.sl i) s = (j : Int) → j ≠ 0 → K j ∧ x = φ j ∧ x ≠ 0) := by
  obtain ⟨o, h1, h2, h3, h4⟩ := h.ob i hi
  have h5 := h4 s hs
  rw [h2] at h5
  refine ⟨gI o.slots s, ?_, h5, fun j hr hj hj0 => ?_⟩
  · unfold Co.get
    rw [(h.sv i hi).seen hk, if_neg (by decide)]
    unfold Hp.get
    rw [h1]
    show (if _ then _ else _) = _
    rw [if_neg (by rw [h3]; omega)]
    rfl
  · unfold Fits at h5
    rw [if_pos hr, hj] at h5
    rcases h5 with ⟨h5, _⟩ | ⟨j', e1, e2, e3⟩
    · omega
    · have : j = j' := by omega
      subst this
      have hx := hk.hf.ok.inR (h.sv _ e2).us
      exact ⟨e2, e3, by rw [e3]; omega⟩
end Go.Proofs.YthflghdaejbdkaaGreat
namespace Go.Proofs.YthflghdaejbdkaaGreat
set_option linter.unusedVariables false
set_option maxRecDepth 100000
variable {d : Md} {K K' : Nat → Prop} {φ φ' : Nat → Int} {c c' : Co}
theorem hid_zero (hk : c.Okc) : c.hid 0 = false := by
  have h0 : ¬ (c.m.M.ob 0).isSome = true := fun e => by have := (hk.hf.ok.inR e).1; omega
  unfold Co.hid
  split
  · unfold Mk.isW
    cases e : (c.m.M.ob 0).isSome with
    | true => exact absurd e h0
    | false => rfl
  · exact decide_eq_false (fun hm => h0 (hk.su _ hm))
def Md.store (d : Md) (i s : Nat) (v : Int) : Md := { d with slots := d.slots.set i ((d.sl i).set s v) }
theorem store_sl {i s : Nat} {v : Int} (hi : i < d.slots.length) (j : Nat) : (d.store i s v).sl j = if j = i then (d.sl i).set s v else d.sl j := by
  unfold Md.store Md.sl
  show (d.slots.set i ((d.slots[i]?.getD []).set s v))[j]?.getD [] = _
  rw [List.getElem?_set]
  by_cases e : i = j
  · subst e; rw [if_pos rfl, if_pos hi, if_pos rfl]; rfl
  · rw [if_neg e, if_neg (Ne.symm e)]
theorem Sf.store (h : Sf d K φ c) (hk : c.Okc) {i s : Nat} (hi : K i) (hs : s < (d.sl i).length) {v x : Int} (hf : Fits K φ (gB (d.rf i) s) v x) (hw : gB (d.rf i) s = false → isWordI x = true) :
    (c.store (φ i) (s : Int) x).1 = 0 ∧ Sf (d.store i s v) K φ (c.store (φ i) (s : Int) x).2 := by
  obtain ⟨o, h1, h2, h3, h4⟩ := h.ob i hi
  have hx : gB (d.rf i) s = true → x = 0 ∨ ∃ j, K j ∧ x = φ j := fun e => by
    unfold Fits at hf
    rw [if_pos e] at hf
    rcases hf with hf | ⟨j, _, a, b⟩
    · exact .inl hf.2
    · exact .inr ⟨j, a, b⟩
  have hhx : ¬ (c.hid (φ i) = true ∨ ((c.m.M.isRef (φ i) (s : Int)).1 = true ∧ c.hid x = true)) := fun e => by
    rcases e with e | ⟨e1, e2⟩
    · rw [(h.sv i hi).seen hk] at e; cases e
    · have hr : gB (d.rf i) s = true := by
        unfold Hp.isRef at e1
        rw [h1] at e1
        simp only at e1
        rw [if_neg (by rw [h3]; omega)] at e1
        rw [← h2]
        exact e1
      rcases hx hr with e | ⟨j, a, b⟩
      · rw [e, hid_zero hk] at e2; cases e2
      · rw [b, (h.sv j a).seen hk] at e2; cases e2
  have hset : c.m.M.set (φ i) (s : Int) x = (0, ⟨(c.m.M.P.setCell (o.addr s) x).2, setT c.m.M.ob (φ i) (some (o.put s x))⟩) := by
    unfold Hp.set
    rw [h1]
    show (if _ then _ else _) = _
    rw [if_neg (by rw [h3]; omega)]
    have hfit : c.m.M.fits (gB o.refs ((s : Int).toNat)) x = true := by
      show c.m.M.fits (gB o.refs s) x = true
      rw [h2]
      unfold Hp.fits
      cases e : gB (d.rf i) s with
      | true =>
        rw [if_pos rfl]
        rcases hx e with e2 | ⟨j, a, b⟩
        · rw [e2]; rfl
        · rw [b, (h.sv j a).us, Bool.or_true]
      | false => rw [if_neg (by decide)]; exact hw e
    rw [if_pos hfit]
    rfl
  have hc1 : (c.store (φ i) (s : Int) x).1 = 0 := by
    unfold Co.store
    rw [if_neg hhx]
    split
    · show (c.m.store (φ i) (s : Int) x).1 = 0
      unfold Mk.store
      simp only
      rw [hset]
    · show (c.m.M.set (φ i) (s : Int) x).1 = 0
      rw [hset]
  have hM : (c.store (φ i) (s : Int) x).2.m.M.ob = setT c.m.M.ob (φ i) (some (o.put s x)) := by
    rw [store_heap, if_neg hhx, hset]
  have hlt := (h.rg i hi).2
  refine ⟨hc1, ⟨by show d.refs.length = (d.slots.set _ _).length; rw [List.length_set]; exact h.len, h.kp, fun j hj => by show _ ∧ _ < (d.slots.set _ _).length; rw [List.length_set]; exact h.rg j hj, fun j => ?_, h.inj, fun j hj => (h.sv j hj).store hk _ _ _, fun j hj => ?_⟩⟩
  · rw [store_sl hlt]
    show (d.rf j).length = _
    split
    · next e => rw [e, List.length_set]; exact h.rl i
    · exact h.rl j
  · rw [hM, store_sl hlt]
    show ∃ o' : Th, _ ∧ o'.refs = d.rf j ∧ _
    by_cases e : j = i
    · subst e
      rw [setT_same, if_pos rfl]
      refine ⟨_, rfl, h2, ?_, fun t ht => ?_⟩
      · show (o.slots.set s x).length = _
        rw [List.length_set, List.length_set]; exact h3
      · rw [List.length_set] at ht
        show Fits K φ (gB o.refs t) (gI ((d.sl j).set s v) t) (gI (o.slots.set s x) t)
        rw [gI_set hs, gI_set (by rw [h3]; exact hs)]
        by_cases e2 : t = s
        · rw [if_pos e2, if_pos e2, e2, h2]; exact hf
        · rw [if_neg e2, if_neg e2]; exact h4 t ht
    · rw [setT_other _ _ (fun e2 => e (h.inj j i hj hi e2)), if_neg e]
      exact h.ob j hj
def Md.nid (d : Md) : Nat := if d.slots = [] then 1 else d.slots.length
def Md.base (d : Md) : List (List Int) := if d.slots = [] then [[]] else d.slots
def Md.baseR (d : Md) : List (List Bool) := if d.slots = [] then [[]] else d.refs
def Md.made (d : Md) (h : Int) (l : List Bool) : Md := ⟨d.base ++ [List.replicate l.length 0], d.baseR ++ [l], d.keeps ++ [(h, d.nid)], d.lost⟩
theorem nid_ge (d : Md) : d.slots.length ≤ d.nid := by
  unfold Md.nid
  split
  · next e => rw [e]; exact Nat.zero_le _
  · exact Nat.le_refl _
theorem base_len (d : Md) : d.base.length = d.nid := by unfold Md.base Md.nid; split <;> rfl
theorem made_sl (h : Int) (l : List Bool) (i : Nat) : (d.made h l).sl i = if i = d.nid then List.replicate l.length 0 else d.sl i := by
  show (d.base ++ [_])[i]?.getD [] = _
  by_cases e : i = d.nid
  · rw [if_pos e, e, ← base_len, List.getElem?_append_right (Nat.le_refl _), Nat.sub_self]; rfl
  · rw [if_neg e]
    by_cases e2 : i < d.nid
    · rw [List.getElem?_append_left (by rw [base_len]; exact e2)]
      unfold Md.base Md.sl
      split
      · next e3 =>
        have : i = 0 := by unfold Md.nid at e2; rw [if_pos e3] at e2; omega
        rw [e3, this]; rfl
      · rfl
    · rw [List.getElem?_eq_none (by rw [List.length_append, base_len]; show d.nid + 1 ≤ i; omega)]
      unfold Md.sl
      rw [List.getElem?_eq_none (by have := nid_ge d; omega)]
theorem baseR_len (hl : d.refs.length = d.slots.length) : d.baseR.length = d.nid := by
  unfold Md.baseR Md.nid
  split
  · rfl
  · exact hl
theorem made_rf (hl : d.refs.length = d.slots.length) (h : Int) (l : List Bool) (i : Nat) : (d.made h l).rf i = if i = d.nid then l else d.rf i := by
  show (d.baseR ++ [_])[i]?.getD [] = _
  by_cases e : i = d.nid
  · rw [if_pos e, e, ← baseR_len hl, List.getElem?_append_right (Nat.le_refl _), Nat.sub_self]; rfl
  · rw [if_neg e]
    by_cases e2 : i < d.nid
    · rw [List.getElem?_append_left (by rw [baseR_len hl]; exact e2)]
      unfold Md.baseR Md.rf
      split
      · next e3 =>
        have e4 : d.refs = [] := List.length_eq_zero_iff.1 (by rw [hl, e3]; rfl)
        have : i = 0 := by unfold Md.nid at e2; rw [if_pos e3] at e2; omega
        rw [e4, this]; rfl
      · rfl
    · rw [List.getElem?_eq_none (by rw [List.length_append, baseR_len hl]; show d.nid + 1 ≤ i; omega)]
      unfold Md.rf
      rw [List.getElem?_eq_none (by rw [hl]; have := nid_ge d; omega)]
theorem fits_zero (r : Bool) : Fits K φ r 0 0 := by
  unfold Fits
  split
  · exact .inl ⟨rfl, rfl⟩
  · rfl
theorem gI_zeros (n s : Nat) : gI (List.replicate n 0) s = 0 := by
  unfold gI
  rw [List.getElem?_replicate]
  split <;> rfl
theorem Sf.new (h : Sf d K φ c) (hk : c.Okc) {r : Int × Int × Hp} (hr : NewOf c.m.M r) (hc : c' = if c.bar then { c with m := (c.m.made r).2.2 } else { c with m := c.m.put r.2.2 }) (h0 : r.2.1 = 0) {l : List Bool} (ho : ∃ o, r.2.2.ob r.1 = some o ∧ o.refs = l ∧ o.slots = List.replicate l.length 0) :
    Sf (d.made r.1 l) (fun i => K i ∨ i = d.nid) (fun i => if i = d.nid then r.1 else φ i) c' := by
  obtain ⟨s1, s2, s3, s4⟩ := Sv.new hk hr hc
  have hno := (hr.yes h0).1
  have hKn : ∀ i, K i → i ≠ d.nid := fun i hi e => by
    have := h.rg i hi
    unfold Md.nid at e
    split at e
    · next e3 => rw [e3] at this; simp at this
    · omega
  have hφ : ∀ i, K i → (if i = d.nid then r.1 else φ i) = φ i := fun i hi => if_neg (hKn i hi)
  have hne : ∀ i, K i → φ i ≠ r.1 := fun i hi e => by
    have := (h.sv i hi).us
    rw [e, hno] at this
    cases this
  have hln : (d.made r.1 l).slots.length = d.nid + 1 := by show (d.base ++ [_]).length = _; rw [List.length_append, base_len]; rfl
  refine ⟨?_, fun p hp => ?_, fun i hi => ?_, fun i => ?_, fun i j hi hj e => ?_, fun i hi => ?_, fun i hi => ?_⟩
  · rw [hln]
    show (d.baseR ++ [_]).length = _
    rw [List.length_append, baseR_len h.len]; rfl
  · rcases List.mem_append.1 (show p ∈ d.keeps ++ [(r.1, d.nid)] from hp) with hp | hp
    · obtain ⟨a, b⟩ := h.kp p hp
      exact ⟨.inl a, b.trans (hφ _ a).symm⟩
    · rw [List.mem_singleton] at hp
      rw [hp]
      exact ⟨.inr rfl, (if_pos rfl).symm⟩
  · rw [hln]
    rcases hi with hi | hi
    · have := h.rg i hi
      refine ⟨this.1, ?_⟩
      unfold Md.nid
      split
      · next e3 => rw [e3] at this; simp at this
      · omega
    · refine ⟨?_, by omega⟩
      rw [hi]
      unfold Md.nid
      split
      · exact Nat.le_refl _
      · next e3 => exact List.length_pos_iff.2 e3
  · rw [made_sl, made_rf h.len]
    split
    · rw [List.length_replicate]
    · exact h.rl i
  · rcases hi with hi | hi <;> rcases hj with hj | hj
    · rw [hφ i hi, hφ j hj] at e; exact h.inj i j hi hj e
    · rw [hφ i hi, if_pos hj] at e; exact absurd e (hne i hi)
    · rw [if_pos hi, hφ j hj] at e; exact absurd e.symm (hne j hj)
    · rw [hi, hj]
  · rcases hi with hi | hi
    · rw [hφ i hi]; exact (s1 _ (h.sv i hi)).1
    · rw [if_pos hi]; exact s2 h0
  · rcases hi with hi | hi
    · obtain ⟨o, h1, h2, h3, h4⟩ := h.ob i hi
      obtain ⟨o', g1, g2, g3⟩ := (s1 _ (h.sv i hi)).2 o h1
      rw [hφ i hi, made_sl, made_rf h.len, if_neg (hKn i hi), if_neg (hKn i hi)]
      refine ⟨o', g1, g2.trans h2, by rw [g3]; exact h3, fun s hs => ?_⟩
      rw [g2, g3]
      exact (h4 s hs).mono fun j hj => ⟨.inl hj, hφ j hj⟩
    · obtain ⟨o, g1, g2, g3⟩ := ho
      rw [if_pos hi, made_sl, made_rf h.len, if_pos hi, if_pos hi, s3]
      refine ⟨o, g1, g2, by rw [g3], fun s hs => ?_⟩
      rw [g3, gI_zeros]
      exact fits_zero _
end Go.Proofs.YthflghdaejbdkaaGreat
namespace Go.Proofs.YthflghdaejbdkaaGreat
set_option linter.unusedVariables false
set_option maxRecDepth 100000
variable {d : Md} {K : Nat → Prop} {φ : Nat → Int} {c : Co}
theorem add_er2 (M : Hp) (o : Th) : (M.add o).2.1 = 0 ∨ (M.add o).2.1 = 14 := by
  unfold Hp.add
  split
  · split
    · exact .inl rfl
    · exact .inr rfl
  · exact .inr rfl
theorem Sf.newR (h : Sf d K φ c) (hk : c.Okc) {M' : Hp} {o : Th} {l : List Bool} (hrf : o.refs = l) (hsl : o.slots = List.replicate l.length 0) {r : Int × Int × Hp} (hr : NewOf c.m.M r) (hra : r = c.m.M.add o) {c' : Co} (hc : c' = if c.bar then { c with m := (c.m.made r).2.2 } else { c with m := c.m.put r.2.2 }) :
    (r.2.1 = 0 ∧ ∃ K' φ', Sf (d.made r.1 l) K' φ' c') ∨ (r.2.1 = 14 ∧ Sf d K φ c') := by
  rcases add_er2 c.m.M o with e | e
  · left
    rw [← hra] at e
    refine ⟨e, _, _, h.new hk hr hc e ?_⟩
    obtain ⟨_, h2, _⟩ := c.m.M.add_facts o
    rw [← hra] at h2
    obtain ⟨_, bs, h3, _⟩ := h2 e
    exact ⟨_, h3, hrf, hsl⟩
  · right
    rw [← hra] at e
    exact ⟨e, h.work (Sv.new hk hr hc).1⟩
theorem Sf.newObj (h : Sf d K φ c) (hk : c.Okc) (k : Int) (l : List Bool) (hv : ¬ (k < 0 ∨ 10 ≤ k ∨ 7 < l.length)) :
    ((c.newObj k l).2.1 = 0 ∧ ∃ K' φ', Sf (d.made (c.newObj k l).1 l) K' φ' (c.newObj k l).2.2) ∨ ((c.newObj k l).2.1 = 14 ∧ Sf d K φ (c.newObj k l).2.2) := by
  have hra : c.m.M.newObject k l = c.m.M.add (objT k l) := by unfold Hp.newObject; rw [if_neg hv]
  have key := Sf.newR (M' := c.m.M) h hk (o := objT k l) (l := l) rfl rfl (Hp.newObject_new c.m.M k l) hra (c' := (c.newObj k l).2.2) (by unfold Co.newObj; split <;> rfl)
  have e1 : (c.newObj k l).1 = (c.m.M.newObject k l).1 := by unfold Co.newObj; split <;> rfl
  have e2 : (c.newObj k l).2.1 = (c.m.M.newObject k l).2.1 := by unfold Co.newObj; split <;> rfl
  rw [e1, e2]
  exact key
theorem Sf.newArr (h : Sf d K φ c) (hk : c.Okc) (k a n : Int) (hn : ¬ (n < 0 ∨ 48 < n)) (hv : (k = 3 ∧ a = 0) ∨ (k = 4 ∧ 0 ≤ a ∧ a < 10)) :
    ((c.newArr k a n).2.1 = 0 ∧ ∃ K' φ', Sf (d.made (c.newArr k a n).1 (List.replicate n.toNat (decide (k = 4)))) K' φ' (c.newArr k a n).2.2) ∨ ((c.newArr k a n).2.1 = 14 ∧ Sf d K φ (c.newArr k a n).2.2) := by
  have hra : c.m.M.newArray k a n = c.m.M.add (arrT k a n.toNat) := by unfold Hp.newArray; rw [if_neg hn, if_pos hv]
  have key := Sf.newR (M' := c.m.M) h hk (o := arrT k a n.toNat) (l := List.replicate n.toNat (decide (k = 4))) rfl (by show List.replicate _ _ = _; rw [List.length_replicate]) (Hp.newArray_new c.m.M k a n) hra (c' := (c.newArr k a n).2.2) (by unfold Co.newArr; split <;> rfl)
  have e1 : (c.newArr k a n).1 = (c.m.M.newArray k a n).1 := by unfold Co.newArr; split <;> rfl
  have e2 : (c.newArr k a n).2.1 = (c.m.M.newArray k a n).2.1 := by unfold Co.newArr; split <;> rfl
  rw [e1, e2]
  exact key
theorem Sf.newObject (h : Sf d K φ c) (hk : c.Ok) (k : Int) (l : List Bool) (hv : ¬ (k < 0 ∨ 10 ≤ k ∨ 7 < l.length)) :
    ((c.newObject k l).2.1 = 0 ∧ ∃ K' φ', Sf (d.made (c.newObject k l).1 l) K' φ' (c.newObject k l).2.2) ∨ ((c.newObject k l).2.1 = 14 ∧ Sf d K φ (c.newObject k l).2.2) := by
  unfold Co.newObject
  rw [if_neg hv]
  have hg := hk.give hk.k.rt.1
  exact Sf.newObj (c := (c.give c.rate).2) (h.work fun j hj => hj.give hk.k hk.k.rt.1) hg.k k l hv
theorem Sf.newArray (h : Sf d K φ c) (hk : c.Ok) (k n : Int) (hn : ¬ (n < 0 ∨ 48 < n)) (hv : k = 3 ∨ k = 4) :
    ((c.newArray k 0 n).2.1 = 0 ∧ ∃ K' φ', Sf (d.made (c.newArray k 0 n).1 (List.replicate n.toNat (decide (k = 4)))) K' φ' (c.newArray k 0 n).2.2) ∨ ((c.newArray k 0 n).2.1 = 14 ∧ Sf d K φ (c.newArray k 0 n).2.2) := by
  have hv2 : (k = 3 ∧ (0 : Int) = 0) ∨ (k = 4 ∧ (0 : Int) ≤ 0 ∧ (0 : Int) < 10) := by
    rcases hv with e | e
    · exact .inl ⟨e, rfl⟩
    · exact .inr ⟨e, by decide, by decide⟩
  unfold Co.newArray
  rw [if_neg (fun e => by rcases e with e | e | e; exact hn (.inl e); exact hn (.inr e); exact e hv2)]
  have har := arrN_range (n := n) (by omega) (by omega)
  have h0 : 0 ≤ c.rate * arrN n := Int.mul_nonneg hk.k.rt.1 (by omega)
  have hg := hk.give h0
  exact Sf.newArr (c := (c.give (c.rate * arrN n)).2) (h.work fun j hj => hj.give hk.k h0) hg.k k 0 n hn hv2
end Go.Proofs.YthflghdaejbdkaaGreat
