/- Lemmas of this claim. -/
import Derived.Test.YtkacgbigeobncaaGreatTaSModelB
namespace Go.Proofs.YtkacgbigeobncaaGreat
set_option linter.unusedVariables false
set_option linter.unusedSimpArgs false
theorem split_top {l : List Int} (h : 1 ≤ l.length) : l = l.dropLast ++ [top l] := by
  have hne : l ≠ [] := by intro e; subst e; simp at h
  have e : top l = l.getLast hne := by
    unfold top gI
    rw [List.getLast_eq_getElem, List.getElem?_eq_getElem (by omega)]
    rfl
  rw [e, List.dropLast_concat_getLast]
section
variable {M : Sc} {t : Nat}
theorem Sc.popped_pushed (h1 : 1 ≤ (M.stk t).length) : (M.popped t).pushed t (top (M.stk t)) = M := by
  unfold Sc.popped Sc.pushed
  have e : upd (upd M.stk t (M.stk t).dropLast) t (upd M.stk t (M.stk t).dropLast t ++ [top (M.stk t)]) = M.stk := by
    funext s
    by_cases e : s = t
    · subst e; simp only [upd_same]; exact (split_top h1).symm
    · simp only [upd_other _ _ e]
  simp only [e]
theorem Sc.popped_users (ht : t < 5) (h1 : 1 ≤ (M.stk t).length) (b : Int) : M.usersN b = (M.popped t).usersN b + if b = top (M.stk t) ∧ 2 ≤ top (M.stk t) then 1 else 0 := by
  have := Sc.pushed_users (M := M.popped t) (a := top (M.stk t)) ht b
  rw [Sc.popped_pushed h1] at this
  exact this
theorem Sc.popped_used_other (ht : t < 5) (h1 : 1 ≤ (M.stk t).length) {b : Int} (hb : b ≠ top (M.stk t)) : (M.popped t).used b = M.used b := by
  unfold Sc.used
  rw [Sc.popped_users ht h1 b, if_neg (fun h => hb h.1), Nat.add_zero]
theorem Sc.popped_par_other (h1 : 1 ≤ (M.stk t).length) {b : Int} (hb : b ≠ top (M.stk t)) : (M.popped t).par b = M.par b := by
  have := Sc.pushed_par_other (M := M.popped t) (t := t) hb
  rw [Sc.popped_pushed h1] at this
  exact this.symm
theorem Sc.popped_stk (s : Nat) : ∃ n, (M.popped t).stk s = (M.stk s).take n := by
  unfold Sc.popped
  by_cases e : s = t
  · subst e; simp only [upd_same]; exact ⟨_, List.dropLast_eq_take⟩
  · simp only [upd_other _ _ e]; exact ⟨(M.stk s).length, (List.take_length).symm⟩
theorem Sc.Ok.popped_par (h : M.Ok) {b : Int} (hu : (M.popped t).used b = true) : (M.popped t).par b = M.par b := by
  obtain ⟨h2, hx⟩ := Sc.used_iff.1 hu
  have hlast : ∀ s, s < 5 → ∀ p, _root_.Go.Proofs.YtkacgbigeobncaaGreat.pIn ((M.popped t).stk s) b = some p → M.par b = some p := by
    intro s hs p hp
    obtain ⟨_, i, h3, rfl⟩ := pIn_some hp
    obtain ⟨n, hn⟩ := Sc.popped_stk (M := M) (t := t) s
    rw [hn] at h3 ⊢
    have hin : i < n := by
      have := (List.getElem?_eq_some_iff.1 h3).1
      rw [List.length_take] at this; omega
    rw [List.getElem?_take, if_pos hin] at h3
    rw [List.take_take, Nat.min_eq_left (by omega)]
    exact h.pc s hs i b h3 h2
  obtain ⟨p, hp⟩ := Sc.used_par hu
  unfold Sc.par at hp
  rw [if_pos h2] at hp
  obtain ⟨s, hs, h4⟩ := Sc.parN_some hp
  have h5 := hlast s hs p h4
  rw [h5]
  unfold Sc.par
  rw [if_pos h2, hp]
theorem Sc.Ok.popped_in (h : M.Ok) {b p : Int} (hu : (M.popped t).used b = true) (hp : M.par b = some p) (h2 : 2 ≤ p) : (M.popped t).used p = true := by
  rw [← h.popped_par hu] at hp
  rcases Sc.par_in hp with e | e
  · omega
  · exact e
theorem Sc.Ok.popped_outer (h : M.Ok) {n : Nat} {c b : Int} (hb : (M.popped t).used b = true ∨ b < 2) : (M.popped t).outerN n c b = M.outerN n c b := by
  refine Sc.outerN_same (S := fun b => (M.popped t).used b = true ∨ b < 2) (fun b hb => ⟨?_, fun p hpb => ?_⟩) hb
  · rcases hb with hb | hb
    · exact h.popped_par hb
    · rw [Sc.par_low (by omega), Sc.par_low (by omega)]
  · rcases hb with hb | hb
    · by_cases h2 : 2 ≤ p
      · exact .inl (h.popped_in hb hpb h2)
      · exact .inr (by omega)
    · rw [Sc.par_low (by omega)] at hpb; cases hpb
structure Sc.OkS (M : Sc) : Prop where
  n6 : M.sizes.length ≤ 6
  sz : ∀ s ∈ M.sizes, 1 ≤ s ∧ s ≤ 24
  s1 : ∀ t, t < 5 → 1 ≤ (M.stk t).length ∧ (M.stk t).length ≤ 8
  s0 : ∀ t, t < 5 → gI (M.stk t) 0 = 0
  sa : ∀ t, t < 5 → ∀ a ∈ M.stk t, 0 ≤ a ∧ a < (M.n : Int) + 2
  pc : ∀ t, t < 5 → ∀ i a, (M.stk t)[i]? = some a → 2 ≤ a → M.par a = some (under ((M.stk t).take i))
  rk : ∃ rk : Int → Nat, ∀ a p, M.par a = some p → 2 ≤ p → rk p < rk a
theorem Sc.Ok.popped (h : M.Ok) (ht : t < 5) (h1 : 2 ≤ (M.stk t).length) : (M.popped t).OkS := by
  have hst : ∀ s, ∃ n, (M.popped t).stk s = (M.stk s).take n := Sc.popped_stk
  have huse : ∀ b, (M.popped t).used b = true → (M.popped t).par b = M.par b := fun b hb => h.popped_par hb
  refine ⟨h.n6, h.sz, fun s hs => ?_, fun s hs => ?_, fun s hs a ha => ?_, fun s hs i a hi h2 => ?_, ?_⟩
  · have := h.s1 s hs
    unfold Sc.popped
    by_cases e : s = t
    · subst e; simp only [upd_same, List.length_dropLast]; omega
    · simp only [upd_other _ _ e]; exact this
  · have := h.s0 s hs
    unfold Sc.popped
    by_cases e : s = t
    · subst e; simp only [upd_same]
      unfold gI at *
      rw [List.getElem?_dropLast, if_pos (by omega)]
      exact this
    · simp only [upd_other _ _ e]; exact this
  · obtain ⟨n, hn⟩ := hst s
    rw [hn] at ha
    exact h.sa s hs a (List.mem_of_mem_take ha)
  · have hu : (M.popped t).used a = true := Sc.used_iff.2 ⟨h2, s, hs, List.mem_of_getElem? hi⟩
    rw [huse a hu]
    obtain ⟨n, hn⟩ := hst s
    rw [hn] at hi ⊢
    have hin : i < n := by
      have := (List.getElem?_eq_some_iff.1 hi).1
      rw [List.length_take] at this; omega
    rw [List.getElem?_take, if_pos hin] at hi
    rw [List.take_take, Nat.min_eq_left (by omega)]
    exact h.pc s hs i a hi h2
  · obtain ⟨rk, hr⟩ := h.rk
    exact ⟨rk, fun a p hp h2 => hr a p (by rw [← huse a (Sc.par_used hp)]; exact hp) h2⟩
end
theorem goneIn_area (a : Int) (o : Ob) : (goneIn a o).area = o.area := by unfold goneIn; split <;> rfl
theorem goneIn_blocks (a : Int) (o : Ob) : (goneIn a o).blocks = o.blocks := by unfold goneIn; split <;> rfl
theorem goneIn_refs (a : Int) (o : Ob) : (goneIn a o).refs = o.refs := by unfold goneIn; split <;> rfl
theorem goneIn_gone (a : Int) (o : Ob) : (goneIn a o).gone = (o.gone || decide (o.area = a)) := by unfold goneIn; split <;> simp_all
theorem obI_map {l : List Ob} {a x : Int} (hx : 1 ≤ x ∧ x ≤ l.length) : obI (l.map (goneIn a)) x = goneIn a (obI l x) := by
  unfold obI
  rw [List.getElem?_map, List.getElem?_eq_getElem (by omega)]
  rfl
theorem innL_map (l : List Ob) (a x : Int) : innL (l.map (goneIn a)) x = (innL l x && decide ((obI l x).area ≠ a)) := by
  unfold innL
  rw [List.length_map]
  by_cases hx : 1 ≤ x ∧ x ≤ l.length
  · rw [obI_map hx, goneIn_gone]
    simp [hx]
  · simp [hx]
theorem obI_mem {l : List Ob} {x : Int} (hx : innL l x = true) : obI l x ∈ l ∧ (obI l x).gone = false ∧ 1 ≤ x ∧ x ≤ l.length := by
  unfold innL at hx
  simp only [Bool.and_eq_true, decide_eq_true_eq, Bool.not_eq_true'] at hx
  refine ⟨?_, hx.2, hx.1⟩
  unfold obI
  rw [List.getElem?_eq_getElem (by omega)]
  exact List.getElem_mem _
theorem sumB_map {a b : Int} (l : List Ob) : sumB b (l.map (goneIn a)) = if b = a then 0 else sumB b l := by
  induction l with
  | nil => simp [sumB]
  | cons o r ih =>
    simp only [List.map_cons, sumB, ih, goneIn_area, goneIn_gone, goneIn_blocks]
    by_cases e : b = a
    · subst e
      by_cases e2 : o.area = b <;> simp [e2]
    · by_cases e2 : o.area = b
      · have : o.area ≠ a := by omega
        simp [e, e2]
      · simp [e, e2]
theorem toNat_inj {a b : Int} (ha : 2 ≤ a) (hb : 2 ≤ b) (h : b.toNat = a.toNat) : b = a := by omega
theorem Sc.Ok.left {M : Sc} {t : Nat} (h : M.Ok) (ht : t < 5) (h1 : 2 ≤ (M.stk t).length) (hc : ¬ (2 ≤ top (M.stk t) ∧ (M.popped t).used (top (M.stk t)) = false)) : (M.popped t).Ok := by
  have hS := h.popped ht h1
  have hu : ∀ b, M.used b = true → (M.popped t).used b = true := fun b hb => by
    by_cases e : b = top (M.stk t)
    · have h2 := (h.usedA hb).1
      subst e
      cases e2 : (M.popped t).used (top (M.stk t))
      · exact absurd ⟨h2, e2⟩ hc
      · rfl
    · rw [Sc.popped_used_other ht (by omega) e]; exact hb
  refine ⟨hS.n6, hS.sz, hS.s1, hS.s0, hS.sa, hS.pc, hS.rk, h.ob, h.oa, fun o ho hg h2 => hu _ (h.al o ho hg h2), fun o ho hg y hy hin => ?_, h.rm, fun b h2 hb => ?_⟩
  · rw [← h.rf o ho hg y hy hin]
    refine h.popped_outer ?_
    by_cases h2 : 2 ≤ o.area
    · exact .inl (hu _ (h.al o ho hg h2))
    · exact .inr (by omega)
  · rcases h.po b h2 hb with e | ⟨e1, e2, e3⟩
    · exact .inl e
    · exact .inr ⟨hu b e1, e2, by rw [← e3]; exact h.popped_outer (.inl (hu b e1))⟩
theorem Sc.reset_par (M : Sc) (a b : Int) : (M.reset a).par b = M.par b := par_congr fun _ _ => rfl
theorem Sc.reset_used (M : Sc) (a b : Int) : (M.reset a).used b = M.used b := by unfold Sc.used; rw [usersN_congr (M := M) (M' := M.reset a) (fun _ _ => rfl)]
theorem Sc.reset_outer (M : Sc) (x : Int) {n : Nat} {a b : Int} : (M.reset x).outerN n a b = M.outerN n a b :=
  Sc.outerN_same (S := fun _ => True) (fun b _ => ⟨Sc.reset_par M x b, fun _ _ => trivial⟩) trivial
theorem Sc.Ok.leftR {M : Sc} {t : Nat} (h : M.Ok) (ht : t < 5) (h1 : 2 ≤ (M.stk t).length) (h2 : 2 ≤ top (M.stk t)) (hun : (M.popped t).used (top (M.stk t)) = false) : ((M.popped t).reset (top (M.stk t))).Ok := by
  have hS := h.popped ht h1
  obtain ⟨a, ha⟩ : ∃ a, a = top (M.stk t) := ⟨_, rfl⟩
  rw [← ha] at h2 hun ⊢
  have hu : ∀ b, b ≠ a → M.used b = true → (M.popped t).used b = true := fun b e hb => by
    rw [Sc.popped_used_other ht (by omega) (by rw [← ha]; exact e)]; exact hb
  have hal : ∀ o ∈ M.obs, o.gone = false → o.area ≠ a → (M.popped t).used o.area = true ∨ o.area < 2 := fun o ho hg e => by
    by_cases h2 : 2 ≤ o.area
    · exact .inl (hu _ e (h.al o ho hg h2))
    · exact .inr (by omega)
  have hob : ((M.popped t).reset a).obs = M.obs.map (goneIn a) := rfl
  have hin : ∀ x, ((M.popped t).reset a).inn x = (M.inn x && decide ((M.ob x).area ≠ a)) := fun x => innL_map M.obs a x
  have hobx : ∀ x, M.inn x = true → (((M.popped t).reset a).ob x).area = (M.ob x).area := fun x hx => by
    have := obI_mem hx
    show (obI (M.obs.map (goneIn a)) x).area = _
    rw [obI_map this.2.2, goneIn_area]; rfl
  refine ⟨hS.n6, hS.sz, hS.s1, hS.s0, hS.sa, fun s hs i b hi hb => ?_, ?_, ?_, ?_, ?_, ?_, ?_, ?_⟩
  · rw [Sc.reset_par]; exact hS.pc s hs i b hi hb
  · obtain ⟨rk, hr⟩ := hS.rk
    exact ⟨rk, fun b p hp => hr b p (by rw [← Sc.reset_par _ a]; exact hp)⟩
  · rw [hob, List.length_map]; exact h.ob
  · rw [hob]
    intro o ho
    obtain ⟨o', ho', rfl⟩ := List.mem_map.1 ho
    rw [goneIn_area, goneIn_blocks, goneIn_refs, List.length_map]
    exact h.oa o' ho'
  · rw [hob]
    intro o ho hg hh2
    obtain ⟨o', ho', rfl⟩ := List.mem_map.1 ho
    rw [goneIn_gone] at hg
    rw [goneIn_area] at hh2 ⊢
    simp at hg
    rw [Sc.reset_used]
    rcases hal o' ho' hg.1 hg.2 with e | e
    · exact e
    · omega
  · rw [hob]
    intro o ho hg y hy hy2
    obtain ⟨o', ho', rfl⟩ := List.mem_map.1 ho
    rw [goneIn_gone] at hg
    rw [goneIn_refs] at hy
    rw [goneIn_area]
    simp at hg
    rw [hin] at hy2
    simp only [Bool.and_eq_true] at hy2
    rw [Sc.reset_outer, hobx y hy2.1, h.popped_outer (hal o' ho' hg.1 hg.2)]
    exact h.rf o' ho' hg.1 y hy hy2.1
  · intro b hb hbn
    have := h.rm b hb hbn
    unfold Sc.roomN at *
    rw [if_neg (by omega)] at *
    rw [hob, sumB_map]
    split
    · have hi : b.toNat - 2 < M.sizes.length := by have : b < (M.n : Int) + 2 := hbn; unfold Sc.n at this; omega
      have := h.sz _ (List.getElem_mem hi)
      show 0 ≤ gI M.sizes (b.toNat - 2) - 0
      unfold gI
      rw [List.getElem?_eq_getElem hi]
      simp
      omega
    · exact this
  · intro b hb hbn
    show upd M.por a.toNat 0 b.toNat = 0 ∨ _
    by_cases e : b = a
    · subst e; exact .inl (upd_same _ _ _)
    · have hne : b.toNat ≠ a.toNat := fun x => e (toNat_inj h2 hb x)
      have hpor : ((M.popped t).reset a).por b.toNat = M.por b.toNat := upd_other _ _ hne
      rw [upd_other _ _ hne, hpor]
      rcases h.po b hb hbn with e1 | ⟨e1, e2, e3⟩
      · exact .inl e1
      · refine .inr ⟨by rw [Sc.reset_used]; exact hu b e e1, ?_, ?_⟩
        · rw [hin, e2]
          simp only [Bool.true_and, decide_eq_true_eq]
          intro e4
          rw [e4] at e3
          rw [← h.popped_outer (t := t) (.inl (hu b e e1))] at e3
          rcases Sc.outer_used e3 with e5 | e5 | e5 | e5
          · omega
          · omega
          · exact e e5.symm
          · rw [hun] at e5; cases e5
        · rw [Sc.reset_outer, hobx _ e2, h.popped_outer (.inl (hu b e e1))]; exact e3
theorem Sc.Ok.leave {M : Sc} (h : M.Ok) (t : Int) : (M.leave t).2.2.Ok := by
  unfold Sc.leave
  split
  · rename_i h1
    simp only [isT, decide_eq_true_eq] at h1
    split
    · exact h
    · rename_i h2
      show (if _ then _ else _ : Sc).Ok
      split
      · rename_i h3; exact h.leftR (by omega) (by omega) h3.1 h3.2
      · rename_i h3; exact h.left (by omega) (by omega) h3
  · exact h
theorem Sc.par_obs (M : Sc) (l : List Ob) (f : Nat → Int) (b : Int) : ({ M with obs := l, por := f } : Sc).par b = M.par b := par_congr fun _ _ => rfl
theorem Sc.used_obs (M : Sc) (l : List Ob) (f : Nat → Int) (b : Int) : ({ M with obs := l, por := f } : Sc).used b = M.used b := by unfold Sc.used; rw [usersN_congr (M := M) (M' := { M with obs := l, por := f }) (fun _ _ => rfl)]
theorem Sc.outer_obs (M : Sc) (l : List Ob) (f : Nat → Int) {n : Nat} {a b : Int} : ({ M with obs := l, por := f } : Sc).outerN n a b = M.outerN n a b :=
  Sc.outerN_same (S := fun _ => True) (fun b _ => ⟨Sc.par_obs M l f b, fun _ _ => trivial⟩) trivial
theorem obI_old {l r : List Ob} {x : Int} (hx : 1 ≤ x ∧ x ≤ l.length) : obI (l ++ r) x = obI l x := by
  unfold obI; rw [List.getElem?_append_left (by omega)]
theorem innL_old {l r : List Ob} {x : Int} (hx : x ≤ l.length) : innL (l ++ r) x = innL l x := by
  unfold innL
  by_cases h : 1 ≤ x
  · rw [obI_old ⟨h, hx⟩, List.length_append]
    have : x ≤ (l.length : Int) + r.length := by omega
    simp [h, hx, this]
  · simp [h]
theorem top_mem {l : List Int} (h : 1 ≤ l.length) : top l ∈ l := by
  unfold top gI
  rw [List.getElem?_eq_getElem (by omega)]
  exact List.getElem_mem _
theorem Sc.Ok.made {M : Sc} (h : M.Ok) {t : Nat} (ht : t < 5) {b : Int} (hb : 1 ≤ b ∧ b ≤ 8) (hr : b ≤ M.roomN (top (M.stk t))) (hn : M.obs.length < 500) : ({ M with obs := M.obs ++ [⟨top (M.stk t), b, [], false⟩] } : Sc).Ok := by
  have htm := top_mem (h.s1 t ht).1
  have hta := h.sa t ht _ htm
  refine ⟨h.n6, h.sz, h.s1, h.s0, h.sa, fun s hs i b hi hb => ?_, ?_, ?_, ?_, ?_, ?_, ?_, ?_⟩
  · rw [Sc.par_obs]; exact h.pc s hs i b hi hb
  · obtain ⟨rk, hr⟩ := h.rk
    exact ⟨rk, fun a p hp => hr a p (by rw [← Sc.par_obs M _ M.por]; exact hp)⟩
  · simp only [List.length_append, List.length_singleton]; omega
  · intro o ho
    simp only [List.length_append, List.length_singleton]
    rcases List.mem_append.1 ho with ho | ho
    · obtain ⟨h1, h2, h3, h4, h5, h6⟩ := h.oa o ho
      exact ⟨h1, h2, h3, h4, h5, fun y hy => by have := h6 y hy; omega⟩
    · simp at ho
      subst ho
      exact ⟨hta.1, hta.2, hb.1, hb.2, List.nodup_nil, by simp⟩
  · intro o ho hg h2
    rw [Sc.used_obs]
    rcases List.mem_append.1 ho with ho | ho
    · exact h.al o ho hg h2
    · simp at ho
      subst ho
      exact Sc.used_iff.2 ⟨h2, t, ht, htm⟩
  · intro o ho hg y hy hin
    rw [Sc.outer_obs]
    rcases List.mem_append.1 ho with ho | ho
    · have h6 := (h.oa o ho).2.2.2.2.2 y hy
      have e1 : M.inn y = true := by
        have : innL (M.obs ++ [⟨top (M.stk t), b, [], false⟩]) y = true := hin
        rw [innL_old h6.2] at this
        exact this
      have e2 := h.rf o ho hg y hy e1
      show M.outerN 8 (obI (M.obs ++ [⟨top (M.stk t), b, [], false⟩]) y).area o.area = true
      rw [obI_old h6]
      exact e2
    · simp at ho
      subst ho
      simp at hy
  · intro a h2 ha
    have h3 := h.rm a h2 ha
    unfold Sc.roomN at h3 hr ⊢
    rw [if_neg (by omega)] at h3 ⊢
    simp only [sumB_append, sumB]
    by_cases e : top (M.stk t) = a
    · rw [e, if_neg (by omega)] at hr
      simp [e]
      omega
    · simp [e]
      omega
  · intro a h2 ha
    rcases h.po a h2 ha with e1 | ⟨e1, e2, e3⟩
    · exact .inl e1
    · have := obI_mem e2
      refine .inr ⟨by rw [Sc.used_obs]; exact e1, ?_, ?_⟩
      · show innL (M.obs ++ [⟨top (M.stk t), b, [], false⟩]) _ = true
        rw [innL_old this.2.2.2]; exact e2
      · rw [Sc.outer_obs]
        show M.outerN 8 (obI (M.obs ++ [⟨top (M.stk t), b, [], false⟩]) _).area a = true
        rw [obI_old this.2.2]; exact e3
theorem Sc.Ok.alloc {M : Sc} (h : M.Ok) (t b : Int) : (M.alloc t b).2.2.Ok := by
  unfold Sc.alloc
  split
  · rename_i h1
    simp only [Bool.and_eq_true, isT, decide_eq_true_eq] at h1
    split
    · exact h
    · split
      · exact h
      · exact h.made (by omega) h1.2 (by omega) (by omega)
  · exact h
theorem Sc.Ok.new {l : List Int} (h : goodSizes l = true) : (Sc.new l).Ok := by
  unfold goodSizes at h
  simp only [Bool.and_eq_true, decide_eq_true_eq, List.all_eq_true] at h
  have hu : ∀ a, (Sc.new l).used a = false := fun a => by
    cases e : (Sc.new l).used a
    · rfl
    · obtain ⟨h2, t, _, hm⟩ := Sc.used_iff.1 e
      simp [Sc.new] at hm
      omega
  refine ⟨h.1, h.2, fun t ht => by simp [Sc.new], fun t ht => rfl, fun t ht a ha => by simp [Sc.new] at ha; subst ha; exact ⟨Int.le_refl _, by omega⟩, fun t ht i a hi h2 => ?_, ⟨fun _ => 0, fun a p hp => by rw [Sc.par_none.2 (hu a)] at hp; cases hp⟩, by simp [Sc.new], by simp [Sc.new], by simp [Sc.new], by simp [Sc.new], fun a h2 ha => ?_, fun a h2 ha => .inl rfl⟩
  · simp [Sc.new, List.getElem?_singleton] at hi; omega
  · unfold Sc.roomN
    rw [if_neg (by omega)]
    have hi : a.toNat - 2 < l.length := by have : a < ((Sc.new l).n : Int) + 2 := ha; unfold Sc.n Sc.new at this; simp at this; omega
    have := h.2 _ (List.getElem_mem hi)
    show 0 ≤ gI l (a.toNat - 2) - 0
    unfold gI
    rw [List.getElem?_eq_getElem hi]
    simp
    omega
end Go.Proofs.YtkacgbigeobncaaGreat
