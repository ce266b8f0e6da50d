/- Lemmas of this claim. -/
import Derived.Test.YtkacgbigeobncaaGreatTaSModel
namespace Go.Proofs.YtkacgbigeobncaaGreat
set_option linter.unusedVariables false
set_option linter.unusedSimpArgs false
theorem cntN_congr {M M' : Sc} {a : Int} (h : ∀ t, t < 5 → (M'.stk t).count a = (M.stk t).count a) {k : Nat} (hk : k ≤ 5) : M'.cntN a k = M.cntN a k := by
  induction k with
  | zero => rfl
  | succ k ih => unfold Sc.cntN; rw [ih (by omega), h k (by omega)]
theorem cntN_upd {M : Sc} {t : Nat} (ht : t < 5) {l : List Int} {a : Int} {d : Nat} (hd : l.count a = (M.stk t).count a + d) {k : Nat} :
    ({ M with stk := upd M.stk t l } : Sc).cntN a k = M.cntN a k + if t < k then d else 0 := by
  induction k with
  | zero => simp [Sc.cntN]
  | succ k ih =>
    unfold Sc.cntN
    rw [ih]
    by_cases e : k = t
    · subst e
      simp [hd]
      omega
    · simp only [upd_other _ _ e]
      by_cases h1 : t < k
      · simp [h1, show t < k + 1 by omega]; omega
      · simp [h1, show ¬ t < k + 1 by omega]
theorem pIn_snoc {l : List Int} {x a : Int} (h : a ∈ l ∨ a ≠ x) : pIn (l ++ [x]) a = pIn l a := by
  unfold pIn
  by_cases hm : a ∈ l
  · have e : (l ++ [x]).takeWhile (· != a) = l.takeWhile (· != a) := by
      rw [List.takeWhile_append]
      rw [if_neg]
      intro e
      have : ∀ y ∈ l, (y != a) = true := by
        have h1 : l.takeWhile (· != a) = l := (List.takeWhile_prefix _).eq_of_length e
        intro y hy
        rw [← h1] at hy
        exact List.all_eq_true.1 (List.all_takeWhile) y hy
      have := this a hm
      simp at this
    simp [hm, e]
  · have hx : a ≠ x := h.resolve_left hm
    simp [hm, hx]
theorem pIn_snoc_new {l : List Int} {x : Int} (h : x ∉ l) : pIn (l ++ [x]) x = some (under l) := by
  unfold pIn
  rw [if_pos (by simp)]
  congr 2
  rw [List.takeWhile_append_of_pos]
  · simp
  · intro y hy
    simp
    rintro rfl
    exact h hy
theorem parN_congr {M M' : Sc} {a : Int} (h : ∀ t, t < 5 → pIn (M'.stk t) a = pIn (M.stk t) a) {k : Nat} (hk : k ≤ 5) : M'.parN a k = M.parN a k := by
  induction k with
  | zero => rfl
  | succ k ih => unfold Sc.parN; rw [ih (by omega), h k (by omega)]
theorem par_congr {M M' : Sc} {a : Int} (h : ∀ t, t < 5 → pIn (M'.stk t) a = pIn (M.stk t) a) : M'.par a = M.par a := by
  unfold Sc.par; rw [parN_congr h (Nat.le_refl _)]
theorem usersN_congr {M M' : Sc} {a : Int} (h : ∀ t, t < 5 → (M'.stk t).count a = (M.stk t).count a) : M'.usersN a = M.usersN a := by
  unfold Sc.usersN; rw [cntN_congr h (Nat.le_refl _)]
def Sc.pushed (M : Sc) (t : Nat) (a : Int) : Sc := { M with stk := upd M.stk t (M.stk t ++ [a]) }
section
variable {M : Sc} {t : Nat} {a : Int}
theorem Sc.pushed_users (ht : t < 5) (b : Int) : (M.pushed t a).usersN b = M.usersN b + if b = a ∧ 2 ≤ a then 1 else 0 := by
  unfold Sc.usersN Sc.pushed
  by_cases h2 : 2 ≤ b
  · rw [if_pos h2, if_pos h2, cntN_upd ht (d := if b = a then 1 else 0) (by
      rw [List.count_append, List.count_singleton]
      by_cases e : a = b
      · simp [e]
      · simp [e, Ne.symm e]), if_pos ht]
    by_cases e : b = a
    · subst e; simp [h2]
    · simp [e]
  · rw [if_neg h2, if_neg h2, if_neg (by omega)]
theorem Sc.pushed_used (ht : t < 5) (b : Int) : (M.pushed t a).used b = (M.used b || (decide (b = a ∧ 2 ≤ a))) := by
  unfold Sc.used
  rw [Sc.pushed_users ht]
  by_cases e : b = a ∧ 2 ≤ a
  · simp [e]
  · simp only [e, if_false, Nat.add_zero, decide_false, Bool.or_false]
theorem Sc.pushed_par_other {b : Int} (h : b ≠ a) : (M.pushed t a).par b = M.par b :=
  par_congr fun s hs => by
    unfold Sc.pushed
    by_cases e : s = t
    · subst e; simp only [upd_same]; exact pIn_snoc (.inr h)
    · simp only [upd_other _ _ e]
theorem Sc.Ok.pushed_par_same (h : M.Ok) (ht : t < 5) (h2 : 2 ≤ a) (hp : M.used a = false ∨ M.par a = some (under (M.stk t))) : (M.pushed t a).par a = some (under (M.stk t)) := by
  refine Sc.par_eq h2 ⟨t, ht, by simp [Sc.pushed]⟩ (fun s hs p hpi => ?_)
  unfold Sc.pushed at hpi
  by_cases e : s = t
  · subst e
    simp only [upd_same] at hpi
    by_cases hm : a ∈ M.stk s
    · rw [pIn_snoc (.inl hm)] at hpi
      have h3 := h.pIn hs h2 hpi
      rcases hp with hp | hp
      · rw [Sc.par_none.2 hp] at h3; cases h3
      · rw [hp] at h3; exact (Option.some.inj h3).symm
    · rw [pIn_snoc_new hm] at hpi; exact (Option.some.inj hpi).symm
  · simp only [upd_other _ _ e] at hpi
    have h3 := h.pIn hs h2 hpi
    rcases hp with hp | hp
    · rw [Sc.par_none.2 hp] at h3; cases h3
    · rw [hp] at h3; exact (Option.some.inj h3).symm
theorem Sc.par_low {b : Int} (h : ¬ 2 ≤ b) : M.par b = none := by unfold Sc.par; rw [if_neg h]
theorem Sc.Ok.pushed_par (h : M.Ok) (ht : t < 5) (hp : M.used a = false ∨ M.par a = some (under (M.stk t))) {b : Int} (hb : b ≠ a ∨ M.used a = true ∨ a < 2) : (M.pushed t a).par b = M.par b := by
  by_cases e : b = a
  · subst e
    by_cases h2 : 2 ≤ b
    · have hu : M.used b = true := (hb.resolve_left (fun x => x rfl)).resolve_right (by omega)
      rw [h.pushed_par_same ht h2 hp, hp.resolve_left (by rw [hu]; decide)]
    · rw [Sc.par_low h2, Sc.par_low h2]
  · exact Sc.pushed_par_other e
theorem Sc.Ok.pushed_outer (h : M.Ok) (ht : t < 5) (hp : M.used a = false ∨ M.par a = some (under (M.stk t))) {n : Nat} {c b : Int} (hb : b ≠ a ∨ M.used a = true ∨ a < 2) : (M.pushed t a).outerN n c b = M.outerN n c b := by
  refine Sc.outerN_same (S := fun b => b ≠ a ∨ M.used a = true ∨ a < 2) (fun b hb => ⟨h.pushed_par ht hp hb, fun p hpb => ?_⟩) hb
  by_cases e : p = a
  · subst e
    rcases Sc.par_in hpb with e | e
    · exact .inr (.inr (by omega))
    · exact .inr (.inl e)
  · exact .inl e
theorem Sc.Ok.pushed (h : M.Ok) (ht : t < 5) (ha : 0 ≤ a ∧ a < (M.n : Int) + 2) (hp : M.used a = false ∨ M.par a = some (under (M.stk t))) (h8 : (M.stk t).length < 8) : (M.pushed t a).Ok := by
  have hu : ∀ b, M.used b = true → (M.pushed t a).used b = true := fun b hb => by rw [Sc.pushed_used ht, hb]; rfl
  have key : ∀ b, M.used b = true ∨ b < 2 → b ≠ a ∨ M.used a = true ∨ a < 2 := fun b hb => by
    by_cases e : b = a
    · subst e; exact .inr hb
    · exact .inl e
  refine ⟨h.n6, h.sz, fun s hs => ?_, fun s hs => ?_, fun s hs => ?_, fun s hs i b hi h2 => ?_, ?_, h.ob, h.oa, fun o ho hg h2 => hu _ (h.al o ho hg h2), fun o ho hg y hy hin => ?_, h.rm, fun b h2 hb => ?_⟩
  · unfold Sc.pushed
    by_cases e : s = t
    · subst e; simp only [upd_same, List.length_append, List.length_singleton]; omega
    · simp only [upd_other _ _ e]; exact h.s1 s hs
  · unfold Sc.pushed
    by_cases e : s = t
    · subst e
      simp only [upd_same]
      have h1 := (h.s1 s hs).1
      have := h.s0 s hs
      unfold gI at *
      rw [List.getElem?_append_left (by omega)]
      exact this
    · simp only [upd_other _ _ e]; exact h.s0 s hs
  · unfold Sc.pushed
    by_cases e : s = t
    · subst e
      simp only [upd_same]
      intro b hb
      rcases List.mem_append.1 hb with hb | hb
      · exact h.sa s hs b hb
      · simp at hb; subst hb; exact ha
    · simp only [upd_other _ _ e]; exact h.sa s hs
  · by_cases e : s = t
    · subst e
      have e1 : (M.pushed s a).stk s = M.stk s ++ [a] := by simp [Sc.pushed]
      rw [e1] at hi ⊢
      by_cases hl : i < (M.stk s).length
      · rw [List.getElem?_append_left hl] at hi
        rw [List.take_append_of_le_length (by omega), ← h.pc s hs i b hi h2]
        have hub : M.used b = true := Sc.used_iff.2 ⟨h2, s, hs, List.mem_of_getElem? hi⟩
        exact h.pushed_par ht hp (key b (.inl hub))
      · have hil : i = (M.stk s).length := by
          have := (List.getElem?_eq_some_iff.1 hi).1
          simp at this; omega
        subst hil
        simp at hi
        subst hi
        rw [List.take_append_of_le_length (Nat.le_refl _), List.take_length]
        exact h.pushed_par_same hs h2 hp
    · have e1 : (M.pushed t a).stk s = M.stk s := by simp [Sc.pushed, upd_other _ _ e]
      rw [e1] at hi ⊢
      rw [← h.pc s hs i b hi h2]
      have hub : M.used b = true := Sc.used_iff.2 ⟨h2, s, hs, List.mem_of_getElem? hi⟩
      exact h.pushed_par ht hp (key b (.inl hub))
  · obtain ⟨rk, hr⟩ := h.rk
    by_cases hc : M.used a = true ∨ a < 2
    · exact ⟨rk, fun b p hb h2 => by rw [h.pushed_par ht hp (.inr hc)] at hb; exact hr b p hb h2⟩
    · have hua : M.used a = false := by cases e : M.used a; rfl; exact absurd (.inl e) hc
      have ha2 : 2 ≤ a := by have : ¬ a < 2 := fun x => hc (.inr x); omega
      refine ⟨fun b => if b = a then rk (under (M.stk t)) + 1 else rk b, fun b p hb h2 => ?_⟩
      by_cases e : b = a
      · subst e
        rw [h.pushed_par_same ht ha2 hp] at hb
        cases hb
        have hne : under (M.stk t) ≠ b := by
          intro e
          rcases under_mem (M.stk t) with e1 | ⟨e1, e2⟩
          · omega
          · rw [Sc.used_iff.2 ⟨ha2, t, ht, by rw [← e]; exact e2⟩] at hua; cases hua
        simp [hne]
      · rw [Sc.pushed_par_other e] at hb
        have hne : p ≠ a := by
          rintro rfl
          rcases Sc.par_in hb with e1 | e1
          · omega
          · rw [hua] at e1; cases e1
        simp [hne, e]
        exact hr b p hb h2
  · have h1 := h.rf o ho hg y hy hin
    rw [← h1]
    have hk : M.used o.area = true ∨ o.area < 2 := by
      by_cases h2 : 2 ≤ o.area
      · exact .inl (h.al o ho hg h2)
      · exact .inr (by omega)
    exact h.pushed_outer ht hp (key _ hk)
  · rcases h.po b h2 hb with h1 | ⟨h1, h3, h4⟩
    · exact .inl h1
    · refine .inr ⟨hu b h1, h3, ?_⟩
      rw [← h4]
      exact h.pushed_outer ht hp (key _ (.inl h1))
end
theorem Sc.Ok.enter {M : Sc} (h : M.Ok) (t a : Int) : (M.enter t a).2.Ok := by
  unfold Sc.enter
  split
  · rename_i h1
    simp only [Bool.and_eq_true, isT, Sc.isA, isAn, decide_eq_true_eq] at h1
    split
    · exact h
    · rename_i h2
      split
      · exact h
      · rename_i h3
        refine h.pushed (by omega) h1.2 ?_ (by omega)
        cases hu : M.used a
        · exact .inl rfl
        · rw [hu] at h2; simp at h2; exact .inr h2
  · exact h
end Go.Proofs.YtkacgbigeobncaaGreat
