/- Lemmas of this claim. -/
import Derived.Test.YtkacgbigeobncaaGreatTaSPm
namespace Go.Proofs.YtkacgbigeobncaaGreat
set_option linter.unusedVariables false
set_option linter.unusedSimpArgs false
theorem thOf_congr {M M' : Sc} (h : M'.obs = M.obs) : M'.thOf = M.thOf := by
  funext x; unfold Sc.thOf; rw [show M'.inn = M.inn from by funext y; unfold Sc.inn; rw [h], show M'.ob = M.ob from by funext y; unfold Sc.ob; rw [h]]
theorem Sc.Ok.toP_pushed {M : Sc} (h : M.Ok) {t : Nat} (ht : t < 5) {a : Int} (ha : 0 ≤ a ∧ a < (M.n : Int) + 2) (hp : M.used a = false ∨ M.par a = some (under (M.stk t))) :
    (M.pushed t a).toP = (if 2 ≤ a then M.toP.setSp a { M.toP.sp a with parent := under (M.stk t), users := (M.toP.sp a).users + 1 } else M.toP).pushed t a := by
  have hroom : ∀ b, (M.pushed t a).roomN b = M.roomN b := fun _ => rfl
  have hother : ∀ b, 2 ≤ b → b < (M.n : Int) + 2 → b ≠ a → (M.pushed t a).spOf (b.toNat - 2) = M.spOf (b.toNat - 2) := fun b h2 _ hne => by
    rw [Sc.spOf_at _ h2, Sc.spOf_at _ h2, hroom, Sc.pushed_users ht, if_neg (fun e => hne e.1), Sc.pushed_par_other hne]; rfl
  by_cases h2 : 2 ≤ a
  · rw [if_pos h2]
    refine Pm.ext' ?_ rfl (thOf_congr rfl) rfl
    refine Sc.toP_set h2 ha.2 rfl ?_ hother
    rw [Sc.spOf_at _ h2, Sc.toP_sp h2 ha.2, Sc.spOf_at _ h2, hroom, Sc.pushed_users ht, if_pos ⟨rfl, h2⟩, h.pushed_par_same ht h2 hp]
    rfl
  · rw [if_neg h2]
    refine Pm.ext' ?_ rfl (thOf_congr rfl) rfl
    exact Sc.toP_same rfl (fun b hb hbn => hother b hb hbn (by omega))
theorem isT_lt {t : Int} (h : isT t = true) : t.toNat < 5 := by unfold isT at h; simp at h; omega
theorem Sc.Ok.toP_enter {M : Sc} (h : M.Ok) (t a : Int) : M.toP.enter t a = ((M.enter t a).1, (M.enter t a).2.toP) := by
  unfold Pm.enter Sc.enter
  rw [Sc.toP_isA]
  show (if (isT t && M.isA a) = true then if 2 ≤ a ∧ 0 < (M.toP.sp a).users ∧ (M.toP.sp a).parent ≠ under (M.stk t.toNat) then _ else if 8 ≤ (M.stk t.toNat).length then _ else _ else _) = _
  cases hT : isT t <;> cases hA : M.isA a <;> simp only [Bool.and_true, Bool.true_and, Bool.false_and, Bool.and_false, if_true, Bool.false_eq_true, if_false]
  have ha := isA_lt hA
  have hc : (2 ≤ a ∧ 0 < (M.toP.sp a).users ∧ (M.toP.sp a).parent ≠ under (M.stk t.toNat)) ↔ ((M.used a && decide (M.par a ≠ some (under (M.stk t.toNat)))) = true) := by
    by_cases h2 : 2 ≤ a
    · rw [Sc.toP_users h2 ha.2, Sc.toP_parent h2 ha.2, Sc.used_pos]
      cases hp : M.par a with
      | none => simp [Sc.par_none.1 hp]
      | some p => simp [Sc.par_used hp, h2]
    · have : M.used a = false := by cases e : M.used a; rfl; exact absurd (Sc.used_iff.1 e).1 h2
      simp [h2, this]
  by_cases h3 : (M.used a && decide (M.par a ≠ some (under (M.stk t.toNat)))) = true
  · rw [if_pos (hc.2 h3), if_pos h3]
  · rw [if_neg (fun x => h3 (hc.1 x)), if_neg h3]
    split
    · rfl
    · have hp : M.used a = false ∨ M.par a = some (under (M.stk t.toNat)) := by
        cases hu : M.used a
        · exact .inl rfl
        · rw [hu] at h3; simp at h3; exact .inr h3
      show _ = ((0 : Int), (M.pushed t.toNat a).toP)
      rw [h.toP_pushed (isT_lt hT) ha hp]
      rfl
theorem Sc.popped_par_gone {M : Sc} {t : Nat} {a : Int} (h : (M.popped t).used a = false) : (M.popped t).par a = none := Sc.par_none.2 h
theorem Sc.Ok.toP_popped {M : Sc} (h : M.Ok) {t : Nat} (ht : t < 5) (h1 : 2 ≤ (M.stk t).length) (hc : ¬ (2 ≤ top (M.stk t) ∧ (M.popped t).used (top (M.stk t)) = false)) :
    (M.popped t).toP = (if 2 ≤ top (M.stk t) then (M.toP.popped t).fewer (top (M.stk t)) else M.toP.popped t) := by
  have hother : ∀ b, 2 ≤ b → b < (M.n : Int) + 2 → b ≠ top (M.stk t) → (M.popped t).spOf (b.toNat - 2) = M.spOf (b.toNat - 2) := fun b h2 _ hne => by
    have := Sc.popped_users (M := M) ht (by omega) b
    rw [if_neg (fun e => hne e.1), Nat.add_zero] at this
    rw [Sc.spOf_at _ h2, Sc.spOf_at _ h2, ← this, Sc.popped_par_other (by omega) hne]; rfl
  have htn := (h.sa t ht _ (top_mem (by omega))).2
  by_cases h2 : 2 ≤ top (M.stk t)
  · rw [if_pos h2]
    have hu : (M.popped t).used (top (M.stk t)) = true := by
      cases e : (M.popped t).used (top (M.stk t))
      · exact absurd ⟨h2, e⟩ hc
      · rfl
    refine Pm.ext' ?_ rfl (thOf_congr rfl) rfl
    refine Sc.toP_set h2 htn rfl ?_ hother
    have hus := Sc.popped_users (M := M) ht (by omega) (top (M.stk t))
    rw [if_pos ⟨rfl, h2⟩] at hus
    show _ = { M.toP.sp (top (M.stk t)) with users := (M.toP.sp (top (M.stk t))).users - 1 }
    rw [Sc.spOf_at _ h2, Sc.toP_sp h2 htn, Sc.spOf_at _ h2, hus, h.popped_par hu]
    refine Sp.ext' rfl rfl ?_ rfl rfl
    show (((M.popped t).usersN (top (M.stk t)) : Nat) : Int) = (((M.popped t).usersN (top (M.stk t)) + 1 : Nat) : Int) - 1
    omega
  · rw [if_neg h2]
    refine Pm.ext' ?_ rfl (thOf_congr rfl) rfl
    exact Sc.toP_same rfl (fun b hb hbn => hother b hb hbn (by omega))
theorem toP_reset_ob {M : Sc} {M' : Sc} {a : Int} (hobs : M'.obs = M.obs.map (goneIn a)) : M'.thOf = resetOb M.thOf a := by
  have hin : ∀ x, M'.inn x = (M.inn x && decide ((M.ob x).area ≠ a)) := fun x => by unfold Sc.inn; rw [hobs]; exact innL_map M.obs a x
  have hdel : ∀ x, (delOb M.thOf a x).isSome = M'.inn x := fun x => by
    rw [hin]
    unfold delOb Sc.thOf
    cases hx : M.inn x
    · rfl
    · simp only [if_true, Bool.true_and]
      by_cases e : (M.ob x).area = a
      · simp [e]
      · simp [e]
  funext x
  unfold resetOb
  cases hx : M'.inn x
  · have h1 := hdel x
    rw [hx] at h1
    rw [Option.isSome_eq_false_iff, Option.isNone_iff_eq_none] at h1
    rw [h1]
    unfold Sc.thOf
    rw [hx]
    rfl
  · have hx' := hx
    rw [hin] at hx
    simp only [Bool.and_eq_true, decide_eq_true_eq] at hx
    have hd : delOb M.thOf a x = some ⟨(M.ob x).area, (M.ob x).blocks, (M.ob x).refs.filter M.inn⟩ := by
      unfold delOb Sc.thOf
      rw [hx.1]
      simp [hx.2]
    rw [hd]
    unfold Sc.thOf
    rw [hx']
    have eo : M'.ob x = goneIn a (M.ob x) := by
      unfold Sc.ob
      rw [hobs, obI_map (obI_mem hx.1).2.2]
    rw [eo, goneIn_area, goneIn_blocks, goneIn_refs]
    simp only [if_true, Option.map_some, cutRefs, List.filter_filter]
    congr 2
    refine List.filter_congr (fun y hy => ?_)
    have := hdel y
    unfold Sc.thOf at this
    rw [this, hin]
    cases M.inn y <;> simp
theorem Sc.Ok.toP_reset {M : Sc} (h : M.Ok) {t : Nat} (ht : t < 5) (h1 : 2 ≤ (M.stk t).length) (h2 : 2 ≤ top (M.stk t)) (hun : (M.popped t).used (top (M.stk t)) = false) :
    ((M.popped t).reset (top (M.stk t))).toP = ((M.toP.popped t).fewer (top (M.stk t))).reset (top (M.stk t)) := by
  have htn := (h.sa t ht _ (top_mem (by omega))).2
  obtain ⟨a, ha⟩ : ∃ a, a = top (M.stk t) := ⟨_, rfl⟩
  rw [← ha] at h2 hun htn ⊢
  refine Pm.ext' ?_ rfl ?_ (by simp [Sc.toP, Sc.reset, Sc.popped, Pm.reset, Pm.fewer, Pm.setSp, Pm.popped])
  · have e : (((M.toP.popped t).fewer a).reset a).scs = M.toP.scs.set (a.toNat - 2) ⟨gI M.sizes (a.toNat - 2), gI M.sizes (a.toNat - 2), 0, 0, 0⟩ := by
      have hl : a.toNat - 2 < M.toP.scs.length := by rw [show M.toP.scs.length = M.n from M.toP_n]; omega
      have e1 : ((M.toP.popped t).fewer a).sp a = { M.toP.sp a with users := (M.toP.sp a).users - 1 } := by
        unfold Pm.sp Pm.fewer Pm.setSp Pm.popped
        simp [hl]
        unfold Pm.sp
        simp [hl]
      have e2 := Sc.toP_size (M := M) h2 htn
      unfold Pm.reset Pm.setSp
      simp only
      rw [e1]
      simp only [e2]
      unfold Pm.fewer Pm.setSp Pm.popped
      simp
    rw [e]
    refine Sc.toP_set h2 htn rfl ?_ (fun b hb hbn hne => ?_)
    · rw [Sc.spOf_at _ h2]
      have e3 : ((M.popped t).reset a).roomN a = gI M.sizes (a.toNat - 2) := by
        unfold Sc.roomN
        rw [if_neg (by omega)]
        show gI M.sizes (a.toNat - 2) - sumB a (M.obs.map (goneIn a)) = _
        rw [sumB_map, if_pos rfl]; omega
      have e4 : (((M.popped t).reset a).usersN a : Int) = 0 := by rw [Sc.used_zero, Sc.reset_used]; exact hun
      rw [e3, e4, Sc.reset_par, Sc.popped_par_gone hun]
      show (⟨_, _, _, _, upd M.por a.toNat 0 a.toNat⟩ : Sp) = _
      rw [upd_same]
      rfl
    · have hb2 : b ≠ top (M.stk t) := by rw [← ha]; exact hne
      have hus := Sc.popped_users (M := M) ht (by omega) b
      rw [if_neg (fun e => hb2 e.1), Nat.add_zero] at hus
      have e3 : ((M.popped t).reset a).roomN b = M.roomN b := by
        unfold Sc.roomN
        rw [if_neg (by omega), if_neg (by omega)]
        show gI M.sizes (b.toNat - 2) - sumB b (M.obs.map (goneIn a)) = _
        rw [sumB_map, if_neg hne]
      rw [Sc.spOf_at _ hb, Sc.spOf_at _ hb, e3, Sc.reset_par, Sc.popped_par_other (by omega) hb2, hus]
      show (⟨_, _, ((M.popped t).usersN b : Nat), _, upd M.por a.toNat 0 b.toNat⟩ : Sp) = _
      rw [upd_other _ _ (fun x => hne (toNat_inj h2 hb x))]
      rfl
  · exact toP_reset_ob rfl
theorem Sc.Ok.toP_leave {M : Sc} (h : M.Ok) (t : Int) : M.toP.leave t = ((M.leave t).1, (M.leave t).2.1, (M.leave t).2.2.toP) := by
  unfold Pm.leave Sc.leave
  show (if isT t = true then if (M.stk t.toNat).length = 1 then _ else (top (M.stk t.toNat), (0 : Int), if 2 ≤ top (M.stk t.toNat) then _ else _) else _) = _
  cases hT : isT t
  · rfl
  · simp only [if_true]
    have ht := isT_lt hT
    have h1 := (h.s1 _ ht).1
    by_cases hl : (M.stk t.toNat).length = 1
    · rw [if_pos hl, if_pos (show (M.stk t.toNat).length < 2 by omega)]
    · rw [if_neg hl, if_neg (show ¬ (M.stk t.toNat).length < 2 by omega)]
      refine Prod.ext rfl (Prod.ext rfl ?_)
      show (if 2 ≤ top (M.stk t.toNat) then (if (M.toP.sp (top (M.stk t.toNat))).users - 1 = 0 then _ else _) else _) = Sc.toP (if _ then _ else _)
      have htn := (h.sa _ ht _ (top_mem h1)).2
      by_cases h2 : 2 ≤ top (M.stk t.toNat)
      · rw [if_pos h2, Sc.toP_users h2 htn]
        have hus := Sc.popped_users (M := M) ht h1 (top (M.stk t.toNat))
        rw [if_pos ⟨rfl, h2⟩] at hus
        have hz : (M.usersN (top (M.stk t.toNat)) : Int) - 1 = 0 ↔ (M.popped t.toNat).used (top (M.stk t.toNat)) = false := by
          rw [← Sc.used_zero, hus]; omega
        by_cases hu : (M.popped t.toNat).used (top (M.stk t.toNat)) = false
        · rw [if_pos (hz.2 hu), if_pos ⟨h2, hu⟩]
          exact (h.toP_reset ht (by omega) h2 hu).symm
        · rw [if_neg (fun x => hu (hz.1 x)), if_neg (fun x => hu x.2)]
          have := h.toP_popped ht (by omega) (fun x => hu x.2)
          rw [if_pos h2] at this
          exact this.symm
      · rw [if_neg h2, if_neg (fun x => h2 x.1)]
        have := h.toP_popped ht (by omega) (fun x => h2 x.1)
        rw [if_neg h2] at this
        exact this.symm
theorem obI_new {l : List Ob} {o : Ob} : obI (l ++ [o]) (l.length + 1) = o := by
  unfold obI
  rw [show ((l.length : Int) + 1).toNat - 1 = l.length by omega, List.getElem?_append_right (Nat.le_refl _)]
  simp
theorem Sc.Ok.toP_alloc {M : Sc} (h : M.Ok) (t b : Int) : M.toP.alloc t b = ((M.alloc t b).1, (M.alloc t b).2.1, (M.alloc t b).2.2.toP) := by
  unfold Pm.alloc Sc.alloc
  show (if (isT t && decide (1 ≤ b ∧ b ≤ 8)) = true then if 2 ≤ top (M.stk t.toNat) ∧ (M.toP.sp (top (M.stk t.toNat))).room < b then _ else if 500 ≤ M.obs.length then _ else _ else _) = _
  cases hT : isT t
  · rfl
  · by_cases hb : 1 ≤ b ∧ b ≤ 8
    · simp only [hb, and_self, decide_true, Bool.and_true, if_true]
      have ht := isT_lt hT
      have h1 := (h.s1 _ ht).1
      have hta := h.sa _ ht _ (top_mem h1)
      obtain ⟨a, ha⟩ : ∃ a, a = top (M.stk t.toNat) := ⟨_, rfl⟩
      have hc : (2 ≤ top (M.stk t.toNat) ∧ (M.toP.sp (top (M.stk t.toNat))).room < b) ↔ M.roomN (top (M.stk t.toNat)) < b := by
        by_cases h2 : 2 ≤ top (M.stk t.toNat)
        · rw [Sc.toP_room h2 hta.2]; simp [h2]
        · have : M.roomN (top (M.stk t.toNat)) = 1000 := by unfold Sc.roomN; rw [if_pos (by omega)]
          rw [this]; constructor
          · intro x; exact absurd x.1 h2
          · intro x; omega
      by_cases h3 : M.roomN (top (M.stk t.toNat)) < b
      · rw [if_pos (hc.2 h3), if_pos h3]
      · rw [if_neg (fun x => h3 (hc.1 x)), if_neg h3]
        split
        · rfl
        · refine Prod.ext rfl (Prod.ext rfl ?_)
          show (M.toP.taken (top (M.stk t.toNat)) b).withOb _ = _
          rw [← ha] at hta h3 hc ⊢
          have hroom : ∀ c, 2 ≤ c → ({ M with obs := M.obs ++ [⟨a, b, [], false⟩] } : Sc).roomN c = if c = a then M.roomN c - b else M.roomN c := fun c hc2 => by
            unfold Sc.roomN
            simp only [sumB_append, sumB]
            by_cases e : a = c
            · subst e
              simp [show ¬ a < 2 by omega]
              omega
            · simp [e, Ne.symm e, show ¬ c < 2 by omega]
          have hother : ∀ c, 2 ≤ c → c < (M.n : Int) + 2 → c ≠ a → ({ M with obs := M.obs ++ [⟨a, b, [], false⟩] } : Sc).spOf (c.toNat - 2) = M.spOf (c.toNat - 2) := fun c hc2 _ hne => by
            rw [Sc.spOf_at _ hc2, Sc.spOf_at _ hc2, hroom c hc2, if_neg hne, Sc.par_obs M _ M.por]
            show (⟨_, _, ((({ M with obs := M.obs ++ [⟨a, b, [], false⟩] } : Sc).usersN c : Nat) : Int), _, _⟩ : Sp) = _
            rw [usersN_congr (M := M) (M' := { M with obs := M.obs ++ [⟨a, b, [], false⟩] }) (fun _ _ => rfl)]
          refine (Pm.ext' ?_ ?_ ?_ ?_).symm
          · unfold Pm.taken
            split
            · rename_i h2
              refine Sc.toP_set h2 hta.2 rfl ?_ hother
              rw [Sc.spOf_at _ h2, hroom a h2, if_pos rfl, Sc.par_obs M _ M.por, Sc.toP_sp h2 hta.2, Sc.spOf_at _ h2]
              rw [usersN_congr (M := M) (M' := { M with obs := M.obs ++ [⟨a, b, [], false⟩] }) (fun _ _ => rfl)]
            · rename_i h2
              exact Sc.toP_same rfl (fun c hc2 hcn => hother c hc2 hcn (by omega))
          · unfold Pm.taken; split <;> rfl
          · funext k
            have hk : (M.toP.taken a b).ob = M.thOf := by unfold Pm.taken; split <;> rfl
            have hm : (M.toP.taken a b).made = M.obs.length := by unfold Pm.taken; split <;> rfl
            show Sc.thOf { M with obs := M.obs ++ [⟨a, b, [], false⟩] } k = (if k = ((M.toP.taken a b).made : Int) + 1 then _ else (M.toP.taken a b).ob k)
            rw [hk, hm]
            unfold Sc.thOf Sc.inn Sc.ob
            simp only
            by_cases e : k = (M.obs.length : Int) + 1
            · subst e
              rw [if_pos rfl, obI_new]
              have : innL (M.obs ++ [⟨a, b, [], false⟩]) ((M.obs.length : Int) + 1) = true := by
                unfold innL; rw [obI_new]; simp; omega
              rw [if_pos this, ha]
              rfl
            · rw [if_neg e]
              by_cases e2 : k ≤ M.obs.length
              · rw [innL_old e2]
                cases hin : innL M.obs k
                · rfl
                · have m := obI_mem hin
                  rw [obI_old m.2.2]
                  simp only [if_true]
                  congr 2
                  refine List.filter_congr (fun y hy => ?_)
                  exact innL_old ((h.oa _ m.1).2.2.2.2.2 y hy).2
              · have e3 : innL (M.obs ++ [⟨a, b, [], false⟩]) k = false := by
                  unfold innL; simp; intro _ _; omega
                have e4 : innL M.obs k = false := by
                  unfold innL; simp; intro _ _; omega
                rw [e3, e4]
                rfl
          · have hm : (M.toP.taken a b).made = M.obs.length := by unfold Pm.taken; split <;> rfl
            show (M.obs ++ [_]).length = (M.toP.taken a b).made + 1
            rw [hm]; simp
    · simp only [hb, decide_false, Bool.and_false, if_false, Bool.false_eq_true]
end Go.Proofs.YtkacgbigeobncaaGreat
