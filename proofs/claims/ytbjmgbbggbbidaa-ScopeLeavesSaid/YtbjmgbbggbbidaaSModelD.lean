/- Layer 15: objects of the heap and the immortal memory never go, nor what they refer to. No program is spoken of. Layer 15: what is left when threads leave. No program is spoken of. -/
import Derived.Test.YtbjmgbbggbbidaaSModelC
namespace Go.Proofs.Ytbjmgbbggbbidaa
set_option linter.unusedVariables false
def OkL (l : List Ob) : Prop := ∀ o ∈ l, o.area < 2 → o.gone = false ∧ ∀ y ∈ o.refs, 1 ≤ y ∧ y ≤ l.length ∧ (obI l y).area < 2
theorem OkL.nil : OkL [] := fun o ho => by simp at ho
theorem OkL.map {l : List Ob} (h : OkL l) {a : Int} (ha : 2 ≤ a) : OkL (l.map (goneIn a)) := by
  intro o ho h2
  obtain ⟨o', ho', rfl⟩ := List.mem_map.1 ho
  rw [goneIn_area] at h2
  obtain ⟨h3, h4⟩ := h o' ho' h2
  refine ⟨?_, fun y hy => ?_⟩
  · rw [goneIn_gone, h3]
    have : o'.area ≠ a := by omega
    simp [this]
  · rw [goneIn_refs] at hy
    obtain ⟨h5, h6, h7⟩ := h4 y hy
    exact ⟨h5, by rw [List.length_map]; exact h6, by rw [obI_map ⟨h5, h6⟩, goneIn_area]; exact h7⟩
theorem OkL.snoc {l : List Ob} (h : OkL l) (a b : Int) : OkL (l ++ [⟨a, b, [], false⟩]) := by
  intro o ho h2
  rcases List.mem_append.1 ho with h1 | h1
  · obtain ⟨h3, h4⟩ := h o h1 h2
    refine ⟨h3, fun y hy => ?_⟩
    obtain ⟨h5, h6, h7⟩ := h4 y hy
    exact ⟨h5, by rw [List.length_append]; simp; omega, by rw [obI_old ⟨h5, h6⟩]; exact h7⟩
  · simp at h1
    subst h1
    exact ⟨rfl, fun y hy => by simp at hy⟩
theorem OkL.modify {l : List Ob} (h : OkL l) {x y : Int} (hx : 1 ≤ x ∧ x ≤ l.length) (hy : 1 ≤ y ∧ y ≤ l.length) (ha : (obI l x).area < 2 → (obI l y).area < 2) : OkL (l.modify (x.toNat - 1) (addRef y)) := by
  have key : ∀ z, 1 ≤ z ∧ z ≤ (l.length : Int) ∧ (obI l z).area < 2 → 1 ≤ z ∧ z ≤ ((l.modify (x.toNat - 1) (addRef y)).length : Int) ∧ (obI (l.modify (x.toNat - 1) (addRef y)) z).area < 2 := fun z hz => by
    rw [List.length_modify, obI_modify_area hx hz.1]; exact hz
  intro o ho h2
  rcases mem_modify ho with h1 | ⟨o', h1, rfl⟩
  · obtain ⟨h3, h4⟩ := h o h1 h2
    exact ⟨h3, fun z hz => key z (h4 z hz)⟩
  · have hm : o' ∈ l := List.mem_iff_getElem?.2 ⟨_, h1⟩
    obtain ⟨h3, h4⟩ := h o' hm h2
    refine ⟨h3, fun z hz => ?_⟩
    have hz' : z ∈ o'.refs ++ [y] := hz
    rcases List.mem_append.1 hz' with h5 | h5
    · exact key z (h4 z h5)
    · simp at h5
      subst h5
      have e : obI l x = o' := by unfold obI; rw [h1]; rfl
      exact key z ⟨hy.1, hy.2, ha (by rw [e]; exact h2)⟩
theorem outer_low {M : Sc} {n : Nat} {a b : Int} (hb : b < 2) (h : M.outerN n a b = true) : a < 2 := by
  rcases Sc.outer_used h with h1 | h1 | h1 | h1
  · omega
  · omega
  · omega
  · cases n with
    | zero => simp [Sc.outerN] at h
    | succ n =>
      unfold Sc.outerN at h
      rw [Sc.par_low (b := b) (by omega)] at h
      simp at h
      omega
theorem OkL.do {M : Sc} (h : OkL M.obs) (d a b : Int) : OkL (M.do d a b).2.2.obs := by
  unfold Sc.do
  split
  · show OkL (M.enter a b).2.obs
    unfold Sc.enter
    (repeat' split) <;> exact h
  · split
    · unfold Sc.leave
      split
      · split
        · exact h
        · show OkL (if _ then _ else _ : Sc).obs
          split
          · rename_i h2
            exact h.map h2.1
          · exact h
      · exact h
    · split
      · unfold Sc.alloc
        split
        · split
          · exact h
          · split
            · exact h
            · exact h.snoc _ _
        · exact h
      · split
        · show OkL (M.refer a b).2.obs
          unfold Sc.refer
          split
          · rename_i h1
            simp only [Bool.and_eq_true] at h1
            split
            · rename_i h2
              show OkL (if _ then _ else _ : Sc).obs
              split
              · exact h
              · exact h.modify (obI_mem h1.1).2.2 (obI_mem h1.2).2.2 (fun h3 => outer_low h3 h2)
            · exact h
          · exact h
        · split
          · show OkL (M.setPortal a b).2.obs
            unfold Sc.setPortal
            (repeat' split) <;> exact h
          · exact h
end Go.Proofs.Ytbjmgbbggbbidaa
namespace Go.Proofs.Ytbjmgbbggbbidaa
set_option linter.unusedVariables false
/-- Mp is what M became by leaving. -/
structure Left (M Mp : Sc) : Prop where
  ok : Mp.Ok
  lo : OkL Mp.obs
  sizes : Mp.sizes = M.sizes
  len : Mp.obs.length = M.obs.length
  same : ∀ (k : Nat) o, M.obs[k]? = some o → ∃ o', Mp.obs[k]? = some o' ∧ o'.area = o.area ∧ o'.refs = o.refs
theorem Left.refl {M : Sc} (h : M.Ok) (hl : OkL M.obs) : Left M M := ⟨h, hl, rfl, rfl, fun k o ho => ⟨o, ho, rfl, rfl⟩⟩
theorem left_obs (Mp : Sc) (t : Int) : (Mp.leave t).2.2.sizes = Mp.sizes ∧ ((Mp.leave t).2.2.obs = Mp.obs ∨ ∃ a, 2 ≤ a ∧ (Mp.leave t).2.2.obs = Mp.obs.map (goneIn a)) := by
  unfold Sc.leave
  split
  · split
    · exact ⟨rfl, .inl rfl⟩
    · by_cases hc : 2 ≤ top (Mp.stk t.toNat) ∧ (Mp.popped t.toNat).used (top (Mp.stk t.toNat)) = false
      · rw [if_pos hc]; exact ⟨rfl, .inr ⟨_, hc.1, rfl⟩⟩
      · rw [if_neg hc]; exact ⟨rfl, .inl rfl⟩
  · exact ⟨rfl, .inl rfl⟩
theorem Left.leave {M Mp : Sc} (h : Left M Mp) (t : Int) : Left M (Mp.leave t).2.2 := by
  obtain ⟨e1, e2⟩ := left_obs Mp t
  refine ⟨h.ok.leave t, ?_, by rw [e1]; exact h.sizes, ?_, fun k o ho => ?_⟩
  · rcases e2 with e2 | ⟨a, ha, e2⟩
    · rw [e2]; exact h.lo
    · rw [e2]; exact h.lo.map ha
  · rcases e2 with e2 | ⟨a, ha, e2⟩
    · rw [e2]; exact h.len
    · rw [e2, List.length_map]; exact h.len
  · obtain ⟨o', h1, h2, h3⟩ := h.same k o ho
    rcases e2 with e2 | ⟨a, ha, e2⟩
    · exact ⟨o', by rw [e2]; exact h1, h2, h3⟩
    · exact ⟨goneIn a o', by rw [e2, List.getElem?_map, h1]; rfl, by rw [goneIn_area]; exact h2, by rw [goneIn_refs]; exact h3⟩
theorem left_one {Mp : Sc} {t : Nat} (ht : t < 5) (h : (Mp.stk t).length = 1) : Mp.leave t = (0, 13, Mp) := by
  have hT : isT (t : Int) = true := by unfold isT; simp; omega
  unfold Sc.leave
  have hn : (Mp.stk (t : Int).toNat).length < 2 := by rw [Int.toNat_natCast]; omega
  rw [if_pos hT, if_pos hn]
theorem left_more {Mp : Sc} {t : Nat} (ht : t < 5) (h : 2 ≤ (Mp.stk t).length) : (Mp.leave t).1 = top (Mp.stk t) ∧ (Mp.leave t).2.1 = 0 ∧ (Mp.leave t).2.2.stk = upd Mp.stk t (Mp.stk t).dropLast := by
  have hT : isT (t : Int) = true := by unfold isT; simp; omega
  unfold Sc.leave
  have hn : ¬ (Mp.stk (t : Int).toNat).length < 2 := by rw [Int.toNat_natCast]; omega
  rw [if_pos hT, if_neg hn]
  refine ⟨rfl, rfl, ?_⟩
  show (if _ then _ else _ : Sc).stk = _
  split <;> rfl
theorem left_take {Mp : Sc} {t i : Nat} {l : List Int} (ht : t < 5) (hi : i < l.length) (h1 : 1 ≤ i) (h : Mp.stk t = l.take (i + 1)) :
    (Mp.leave t).1 = gI l i ∧ (Mp.leave t).2.1 = 0 ∧ (Mp.leave t).2.2.stk t = l.take i ∧ ∀ s, s ≠ t → (Mp.leave t).2.2.stk s = Mp.stk s := by
  have hl : (Mp.stk t).length = i + 1 := by rw [h, List.length_take]; omega
  obtain ⟨h2, h3, h4⟩ := left_more (Mp := Mp) ht (by omega)
  refine ⟨?_, h3, ?_, fun s hs => by rw [h4, upd_other _ _ hs]⟩
  · rw [h2]
    unfold top
    rw [hl, h, show i + 1 - 1 = i by omega]
    unfold gI
    rw [List.getElem?_take, if_pos (show i < i + 1 by omega)]
  · rw [h4, upd_same, h, List.dropLast_eq_take, List.take_take, List.length_take]
    congr 1; omega
/-- All have left. -/
theorem Left.empty {M Mp : Sc} (h : Left M Mp) (h1 : ∀ t, t < 5 → (Mp.stk t).length = 1) (a : Int) : Mp.used a = false := by
  cases e : Mp.used a
  · rfl
  · obtain ⟨h2, t, ht, hm⟩ := Sc.used_iff.1 e
    have h3 := h.ok.s0 t ht
    obtain ⟨i, hi, e2⟩ := List.mem_iff_getElem.1 hm
    have := h1 t ht
    have hi0 : i = 0 := by omega
    subst hi0
    unfold gI at h3
    rw [List.getElem?_eq_getElem hi] at h3
    simp at h3
    omega
theorem sumB_none' {a : Int} {l : List Ob} (h : ∀ o ∈ l, ¬ (o.area = a ∧ o.gone = false)) : sumB a l = 0 := by
  induction l with
  | nil => rfl
  | cons o r ih =>
    unfold sumB
    rw [if_neg (h o List.mem_cons_self), ih (fun o' ho => h o' (List.mem_cons_of_mem _ ho))]; rfl
theorem Left.areas {M Mp : Sc} (h : Left M Mp) (h1 : ∀ t, t < 5 → (Mp.stk t).length = 1) {s : Nat} (hs2 : 2 ≤ s) (hs : s < M.n + 2) :
    Mp.users s = (0, 0) ∧ Mp.parent s = (0, 3) ∧ Mp.room s = (gI M.sizes (s - 2), 0) := by
  have hn : Mp.n = M.n := by unfold Sc.n; rw [h.sizes]
  have hA : Mp.isA s = true := by unfold Sc.isA isAn; rw [hn]; simp; omega
  have hu := h.empty h1 (s : Int)
  have hu0 : Mp.usersN s = 0 := by unfold Sc.used at hu; simpa using hu
  refine ⟨by unfold Sc.users; rw [hA, hu0]; rfl, by unfold Sc.parent; rw [hA, Sc.par_none.2 hu]; rfl, ?_⟩
  unfold Sc.room
  rw [if_pos hA]
  unfold Sc.roomN
  rw [if_neg (by omega), h.sizes, Int.toNat_natCast, sumB_none' (fun o ho ⟨e1, e2⟩ => by
    have := h.ok.al o ho e2 (by omega)
    rw [h.empty h1] at this
    cases this)]
  simp
theorem Left.objs {M Mp : Sc} (h : Left M Mp) (h1 : ∀ t, t < 5 → (Mp.stk t).length = 1) {k : Nat} (hk : k < M.obs.length) :
    Mp.refs ((k : Int) + 1) = if (M.obs[k]).area < 2 then ((M.obs[k]).refs, 0) else ([], 3) := by
  obtain ⟨o', e1, e2, e3⟩ := h.same k _ (List.getElem?_eq_getElem hk)
  have hob : Mp.ob ((k : Int) + 1) = o' := by
    unfold Sc.ob obI
    rw [show ((k : Int) + 1).toNat - 1 = k by omega, e1]; rfl
  have hin : Mp.inn ((k : Int) + 1) = !o'.gone := by
    unfold Sc.inn innL
    have e4 : obI Mp.obs ((k : Int) + 1) = o' := hob
    rw [e4]
    have : decide (1 ≤ (k : Int) + 1 ∧ (k : Int) + 1 ≤ (Mp.obs.length : Int)) = true := by rw [h.len]; simp; omega
    rw [this]; rfl
  have hm : o' ∈ Mp.obs := List.mem_iff_getElem?.2 ⟨_, e1⟩
  unfold Sc.refs
  by_cases ha : (M.obs[k]).area < 2
  · obtain ⟨h3, h4⟩ := h.lo o' hm (by omega)
    rw [hin, h3, hob, if_pos ha, e3]
    have hf : (M.obs[k]).refs.filter Mp.inn = (M.obs[k]).refs := by
      rw [List.filter_eq_self]
      intro y hy
      rw [← e3] at hy
      obtain ⟨h5, h6, h7⟩ := h4 y hy
      have hmy : obI Mp.obs y ∈ Mp.obs := by
        unfold obI
        rw [List.getElem?_eq_getElem (by omega)]
        exact List.getElem_mem _
      have h8 := (h.lo _ hmy h7).1
      unfold Sc.inn innL
      rw [h8]; simp; omega
    simp [hf]
  · rw [hin, if_neg ha]
    cases hg : o'.gone
    · have := h.ok.al o' hm hg (by omega)
      rw [h.empty h1] at this
      cases this
    · simp
end Go.Proofs.Ytbjmgbbggbbidaa
