/- Contracts of package scope: what a store turns; Enter. -/
import Derived.Test.YtbjmgbbggbbidaaScopeC
namespace Go.Proofs.Ytbjmgbbggbbidaa
open Go.RowKit Go.Maps
set_option maxHeartbeats 1600000
set_option maxRecDepth 100000
set_option linter.unusedVariables false
section
variable {L : Nat → Option Lb} {p : Nat} {P : Pm} {X : PX} {w : World}
/-- A deed is done. -/
def Did (w : World) (L : Nat → Option Lb) (p : Nat) (r : Value) (P' : Pm) (e : Ending) (w' : World) : Prop :=
  e = .returned r ∧ ∃ L' X', PRep w' L' p P' X' ∧ (∀ k, L' k ≠ none → L k ≠ none ∨ w.heap.size ≤ k) ∧ OnlyP (fun k => L k ≠ none) w w'
theorem Did.none {r : Value} {w' : World} (h : PRep w L p P X) (ho : Drew w w') : Did w L p r P (.returned r) w' := by
  obtain ⟨n, rfl⟩ := ho
  exact ⟨rfl, L, X, h.drewN n, fun k hk => .inl hk, (OnlyP.refl _ _).drewN n⟩
theorem ScAt.set {v : Value} {l : List Sp} (h : ScAt w L v l) {j g cap n : Nat} (hv : v = .slice (some ⟨g, 0, none⟩) n cap) (hj : j < l.length) {r : Nat} (hr : r < 5) {x : Int} {s : Sp} (hs : s.fld r = x) (ho : ∀ q, q < 5 → q ≠ r → s.fld q = l[j].fld q) :
    ScAt (w.setCell ⟨g, j * 5 + r, none⟩ (.int .i64 x)) L v (l.set j s) := by
  rcases h with ⟨h, _⟩ | ⟨g', cap', T, cs, h1, h2, h3, h4⟩
  · subst h; simp at hj
  · rw [hv] at h1
    simp only [Value.slice.injEq, Option.some.injEq, Addr.mk.injEq] at h1
    obtain ⟨⟨rfl, _⟩, rfl, rfl⟩ := h1
    refine .inr ⟨g, cap, T, _, by rw [hv, List.length_set], h2.set _ _, h3, fun i t hi q hq => ?_⟩
    have hl : j * 5 + r < cs.length := by
      have := (List.getElem?_eq_some_iff.1 (h4 j l[j] (List.getElem?_eq_getElem hj) r hr)).1
      exact this
    rw [List.getElem?_set] at hi
    by_cases e : j = i
    · subst e
      rw [if_pos rfl, if_pos hj] at hi
      cases hi
      rw [List.getElem?_set]
      by_cases e2 : q = r
      · subst e2
        rw [if_pos rfl, if_pos hl, hs]
      · rw [if_neg (by omega), ho q hq e2]
        exact h4 j l[j] (List.getElem?_eq_getElem hj) q hq
    · rw [if_neg e] at hi
      rw [List.getElem?_set, if_neg (by omega)]
      exact h4 i t hi q hq
/-- Only what bears a label ℓ has turned: everything else lies as it lay. -/
theorem PRep.turnSc {w' : World} {scs : List Sp} (h : PRep w L p P X) (hg : OnlyP (fun k => L k = some .scp) w w') (hs : ScAt w' L X.scv scs) : PRep w' L p { P with scs := scs } X := by
  have hne : ∀ k ℓ, ℓ ≠ Lb.scp → L k = some .scp → L k ≠ some ℓ := fun k ℓ h1 hk e => by rw [hk] at e; cases e; exact h1 rfl
  refine ⟨fun k hk => Nat.lt_of_lt_of_le (h.lt k hk) hg.size, ?_, h.Lm, hs, fun t ht => ⟨(h.st t ht).1.onlyP hg (fun g hgv x => hne g (.stk t) (by simp) x ((h.st t ht).2 g hgv)), (h.st t ht).2⟩,
    h.mp.only hg (fun x => hne _ .map (by simp) x h.Lp), h.Lp, fun k t hk => (h.th k t hk).only hg (fun x hx => ⟨hne x _ (by simp) hx, hne x _ (by simp) hx⟩)⟩
  obtain ⟨T, hr⟩ := h.mem
  exact ⟨T, hg.row hr (fun x => hne _ .mem (by simp) x h.Lm)⟩
/-- A field of a scope's row is stored. -/
theorem PRep.field (h : PRep w L p P X) {a : Int} {g cap j : Nat} (hv : X.scv = .slice (some ⟨g, 0, none⟩) P.n cap) (hj : j < P.n) (ej : a.toNat - 2 = j) (hg : L g = some .scp) {r : Nat} (hr : r < 5) {x : Int} {s : Sp} (hs : s.fld r = x) (ho : ∀ q, q < 5 → q ≠ r → s.fld q = (P.sp a).fld q) :
    PRep (w.setCell ⟨g, j * 5 + r, none⟩ (.int .i64 x)) L p (P.setSp a s) X := by
  have hj' : j < P.scs.length := hj
  have e : P.sp a = P.scs[j] := by unfold Pm.sp; rw [ej, List.getElem?_eq_getElem hj']; rfl
  rw [e] at ho
  have := h.turnSc ((OnlyP.refl (fun k => L k = some .scp) w).set (p := ⟨g, j * 5 + r, none⟩) (.inl hg) (.int .i64 x)) (h.sc.set hv hj' hr hs ho)
  unfold Pm.setSp
  rw [ej]
  exact this
theorem setSp_n (P : Pm) (a : Int) (s : Sp) : (P.setSp a s).n = P.n := by simp [Pm.setSp, Pm.n]
theorem setSp_sp {P : Pm} {a : Int} (s : Sp) (h : a.toNat - 2 < P.n) : (P.setSp a s).sp a = s := by
  have : a.toNat - 2 < P.scs.length := h
  simp [Pm.setSp, Pm.sp, this]
theorem setSp_twice (P : Pm) (a : Int) (s t : Sp) : (P.setSp a s).setSp a t = P.setSp a t := by simp [Pm.setSp]
/-- The slice of a stack is stored anew, behind what turned that stack's own block alone. -/
theorem PRep.stacked {w1 : World} (h : PRep w L p P X) {t : Nat} (ht : t < 5) {v : Value} {l : List Int} (hg : Only (X.sv t).ownBlock.toList w w1) (hi : Ints w1 0 v l) (hb : ∀ g, v.ownBlock = some g → (X.sv t).ownBlock = some g ∨ (w.heap.size ≤ g ∧ g < w1.heap.size)) :
    ∃ L' X', PRep (w1.setCell ⟨p, 1 + t, none⟩ v) L' p { P with stk := upd P.stk t l } X' ∧ (∀ k, L' k ≠ none → L k ≠ none ∨ w.heap.size ≤ k) ∧ (∀ k, L k ≠ none → L' k = L k) ∧ ((∀ g, v.ownBlock = some g → (X.sv t).ownBlock = some g) → L' = L) ∧ X'.scv = X.scv := by
  obtain ⟨L', hL'⟩ : ∃ L' : Nat → Option Lb, L' = fun k => if v.ownBlock = some k then some (.stk t) else L k := ⟨_, rfl⟩
  have hst := (h.st t ht).2
  have hlab : ∀ k, L k ≠ none → L' k = L k := fun k hk => by
    rw [hL']
    by_cases e : v.ownBlock = some k
    · rcases hb k e with h1 | h1
      · simp only [e, if_true]; exact (hst k h1).symm
      · exact absurd (h.lt k hk) (by omega)
    · simp only [e, if_false]
  have hS : OnlyP (fun k => L k = some (.stk t)) w w1 := hg.toP (fun x hx => .inl (by
    cases e : (X.sv t).ownBlock with
    | none => rw [e] at hx; simp at hx
    | some b => rw [e] at hx; simp at hx; subst hx; exact hst _ e))
  have hne : ∀ k ℓ, ℓ ≠ Lb.stk t → L k = some (.stk t) → L k ≠ some ℓ := fun k ℓ h1 hk e => by rw [hk] at e; cases e; exact h1 rfl
  have hO : OnlyP (fun k => L k = some (.stk t) ∨ L k = some .mem) w (w1.setCell ⟨p, 1 + t, none⟩ v) := (hS.mono (fun x hx => .inl (.inl hx))).set (.inl (.inr h.Lm)) v
  have hne2 : ∀ k ℓ, ℓ ≠ Lb.stk t → ℓ ≠ .mem → (L k = some (.stk t) ∨ L k = some .mem) → L k ≠ some ℓ := fun k ℓ h1 h2 hk e => by
    rcases hk with hk | hk
    · rw [hk] at e; cases e; exact h1 rfl
    · rw [hk] at e; cases e; exact h2 rfl
  have hvne : v.ownBlock ≠ some p := fun e => by
    rcases hb p e with h1 | h1
    · have := hst p h1; rw [h.Lm] at this; cases this
    · have := h.lt p (by rw [h.Lm]; simp); omega
  refine ⟨L', { X with sv := upd X.sv t v }, ⟨fun k hk => ?_, ?_, lab_of hlab h.Lm, (h.sc.only hO (fun k hk => hne2 k .scp (by simp) (by simp) hk)).lab hlab, fun s hs => ?_, h.mp.only hO (fun x => hne2 _ .map (by simp) (by simp) x h.Lp), lab_of hlab h.Lp,
    fun k th hk => ((h.th k th hk).only hO (fun x hx => ⟨hne2 x _ (by simp) (by simp) hx, hne2 x _ (by simp) (by simp) hx⟩)).lab hlab⟩, fun k hk => ?_, hlab, fun hs => ?_, rfl⟩
  · rw [hL'] at hk
    have h1 : (w1.setCell ⟨p, 1 + t, none⟩ v).heap.size = w1.heap.size := by simp [World.setCell]
    rw [h1]
    by_cases e : v.ownBlock = some k
    · rcases hb k e with h2 | h2
      · exact Nat.lt_of_lt_of_le (h.lt k (by rw [hst k h2]; simp)) hg.size
      · exact h2.2
    · simp only [e, if_false] at hk
      exact Nat.lt_of_lt_of_le (h.lt k hk) hg.size
  · obtain ⟨T, hr⟩ := h.mem
    have hr1 := hS.row hr (fun x => hne p .mem (by simp) x h.Lm)
    refine ⟨T, ?_⟩
    have hr2 := hr1.set (1 + t) v
    have e : (memRow X P.made).set (1 + t) v = memRow { X with sv := upd X.sv t v } P.made := by
      unfold memRow
      match t, ht with
      | 0, _ => rfl
      | 1, _ => rfl
      | 2, _ => rfl
      | 3, _ => rfl
      | 4, _ => rfl
    rw [e] at hr2
    exact hr2
  · show Ints _ 0 (upd X.sv t v s) (upd P.stk t l s) ∧ ∀ g, (upd X.sv t v s).ownBlock = some g → L' g = some (.stk s)
    by_cases e : s = t
    · subst e
      simp only [upd_same]
      refine ⟨hi.only ((Only.refl [p] w1).set (p := ⟨p, 1 + s, none⟩) (by simp) v) (fun k hk => by simp; rintro rfl; exact hvne hk), fun g hgv => ?_⟩
      rw [hL']; simp [hgv]
    · simp only [upd_other _ _ e]
      refine ⟨(h.st s hs).1.onlyP hO (fun g hgv x => hne2 g (.stk s) (by simp [e]) (by simp) x ((h.st s hs).2 g hgv)), fun g hgv => lab_of hlab ((h.st s hs).2 g hgv)⟩
  · rw [hL'] at hk
    by_cases e : v.ownBlock = some k
    · rcases hb k e with h1 | h1
      · exact .inl (by rw [hst k h1]; simp)
      · exact .inr h1.1
    · simp only [e, if_false] at hk
      exact .inl hk
  · rw [hL']
    funext k
    by_cases e : v.ownBlock = some k
    · simp only [e, if_true]; exact (hst k (hs k e)).symm
    · simp only [e, if_false]
end
end Go.Proofs.Ytbjmgbbggbbidaa
