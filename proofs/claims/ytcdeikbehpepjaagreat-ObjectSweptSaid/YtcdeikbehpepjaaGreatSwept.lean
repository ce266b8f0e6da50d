/- Law ObjectSwept: what the sweep does, as plain data. No program is spoken of. -/
import Derived.Test.YtcdeikbehpepjaaGreatReach
namespace Go.Proofs.YtcdeikbehpepjaaGreat
set_option linter.unusedVariables false
set_option maxRecDepth 100000
/-- All slots hold nothing. -/
def Th.bare (o : Th) : Prop := ∀ s, gI o.slots s = 0
/-- On the way to bareness: what is live is as it was, nothing has come or gone; done: these are bare. -/
structure Bared (M N : Hp) (live : Int → Prop) (done : Int → Prop) : Prop where
  ok : N.OkF
  lv : ∀ k, live k → N.ob k = M.ob k
  is : ∀ k, (N.ob k).isSome = (M.ob k).isSome
  ln : ∀ k o o', M.ob k = some o → N.ob k = some o' → o'.slots.length = o.slots.length
  dn : ∀ k o, done k → ¬ live k → N.ob k = some o → o.bare
section
variable {M N : Hp} {live done : Int → Prop}
theorem Bared.start (h : M.OkF) : Bared M M live (fun _ => False) := ⟨h, fun _ _ => rfl, fun _ => rfl, fun k o o' h1 h2 => by rw [h1] at h2; cases h2; rfl, fun k o h => h.elim⟩
theorem Hp.set_zero (h : N.Ok) {x : Int} {o : Th} (ho : N.ob x = some o) {s : Nat} (hs : s < o.slots.length) : N.set x s 0 = (0, ⟨(N.P.setCell (o.addr s) 0).2, setT N.ob x (some (o.put s 0))⟩) := by
  unfold Hp.set
  rw [ho]
  simp only
  rw [if_neg (by omega), Int.toNat_natCast, if_pos (Hp.Ok.fits_zero _)]
theorem Bared.set (h : Bared M N live done) {x : Int} (hx : ¬ live x) {o : Th} (ho : N.ob x = some o) {s : Nat} (hs : s < o.slots.length) :
    (N.set x s 0).1 = 0 ∧ Bared M (N.set x s 0).2 live done ∧ (N.set x s 0).2.ob x = some (o.put s 0) := by
  have e := Hp.set_zero h.ok.ok ho hs
  have hk := h.ok.set x s 0
  rw [e] at hk ⊢
  refine ⟨rfl, ⟨hk, fun k hl => ?_, fun k => ?_, fun k o1 o2 h1 h2 => ?_, fun k o1 hd hl h2 => ?_⟩, setT_same _ _ _⟩
  · show setT N.ob x _ k = _
    rw [setT_other _ _ (show k ≠ x from fun e2 => hx (by rw [← e2]; exact hl))]
    exact h.lv k hl
  · show (setT N.ob x _ k).isSome = _
    by_cases e2 : k = x
    · rw [e2, setT_same, ← h.is x, ho]; rfl
    · rw [setT_other _ _ e2]; exact h.is k
  · rcases setT_some h2 with ⟨e2, e3⟩ | ⟨e2, e3⟩
    · subst e2
      rw [e3]
      show (o.slots.set s 0).length = _
      rw [List.length_set]
      exact h.ln k o1 o h1 ho
    · exact h.ln k o1 o2 h1 e3
  · rcases setT_some h2 with ⟨e2, e3⟩ | ⟨e2, e3⟩
    · subst e2
      intro j
      rw [e3]
      show gI (o.slots.set s 0) j = 0
      rw [gI_set hs]
      split
      · rfl
      · exact h.dn k o hd hl ho j
    · exact h.dn k o1 hd hl e3
theorem Th.bare_refs {o : Th} (h : o.bare) : o.refsL = [] := by
  cases e : o.refsL with
  | nil => rfl
  | cons y l =>
    obtain ⟨s, _, _, h2, h3⟩ := Th.of_mem_refsN (o := o) (k := o.slots.length) (x := y) (by show y ∈ o.refsL; rw [e]; simp)
    exact absurd ((h s).symm.trans h2).symm h3
/-- On the way: of what is not live, these are gone. -/
structure Gone (N0 N : Hp) (live gone : Int → Prop) : Prop where
  ok : N.OkF
  lv : ∀ k, live k → N.ob k = N0.ob k
  no : ∀ k, gone k → ¬ live k → N.ob k = none
  sm : ∀ k o, N.ob k = some o → N0.ob k = some o
  st : ∀ k, ¬ gone k → N.ob k = N0.ob k
theorem Gone.held {N0 N : Hp} {gone : Int → Prop} (h : Gone N0 N live gone) (hb : ∀ k o, ¬ live k → N0.ob k = some o → o.bare) (hc : ∀ k o, live k → N0.ob k = some o → ∀ y, y ∈ o.refsL → live y) {x : Int} (hx : ¬ live x) : N.held x = false := by
  cases e : N.held x with
  | false => rfl
  | true =>
    obtain ⟨k, _, hr⟩ := Hp.held_iff.1 e
    unfold Hp.refers at hr
    cases ho : N.ob ((k : Int) + 1) with
    | none => rw [ho] at hr; simp at hr
    | some o =>
      rw [ho] at hr
      simp at hr
      have h0 := h.sm _ o ho
      by_cases hl : live ((k : Int) + 1)
      · exact absurd (hc _ o hl h0 x hr.2) hx
      · have := Th.bare_refs (hb _ o hl h0)
        rw [this] at hr
        simp at hr
theorem Gone.release {N0 N : Hp} {gone : Int → Prop} (h : Gone N0 N live gone) (hb : ∀ k o, ¬ live k → N0.ob k = some o → o.bare) (hc : ∀ k o, live k → N0.ob k = some o → ∀ y, y ∈ o.refsL → live y) {x : Int} (hx : ¬ live x) {o : Th} (ho : N.ob x = some o) :
    (N.release x).1 = 0 ∧ Gone N0 (N.release x).2 live (fun k => gone k ∨ k = x) := by
  have hk := h.ok.release x
  have e := release_ok ho (h.held hb hc hx)
  rw [e] at hk ⊢
  refine ⟨rfl, hk, fun k hl => ?_, fun k hg hl => ?_, fun k o2 h2 => ?_, fun k hg => ?_⟩
  · show setT N.ob x none k = _
    rw [setT_other _ _ (show k ≠ x from fun e2 => hx (by rw [← e2]; exact hl))]
    exact h.lv k hl
  · show setT N.ob x none k = none
    by_cases e2 : k = x
    · rw [e2, setT_same]
    · rw [setT_other _ _ e2]
      rcases hg with hg | hg
      · exact h.no k hg hl
      · exact absurd hg e2
  · have h3 : setT N.ob x none k = some o2 := h2
    by_cases e2 : k = x
    · rw [e2, setT_same] at h3; cases h3
    · rw [setT_other _ _ e2] at h3; exact h.sm k o2 h3
  · show setT N.ob x none k = _
    rw [setT_other _ _ (fun e2 => hg (.inr e2))]
    exact h.st k (fun e2 => hg (.inl e2))
theorem handlesN_reach {N M : Hp} {roots : List Int} (h : ∀ k, (N.ob k).isSome = true ↔ M.Rch roots k) (j : Nat) : N.handlesN j = M.reachN roots j := by
  induction j with
  | zero => rfl
  | succ j ih =>
    unfold Hp.handlesN Hp.reachN
    rw [ih]
    by_cases e : M.Rch roots ((j : Int) + 1)
    · rw [if_pos e, if_pos ((h _).2 e)]
    · rw [if_neg e, if_neg (fun x => e ((h _).1 x))]
theorem handles_reach {N M : Hp} {roots : List Int} (h : ∀ k, (N.ob k).isSome = true ↔ M.Rch roots k) : N.handles = M.reachL roots := by
  unfold Hp.handles Hp.reachL
  exact handlesN_reach h 192
/-- One more is bare. -/
theorem Bared.next (h : Bared M N live done) {x : Int} {o : Th} (ho : N.ob x = some o) (hz : ∀ j, j < o.slots.length → gI o.slots j = 0) : Bared M N live (fun k => done k ∨ k = x) :=
  ⟨h.ok, h.lv, h.is, h.ln, fun k o2 hd hl h2 => by
    rcases hd with hd | hd
    · exact h.dn k o2 hd hl h2
    · rw [hd, ho] at h2
      cases h2
      intro j
      by_cases e : j < o.slots.length
      · exact hz j e
      · exact gI_out (by omega)⟩
theorem Bared.alive (h : Bared M N live done) {x : Int} (hx : live x) : Bared M N live (fun k => done k ∨ k = x) :=
  ⟨h.ok, h.lv, h.is, h.ln, fun k o2 hd hl h2 => by
    rcases hd with hd | hd
    · exact h.dn k o2 hd hl h2
    · exact absurd (by rw [hd]; exact hx) hl⟩
theorem Gone.start {N : Hp} (h : N.OkF) : Gone N N live (fun _ => False) := ⟨h, fun _ _ => rfl, fun _ h => h.elim, fun _ _ h => h, fun _ _ => rfl⟩
end
end Go.Proofs.YtcdeikbehpepjaaGreat
