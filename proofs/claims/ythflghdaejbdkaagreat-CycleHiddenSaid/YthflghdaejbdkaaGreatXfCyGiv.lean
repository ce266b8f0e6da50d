/- Lemmas of this claim. -/
import Derived.Test.YthflghdaejbdkaaGreatXfCyRun
import Derived.Test.YthflghdaejbdkaaGreatXfReach
import Derived.Test.YthflghdaejbdkaaGreatXfOFull
namespace Go.Proofs.YthflghdaejbdkaaGreat
set_option linter.unusedVariables false
set_option maxRecDepth 100000
def obBlk (o : Option Th) : List Int := match o with | none => [] | some o => o.blocks
def Hp.blks (M : Hp) : Nat → List Int
  | 0 => []
  | k + 1 => M.blks k ++ obBlk (M.ob ((k : Int) + 1))
section
variable {M : Hp} {P : Pl}
theorem blks_mem {k : Nat} {a : Int} : a ∈ M.blks k ↔ ∃ j : Nat, j < k ∧ ∃ o, M.ob ((j : Int) + 1) = some o ∧ a ∈ o.blocks := by
  induction k with
  | zero => simp [Hp.blks]
  | succ k ih =>
    unfold Hp.blks
    rw [List.mem_append, ih]
    constructor
    · rintro (⟨j, hj, h⟩ | h)
      · exact ⟨j, by omega, h⟩
      · cases e : M.ob ((k : Int) + 1) with
        | none => rw [e] at h; cases h
        | some o => rw [e] at h; exact ⟨k, by omega, o, e, h⟩
    · rintro ⟨j, hj, o, ho, h⟩
      by_cases e : j = k
      · subst e; right; rw [ho]; exact h
      · left; exact ⟨j, by omega, o, ho, h⟩
theorem blks_len (k : Nat) : (M.blks k).length = sumN (fun j => bLen (M.ob ((j : Int) + 1))) k := by
  induction k with
  | zero => rfl
  | succ k ih =>
    unfold Hp.blks sumN
    rw [List.length_append, ih]
    congr 1
    cases M.ob ((k : Int) + 1) <;> rfl
theorem mem_get {l : List Int} {a : Int} : a ∈ l ↔ ∃ m, m < l.length ∧ gI l m = a := by
  rw [List.mem_iff_getElem]
  constructor
  · rintro ⟨m, hm, e⟩; exact ⟨m, hm, by rw [gI_get hm]; exact e⟩
  · rintro ⟨m, hm, e⟩; exact ⟨m, hm, by rw [gI_get hm] at e; exact e⟩
theorem blks_nodup (hk : M.Ok) (k : Nat) : (M.blks k).Nodup := by
  induction k with
  | zero => exact List.nodup_nil
  | succ k ih =>
    unfold Hp.blks
    rw [List.nodup_append]
    refine ⟨ih, ?_, fun a ha b hb e => ?_⟩
    · cases e : M.ob ((k : Int) + 1) with
      | none => exact List.nodup_nil
      | some o =>
        show o.blocks.Nodup
        rw [List.nodup_iff_pairwise_ne, List.pairwise_iff_getElem]
        intro i j hi hj hij e2
        have := hk.dj _ o e _ o e i hi j hj (by rw [gI_get hi, gI_get hj]; exact e2)
        omega
    · subst e
      obtain ⟨j, hj, o, ho, h1⟩ := blks_mem.1 ha
      cases e2 : M.ob ((k : Int) + 1) with
      | none => rw [e2] at hb; cases hb
      | some o2 =>
        rw [e2] at hb
        obtain ⟨m1, h2, h3⟩ := mem_get.1 h1
        obtain ⟨m2, h4, h5⟩ := mem_get.1 (show a ∈ o2.blocks from hb)
        have := (hk.dj _ o ho _ o2 e2 m1 h2 m2 h4 (h3.trans h5.symm)).1
        omega
theorem Hp.OkF.live_owned (hk : M.OkF) {x : Nat} (hx : x < 16 * M.P.n) (hl : M.P.liveA x = true) : ∃ h o, M.ob h = some o ∧ (x : Int) ∈ o.blocks := by
  have h1 : (M.P.lives (16 * M.P.n)).length = (M.blks 192).length := by
    rw [Pl.lives_len, Pl.liveA_cnt hk.ok.p, blks_len]
    exact hk.full
  have hsub : ∀ a ∈ M.blks 192, a ∈ (M.P.lives (16 * M.P.n)).map (fun (n : Nat) => (n : Int)) := fun a ha => by
    obtain ⟨j, hj, o, ho, h2⟩ := blks_mem.1 ha
    obtain ⟨m, h3, rfl⟩ := mem_get.1 h2
    have hb := hk.ok.bk _ o ho m h3
    have hc := hk.ok.isC ho (m := m) h3
    have h4 := hb.range hc
    have h5 := hb.begin hc
    refine List.mem_map.2 ⟨(gI o.blocks m).toNat, Pl.lives_mem.2 ⟨by have := hc.sz; omega, ?_⟩, by omega⟩
    have h6 : ((gI o.blocks m).toNat : Int) = gI o.blocks m := by omega
    unfold Pl.liveA
    rw [h6, h5]
    simp
  have h2 := (nodup_len (blks_nodup hk.ok 192) hsub).2 (by rw [List.length_map, h1]; exact Nat.le_refl _)
  have h3 := h2 (x : Int) (List.mem_map.2 ⟨x, Pl.lives_mem.2 ⟨hx, hl⟩, rfl⟩)
  obtain ⟨j, hj, o, ho, h4⟩ := blks_mem.1 h3
  exact ⟨_, o, ho, h4⟩
theorem Hp.OkF.move_owned (hk : M.OkF) (he : M.P.move.2.2.1 = 0) : ∃ h o, M.ob h = some o ∧ o.place M.P.move.1 < o.blocks.length := by
  cases hp : M.P.pair with
  | none => rw [Pl.move_none hp] at he; cases he
  | some x =>
    obtain ⟨i, j⟩ := x
    have hp2 := Pl.pair_some hp
    have hcn : (M.P.pg i).cls ≠ -1 := by rcases hp2.c with e | e | e <;> omega
    have ht := (hk.ok.p i hp2.hi).top hcn
    have hblk := hp2.c.blk ht.1
    have hmv : M.P.move.1 = ((16 * i + (M.P.pg i).top (M.P.pg i).cls * bsz (M.P.pg i).cls : Nat) : Int) := by rw [Pl.move_some hp]
    have hb : Blk M.P (M.P.pg i).cls M.P.move.1 (fun y => (M.P.pg i).cell ((M.P.pg i).top (M.P.pg i).cls * bsz (M.P.pg i).cls + y)) := ⟨i, (M.P.pg i).top (M.P.pg i).cls, hmv, ⟨hp2.hi, rfl, ht.1, ht.2, fun _ _ => rfl⟩⟩
    have hbg := hb.begin hp2.c
    rw [hmv] at hbg ⊢
    have hi := hp2.hi
    have hs := hp2.c.sz
    obtain ⟨h, o, ho, hm⟩ := hk.live_owned (x := 16 * i + (M.P.pg i).top (M.P.pg i).cls * bsz (M.P.pg i).cls) (by omega) (by unfold Pl.liveA; rw [hbg]; simp)
    obtain ⟨m, h1, h2⟩ := mem_get.1 hm
    exact ⟨h, o, ho, Th.place_of h1 h2⟩
theorem class_setCell (P : Pl) (a n i : Int) : (P.setCell a n).2.class i = P.class i := by
  unfold Pl.setCell
  split
  · unfold Pl.class
    have hn : (P.set (a.toNat / 16) { P.pg (a.toNat / 16) with cell := up (P.pg (a.toNat / 16)).cell (a.toNat % 16) n }).n = P.n := rfl
    by_cases h : i < 0 ∨ (P.n : Int) ≤ i
    · rw [if_pos h, hn, if_pos h]
    · rw [if_neg h, hn, if_neg h]
      show ((up P.pg (a.toNat / 16) _ i.toNat).cls, (0 : Int)) = _
      by_cases e : i.toNat = a.toNat / 16
      · rw [e, up_same]
      · rw [up_other _ _ e]
  · rfl
theorem move_class (hk : P.ok) (he : P.move.2.2.1 = 0) : (P.move.2.2.2.class (P.move.2.1.tdiv 16)).1 = (P.class (P.move.1.tdiv 16)).1 ∧ 0 ≤ P.move.1 ∧ 0 ≤ P.move.2.1 ∧ P.move.1 < 16 * P.n ∧ P.move.2.1 < 16 * P.n ∧ P.move.2.2.2.n = P.n := by
  cases hp : P.pair with
  | none => rw [Pl.move_none hp] at he; cases he
  | some x =>
    obtain ⟨i, j⟩ := x
    have hp2 := Pl.pair_some hp
    have hcn : (P.pg i).cls ≠ -1 := by rcases hp2.c with e | e | e <;> omega
    have ht := ((hk i hp2.hi).top hcn).1
    have hblk := (hp2.c.blk ht).1
    have hg := ((hk j hp2.hj).gap (c := (P.pg i).cls) hp2.c hp2.pj).1
    have hblk2 := (hp2.c.blk hg).1
    have hs := hp2.c.sz
    have hi := hp2.hi
    have hj := hp2.hj
    rw [Pl.move_some hp]
    rw [hp2.same]
    simp only
    have d1 : (((16 * i + (P.pg i).top (P.pg i).cls * bsz (P.pg i).cls : Nat) : Int)).tdiv 16 = (i : Int) := by
      rw [Int.tdiv_eq_ediv_of_nonneg (by omega)]; omega
    have d2 : (((16 * j + (P.pg j).gap (P.pg i).cls * bsz (P.pg i).cls : Nat) : Int)).tdiv 16 = (j : Int) := by
      rw [Int.tdiv_eq_ediv_of_nonneg (by omega)]; omega
    refine ⟨?_, by omega, by omega, by omega, by omega, rfl⟩
    rw [d1, d2]
    unfold Pl.class
    have hn : (P.moved i j).n = P.n := rfl
    rw [hn, if_neg (by omega), if_neg (by omega), Int.toNat_natCast, Int.toNat_natCast]
    show ((P.moved i j).pg j).cls = (P.pg i).cls
    unfold Pl.moved
    simp only
    show (up (up P.pg j _) i _ j).cls = _
    rw [up_other _ _ (fun e => hp2.ne e.symm), up_same]
    rfl
theorem Hp.OkF.move_what (hk : M.OkF) (he : M.P.move.2.2.1 = 0) : ∃ h o, M.ob h = some o ∧ o.place M.P.move.1 < o.blocks.length ∧ M.move = (h, 0, Hp.moveAt M.P.move.2.2.2 M.ob h o (o.place M.P.move.1) M.P.move.2.1) ∧ M.move.2.2.ob h = some (o.moved (o.place M.P.move.1) M.P.move.2.1) ∧ M.P.move.2.1 ≠ gI o.blocks (o.place M.P.move.1) ∧ (M.move.2.2.P.class (M.P.move.2.1.tdiv 16)).1 = (M.P.class (M.P.move.1.tdiv 16)).1 := by
  obtain ⟨h, o, ho, hp⟩ := hk.move_owned he
  have hm := move_owner hk.ok he ho hp
  refine ⟨h, o, ho, hp, hm, ?_, ?_, ?_⟩
  · rw [hm]
    show setT M.ob h _ h = _
    rw [setT_same]
  · have hc := hk.ok.isC ho (m := o.place M.P.move.1) hp
    have hb := hk.ok.bk h o ho _ hp
    exact hb.moved_fresh hk.ok.p hc he
  · rw [hm]
    show ((if o.place M.P.move.1 = 0 then M.P.move.2.2.2 else _ : Pl).class _).1 = _
    split
    · exact (move_class hk.ok.p he).1
    · rw [class_setCell]; exact (move_class hk.ok.p he).1
end
end Go.Proofs.YthflghdaejbdkaaGreat
namespace Go.Proofs.YthflghdaejbdkaaGreat
set_option linter.unusedVariables false
set_option maxRecDepth 100000
section
variable {c : Co}
theorem Co.Okc.stepT_M (h : c.Okc) (hp : c.ph = 2) : c.stepT.m.M = c.m.M := (h.tg.step (h.mo (.inr hp))).2.2.1
end
end Go.Proofs.YthflghdaejbdkaaGreat
namespace Go.Proofs.YthflghdaejbdkaaGreat
set_option linter.unusedVariables false
set_option maxRecDepth 100000
def Th.bare (o : Th) : Prop := ∀ s, gI o.slots s = 0
section
variable {M N : Hp} {live done : Int → Prop}
theorem Hp.set_zero (h : N.Ok) {x : Int} {o : Th} (ho : N.ob x = some o) {s : Nat} (hs : s < o.slots.length) : N.set x s 0 = (0, ⟨(N.P.setCell (o.addr s) 0).2, setT N.ob x (some (o.put s 0))⟩) := by
  unfold Hp.set
  rw [ho]
  simp only
  rw [if_neg (by omega), Int.toNat_natCast, if_pos (Hp.Ok.fits_zero _)]
theorem Th.bare_refs {o : Th} (h : o.bare) : o.refsL = [] := by
  cases e : o.refsL with
  | nil => rfl
  | cons y l =>
    obtain ⟨s, _, _, h2, h3⟩ := Th.of_mem_refsN (o := o) (k := o.slots.length) (x := y) (by show y ∈ o.refsL; rw [e]; simp)
    exact absurd ((h s).symm.trans h2).symm h3
structure Gone (N0 N : Hp) (live gone : Int → Prop) : Prop where
  ok : N.OkF
  lv : ∀ k, live k → N.ob k = N0.ob k
  no : ∀ k, gone k → ¬ live k → N.ob k = none
  sm : ∀ k o, N.ob k = some o → N0.ob k = some o
  st : ∀ k, ¬ gone k → N.ob k = N0.ob k
theorem Gone.held {N0 N : Hp} {gone : Int → Prop} (h : Gone N0 N live gone) (hb : ∀ k o, ¬ live k → N0.ob k = some o → o.bare) (hc : ∀ k o, live k → N0.ob k = some o → ∀ y, y ∈ o.refsL → live y) {x : Int} (hx : ¬ live x) : N.held x = false := by
  cases e : N.held x with
  | false => rfl
  | true =>
    obtain ⟨k, _, hr⟩ := Hp.held_iff.1 e
    unfold Hp.refers at hr
    cases ho : N.ob ((k : Int) + 1) with
    | none => rw [ho] at hr; simp at hr
    | some o =>
      rw [ho] at hr
      simp at hr
      have h0 := h.sm _ o ho
      by_cases hl : live ((k : Int) + 1)
      · exact absurd (hc _ o hl h0 x hr.2) hx
      · have := Th.bare_refs (hb _ o hl h0)
        rw [this] at hr
        simp at hr
end
end Go.Proofs.YthflghdaejbdkaaGreat
namespace Go.Proofs.YthflghdaejbdkaaGreat
set_option linter.unusedVariables false
set_option maxRecDepth 100000
section
variable {M : Hp} {h : Int} {o : Th}
theorem isRef_some (ho : M.ob h = some o) {k : Nat} (hk : k < o.slots.length) : (M.isRef h (k : Int)).1 = gB o.refs k := by
  unfold Hp.isRef
  rw [ho]
  show (if _ then _ else _ : Bool × Int).1 = _
  rw [if_neg (by omega), Int.toNat_natCast]
structure BlankT (o o' : Th) (k : Nat) : Prop where
  rf : o'.refs = o.refs
  ln : o'.slots.length = o.slots.length
  z : ∀ j, j < k → gB o.refs j = true → gI o'.slots j = 0
  w : ∀ j, gB o.refs j = false → gI o'.slots j = gI o.slots j
  r : ∀ j, k ≤ j → gI o'.slots j = gI o.slots j
theorem blankS_ob (hk : M.OkF) (ho : M.ob h = some o) : ∀ k, k ≤ o.slots.length → (∀ y, y ≠ h → (M.blankS h k).ob y = M.ob y) ∧ ∃ o', (M.blankS h k).ob h = some o' ∧ BlankT o o' k
  | 0, _ => ⟨fun _ _ => rfl, o, ho, rfl, rfl, fun j hj => by omega, fun _ _ => rfl, fun _ _ => rfl⟩
  | k + 1, hkl => by
    obtain ⟨h1, o', h2, h3⟩ := blankS_ob hk ho k (by omega)
    have hok := (blankS_facts hk h k).1
    have hlt : k < o'.slots.length := by rw [h3.ln]; omega
    have hr := isRef_some h2 hlt
    unfold Hp.blankS
    split
    · rename_i e
      rw [hr, h3.rf] at e
      have e2 := Hp.set_zero hok.ok h2 hlt
      rw [e2]
      refine ⟨fun y hy => ?_, o'.put k 0, setT_same _ _ _, h3.rf, ?_, fun j hj hj2 => ?_, fun j hj => ?_, fun j hj => ?_⟩
      · show setT (M.blankS h k).ob h _ y = _
        rw [setT_other _ _ hy]
        exact h1 y hy
      · show (o'.slots.set k 0).length = _
        rw [List.length_set]; exact h3.ln
      · show gI (o'.slots.set k 0) j = 0
        rw [gI_set hlt]
        split
        · rfl
        · exact h3.z j (by omega) hj2
      · show gI (o'.slots.set k 0) j = _
        rw [gI_set hlt, if_neg (fun e3 => by rw [e3, e] at hj; cases hj)]
        exact h3.w j hj
      · show gI (o'.slots.set k 0) j = _
        rw [gI_set hlt, if_neg (by omega)]
        exact h3.r j (by omega)
    · rename_i e
      rw [hr, h3.rf] at e
      refine ⟨h1, o', h2, h3.rf, h3.ln, fun j hj hj2 => ?_, h3.w, fun j hj => h3.r j (by omega)⟩
      by_cases ej : j = k
      · rw [ej] at hj2; exact absurd hj2 e
      · exact h3.z j (by omega) hj2
theorem blank_ob (hk : M.OkF) (ho : M.ob h = some o) : (∀ y, y ≠ h → (M.blank h).ob y = M.ob y) ∧ ∃ o', (M.blank h).ob h = some o' ∧ BlankT o o' o.slots.length := by
  have hl : (M.len h).toNat = o.slots.length := by unfold Hp.len Hp.type; rw [ho]; exact Int.toNat_natCast _
  unfold Hp.blank
  rw [hl]
  exact blankS_ob hk ho _ (Nat.le_refl _)
theorem blankL_ob (hk : M.OkF) {l : List Int} (hn : l.Nodup) (hu : ∀ x ∈ l, (M.ob x).isSome = true) : ∀ k, k ≤ l.length → (∀ y, (∀ j, j < k → gI l j ≠ y) → (M.blankL l k).ob y = M.ob y) ∧ ∀ j, j < k → ∃ o o', M.ob (gI l j) = some o ∧ (M.blankL l k).ob (gI l j) = some o' ∧ BlankT o o' o.slots.length
  | 0, _ => ⟨fun _ _ => rfl, fun j hj => by omega⟩
  | k + 1, hkl => by
    obtain ⟨h1, h2⟩ := blankL_ob hk hn hu k (by omega)
    have hok := (blankL_facts hk l k).1
    have hinj : ∀ j, j < k → gI l j ≠ gI l k := fun j hj e => by
      rw [gI_get (show j < l.length by omega), gI_get (show k < l.length by omega)] at e
      have := (List.pairwise_iff_getElem.1 (List.nodup_iff_pairwise_ne.1 hn)) j k (by omega) (by omega) hj
      exact this e
    obtain ⟨o, ho⟩ := Option.isSome_iff_exists.1 (hu (gI l k) (mem_gI.2 ⟨k, by omega, rfl⟩))
    have ho2 : (M.blankL l k).ob (gI l k) = some o := by rw [h1 _ hinj]; exact ho
    obtain ⟨h3, o', h4, h5⟩ := blank_ob hok ho2
    refine ⟨fun y hy => ?_, fun j hj => ?_⟩
    · show ((M.blankL l k).blank (gI l k)).ob y = _
      rw [h3 y (fun e => hy k (by omega) e.symm)]
      exact h1 y (fun j hj => hy j (by omega))
    · by_cases e : j = k
      · rw [e]; exact ⟨o, o', ho, h4, h5⟩
      · obtain ⟨o1, o2, a1, a2, a3⟩ := h2 j (by omega)
        refine ⟨o1, o2, a1, ?_, a3⟩
        show ((M.blankL l k).blank (gI l k)).ob (gI l j) = _
        rw [h3 _ (hinj j (by omega))]
        exact a2
theorem blankAll_ob (hk : M.OkF) {l : List Int} (hn : l.Nodup) (hu : ∀ x ∈ l, (M.ob x).isSome = true) : (∀ y, y ∉ l → (M.blankL l l.length).ob y = M.ob y) ∧ ∀ x, x ∈ l → ∃ o o', M.ob x = some o ∧ (M.blankL l l.length).ob x = some o' ∧ BlankT o o' o.slots.length := by
  obtain ⟨h1, h2⟩ := blankL_ob hk hn hu l.length (Nat.le_refl _)
  refine ⟨fun y hy => h1 y (fun j hj e => hy (mem_gI.2 ⟨j, hj, e⟩)), fun x hx => ?_⟩
  obtain ⟨j, hj, e⟩ := mem_gI.1 hx
  rw [← e]
  exact h2 j hj
end
section
variable {c : Co} {M0 : Hp} {roots : List Int}
end
end Go.Proofs.YthflghdaejbdkaaGreat
namespace Go.Proofs.YthflghdaejbdkaaGreat
set_option linter.unusedVariables false
set_option maxRecDepth 100000
set_option maxHeartbeats 1600000
section
variable {c : Co}
theorem sweepTo_cred (c : Co) (n : Int) (s : List Int) : ({ c with cr := n } : Co).sweepTo s = (1, { (c.sweepTo s).2 with cr := n }) := rfl
theorem step_cred (c : Co) (n : Int) (hp : c.ph ≠ 0) : ({ c with cr := n } : Co).step = (c.step.1, c.step.2.1, if c.step.2.2.ph = 0 then c.step.2.2 else { c.step.2.2 with cr := n }) := by
  unfold Co.step
  rw [if_neg hp, if_neg (show ¬ ({ c with cr := n } : Co).ph = 0 from hp)]
  by_cases h1 : c.ph = 1
  · rw [if_pos h1, if_pos (show ({ c with cr := n } : Co).ph = 1 from h1)]
    by_cases hl : c.m.list = []
    · rw [if_pos hl, if_pos (show ({ c with cr := n } : Co).m.list = [] from hl)]
      rw [if_neg (show ¬ c.refsB.2.ph = 0 by show ¬ (2 : Nat) = 0; decide)]
      rfl
    · rw [if_neg hl, if_neg (show ¬ ({ c with cr := n } : Co).m.list = [] from hl)]
      rw [if_neg (show ¬ c.mark.2.ph = 0 from hp)]
      rfl
  rw [if_neg h1, if_neg (show ¬ ({ c with cr := n } : Co).ph = 1 from h1)]
  by_cases h2 : c.ph = 2
  · rw [if_pos h2, if_pos (show ({ c with cr := n } : Co).ph = 2 from h2)]
    rw [Co.refs_eq, Co.refs_eq]
    have hT : ({ c with cr := n } : Co).stepT = { c.stepT with cr := n } := rfl
    by_cases e0 : (c.t.step c.m).2.2.1 = 0
    · rw [if_pos e0, if_pos (show (({ c with cr := n } : Co).t.step ({ c with cr := n } : Co).m).2.2.1 = 0 from e0)]
      show _ = (_, _, if c.ph = 0 then _ else _)
      rw [if_neg hp, hT]
    · rw [if_neg e0, if_neg (show ¬ (({ c with cr := n } : Co).t.step ({ c with cr := n } : Co).m).2.2.1 = 0 from e0), hT]
      have hd : c.stepT.ph ≠ 0 := hp
      generalize c.stepT = d at *
      unfold Co.tail
      by_cases hl : d.m.list = []
      · rw [if_pos hl, if_pos (show ({ d with cr := n } : Co).m.list = [] from hl)]
        unfold Co.sweepB
        rw [sweepTo_cred]
        show ((1 : Int), (0 : Int), ({ (d.sweepTo d.m.white).2 with cr := n } : Co)) = (1, 0, if (3 : Nat) = 0 then _ else _)
        rw [if_neg (show ¬ (3 : Nat) = 0 by decide)]
      · rw [if_neg hl, if_neg (show ¬ ({ d with cr := n } : Co).m.list = [] from hl)]
        show _ = (_, _, if d.ph = 0 then _ else _)
        rw [if_neg hd]
        rfl
  rw [if_neg h2, if_neg (show ¬ ({ c with cr := n } : Co).ph = 2 from h2)]
  by_cases h3 : c.ph = 3
  · rw [if_pos h3, if_pos (show ({ c with cr := n } : Co).ph = 3 from h3)]
    unfold Co.free
    cases e : c.sw with
    | nil => rfl
    | cons x r =>
      show _ = (_, _, if c.ph = 0 then _ else _)
      rw [if_neg hp]
  rw [if_neg h3, if_neg (show ¬ ({ c with cr := n } : Co).ph = 3 from h3)]
  unfold Co.move
  by_cases hc : c.mv = 8 * c.pages ∨ c.m.M.P.move.2.2.1 ≠ 0
  · rw [if_pos hc, if_pos (by exact hc)]
    rfl
  · rw [if_neg hc, if_neg (by exact hc)]
    show _ = (_, _, if c.ph = 0 then _ else _)
    rw [if_neg hp]
theorem pay_eq (hp : c.ph ≠ 0) : c.pay = if c.step.2.2.ph = 0 then c.step.2.2 else { c.step.2.2 with cr := c.cr - c.step.1 } := by
  unfold Co.pay
  rw [step_cred c _ hp]
end
end Go.Proofs.YthflghdaejbdkaaGreat
