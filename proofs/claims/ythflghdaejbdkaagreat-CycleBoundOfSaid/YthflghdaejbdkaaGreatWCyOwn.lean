/- Lemmas of this claim. -/
import Derived.Test.YthflghdaejbdkaaGreatWCyRun
namespace Go.Proofs.YthflghdaejbdkaaGreat
set_option linter.unusedVariables false
set_option maxRecDepth 100000
def obBlk (o : Option Th) : List Int := match o with | none => [] | some o => o.blocks
def Hp.blks (M : Hp) : Nat → List Int
  | 0 => []
  | k + 1 => M.blks k ++ obBlk (M.ob ((k : Int) + 1))
section
variable {M : Hp} {P : Pl}
theorem blks_mem {k : Nat} {a : Int} : a ∈ M.blks k ↔ ∃ j : Nat, j < k ∧ ∃ o, M.ob ((j : Int) + 1) = some o ∧ a ∈ o.blocks := by
  induction k with
  | zero => simp [Hp.blks]
  | succ k ih =>
    unfold Hp.blks
    rw [List.mem_append, ih]
    constructor
    · rintro (⟨j, hj, h⟩ | h)
      · exact ⟨j, by omega, h⟩
      · cases e : M.ob ((k : Int) + 1) with
        | none => rw [e] at h; cases h
        | some o => rw [e] at h; exact ⟨k, by omega, o, e, h⟩
    · rintro ⟨j, hj, o, ho, h⟩
      by_cases e : j = k
      · subst e; right; rw [ho]; exact h
      · left; exact ⟨j, by omega, o, ho, h⟩
theorem blks_len (k : Nat) : (M.blks k).length = sumN (fun j => bLen (M.ob ((j : Int) + 1))) k := by
  induction k with
  | zero => rfl
  | succ k ih =>
    unfold Hp.blks sumN
    rw [List.length_append, ih]
    congr 1
    cases M.ob ((k : Int) + 1) <;> rfl
theorem mem_get {l : List Int} {a : Int} : a ∈ l ↔ ∃ m, m < l.length ∧ gI l m = a := by
  rw [List.mem_iff_getElem]
  constructor
  · rintro ⟨m, hm, e⟩; exact ⟨m, hm, by rw [gI_get hm]; exact e⟩
  · rintro ⟨m, hm, e⟩; exact ⟨m, hm, by rw [gI_get hm] at e; exact e⟩
theorem blks_nodup (hk : M.Ok) (k : Nat) : (M.blks k).Nodup := by
  induction k with
  | zero => exact List.nodup_nil
  | succ k ih =>
    unfold Hp.blks
    rw [List.nodup_append]
    refine ⟨ih, ?_, fun a ha b hb e => ?_⟩
    · cases e : M.ob ((k : Int) + 1) with
      | none => exact List.nodup_nil
      | some o =>
        show o.blocks.Nodup
        rw [List.nodup_iff_pairwise_ne, List.pairwise_iff_getElem]
        intro i j hi hj hij e2
        have := hk.dj _ o e _ o e i hi j hj (by rw [gI_get hi, gI_get hj]; exact e2)
        omega
    · subst e
      obtain ⟨j, hj, o, ho, h1⟩ := blks_mem.1 ha
      cases e2 : M.ob ((k : Int) + 1) with
      | none => rw [e2] at hb; cases hb
      | some o2 =>
        rw [e2] at hb
        obtain ⟨m1, h2, h3⟩ := mem_get.1 h1
        obtain ⟨m2, h4, h5⟩ := mem_get.1 (show a ∈ o2.blocks from hb)
        have := (hk.dj _ o ho _ o2 e2 m1 h2 m2 h4 (h3.trans h5.symm)).1
        omega
theorem Hp.OkF.live_owned (hk : M.OkF) {x : Nat} (hx : x < 16 * M.P.n) (hl : M.P.liveA x = true) : ∃ h o, M.ob h = some o ∧ (x : Int) ∈ o.blocks := by
  have h1 : (M.P.lives (16 * M.P.n)).length = (M.blks 192).length := by
    rw [Pl.lives_len, Pl.liveA_cnt hk.ok.p, blks_len]
    exact hk.full
  have hsub : ∀ a ∈ M.blks 192, a ∈ (M.P.lives (16 * M.P.n)).map (fun (n : Nat) => (n : Int)) := fun a ha => by
    obtain ⟨j, hj, o, ho, h2⟩ := blks_mem.1 ha
    obtain ⟨m, h3, rfl⟩ := mem_get.1 h2
    have hb := hk.ok.bk _ o ho m h3
    have hc := hk.ok.isC ho (m := m) h3
    have h4 := hb.range hc
    have h5 := hb.begin hc
    refine List.mem_map.2 ⟨(gI o.blocks m).toNat, Pl.lives_mem.2 ⟨by have := hc.sz; omega, ?_⟩, by omega⟩
    have h6 : ((gI o.blocks m).toNat : Int) = gI o.blocks m := by omega
    unfold Pl.liveA
    rw [h6, h5]
    simp
  have h2 := (nodup_len (blks_nodup hk.ok 192) hsub).2 (by rw [List.length_map, h1]; exact Nat.le_refl _)
  have h3 := h2 (x : Int) (List.mem_map.2 ⟨x, Pl.lives_mem.2 ⟨hx, hl⟩, rfl⟩)
  obtain ⟨j, hj, o, ho, h4⟩ := blks_mem.1 h3
  exact ⟨_, o, ho, h4⟩
theorem Hp.OkF.move_owned (hk : M.OkF) (he : M.P.move.2.2.1 = 0) : ∃ h o, M.ob h = some o ∧ o.place M.P.move.1 < o.blocks.length := by
  cases hp : M.P.pair with
  | none => rw [Pl.move_none hp] at he; cases he
  | some x =>
    obtain ⟨i, j⟩ := x
    have hp2 := Pl.pair_some hp
    have hcn : (M.P.pg i).cls ≠ -1 := by rcases hp2.c with e | e | e <;> omega
    have ht := (hk.ok.p i hp2.hi).top hcn
    have hblk := hp2.c.blk ht.1
    have hmv : M.P.move.1 = ((16 * i + (M.P.pg i).top (M.P.pg i).cls * bsz (M.P.pg i).cls : Nat) : Int) := by rw [Pl.move_some hp]
    have hb : Blk M.P (M.P.pg i).cls M.P.move.1 (fun y => (M.P.pg i).cell ((M.P.pg i).top (M.P.pg i).cls * bsz (M.P.pg i).cls + y)) := ⟨i, (M.P.pg i).top (M.P.pg i).cls, hmv, ⟨hp2.hi, rfl, ht.1, ht.2, fun _ _ => rfl⟩⟩
    have hbg := hb.begin hp2.c
    rw [hmv] at hbg ⊢
    have hi := hp2.hi
    have hs := hp2.c.sz
    obtain ⟨h, o, ho, hm⟩ := hk.live_owned (x := 16 * i + (M.P.pg i).top (M.P.pg i).cls * bsz (M.P.pg i).cls) (by omega) (by unfold Pl.liveA; rw [hbg]; simp)
    obtain ⟨m, h1, h2⟩ := mem_get.1 hm
    exact ⟨h, o, ho, Th.place_of h1 h2⟩
theorem class_setCell (P : Pl) (a n i : Int) : (P.setCell a n).2.class i = P.class i := by
  unfold Pl.setCell
  split
  · unfold Pl.class
    have hn : (P.set (a.toNat / 16) { P.pg (a.toNat / 16) with cell := up (P.pg (a.toNat / 16)).cell (a.toNat % 16) n }).n = P.n := rfl
    by_cases h : i < 0 ∨ (P.n : Int) ≤ i
    · rw [if_pos h, hn, if_pos h]
    · rw [if_neg h, hn, if_neg h]
      show ((up P.pg (a.toNat / 16) _ i.toNat).cls, (0 : Int)) = _
      by_cases e : i.toNat = a.toNat / 16
      · rw [e, up_same]
      · rw [up_other _ _ e]
  · rfl
theorem move_class (hk : P.ok) (he : P.move.2.2.1 = 0) : (P.move.2.2.2.class (P.move.2.1.tdiv 16)).1 = (P.class (P.move.1.tdiv 16)).1 ∧ 0 ≤ P.move.1 ∧ 0 ≤ P.move.2.1 ∧ P.move.1 < 16 * P.n ∧ P.move.2.1 < 16 * P.n ∧ P.move.2.2.2.n = P.n := by
  cases hp : P.pair with
  | none => rw [Pl.move_none hp] at he; cases he
  | some x =>
    obtain ⟨i, j⟩ := x
    have hp2 := Pl.pair_some hp
    have hcn : (P.pg i).cls ≠ -1 := by rcases hp2.c with e | e | e <;> omega
    have ht := ((hk i hp2.hi).top hcn).1
    have hblk := (hp2.c.blk ht).1
    have hg := ((hk j hp2.hj).gap (c := (P.pg i).cls) hp2.c hp2.pj).1
    have hblk2 := (hp2.c.blk hg).1
    have hs := hp2.c.sz
    have hi := hp2.hi
    have hj := hp2.hj
    rw [Pl.move_some hp]
    rw [hp2.same]
    simp only
    have d1 : (((16 * i + (P.pg i).top (P.pg i).cls * bsz (P.pg i).cls : Nat) : Int)).tdiv 16 = (i : Int) := by
      rw [Int.tdiv_eq_ediv_of_nonneg (by omega)]; omega
    have d2 : (((16 * j + (P.pg j).gap (P.pg i).cls * bsz (P.pg i).cls : Nat) : Int)).tdiv 16 = (j : Int) := by
      rw [Int.tdiv_eq_ediv_of_nonneg (by omega)]; omega
    refine ⟨?_, by omega, by omega, by omega, by omega, rfl⟩
    rw [d1, d2]
    unfold Pl.class
    have hn : (P.moved i j).n = P.n := rfl
    rw [hn, if_neg (by omega), if_neg (by omega), Int.toNat_natCast, Int.toNat_natCast]
    show ((P.moved i j).pg j).cls = (P.pg i).cls
    unfold Pl.moved
    simp only
    show (up (up P.pg j _) i _ j).cls = _
    rw [up_other _ _ (fun e => hp2.ne e.symm), up_same]
    rfl
theorem Hp.OkF.move_what (hk : M.OkF) (he : M.P.move.2.2.1 = 0) : ∃ h o, M.ob h = some o ∧ o.place M.P.move.1 < o.blocks.length ∧ M.move = (h, 0, Hp.moveAt M.P.move.2.2.2 M.ob h o (o.place M.P.move.1) M.P.move.2.1) ∧ M.move.2.2.ob h = some (o.moved (o.place M.P.move.1) M.P.move.2.1) ∧ M.P.move.2.1 ≠ gI o.blocks (o.place M.P.move.1) ∧ (M.move.2.2.P.class (M.P.move.2.1.tdiv 16)).1 = (M.P.class (M.P.move.1.tdiv 16)).1 := by
  obtain ⟨h, o, ho, hp⟩ := hk.move_owned he
  have hm := move_owner hk.ok he ho hp
  refine ⟨h, o, ho, hp, hm, ?_, ?_, ?_⟩
  · rw [hm]
    show setT M.ob h _ h = _
    rw [setT_same]
  · have hc := hk.ok.isC ho (m := o.place M.P.move.1) hp
    have hb := hk.ok.bk h o ho _ hp
    exact hb.moved_fresh hk.ok.p hc he
  · rw [hm]
    show ((if o.place M.P.move.1 = 0 then M.P.move.2.2.2 else _ : Pl).class _).1 = _
    split
    · exact (move_class hk.ok.p he).1
    · rw [class_setCell]; exact (move_class hk.ok.p he).1
end
end Go.Proofs.YthflghdaejbdkaaGreat
