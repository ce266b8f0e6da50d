/- Lemmas of this claim. -/
import Derived.Test.YthflghdaejbdkaaKOMoved
import Derived.Test.YthflghdaejbdkaaKBPlain
namespace Go.Proofs.Ythflghdaejbdkaa
set_option linter.unusedVariables false
set_option maxRecDepth 100000
def Pl.all (P : Pl) : Nat := sumN (fun i => (P.pg i).count) P.n
section
variable {P : Pl}
theorem Pl.all_setCell (h : P.ok) (a n : Int) : (P.setCell a n).2.all = P.all := by
  unfold Pl.all
  rw [(h.setCell a n).2]
  refine sumN_congr fun i _ => ?_
  unfold Pg.count
  rw [(setCell_pg i).2]
theorem Pl.all_alloc (h : P.ok) {c : Int} (he : (P.alloc c).2.1 = 0) : (P.alloc c).2.2.all = P.all + 1 := by
  rcases P.alloc_cases c with hb | ⟨hcl, ⟨i, hi, hp, hb⟩ | ⟨hn, ⟨i, hi, hp, hb⟩ | hf⟩⟩
  · rw [Pl.alloc_bad hb] at he; cases he
  · rw [Pl.alloc_part hcl hi hp hb]
    have hg := (h i hi).gap hcl hp
    have hs := hcl.sz
    have := sumN_up (f := fun x => (P.pg x).count) (g := fun x => ((P.set i ((P.pg i).take c ((P.pg i).gap c) fun _ => 0)).pg x).count) hi (fun j hj e => by simp only [Pl.set_other _ _ e])
    simp only [Pl.set_same] at this
    have e2 : ((P.pg i).take c ((P.pg i).gap c) fun _ => 0).count = (P.pg i).count + 1 := cnt_set (by omega) hg.2
    rw [e2] at this
    show sumN (fun x => ((P.set i ((P.pg i).take c ((P.pg i).gap c) fun _ => 0)).pg x).count) P.n = P.all + 1
    unfold Pl.all
    omega
  · rw [Pl.alloc_new hcl hn hi hp hb]
    have hg := (h i hi).ge
    have hu := (h i hi).free (by omega) 0
    have := sumN_up (f := fun x => (P.pg x).count) (g := fun x => ((P.set i ((P.pg i).take c 0 fun _ => 0)).pg x).count) hi (fun j hj e => by simp only [Pl.set_other _ _ e])
    simp only [Pl.set_same] at this
    have e2 : ((P.pg i).take c 0 fun _ => 0).count = (P.pg i).count + 1 := cnt_set (by omega) hu
    rw [e2] at this
    show sumN (fun x => ((P.set i ((P.pg i).take c 0 fun _ => 0)).pg x).count) P.n = P.all + 1
    unfold Pl.all
    omega
  · rw [Pl.alloc_full hcl hn hf] at he; cases he
theorem allocN_all (hok : P.ok) {l : List Int} (hl : ∀ m, m < l.length → IsC (gI l m)) : ∀ k, k ≤ l.length → ∀ bs Q, allocN P l k = some (bs, Q) → Q.all = P.all + k := by
  intro k
  induction k with
  | zero =>
    intro _ bs Q e
    unfold allocN at e
    cases e
    rfl
  | succ k ih =>
    intro hk bs Q e
    unfold allocN at e
    cases e1 : allocN P l k with
    | none => rw [e1] at e; cases e
    | some x =>
      obtain ⟨bs', Q'⟩ := x
      rw [e1] at e
      simp only at e
      split at e
      · rename_i he
        cases e
        have s := allocN_spec hok hl k (by omega) bs' Q' e1
        rw [Pl.all_alloc s.ok he, ih (by omega) bs' Q' e1]; omega
      · cases e
theorem putN_all (hok : P.ok) (a : Int) (l : List Int) (k : Nat) : (putN P a l k).all = P.all := by
  induction k with
  | zero => rfl
  | succ k ih => unfold putN; rw [Pl.all_setCell (putN_keep hok a l k).1, ih]
theorem headP_all (hok : P.ok) (h : Int) (bs : List Int) : (headP P h bs).all = P.all := by
  unfold headP
  rw [putN_all (hok.setCell _ _).1, Pl.all_setCell hok]
end
def bLen (o : Option Th) : Nat := match o with | none => 0 | some o => o.blocks.length
def obSum (ob : Int → Option Th) : Nat := sumN (fun k => bLen (ob ((k : Int) + 1))) 192
theorem obSum_set {ob : Int → Option Th} {h : Int} (h1 : 1 ≤ h ∧ h ≤ 192) (x : Option Th) : obSum (setT ob h x) + bLen (ob h) = obSum ob + bLen x := by
  obtain ⟨i, hi, rfl⟩ : ∃ i : Nat, i < 192 ∧ h = (i : Int) + 1 := ⟨(h - 1).toNat, by omega, by omega⟩
  have := sumN_up (f := fun k => bLen (ob ((k : Int) + 1))) (g := fun k => bLen (setT ob ((i : Int) + 1) x ((k : Int) + 1))) hi (fun j hj e => by show bLen (setT ob ((i : Int) + 1) x ((j : Int) + 1)) = bLen (ob ((j : Int) + 1)); rw [setT_other _ _ (by omega)])
  simp only [setT_same] at this
  exact this
def Hp.Full (M : Hp) : Prop := M.P.all = obSum M.ob
structure Hp.OkF (M : Hp) : Prop where
  ok : M.Ok
  full : M.Full
section
variable {M : Hp} {h : Int} {o : Th}
theorem Hp.OkF.new {n : Nat} (h1 : 1 ≤ n) (h24 : n ≤ 24) : (Hp.new n).OkF := ⟨Hp.Ok.new h1 h24, by
  show sumN (fun i => Pg.zero.count) n = sumN (fun k => 0) 192
  have e1 : sumN (fun i => Pg.zero.count) n = 0 := sumN_zero.2 (fun i _ => cnt_zero (fun _ _ => rfl))
  have e2 : sumN (fun k => 0) 192 = 0 := sumN_zero.2 (fun i _ => rfl)
  rw [e1, e2]⟩
theorem Hp.OkF.add (hk : M.OkF) (ho : o.ok1) (hz : ∀ s, gI o.slots s = 0) : (M.add o).2.2.OkF := by
  refine ⟨hk.ok.add ho hz, ?_⟩
  unfold Hp.add
  split
  · rename_i hl
    have hnone := M.least_spec hl
    cases e : allocN M.P (needs o.slots.length) (needs o.slots.length).length with
    | none => exact hk.full
    | some x =>
      obtain ⟨bs, Q⟩ := x
      have s := allocN_spec hk.ok.p (l := needs o.slots.length) (fun m hm => needs_isC _ hm) _ (Nat.le_refl _) bs Q e
      have ha := allocN_all hk.ok.p (l := needs o.slots.length) (fun m hm => needs_isC _ hm) _ (Nat.le_refl _) bs Q e
      have hs := obSum_set (ob := M.ob) (h := (M.least : Int) + 1) (by omega) (some { o with blocks := bs })
      rw [hnone] at hs
      have hf : M.P.all = obSum M.ob := hk.full
      show (headP Q ((M.least : Int) + 1) bs).all = obSum (setT M.ob ((M.least : Int) + 1) (some { o with blocks := bs }))
      rw [headP_all s.ok]
      have e2 : bLen (some ({ o with blocks := bs } : Th)) = bs.length := rfl
      have e3 : bLen none = 0 := rfl
      have := s.len
      omega
  · exact hk.full
theorem Hp.OkF.newObject (hk : M.OkF) (c : Int) (refs : List Bool) : (M.newObject c refs).2.2.OkF := by
  unfold Hp.newObject
  split
  · exact hk
  · rename_i hc; exact hk.add (objT_ok hc).1 (objT_ok hc).2
theorem Hp.OkF.set (hk : M.OkF) (h s v : Int) : (M.set h s v).2.OkF := by
  refine ⟨hk.ok.set h s v, ?_⟩
  unfold Hp.set
  cases e : M.ob h with
  | none => exact hk.full
  | some o =>
    simp only
    split
    · exact hk.full
    · split
      · have hr := hk.ok.hr h o e
        have hs := obSum_set (ob := M.ob) hr (some (o.put s.toNat v))
        have hf : M.P.all = obSum M.ob := hk.full
        show ((M.P.setCell (o.addr s.toNat) v).2).all = obSum (setT M.ob h (some (o.put s.toNat v)))
        rw [Pl.all_setCell hk.ok.p]
        rw [e] at hs
        have e2 : bLen (some o) = o.blocks.length := rfl
        have e3 : bLen (some (o.put s.toNat v)) = o.blocks.length := rfl
        omega
      · exact hk.full
end
end Go.Proofs.Ythflghdaejbdkaa
