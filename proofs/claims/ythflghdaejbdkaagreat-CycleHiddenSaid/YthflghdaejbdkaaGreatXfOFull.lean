/- Lemmas of this claim. -/
import Derived.Test.YthflghdaejbdkaaGreatXfOModel
import Derived.Test.YthflghdaejbdkaaGreatXfInts
import Derived.Laws.StructEq
import Derived.Test.YthflghdaejbdkaaGreatXfObjG
import Derived.Test.YthflghdaejbdkaaGreatXfQModel
namespace Go.Proofs.YthflghdaejbdkaaGreat
set_option linter.unusedVariables false
set_option maxRecDepth 100000
theorem setCell_pg {P : Pl} {a n : Int} (x : Nat) : (((P.setCell a n).2).pg x).cls = (P.pg x).cls ∧ (((P.setCell a n).2).pg x).used = (P.pg x).used := by
  unfold Pl.setCell
  split
  · by_cases e : x = a.toNat / 16
    · rw [e]; simp only [Pl.set_same]; exact ⟨trivial, trivial⟩
    · simp only [Pl.set_other _ _ e]; exact ⟨trivial, trivial⟩
  · exact ⟨rfl, rfl⟩
structure Th.Like (o o' : Th) : Prop where
  kd : o.kind = o'.kind
  cl : o.cls = o'.cls
  rf : o.refs = o'.refs
  sl : o.slots = o'.slots
def Hp.Like (M N : Hp) : Prop := ∀ k, (M.ob k = none ∧ N.ob k = none) ∨ ∃ o o', M.ob k = some o ∧ N.ob k = some o' ∧ o.Like o'
theorem Hp.Like.refl (M : Hp) : M.Like M := fun k => by
  cases e : M.ob k with
  | none => exact .inl ⟨rfl, rfl⟩
  | some o => exact .inr ⟨o, o, rfl, rfl, rfl, rfl, rfl, rfl⟩
theorem setT_like {P Q : Pl} {ob : Int → Option Th} {h : Int} {o t : Th} (ho : ob h = some o) (hl : t.Like o) : Hp.Like ⟨P, setT ob h (some t)⟩ ⟨Q, ob⟩ := fun k => by
  by_cases e : k = h
  · exact .inr ⟨t, o, by rw [e]; exact setT_same _ _ _, by rw [e]; exact ho, hl⟩
  · show (setT ob h (some t) k = none ∧ ob k = none) ∨ ∃ o o', setT ob h (some t) k = some o ∧ ob k = some o' ∧ o.Like o'
    rw [setT_other _ _ e]
    exact Hp.Like.refl ⟨Q, ob⟩ k
theorem Hp.move_like (M : Hp) : M.move.2.2.Like M := by
  unfold Hp.move
  split
  · split
    · rename_i o eo _
      exact setT_like eo ⟨rfl, rfl, rfl, rfl⟩
    · intro k; exact Hp.Like.refl M k
  · exact Hp.Like.refl M
theorem Hp.mem_handlesN {M : Hp} {k : Nat} {x : Int} : x ∈ M.handlesN k ↔ ∃ j : Nat, j < k ∧ x = (j : Int) + 1 ∧ (M.ob x).isSome = true := by
  induction k with
  | zero => simp [Hp.handlesN]
  | succ k ih =>
    unfold Hp.handlesN
    rw [List.mem_append, ih]
    constructor
    · rintro (⟨j, h1, h2, h3⟩ | h)
      · exact ⟨j, by omega, h2, h3⟩
      · split at h
        · rename_i hs
          simp at h
          subst h
          exact ⟨k, by omega, rfl, hs⟩
        · simp at h
    · rintro ⟨j, h1, h2, h3⟩
      by_cases e : j = k
      · right
        subst e
        subst h2
        rw [if_pos h3]
        simp
      · exact .inl ⟨j, by omega, h2, h3⟩
theorem Hp.handle_some {M : Hp} {i : Nat} (hi : i < M.handles.length) : (M.ob (gI M.handles i)).isSome = true := by
  have : gI M.handles i ∈ M.handles := mem_gI.2 ⟨i, hi, rfl⟩
  obtain ⟨_, _, _, h⟩ := Hp.mem_handlesN.1 this
  exact h
end Go.Proofs.YthflghdaejbdkaaGreat
namespace Go.Proofs.YthflghdaejbdkaaGreat
set_option linter.unusedVariables false
theorem sumN_two {f g : Nat → Nat} {i j n : Nat} (hi : i < n) (hj : j < n) (hne : i ≠ j) (ho : ∀ x, x < n → x ≠ i → x ≠ j → g x = f x) (h : g i + g j = f i + f j) : sumN g n = sumN f n := by
  have a1 := sumN_up (f := f) (g := fun x => if x = i then g i else f x) hi (fun x _ hx => by simp [hx])
  have a2 := sumN_up (f := fun x => if x = i then g i else f x) (g := g) hj (fun x hx hxj => by
    by_cases e : x = i
    · simp [e]
    · simp only [e, if_false]; exact ho x hx e hxj)
  simp only [if_true, hne.symm, if_false] at a1 a2
  omega
theorem Pl.moved_pages {P : Pl} (h : P.ok) {i j : Nat} (hp : P.Pair i j) :
    (((P.moved i j).pg i).cls = (P.pg i).cls ∧ ((P.moved i j).pg i).count + 1 = (P.pg i).count ∨ ((P.moved i j).pg i).cls = -1 ∧ (P.pg i).count = 1) ∧ ((P.moved i j).pg j).cls = (P.pg i).cls ∧ ((P.moved i j).pg j).count = (P.pg j).count + 1 := by
  obtain ⟨h1, h2, h3⟩ := Pl.moved_count h hp
  refine ⟨?_, ?_, h2⟩
  · have e : (P.moved i j).pg i = (P.pg i).release ((P.pg i).top (P.pg i).cls) := by unfold Pl.moved; rw [Pl.set_same]
    rw [e] at h1 ⊢
    unfold Pg.release Pg.count at h1
    unfold Pg.release
    simp only at h1 ⊢
    by_cases h0 : cnt (up (P.pg i).used ((P.pg i).top (P.pg i).cls) false) 8 = 0
    · right; simp only [h0, if_true]; rw [h0] at h1; exact ⟨trivial, h1.symm⟩
    · left; simp only [h0, if_false]; exact ⟨trivial, h1⟩
  · unfold Pl.moved
    rw [Pl.set_other _ _ hp.ne.symm, Pl.set_same]
    rfl
theorem Pl.used_moved {P : Pl} (h : P.ok) {i j : Nat} (hp : P.Pair i j) (c : Int) (hc : IsC c) : (P.moved i j).usedN c P.n = P.usedN c P.n := by
  obtain ⟨hi, hj1, hj2⟩ := Pl.moved_pages h hp
  obtain ⟨_, _, h3⟩ := Pl.moved_count h hp
  refine sumN_two hp.hi hp.hj hp.ne (fun x _ hxi hxj => by unfold Pl.usedF; rw [h3 x hxi hxj]) ?_
  unfold Pl.usedF
  rw [hj1, hj2, hp.same]
  by_cases e : (P.pg i).cls = c
  · rw [if_pos e, if_pos e, if_pos e]
    rcases hi with ⟨a, b⟩ | ⟨a, b⟩
    · rw [a, if_pos e]; omega
    · rw [a, if_neg (by rcases hc with e | e | e <;> omega)]; omega
  · rw [if_neg e, if_neg e, if_neg e]
    rcases hi with ⟨a, b⟩ | ⟨a, b⟩
    · rw [a, if_neg e]
    · rw [a, if_neg (by rcases hc with e | e | e <;> omega)]
end Go.Proofs.YthflghdaejbdkaaGreat
namespace Go.Proofs.YthflghdaejbdkaaGreat
set_option linter.unusedVariables false
set_option maxRecDepth 100000
def Pl.all (P : Pl) : Nat := sumN (fun i => (P.pg i).count) P.n
section
variable {P : Pl}
theorem Pl.all_used (h : P.ok) : P.usedN 0 P.n + P.usedN 1 P.n + P.usedN 2 P.n = P.all := by
  rw [Pl.used_sum h, Pl.liveA_cnt h]; rfl
theorem Pl.all_setCell (h : P.ok) (a n : Int) : (P.setCell a n).2.all = P.all := by
  unfold Pl.all
  rw [(h.setCell a n).2]
  refine sumN_congr fun i _ => ?_
  unfold Pg.count
  rw [(setCell_pg i).2]
theorem Pl.all_alloc (h : P.ok) {c : Int} (he : (P.alloc c).2.1 = 0) : (P.alloc c).2.2.all = P.all + 1 := by
  rcases P.alloc_cases c with hb | ⟨hcl, ⟨i, hi, hp, hb⟩ | ⟨hn, ⟨i, hi, hp, hb⟩ | hf⟩⟩
  · rw [Pl.alloc_bad hb] at he; cases he
  · rw [Pl.alloc_part hcl hi hp hb]
    have hg := (h i hi).gap hcl hp
    have hs := hcl.sz
    have := sumN_up (f := fun x => (P.pg x).count) (g := fun x => ((P.set i ((P.pg i).take c ((P.pg i).gap c) fun _ => 0)).pg x).count) hi (fun j hj e => by simp only [Pl.set_other _ _ e])
    simp only [Pl.set_same] at this
    have e2 : ((P.pg i).take c ((P.pg i).gap c) fun _ => 0).count = (P.pg i).count + 1 := cnt_set (by omega) hg.2
    rw [e2] at this
    show sumN (fun x => ((P.set i ((P.pg i).take c ((P.pg i).gap c) fun _ => 0)).pg x).count) P.n = P.all + 1
    unfold Pl.all
    omega
  · rw [Pl.alloc_new hcl hn hi hp hb]
    have hg := (h i hi).ge
    have hu := (h i hi).free (by omega) 0
    have := sumN_up (f := fun x => (P.pg x).count) (g := fun x => ((P.set i ((P.pg i).take c 0 fun _ => 0)).pg x).count) hi (fun j hj e => by simp only [Pl.set_other _ _ e])
    simp only [Pl.set_same] at this
    have e2 : ((P.pg i).take c 0 fun _ => 0).count = (P.pg i).count + 1 := cnt_set (by omega) hu
    rw [e2] at this
    show sumN (fun x => ((P.set i ((P.pg i).take c 0 fun _ => 0)).pg x).count) P.n = P.all + 1
    unfold Pl.all
    omega
  · rw [Pl.alloc_full hcl hn hf] at he; cases he
theorem Pl.all_freed {c a : Int} {v : Nat → Int} (hc : IsC c) (hb : Blk P c a v) : (P.free a).2.all + 1 = P.all := by
  have hbg := hb.begin hc
  obtain ⟨i, l, rfl, hh0⟩ := hb
  have hr := hc.blk hh0.kb
  have hdm := hc.mul_div l
  have s := hc.sz
  have hkb := hh0.kb
  have t1 : (((16 * i + l * bsz c : Nat) : Int)).toNat / 16 = i := by rw [Int.toNat_natCast]; omega
  have t2 : (((16 * i + l * bsz c : Nat) : Int)).toNat % 16 = l * bsz c := by rw [Int.toNat_natCast]; omega
  unfold Pl.free
  rw [hbg]
  simp only [if_true, t1, t2]
  rw [hh0.cls, hdm.1]
  have := sumN_up (f := fun x => (P.pg x).count) (g := fun x => ((P.set i ((P.pg i).release l)).pg x).count) hh0.hi (fun j hj e => by simp only [Pl.set_other _ _ e])
  simp only [Pl.set_same] at this
  have e2 : ((P.pg i).release l).count + 1 = (P.pg i).count := cnt_clear (by omega) hh0.used
  show sumN (fun x => ((P.set i ((P.pg i).release l)).pg x).count) P.n + 1 = P.all
  unfold Pl.all
  omega
theorem Pl.all_move (h : P.ok) : P.move.2.2.2.all = P.all := by
  cases hp : P.pair with
  | none => rw [Pl.move_none hp]
  | some x =>
    obtain ⟨i, j⟩ := x
    have hp2 := Pl.pair_some hp
    rw [Pl.move_some hp]
    show (P.moved i j).all = P.all
    have hn := (h.moved hp2).2
    rw [← Pl.all_used (h.moved hp2).1, ← Pl.all_used h, hn, Pl.used_moved h hp2 0 (.inl rfl), Pl.used_moved h hp2 1 (.inr (.inl rfl)), Pl.used_moved h hp2 2 (.inr (.inr rfl))]
theorem allocN_all (hok : P.ok) {l : List Int} (hl : ∀ m, m < l.length → IsC (gI l m)) : ∀ k, k ≤ l.length → ∀ bs Q, allocN P l k = some (bs, Q) → Q.all = P.all + k := by
  intro k
  induction k with
  | zero =>
    intro _ bs Q e
    unfold allocN at e
    cases e
    rfl
  | succ k ih =>
    intro hk bs Q e
    unfold allocN at e
    cases e1 : allocN P l k with
    | none => rw [e1] at e; cases e
    | some x =>
      obtain ⟨bs', Q'⟩ := x
      rw [e1] at e
      simp only at e
      split at e
      · rename_i he
        cases e
        have s := allocN_spec hok hl k (by omega) bs' Q' e1
        rw [Pl.all_alloc s.ok he, ih (by omega) bs' Q' e1]; omega
      · cases e
theorem putN_all (hok : P.ok) (a : Int) (l : List Int) (k : Nat) : (putN P a l k).all = P.all := by
  induction k with
  | zero => rfl
  | succ k ih => unfold putN; rw [Pl.all_setCell (putN_keep hok a l k).1, ih]
theorem headP_all (hok : P.ok) (h : Int) (bs : List Int) : (headP P h bs).all = P.all := by
  unfold headP
  rw [putN_all (hok.setCell _ _).1, Pl.all_setCell hok]
theorem freeL_all {l : List Int} {cs : List Int} (hc : ∀ m, m < l.length → IsC (gI cs m)) (hb : ∀ m, m < l.length → ∃ v, Blk P (gI cs m) (gI l m) v) (hd : ∀ m, m < l.length → ∀ m', m' < l.length → gI l m = gI l m' → m = m') :
    ∀ k, k ≤ l.length → (freeL P l k).all + k = P.all := by
  intro k
  induction k with
  | zero => intro _; rfl
  | succ k ih =>
    intro hk
    obtain ⟨v, hv⟩ := hb k (by omega)
    have h1 : Blk (freeL P l k) (gI cs k) (gI l k) v := freeL_other (hc k (by omega)) hv (fun m hm e => by have := hd m (by omega) k (by omega) e; omega)
    have := Pl.all_freed (hc k (by omega)) h1
    have := ih (by omega)
    show ((freeL P l k).free (gI l k)).2.all + (k + 1) = P.all
    omega
end
def bLen (o : Option Th) : Nat := match o with | none => 0 | some o => o.blocks.length
def obSum (ob : Int → Option Th) : Nat := sumN (fun k => bLen (ob ((k : Int) + 1))) 192
theorem obSum_set {ob : Int → Option Th} {h : Int} (h1 : 1 ≤ h ∧ h ≤ 192) (x : Option Th) : obSum (setT ob h x) + bLen (ob h) = obSum ob + bLen x := by
  obtain ⟨i, hi, rfl⟩ : ∃ i : Nat, i < 192 ∧ h = (i : Int) + 1 := ⟨(h - 1).toNat, by omega, by omega⟩
  have := sumN_up (f := fun k => bLen (ob ((k : Int) + 1))) (g := fun k => bLen (setT ob ((i : Int) + 1) x ((k : Int) + 1))) hi (fun j hj e => by show bLen (setT ob ((i : Int) + 1) x ((j : Int) + 1)) = bLen (ob ((j : Int) + 1)); rw [setT_other _ _ (by omega)])
  simp only [setT_same] at this
  exact this
def Hp.Full (M : Hp) : Prop := M.P.all = obSum M.ob
structure Hp.OkF (M : Hp) : Prop where
  ok : M.Ok
  full : M.Full
section
variable {M : Hp} {h : Int} {o : Th}
theorem Hp.OkF.new {n : Nat} (h1 : 1 ≤ n) (h24 : n ≤ 24) : (Hp.new n).OkF := ⟨Hp.Ok.new h1 h24, by
  show sumN (fun i => Pg.zero.count) n = sumN (fun k => 0) 192
  have e1 : sumN (fun i => Pg.zero.count) n = 0 := sumN_zero.2 (fun i _ => cnt_zero (fun _ _ => rfl))
  have e2 : sumN (fun k => 0) 192 = 0 := sumN_zero.2 (fun i _ => rfl)
  rw [e1, e2]⟩
theorem Hp.OkF.add (hk : M.OkF) (ho : o.ok1) (hz : ∀ s, gI o.slots s = 0) : (M.add o).2.2.OkF := by
  refine ⟨hk.ok.add ho hz, ?_⟩
  unfold Hp.add
  split
  · rename_i hl
    have hnone := M.least_spec hl
    cases e : allocN M.P (needs o.slots.length) (needs o.slots.length).length with
    | none => exact hk.full
    | some x =>
      obtain ⟨bs, Q⟩ := x
      have s := allocN_spec hk.ok.p (l := needs o.slots.length) (fun m hm => needs_isC _ hm) _ (Nat.le_refl _) bs Q e
      have ha := allocN_all hk.ok.p (l := needs o.slots.length) (fun m hm => needs_isC _ hm) _ (Nat.le_refl _) bs Q e
      have hs := obSum_set (ob := M.ob) (h := (M.least : Int) + 1) (by omega) (some { o with blocks := bs })
      rw [hnone] at hs
      have hf : M.P.all = obSum M.ob := hk.full
      show (headP Q ((M.least : Int) + 1) bs).all = obSum (setT M.ob ((M.least : Int) + 1) (some { o with blocks := bs }))
      rw [headP_all s.ok]
      have e2 : bLen (some ({ o with blocks := bs } : Th)) = bs.length := rfl
      have e3 : bLen none = 0 := rfl
      have := s.len
      omega
  · exact hk.full
theorem Hp.OkF.newObject (hk : M.OkF) (c : Int) (refs : List Bool) : (M.newObject c refs).2.2.OkF := by
  unfold Hp.newObject
  split
  · exact hk
  · rename_i hc; exact hk.add (objT_ok hc).1 (objT_ok hc).2
theorem Hp.OkF.newArray (hk : M.OkF) (k c n : Int) : (M.newArray k c n).2.2.OkF := by
  unfold Hp.newArray
  split
  · exact hk
  · rename_i hc
    split
    · rename_i hd; exact hk.add (arrT_ok hc hd).1 (arrT_ok hc hd).2
    · exact hk
theorem Hp.OkF.release (hk : M.OkF) (h : Int) : (M.release h).2.OkF := by
  refine ⟨hk.ok.release h, ?_⟩
  unfold Hp.release
  cases e : M.ob h with
  | none => exact hk.full
  | some o =>
    simp only
    split
    · exact hk.full
    · have hr := hk.ok.hr h o e
      have hs := obSum_set (ob := M.ob) hr none
      have hl := freeL_all (P := M.P) (l := o.blocks) (cs := needs o.slots.length) (fun m hm => hk.ok.isC e hm) (fun m hm => ⟨_, hk.ok.bk h o e m hm⟩) (fun m hm m' hm' e2 => (hk.ok.dj h o e h o e m hm m' hm' e2).2) _ (Nat.le_refl _)
      have hf : M.P.all = obSum M.ob := hk.full
      show (freeL M.P o.blocks o.blocks.length).all = obSum (setT M.ob h none)
      rw [e] at hs
      have e2 : bLen (some o) = o.blocks.length := rfl
      have e3 : bLen none = 0 := rfl
      omega
theorem Hp.OkF.set (hk : M.OkF) (h s v : Int) : (M.set h s v).2.OkF := by
  refine ⟨hk.ok.set h s v, ?_⟩
  unfold Hp.set
  cases e : M.ob h with
  | none => exact hk.full
  | some o =>
    simp only
    split
    · exact hk.full
    · split
      · have hr := hk.ok.hr h o e
        have hs := obSum_set (ob := M.ob) hr (some (o.put s.toNat v))
        have hf : M.P.all = obSum M.ob := hk.full
        show ((M.P.setCell (o.addr s.toNat) v).2).all = obSum (setT M.ob h (some (o.put s.toNat v)))
        rw [Pl.all_setCell hk.ok.p]
        rw [e] at hs
        have e2 : bLen (some o) = o.blocks.length := rfl
        have e3 : bLen (some (o.put s.toNat v)) = o.blocks.length := rfl
        omega
      · exact hk.full
theorem Hp.OkF.move (hk : M.OkF) : M.move.2.2.OkF := by
  refine ⟨hk.ok.move, ?_⟩
  have hm := Pl.all_move hk.ok.p
  have hf : M.P.all = obSum M.ob := hk.full
  unfold Hp.move
  split
  · split
    · rename_i o eo hd
      have hd2 : M.owner M.P.move.1 < 192 := by simpa using hd
      have hs := obSum_set (ob := M.ob) (h := (M.owner M.P.move.1 : Int) + 1) (by omega) (some (o.moved (o.place M.P.move.1) M.P.move.2.1))
      rw [eo] at hs
      have e2 : bLen (some o) = o.blocks.length := rfl
      have e3 : bLen (some (o.moved (o.place M.P.move.1) M.P.move.2.1)) = o.blocks.length := by
        show (o.blocks.set _ _).length = _
        simp
      show (if _ then M.P.move.2.2.2 else _).all = obSum (setT M.ob _ _)
      split
      · omega
      · rw [Pl.all_setCell hk.ok.p.move.1]; omega
    · show M.P.move.2.2.2.all = obSum M.ob
      omega
  · exact hk.full
end
end Go.Proofs.YthflghdaejbdkaaGreat
