/- Pages of blocks, the plain laws: compaction. -/
import Derived.Test.YtkjocehdbpekjaaGreatBPlain
namespace Go.Proofs.YtkjocehdbpekjaaGreat
set_option linter.unusedVariables false

theorem sumN_two {f g : Nat → Nat} {i j n : Nat} (hi : i < n) (hj : j < n) (hne : i ≠ j) (ho : ∀ x, x < n → x ≠ i → x ≠ j → g x = f x) (h : g i + g j = f i + f j) : sumN g n = sumN f n := by
  have a1 := sumN_up (f := f) (g := fun x => if x = i then g i else f x) hi (fun x _ hx => by simp [hx])
  have a2 := sumN_up (f := fun x => if x = i then g i else f x) (g := g) hj (fun x hx hxj => by
    by_cases e : x = i
    · simp [e]
    · simp only [e, if_false]; exact ho x hx e hxj)
  simp only [if_true, hne.symm, if_false] at a1 a2
  omega
/-- What is known of the two pages behind a move. -/
theorem Pl.moved_pages {P : Pl} (h : P.ok) {i j : Nat} (hp : P.Pair i j) :
    (((P.moved i j).pg i).cls = (P.pg i).cls ∧ ((P.moved i j).pg i).count + 1 = (P.pg i).count ∨ ((P.moved i j).pg i).cls = -1 ∧ (P.pg i).count = 1) ∧ ((P.moved i j).pg j).cls = (P.pg i).cls ∧ ((P.moved i j).pg j).count = (P.pg j).count + 1 := by
  obtain ⟨h1, h2, h3⟩ := Pl.moved_count h hp
  refine ⟨?_, ?_, h2⟩
  · have e : (P.moved i j).pg i = (P.pg i).release ((P.pg i).top (P.pg i).cls) := by unfold Pl.moved; rw [Pl.set_same]
    rw [e] at h1 ⊢
    unfold Pg.release Pg.count at h1
    unfold Pg.release
    simp only at h1 ⊢
    by_cases h0 : cnt (up (P.pg i).used ((P.pg i).top (P.pg i).cls) false) 8 = 0
    · right; simp only [h0, if_true]; rw [h0] at h1; exact ⟨trivial, h1.symm⟩
    · left; simp only [h0, if_false]; exact ⟨trivial, h1⟩
  · unfold Pl.moved
    rw [Pl.set_other _ _ hp.ne.symm, Pl.set_same]
    rfl
theorem Pl.used_moved {P : Pl} (h : P.ok) {i j : Nat} (hp : P.Pair i j) (c : Int) (hc : IsC c) : (P.moved i j).usedN c P.n = P.usedN c P.n := by
  obtain ⟨hi, hj1, hj2⟩ := Pl.moved_pages h hp
  obtain ⟨_, _, h3⟩ := Pl.moved_count h hp
  refine sumN_two hp.hi hp.hj hp.ne (fun x _ hxi hxj => by unfold Pl.usedF; rw [h3 x hxi hxj]) ?_
  unfold Pl.usedF
  rw [hj1, hj2, hp.same]
  by_cases e : (P.pg i).cls = c
  · rw [if_pos e, if_pos e, if_pos e]
    rcases hi with ⟨a, b⟩ | ⟨a, b⟩
    · rw [a, if_pos e]; omega
    · rw [a, if_neg (by rcases hc with e | e | e <;> omega)]; omega
  · rw [if_neg e, if_neg e, if_neg e]
    rcases hi with ⟨a, b⟩ | ⟨a, b⟩
    · rw [a, if_neg e]
    · rw [a, if_neg (by rcases hc with e | e | e <;> omega)]

/-- Sums of integers. -/
def sumI (f : Nat → Int) : Nat → Int
  | 0 => 0
  | k + 1 => sumI f k + f k
theorem sumI_congr {f g : Nat → Int} {k : Nat} (h : ∀ i, i < k → f i = g i) : sumI f k = sumI g k := by
  induction k with
  | zero => rfl
  | succ k ih => unfold sumI; rw [ih (fun i hi => h i (by omega)), h k (by omega)]
theorem sumI_zero {f : Nat → Int} {k : Nat} (h : ∀ i, i < k → f i = 0) : sumI f k = 0 := by
  induction k with
  | zero => rfl
  | succ k ih => unfold sumI; rw [ih (fun i hi => h i (by omega)), h k (by omega)]; rfl
theorem sumI_up {f g : Nat → Int} {i k : Nat} (hi : i < k) (h : ∀ j, j < k → j ≠ i → g j = f j) : sumI g k + f i = sumI f k + g i := by
  induction k with
  | zero => omega
  | succ k ih =>
    unfold sumI
    by_cases e : i = k
    · subst e
      rw [sumI_congr (f := g) (g := f) (fun j hj => h j (by omega) (by omega))]
      omega
    · have := ih (by omega) (fun j hj hne => h j (by omega) hne)
      rw [h k (by omega) (by omega)]
      omega
theorem sumI_two {f g : Nat → Int} {i j n : Nat} (hi : i < n) (hj : j < n) (hne : i ≠ j) (ho : ∀ x, x < n → x ≠ i → x ≠ j → g x = f x) (h : g i + g j = f i + f j) : sumI g n = sumI f n := by
  have a1 := sumI_up (f := f) (g := fun x => if x = i then g i else f x) hi (fun x _ hx => by simp [hx])
  have a2 := sumI_up (f := fun x => if x = i then g i else f x) (g := g) hj (fun x hx hxj => by
    by_cases e : x = i
    · simp [e]
    · simp only [e, if_false]; exact ho x hx e hxj)
  simp only [if_true, hne.symm, if_false] at a1 a2
  omega
theorem sumI_add (f : Nat → Int) (a b : Nat) : sumI f (a + b) = sumI f a + sumI (fun j => f (a + j)) b := by
  induction b with
  | zero => simp [sumI]
  | succ b ih =>
    have e1 : sumI f (a + (b + 1)) = sumI f (a + b) + f (a + b) := rfl
    have e2 : sumI (fun j => f (a + j)) (b + 1) = sumI (fun j => f (a + j)) b + f (a + b) := rfl
    rw [e1, e2, ih]
    omega
theorem sumI_mul (f : Nat → Int) (a z : Nat) : sumI f (a * z) = sumI (fun k => sumI (fun y => f (k * z + y)) z) a := by
  induction a with
  | zero => rw [Nat.zero_mul]; rfl
  | succ a ih =>
    rw [Nat.succ_mul, sumI_add, ih]
    rfl

/-- The numbers of a used block, of a page, of all. -/
def Pg.blk (p : Pg) (c : Int) (k : Nat) : Int := sumI (fun y => p.cell (k * bsz c + y)) (bsz c)
def Pg.tot (p : Pg) : Int := if p.cls = -1 then 0 else sumI (fun k => if p.used k then p.blk p.cls k else 0) (bpt p.cls)
def Pl.tot (P : Pl) : Int := sumI (fun i => (P.pg i).tot) P.n
def Pl.cellN (P : Pl) (x : Nat) : Int := if (P.cell (x : Int)).2 = 0 then (P.cell (x : Int)).1 else 0
theorem Pl.tot_cells {P : Pl} (h : P.ok) : sumI P.cellN (16 * P.n) = P.tot := by
  have key : ∀ k, k ≤ P.n → sumI P.cellN (16 * k) = sumI (fun i => (P.pg i).tot) k := by
    intro k
    induction k with
    | zero => intro _; rfl
    | succ k ih =>
      intro hk
      rw [Nat.mul_succ, sumI_add, ih (by omega)]
      show _ = _ + (P.pg k).tot
      congr 1
      have hA : ∀ j, j < 16 → (16 * k + j) / 16 = k ∧ (16 * k + j) % 16 = j := fun j hj => ⟨by omega, by omega⟩
      have haddr : ∀ j, j < 16 → P.addr ((16 * k + j : Nat) : Int) = true := fun j hj => Pl.addr_iff.2 ⟨by omega, by omega⟩
      unfold Pg.tot
      rcases (h k (by omega)).cls with hc | hC
      · rw [if_pos hc]
        refine sumI_zero fun j hj => ?_
        have hb : P.begin ((16 * k + j : Nat) : Int) = (0, 3) := Pl.begin_free (haddr j hj) (by show (P.pg ((16 * k + j) / 16)).cls < 0; rw [(hA j hj).1, hc]; decide)
        unfold Pl.cellN Pl.cell
        rw [hb]
        rfl
      · have hne : (P.pg k).cls ≠ -1 := by rcases hC with e | e | e <;> omega
        have hn0 : ¬ (P.pg k).cls < 0 := by rcases hC with e | e | e <;> omega
        rw [if_neg hne]
        have hf := IsC.full hC
        rw [show sumI (fun j => P.cellN (16 * k + j)) 16 = sumI (fun j => P.cellN (16 * k + j)) (bpt (P.pg k).cls * bsz (P.pg k).cls) by rw [hf], sumI_mul]
        refine sumI_congr fun b hb => ?_
        have hbk := hC.blk hb
        have hin : ∀ y, y < bsz (P.pg k).cls → P.cellN (16 * k + (b * bsz (P.pg k).cls + y)) = if (P.pg k).used b then (P.pg k).cell (b * bsz (P.pg k).cls + y) else 0 := by
          intro y hy
          have hj : b * bsz (P.pg k).cls + y < 16 := by omega
          obtain ⟨e1, e2⟩ := hA _ hj
          have e3 : (b * bsz (P.pg k).cls + y) / bsz (P.pg k).cls = b := hC.of_at (by omega) (by omega)
          cases hu : (P.pg k).used b with
          | true =>
            have hbg := Pl.begin_yes (haddr _ hj) (by show ¬ (P.pg ((16 * k + (b * bsz (P.pg k).cls + y)) / 16)).cls < 0; rw [e1]; exact hn0) (by
              show (P.pg ((16 * k + (b * bsz (P.pg k).cls + y)) / 16)).used ((16 * k + (b * bsz (P.pg k).cls + y)) % 16 / bsz (P.pg ((16 * k + (b * bsz (P.pg k).cls + y)) / 16)).cls) = true
              rw [e1, e2, e3]; exact hu)
            unfold Pl.cellN Pl.cell
            rw [hbg]
            simp only [if_true]
            show (P.pg ((16 * k + (b * bsz (P.pg k).cls + y)) / 16)).cell ((16 * k + (b * bsz (P.pg k).cls + y)) % 16) = _
            rw [e1, e2]
          | false =>
            have hbg := Pl.begin_no (haddr _ hj) (by show ¬ (P.pg ((16 * k + (b * bsz (P.pg k).cls + y)) / 16)).cls < 0; rw [e1]; exact hn0) (by
              show (P.pg ((16 * k + (b * bsz (P.pg k).cls + y)) / 16)).used ((16 * k + (b * bsz (P.pg k).cls + y)) % 16 / bsz (P.pg ((16 * k + (b * bsz (P.pg k).cls + y)) / 16)).cls) = false
              rw [e1, e2, e3]; exact hu)
            unfold Pl.cellN Pl.cell
            rw [hbg]
            rfl
        rw [sumI_congr hin]
        cases hu : (P.pg k).used b with
        | true => rfl
        | false => simp only [Bool.false_eq_true, if_false]; exact sumI_zero fun _ _ => rfl
  exact key P.n (Nat.le_refl _)
theorem Pg.tot_take {p : Pg} (h : p.ok) {c : Int} (hc : IsC c) (hp : p.cls = c) {k : Nat} (hk : k < bpt c) (hu : p.used k = false) (f : Nat → Int) : (p.take c k f).tot = p.tot + sumI f (bsz c) := by
  have hcm : c ≠ -1 := by rcases hc with e | e | e <;> omega
  unfold Pg.tot
  have e1 : (p.take c k f).cls = c := rfl
  rw [e1, if_neg hcm, hp, if_neg hcm]
  have := sumI_up (f := fun x => if p.used x then p.blk c x else 0) (g := fun x => if (p.take c k f).used x then (p.take c k f).blk c x else 0) hk (fun x hx hxk => by
    show (if up p.used k true x then _ else _) = _
    rw [up_other _ _ hxk]
    cases p.used x with
    | false => rfl
    | true =>
      simp only [if_true]
      unfold Pg.blk
      refine sumI_congr fun y hy => ?_
      show (if _ then _ else _) = _
      rw [if_neg]
      intro h2
      have h4 := hc.of_at h2.1 h2.2
      have h5 := hc.of_at (k := x) (j := x * bsz c + y) (by omega) (by omega)
      omega)
  have e2 : (if (p.take c k f).used k then (p.take c k f).blk c k else 0) = sumI f (bsz c) := by
    show (if up p.used k true k then _ else _) = _
    rw [up_same, if_pos rfl]
    unfold Pg.blk
    refine sumI_congr fun y hy => ?_
    show (if _ then _ else _) = _
    rw [if_pos ⟨by omega, by omega⟩]
    congr 1
    omega
  have e3 : (if p.used k then p.blk c k else 0) = (0 : Int) := by rw [hu]; rfl
  simp only [e2, e3] at this
  omega
theorem Pg.tot_release {p : Pg} (h : p.ok) (hc : IsC p.cls) {k : Nat} (hk : k < bpt p.cls) (hu : p.used k = true) : (p.release k).tot + p.blk p.cls k = p.tot := by
  have hcm : p.cls ≠ -1 := by rcases hc with e | e | e <;> omega
  have hsz := hc.sz
  have hs := sumI_up (f := fun x => if p.used x then p.blk p.cls x else 0) (g := fun x => if up p.used k false x then p.blk p.cls x else 0) hk (fun x hx hxk => by
    show (if up p.used k false x then _ else _) = _
    rw [up_other _ _ hxk])
  have e2 : (if up p.used k false k then p.blk p.cls k else 0) = (0 : Int) := by rw [up_same]; rfl
  have e3 : (if p.used k then p.blk p.cls k else 0) = p.blk p.cls k := by rw [hu]; rfl
  simp only [e2, e3] at hs
  have e4 : (p.release k).tot = sumI (fun x => if up p.used k false x then p.blk p.cls x else 0) (bpt p.cls) := by
    by_cases h0 : cnt (up p.used k false) 8 = 0
    · have e5 : (p.release k).cls = -1 := by unfold Pg.release; simp only [h0, if_true]
      unfold Pg.tot
      rw [if_pos e5]
      symm
      refine sumI_zero fun x hx => ?_
      rw [cnt_eq_zero.1 h0 x (by omega)]
      rfl
    · have e5 : (p.release k).cls = p.cls := by unfold Pg.release; simp only [h0, if_false]
      unfold Pg.tot
      rw [e5, if_neg hcm]
      rfl
  unfold Pg.tot at e4 ⊢
  rw [e4, if_neg hcm]
  omega
theorem Pl.tot_moved {P : Pl} (h : P.ok) {i j : Nat} (hp : P.Pair i j) : (P.moved i j).tot = P.tot := by
  have hne : (P.pg i).cls ≠ -1 := by rcases hp.c with e | e | e <;> omega
  have htop := (h i hp.hi).top hne
  have hgap := (h j hp.hj).gap hp.c hp.pj
  have ei : (P.moved i j).pg i = (P.pg i).release ((P.pg i).top (P.pg i).cls) := by unfold Pl.moved; rw [Pl.set_same]
  have ej : (P.moved i j).pg j = (P.pg j).take (P.pg i).cls ((P.pg j).gap (P.pg i).cls) fun x => (P.pg i).cell ((P.pg i).top (P.pg i).cls * bsz (P.pg i).cls + x) := by
    unfold Pl.moved
    rw [Pl.set_other _ _ hp.ne.symm, Pl.set_same, hp.same]
  obtain ⟨_, _, h3⟩ := Pl.moved_count h hp
  show sumI (fun x => ((P.moved i j).pg x).tot) (P.moved i j).n = sumI (fun x => (P.pg x).tot) P.n
  rw [(h.moved hp).2]
  refine sumI_two hp.hi hp.hj hp.ne (fun x _ hxi hxj => by rw [h3 x hxi hxj]) ?_
  rw [ei, ej, Pg.tot_take (h j hp.hj) hp.c hp.same hgap.1 hgap.2]
  have := Pg.tot_release (h i hp.hi) hp.c htop.1 htop.2
  show _ + (_ + (P.pg i).blk (P.pg i).cls ((P.pg i).top (P.pg i).cls)) = _
  omega

/-- How many pages are of a class. -/
def Pl.clsF (P : Pl) (c : Int) (i : Nat) : Nat := if (P.pg i).cls = c then 1 else 0
theorem Pl.compact {P : Pl} (h : P.ok) {c : Int} (hc : IsC c) (hn : P.pair = none) :
    sumN (P.clsF c) P.n = (P.usedN c P.n + bpt c - 1) / bpt c := by
  have hpn := Pl.pair_none hn hc
  have hsz := hc.sz
  have hcm : c ≠ -1 := by rcases hc with e | e | e <;> omega
  have key : ∀ k, k ≤ P.n → P.usedN c k ≤ bpt c * sumN (P.clsF c) k ∧ (P.usedN c k = bpt c * sumN (P.clsF c) k ∨ ((∃ i, i < k ∧ (P.pg i).partly c = true) ∧ bpt c * sumN (P.clsF c) k + 1 ≤ P.usedN c k + bpt c)) := by
    intro k
    induction k with
    | zero => intro _; exact ⟨Nat.zero_le _, .inl rfl⟩
    | succ k ih =>
      intro hk
      have i1 := ih (by omega)
      have e1 : P.usedN c (k + 1) = P.usedN c k + P.usedF c k := rfl
      have e2 : sumN (P.clsF c) (k + 1) = sumN (P.clsF c) k + P.clsF c k := rfl
      rw [e1, e2]
      have u1 : P.usedF c k = if (P.pg k).cls = c then (P.pg k).count else 0 := rfl
      have u2 : P.clsF c k = if (P.pg k).cls = c then 1 else 0 := rfl
      rw [u1, u2]
      by_cases e : (P.pg k).cls = c
      · rw [if_pos e, if_pos e, Nat.mul_add, Nat.mul_one]
        have hne : (P.pg k).cls ≠ -1 := by rw [e]; exact hcm
        have hle := (h k (by omega)).count_le hne
        have hpos := (h k (by omega)).count_pos hne
        rw [e] at hle
        by_cases hp : (P.pg k).count < bpt c
        · have hpk : (P.pg k).partly c = true := Pg.partly_iff.2 ⟨e, hp⟩
          have hnone : P.usedN c k = bpt c * sumN (P.clsF c) k := by
            rcases i1.2 with h1 | ⟨⟨i, hi, hpi⟩, _⟩
            · exact h1
            · have := Pl.pairC_none hpn (i := i) (j := k) (by omega) (by omega) (by omega) hpi
              rw [hpk] at this; cases this
          exact ⟨by omega, .inr ⟨⟨k, by omega, hpk⟩, by omega⟩⟩
        · refine ⟨by omega, ?_⟩
          rcases i1.2 with h1 | ⟨⟨i, hi, hpi⟩, h2⟩
          · exact .inl (by omega)
          · exact .inr ⟨⟨i, by omega, hpi⟩, by omega⟩
      · rw [if_neg e, if_neg e, Nat.add_zero, Nat.add_zero]
        refine ⟨i1.1, ?_⟩
        rcases i1.2 with h1 | ⟨⟨i, hi, hpi⟩, h2⟩
        · exact .inl h1
        · exact .inr ⟨⟨i, by omega, hpi⟩, h2⟩
  have hk := key P.n (Nat.le_refl _)
  generalize P.usedN c P.n = U at *
  generalize sumN (P.clsF c) P.n = H at *
  rcases hc.facts with ⟨_, e⟩ | ⟨_, e⟩ | ⟨_, e⟩ <;> (rw [e] at hk ⊢; omega)
end Go.Proofs.YtkjocehdbpekjaaGreat
