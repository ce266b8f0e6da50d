/- Lemmas of this claim. -/
import Derived.Test.YthflghdaejbdkaaKLib
namespace Go.Proofs.Ythflghdaejbdkaa
structure Pg where
  cls : Int
  used : Nat → Bool
  cell : Nat → Int
structure Pl where
  n : Nat
  pg : Nat → Pg
def bsz (c : Int) : Nat := 2 * 2 ^ c.toNat
def bpt (c : Int) : Nat := 16 / bsz c
def IsC (c : Int) : Prop := c = 0 ∨ c = 1 ∨ c = 2
theorem IsC.facts {c : Int} (h : IsC c) : (bsz c = 2 ∧ bpt c = 8) ∨ (bsz c = 4 ∧ bpt c = 4) ∨ (bsz c = 8 ∧ bpt c = 2) := by
  rcases h with rfl | rfl | rfl
  · exact .inl ⟨rfl, rfl⟩
  · exact .inr (.inl ⟨rfl, rfl⟩)
  · exact .inr (.inr ⟨rfl, rfl⟩)
theorem IsC.sz {c : Int} (h : IsC c) : 2 ≤ bsz c ∧ bsz c ≤ 8 ∧ 2 ≤ bpt c ∧ bpt c ≤ 8 := by
  rcases h.facts with ⟨h1, h2⟩ | ⟨h1, h2⟩ | ⟨h1, h2⟩ <;> omega
theorem IsC.blk {c : Int} (h : IsC c) {k : Nat} (hk : k < bpt c) : k * bsz c + bsz c ≤ 16 ∧ (k + 1) * bsz c = k * bsz c + bsz c := by
  rcases h.facts with ⟨h1, h2⟩ | ⟨h1, h2⟩ | ⟨h1, h2⟩ <;> (rw [h1]; rw [h2] at hk; omega)
theorem IsC.div {c : Int} (h : IsC c) {j : Nat} (hj : j < 16) : j / bsz c < bpt c ∧ j / bsz c * bsz c ≤ j ∧ j < j / bsz c * bsz c + bsz c ∧ j % bsz c = j - j / bsz c * bsz c := by
  rcases h.facts with ⟨h1, h2⟩ | ⟨h1, h2⟩ | ⟨h1, h2⟩ <;> (rw [h1, h2]; omega)
theorem IsC.of_at {c : Int} (h : IsC c) {k j : Nat} (h1 : k * bsz c ≤ j) (h2 : j < k * bsz c + bsz c) : j / bsz c = k := by
  rcases h.facts with ⟨h3, _⟩ | ⟨h3, _⟩ | ⟨h3, _⟩ <;> (rw [h3] at h1 h2 ⊢; omega)
theorem IsC.mul_div {c : Int} (h : IsC c) (k : Nat) : k * bsz c / bsz c = k ∧ k * bsz c % bsz c = 0 := by
  rcases h.facts with ⟨h3, h4⟩ | ⟨h3, h4⟩ | ⟨h3, h4⟩ <;> (rw [h3]; omega)
theorem IsC.blocks {c : Int} (h : IsC c) {k l : Nat} (hkl : k * bsz c = l * bsz c) : k = l := by
  rcases h.facts with ⟨h3, h4⟩ | ⟨h3, h4⟩ | ⟨h3, h4⟩ <;> (rw [h3] at hkl; omega)
def cnt (u : Nat → Bool) : Nat → Nat
  | 0 => 0
  | k + 1 => cnt u k + if u k then 1 else 0
theorem cnt_le (u : Nat → Bool) (k : Nat) : cnt u k ≤ k := by
  induction k with
  | zero => exact Nat.le_refl _
  | succ k ih => unfold cnt; split <;> omega
theorem cnt_congr {u v : Nat → Bool} {k : Nat} (h : ∀ j, j < k → u j = v j) : cnt u k = cnt v k := by
  induction k with
  | zero => rfl
  | succ k ih => unfold cnt; rw [ih (fun j hj => h j (by omega)), h k (by omega)]
theorem cnt_zero {u : Nat → Bool} {k : Nat} (h : ∀ j, j < k → u j = false) : cnt u k = 0 := by
  induction k with
  | zero => rfl
  | succ k ih => unfold cnt; rw [ih (fun j hj => h j (by omega)), h k (by omega)]; rfl
theorem cnt_pos {u : Nat → Bool} {k j : Nat} (hj : j < k) (h : u j = true) : 0 < cnt u k := by
  induction k with
  | zero => omega
  | succ k ih =>
    unfold cnt
    by_cases e : j = k
    · subst e; rw [h]; simp
    · have := ih (by omega); omega
theorem cnt_full {u : Nat → Bool} {k : Nat} : cnt u k = k ↔ ∀ j, j < k → u j = true := by
  induction k with
  | zero => simp [cnt]
  | succ k ih =>
    have := cnt_le u k
    unfold cnt
    constructor
    · intro h j hj
      by_cases hk : u k = true
      · by_cases e : j = k
        · rw [e]; exact hk
        · exact ih.1 (by rw [hk] at h; simpa using h) j (by omega)
      · simp at hk; rw [hk] at h; simp at h; omega
    · intro h
      rw [h k (by omega), ih.2 (fun j hj => h j (by omega))]
      rfl
theorem cnt_lt_iff {u : Nat → Bool} {k : Nat} : cnt u k < k ↔ ∃ j, j < k ∧ u j = false := by
  constructor
  · intro h
    apply Classical.byContradiction
    intro hn
    have : cnt u k = k := cnt_full.2 fun j hj => by
      cases hu : u j with
      | true => rfl
      | false => exact absurd ⟨j, hj, hu⟩ hn
    omega
  · rintro ⟨j, hj, hu⟩
    have h1 := cnt_le u k
    rcases Nat.lt_or_ge (cnt u k) k with h | h
    · exact h
    · have := cnt_full.1 (by omega : cnt u k = k) j hj
      rw [hu] at this; cases this
theorem cnt_eq_zero {u : Nat → Bool} {k : Nat} : cnt u k = 0 ↔ ∀ j, j < k → u j = false := by
  constructor
  · intro h j hj
    cases hu : u j with
    | false => rfl
    | true => have := cnt_pos hj hu; omega
  · exact cnt_zero
theorem cnt_more {u : Nat → Bool} {k m : Nat} (hkm : k ≤ m) (h : ∀ j, k ≤ j → j < m → u j = false) : cnt u m = cnt u k := by
  induction m with
  | zero => rw [show k = 0 by omega]
  | succ m ih =>
    by_cases e : k = m + 1
    · rw [e]
    · rw [show cnt u (m + 1) = cnt u m + if u m then 1 else 0 from rfl, ih (by omega) (fun j h1 h2 => h j h1 (by omega)), h m (by omega) (by omega)]; rfl
def up {α : Type} (f : Nat → α) (k : Nat) (x : α) : Nat → α := fun j => if j = k then x else f j
theorem up_same {α : Type} (f : Nat → α) (k : Nat) (x : α) : up f k x k = x := by simp [up]
theorem up_other {α : Type} (f : Nat → α) {k j : Nat} (x : α) (h : j ≠ k) : up f k x j = f j := by simp [up, h]
theorem cnt_set {u : Nat → Bool} {k m : Nat} (hk : k < m) (h : u k = false) : cnt (up u k true) m = cnt u m + 1 := by
  induction m with
  | zero => omega
  | succ m ih =>
    unfold cnt
    by_cases e : k = m
    · subst e
      rw [up_same, h, cnt_congr (v := u) (fun j hj => up_other _ _ (by omega))]; simp
    · rw [ih (by omega), up_other _ _ (by omega)]; omega
theorem cnt_clear {u : Nat → Bool} {k m : Nat} (hk : k < m) (h : u k = true) : cnt (up u k false) m + 1 = cnt u m := by
  induction m with
  | zero => omega
  | succ m ih =>
    unfold cnt
    by_cases e : k = m
    · subst e
      rw [up_same, h, cnt_congr (v := u) (fun j hj => up_other _ _ (by omega))]; simp
    · rw [up_other _ _ (by omega)]
      have := ih (by omega); omega
def fst (f : Nat → Bool) : Nat → Nat
  | 0 => 0
  | m + 1 => if fst f m < m then fst f m else if f m then m else m + 1
theorem fst_le (f : Nat → Bool) (m : Nat) : fst f m ≤ m := by
  induction m with
  | zero => exact Nat.le_refl _
  | succ m ih => unfold fst; split; omega; split <;> omega
theorem fst_spec (f : Nat → Bool) (m : Nat) : (∀ j, j < fst f m → f j = false) ∧ (fst f m < m → f (fst f m) = true) := by
  induction m with
  | zero => exact ⟨fun j hj => by simp [fst] at hj, fun h => by simp [fst] at h⟩
  | succ m ih =>
    unfold fst
    have hle := fst_le f m
    split
    · rename_i h
      exact ⟨ih.1, fun _ => ih.2 h⟩
    · have e : fst f m = m := by omega
      split
      · rename_i h2
        exact ⟨by rw [e] at ih; exact ih.1, fun _ => h2⟩
      · rename_i h2
        refine ⟨fun j hj => ?_, fun h => by omega⟩
        by_cases e2 : j = m
        · rw [e2]; simpa using h2
        · exact ih.1 j (by omega)
theorem fst_eq {f : Nat → Bool} {m k : Nat} (hk : k < m) (h : f k = true) (hb : ∀ j, j < k → f j = false) : fst f m = k := by
  have h1 := fst_spec f m
  rcases Nat.lt_trichotomy (fst f m) k with h2 | h2 | h2
  · have := h1.2 (by omega); rw [hb _ h2] at this; cases this
  · exact h2
  · have := h1.1 k h2; rw [h] at this; cases this
theorem fst_none {f : Nat → Bool} {m : Nat} (hb : ∀ j, j < m → f j = false) : fst f m = m := by
  have h1 := fst_spec f m
  have h2 := fst_le f m
  rcases Nat.lt_or_ge (fst f m) m with h | h
  · have := h1.2 h; rw [hb _ h] at this; cases this
  · omega
theorem fst_lt {f : Nat → Bool} {m k : Nat} (hk : k < m) (h : f k = true) : fst f m ≤ k ∧ fst f m < m ∧ f (fst f m) = true := by
  have h1 := fst_spec f m
  have : fst f m ≤ k := by
    rcases Nat.lt_or_ge k (fst f m) with h2 | h2
    · have := h1.1 k h2; rw [h] at this; cases this
    · exact h2
  exact ⟨this, by omega, h1.2 (by omega)⟩
theorem fst_congr {f g : Nat → Bool} {m : Nat} (h : ∀ j, j < m → f j = g j) : fst f m = fst g m := by
  induction m with
  | zero => rfl
  | succ m ih => unfold fst; rw [ih (fun j hj => h j (by omega)), h m (by omega)]
def idx (f : Nat → Bool) (n : Nat) : Int := if fst f n < n then (fst f n : Nat) else -1
theorem idx_yes {f : Nat → Bool} {n : Nat} (h : fst f n < n) : idx f n = (fst f n : Nat) := by unfold idx; rw [if_pos h]
theorem idx_no {f : Nat → Bool} {n : Nat} (h : ¬ fst f n < n) : idx f n = -1 := by unfold idx; rw [if_neg h]
structure Pg.ok (p : Pg) : Prop where
  cls : p.cls = -1 ∨ IsC p.cls
  free : p.cls = -1 → ∀ k, p.used k = false
  high : p.cls ≠ -1 → ∀ k, bpt p.cls ≤ k → p.used k = false
  some1 : p.cls ≠ -1 → ∃ k, k < bpt p.cls ∧ p.used k = true
def Pl.ok (P : Pl) : Prop := ∀ i, i < P.n → (P.pg i).ok
def Pg.zero : Pg := { cls := -1, used := fun _ => false, cell := fun _ => 0 }
def Pl.zero (n : Nat) : Pl := { n := n, pg := fun _ => Pg.zero }
theorem Pg.zero_ok : Pg.zero.ok := ⟨.inl rfl, fun _ _ => rfl, fun h => absurd rfl h, fun h => absurd rfl h⟩
theorem Pl.zero_ok (n : Nat) : (Pl.zero n).ok := fun _ _ => Pg.zero_ok
def Pg.count (p : Pg) : Nat := cnt p.used 8
theorem Pg.ok.isC {p : Pg} (h : p.ok) (hc : p.cls ≠ -1) : IsC p.cls := by rcases h.cls with h1 | h1; exact absurd h1 hc; exact h1
theorem Pg.ok.ge {p : Pg} (h : p.ok) : -1 ≤ p.cls ∧ p.cls ≤ 2 := by rcases h.cls with h1 | h1 | h1 | h1 <;> omega
theorem Pg.ok.count {p : Pg} (h : p.ok) (hc : p.cls ≠ -1) : p.count = cnt p.used (bpt p.cls) :=
  cnt_more (h.isC hc).sz.2.2.2 fun j h1 _ => h.high hc j h1
def Pg.partly (p : Pg) (c : Int) : Bool := p.cls == c && decide (p.count < bpt c)
theorem Pg.partly_iff {p : Pg} {c : Int} : p.partly c = true ↔ p.cls = c ∧ p.count < bpt c := by simp [Pg.partly]
def Pg.gap (p : Pg) (c : Int) : Nat := fst (fun k => !p.used k) (bpt c)
theorem Pg.ok.gap {p : Pg} (h : p.ok) {c : Int} (hc : IsC c) (hp : p.partly c = true) : p.gap c < bpt c ∧ p.used (p.gap c) = false := by
  obtain ⟨rfl, h2⟩ := Pg.partly_iff.1 hp
  have hne : p.cls ≠ -1 := by rcases hc with h | h | h <;> omega
  rw [h.count hne] at h2
  obtain ⟨j, hj, hu⟩ := cnt_lt_iff.1 h2
  have := fst_lt (f := fun k => !p.used k) hj (by simp [hu])
  exact ⟨this.2.1, by have := this.2.2; simp only [Bool.not_eq_true'] at this; exact this⟩
def Pg.take (p : Pg) (c : Int) (k : Nat) (f : Nat → Int) : Pg :=
  { cls := c, used := up p.used k true, cell := fun j => if k * bsz c ≤ j ∧ j < k * bsz c + bsz c then f (j - k * bsz c) else p.cell j }
def Pg.release (p : Pg) (k : Nat) : Pg :=
  { p with used := up p.used k false, cls := if cnt (up p.used k false) 8 = 0 then -1 else p.cls }
theorem Pg.ok.take {p : Pg} (h : p.ok) {c : Int} (hc : IsC c) (hp : p.cls = -1 ∨ p.cls = c) {k : Nat} (hk : k < bpt c) (f : Nat → Int) : (p.take c k f).ok := by
  have hcne : c ≠ -1 := by rcases hc with h | h | h <;> omega
  refine ⟨.inr hc, fun h2 => absurd h2 hcne, fun _ j hj => ?_, fun _ => ⟨k, hk, up_same _ _ _⟩⟩
  show up p.used k true j = false
  have hj' : bpt c ≤ j := hj
  rw [up_other _ _ (by omega)]
  rcases hp with hp | hp
  · exact h.free hp j
  · exact h.high (by omega) j (by rw [hp]; exact hj')
def Pl.set (P : Pl) (i : Nat) (x : Pg) : Pl := { n := P.n, pg := up P.pg i x }
theorem Pl.ok.set {P : Pl} (h : P.ok) {i : Nat} {x : Pg} (hx : x.ok) : (P.set i x).ok := by
  intro j hj
  by_cases e : j = i
  · rw [e]; show (up P.pg i x i).ok; rw [up_same]; exact hx
  · show (up P.pg i x j).ok; rw [up_other _ _ e]; exact h j hj
def Pl.alloc (P : Pl) (c : Int) : Int × Int × Pl :=
  if c < 0 ∨ 2 < c then (0, 1, P) else
  let i := fst (fun i => (P.pg i).partly c) P.n
  if i < P.n then
    let k := (P.pg i).gap c
    (((16 * i + k * bsz c : Nat) : Int), 0, P.set i ((P.pg i).take c k fun _ => 0))
  else
    let i := fst (fun i => decide ((P.pg i).cls < 0)) P.n
    if i < P.n then (((16 * i : Nat) : Int), 0, P.set i ((P.pg i).take c 0 fun _ => 0)) else (0, 14, P)
def Pl.addr (P : Pl) (a : Int) : Bool := decide (0 ≤ a) && decide (a < 16 * P.n)
def Pl.begin (P : Pl) (a : Int) : Int × Int :=
  if P.addr a then
    let x := P.pg (a.toNat / 16)
    if x.cls < 0 then (0, 3) else
    let k := a.toNat % 16 / bsz x.cls
    if x.used k then (((a.toNat / 16 * 16 + k * bsz x.cls : Nat) : Int), 0) else (0, 3)
  else (0, 1)
def Pl.cell (P : Pl) (a : Int) : Int × Int :=
  if (P.begin a).2 = 0 then ((P.pg (a.toNat / 16)).cell (a.toNat % 16), 0) else (0, (P.begin a).2)
def Pl.setCell (P : Pl) (a n : Int) : Int × Pl :=
  if (P.begin a).2 = 0 then (0, P.set (a.toNat / 16) { P.pg (a.toNat / 16) with cell := up (P.pg (a.toNat / 16)).cell (a.toNat % 16) n }) else ((P.begin a).2, P)
def Pl.free (P : Pl) (a : Int) : Int × Pl :=
  if (P.begin a).2 = 0 then
    if (P.begin a).1 = a then (0, P.set (a.toNat / 16) ((P.pg (a.toNat / 16)).release (a.toNat % 16 / bsz (P.pg (a.toNat / 16)).cls))) else (3, P)
  else ((P.begin a).2, P)
def sumN (f : Nat → Nat) : Nat → Nat
  | 0 => 0
  | k + 1 => sumN f k + f k
def Pg.live (p : Pg) (j : Nat) : Bool := decide (p.cls ≠ -1) && decide (j % bsz p.cls = 0) && p.used (j / bsz p.cls)
end Go.Proofs.Ythflghdaejbdkaa
namespace Go.Proofs.Ythflghdaejbdkaa
theorem sumN_congr {f g : Nat → Nat} {k : Nat} (h : ∀ i, i < k → f i = g i) : sumN f k = sumN g k := by
  induction k with
  | zero => rfl
  | succ k ih => unfold sumN; rw [ih (fun i hi => h i (by omega)), h k (by omega)]
theorem sumN_up {f g : Nat → Nat} {i k : Nat} (hi : i < k) (h : ∀ j, j < k → j ≠ i → g j = f j) : sumN g k + f i = sumN f k + g i := by
  induction k with
  | zero => omega
  | succ k ih =>
    unfold sumN
    by_cases e : i = k
    · subst e
      rw [sumN_congr (f := g) (g := f) (fun j hj => h j (by omega) (by omega))]
      omega
    · have := ih (by omega) (fun j hj hne => h j (by omega) hne)
      rw [h k (by omega) (by omega)]
      omega
theorem sumN_zero {f : Nat → Nat} {k : Nat} : sumN f k = 0 ↔ ∀ i, i < k → f i = 0 := by
  induction k with
  | zero => simp [sumN]
  | succ k ih =>
    unfold sumN
    constructor
    · intro h i hi
      by_cases e : i = k
      · rw [e]; omega
      · exact ih.1 (by omega) i (by omega)
    · intro h
      rw [ih.2 (fun i hi => h i (by omega)), h k (by omega)]
theorem Pl.set_same (P : Pl) (i : Nat) (x : Pg) : (P.set i x).pg i = x := up_same _ _ _
theorem Pl.set_other (P : Pl) {i j : Nat} (x : Pg) (h : j ≠ i) : (P.set i x).pg j = P.pg j := up_other _ _ h
theorem Pl.set_n (P : Pl) (i : Nat) (x : Pg) : (P.set i x).n = P.n := rfl
theorem isC_iff {c : Int} : ¬ (c < 0 ∨ 2 < c) ↔ IsC c := by unfold IsC; omega
theorem Pl.alloc_bad {P : Pl} {c : Int} (h : c < 0 ∨ 2 < c) : P.alloc c = (0, 1, P) := by unfold Pl.alloc; rw [if_pos h]
theorem Pl.alloc_part {P : Pl} {c : Int} (h : IsC c) {i : Nat} (hi : i < P.n) (hp : (P.pg i).partly c = true) (hb : ∀ j, j < i → (P.pg j).partly c = false) :
    P.alloc c = (((16 * i + (P.pg i).gap c * bsz c : Nat) : Int), 0, P.set i ((P.pg i).take c ((P.pg i).gap c) fun _ => 0)) := by
  unfold Pl.alloc
  rw [if_neg (isC_iff.2 h)]
  have e : fst (fun i => (P.pg i).partly c) P.n = i := fst_eq hi hp hb
  simp only [e, hi, if_true]
theorem Pl.alloc_new {P : Pl} {c : Int} (h : IsC c) (hn : ∀ j, j < P.n → (P.pg j).partly c = false) {i : Nat} (hi : i < P.n) (hp : (P.pg i).cls < 0) (hb : ∀ j, j < i → ¬ (P.pg j).cls < 0) :
    P.alloc c = (((16 * i : Nat) : Int), 0, P.set i ((P.pg i).take c 0 fun _ => 0)) := by
  unfold Pl.alloc
  rw [if_neg (isC_iff.2 h)]
  have e : fst (fun i => (P.pg i).partly c) P.n = P.n := fst_none hn
  have e2 : fst (fun i => decide ((P.pg i).cls < 0)) P.n = i := fst_eq hi (by simpa using hp) (fun j hj => by simpa using hb j hj)
  simp only [e, e2, hi, Nat.lt_irrefl, if_true, if_false]
theorem Pl.alloc_full {P : Pl} {c : Int} (h : IsC c) (hn : ∀ j, j < P.n → (P.pg j).partly c = false) (hf : ∀ j, j < P.n → ¬ (P.pg j).cls < 0) : P.alloc c = (0, 14, P) := by
  unfold Pl.alloc
  rw [if_neg (isC_iff.2 h)]
  have e : fst (fun i => (P.pg i).partly c) P.n = P.n := fst_none hn
  have e2 : fst (fun i => decide ((P.pg i).cls < 0)) P.n = P.n := fst_none (fun j hj => by simpa using hf j hj)
  simp only [e, e2, Nat.lt_irrefl, if_false]
theorem Pl.alloc_cases (P : Pl) (c : Int) : (c < 0 ∨ 2 < c) ∨ IsC c ∧ ((∃ i, i < P.n ∧ (P.pg i).partly c = true ∧ ∀ j, j < i → (P.pg j).partly c = false) ∨
    (∀ j, j < P.n → (P.pg j).partly c = false) ∧ ((∃ i, i < P.n ∧ (P.pg i).cls < 0 ∧ ∀ j, j < i → ¬ (P.pg j).cls < 0) ∨ ∀ j, j < P.n → ¬ (P.pg j).cls < 0)) := by
  by_cases h : c < 0 ∨ 2 < c
  · exact .inl h
  refine .inr ⟨isC_iff.1 h, ?_⟩
  have h1 := fst_spec (fun i => (P.pg i).partly c) P.n
  by_cases hi : fst (fun i => (P.pg i).partly c) P.n < P.n
  · exact .inl ⟨_, hi, h1.2 hi, h1.1⟩
  have e : fst (fun i => (P.pg i).partly c) P.n = P.n := by have := fst_le (fun i => (P.pg i).partly c) P.n; omega
  rw [e] at h1
  refine .inr ⟨h1.1, ?_⟩
  have h2 := fst_spec (fun i => decide ((P.pg i).cls < 0)) P.n
  by_cases hi2 : fst (fun i => decide ((P.pg i).cls < 0)) P.n < P.n
  · exact .inl ⟨_, hi2, by simpa using h2.2 hi2, fun j hj => by simpa using h2.1 j hj⟩
  have e2 : fst (fun i => decide ((P.pg i).cls < 0)) P.n = P.n := by have := fst_le (fun i => decide ((P.pg i).cls < 0)) P.n; omega
  rw [e2] at h2
  exact .inr fun j hj => by simpa using h2.1 j hj
theorem Pg.ok.neg {p : Pg} (h : p.ok) : p.cls < 0 ↔ p.cls = -1 := by have := h.ge; omega
theorem Pl.ok.alloc {P : Pl} (h : P.ok) (c : Int) : (P.alloc c).2.2.ok ∧ (P.alloc c).2.2.n = P.n := by
  rcases P.alloc_cases c with hc | ⟨hc, ⟨i, hi, hp, hb⟩ | ⟨hn, ⟨i, hi, hp, hb⟩ | hf⟩⟩
  · rw [Pl.alloc_bad hc]; exact ⟨h, rfl⟩
  · rw [Pl.alloc_part hc hi hp hb]
    exact ⟨h.set ((h i hi).take hc (.inr (Pg.partly_iff.1 hp).1) ((h i hi).gap hc hp).1 _), rfl⟩
  · rw [Pl.alloc_new hc hn hi hp hb]
    have := hc.sz
    exact ⟨h.set ((h i hi).take hc (.inl ((h i hi).neg.1 hp)) (by omega) _), rfl⟩
  · rw [Pl.alloc_full hc hn hf]; exact ⟨h, rfl⟩
theorem Pl.addr_iff {P : Pl} {a : Int} : P.addr a = true ↔ 0 ≤ a ∧ a < 16 * P.n := by simp [Pl.addr]
theorem Pl.begin_bad {P : Pl} {a : Int} (h : P.addr a = false) : P.begin a = (0, 1) := by unfold Pl.begin; rw [h]; rfl
theorem Pl.begin_free {P : Pl} {a : Int} (h : P.addr a = true) (hc : (P.pg (a.toNat / 16)).cls < 0) : P.begin a = (0, 3) := by unfold Pl.begin; rw [h]; simp [hc]
theorem Pl.begin_yes {P : Pl} {a : Int} (h : P.addr a = true) (hc : ¬ (P.pg (a.toNat / 16)).cls < 0) (hu : (P.pg (a.toNat / 16)).used (a.toNat % 16 / bsz (P.pg (a.toNat / 16)).cls) = true) :
    P.begin a = (((a.toNat / 16 * 16 + a.toNat % 16 / bsz (P.pg (a.toNat / 16)).cls * bsz (P.pg (a.toNat / 16)).cls : Nat) : Int), 0) := by unfold Pl.begin; rw [h]; simp [hc, hu]
theorem Pl.begin_no {P : Pl} {a : Int} (h : P.addr a = true) (hc : ¬ (P.pg (a.toNat / 16)).cls < 0) (hu : (P.pg (a.toNat / 16)).used (a.toNat % 16 / bsz (P.pg (a.toNat / 16)).cls) = false) :
    P.begin a = (0, 3) := by unfold Pl.begin; rw [h]; simp [hc, hu]
theorem Pl.begin_ok {P : Pl} {a : Int} (h : (P.begin a).2 = 0) : P.addr a = true ∧ ¬ (P.pg (a.toNat / 16)).cls < 0 ∧ (P.pg (a.toNat / 16)).used (a.toNat % 16 / bsz (P.pg (a.toNat / 16)).cls) = true ∧
    (P.begin a).1 = ((a.toNat / 16 * 16 + a.toNat % 16 / bsz (P.pg (a.toNat / 16)).cls * bsz (P.pg (a.toNat / 16)).cls : Nat) : Int) ∧ a.toNat / 16 < P.n ∧ a.toNat % 16 < 16 ∧ a = (a.toNat : Int) := by
  cases ha : P.addr a with
  | false => rw [Pl.begin_bad ha] at h; cases h
  | true =>
    have hr := Pl.addr_iff.1 ha
    by_cases hc : (P.pg (a.toNat / 16)).cls < 0
    · rw [Pl.begin_free ha hc] at h; cases h
    · cases hu : (P.pg (a.toNat / 16)).used (a.toNat % 16 / bsz (P.pg (a.toNat / 16)).cls) with
      | false => rw [Pl.begin_no ha hc hu] at h; cases h
      | true => exact ⟨rfl, hc, rfl, by rw [Pl.begin_yes ha hc hu], by omega, by omega, by omega⟩
theorem Pg.ok.put {p : Pg} (h : p.ok) (f : Nat → Int) : ({ p with cell := f } : Pg).ok := ⟨h.cls, h.free, h.high, h.some1⟩
theorem Pl.ok.setCell {P : Pl} (h : P.ok) (a n : Int) : (P.setCell a n).2.ok ∧ (P.setCell a n).2.n = P.n := by
  unfold Pl.setCell
  split
  · rename_i h0
    have := Pl.begin_ok h0
    exact ⟨h.set ((h _ this.2.2.2.2.1).put _), rfl⟩
  · exact ⟨h, rfl⟩
end Go.Proofs.Ythflghdaejbdkaa
namespace Go.Proofs.Ythflghdaejbdkaa
open Go.RowKit
end Go.Proofs.Ythflghdaejbdkaa
