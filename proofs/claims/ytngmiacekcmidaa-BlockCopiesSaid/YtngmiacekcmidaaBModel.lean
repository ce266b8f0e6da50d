/- Pages of blocks: a plain model that serves both sides. -/
namespace Go.Proofs.Ytngmiacekcmidaa

/-- A page: its class (-1: free), which of its blocks are used, its cells. -/
structure Pg where
  cls : Int
  used : Nat → Bool
  cell : Nat → Int
/-- A pool of n pages. -/
structure Pl where
  n : Nat
  pg : Nat → Pg

/-- Cells of a block of a class; blocks of a page of a class. -/
def bsz (c : Int) : Nat := 2 * 2 ^ c.toNat
def bpt (c : Int) : Nat := 16 / bsz c
def IsC (c : Int) : Prop := c = 0 ∨ c = 1 ∨ c = 2
theorem IsC.facts {c : Int} (h : IsC c) : (bsz c = 2 ∧ bpt c = 8) ∨ (bsz c = 4 ∧ bpt c = 4) ∨ (bsz c = 8 ∧ bpt c = 2) := by
  rcases h with rfl | rfl | rfl
  · exact .inl ⟨rfl, rfl⟩
  · exact .inr (.inl ⟨rfl, rfl⟩)
  · exact .inr (.inr ⟨rfl, rfl⟩)
theorem IsC.sz {c : Int} (h : IsC c) : 2 ≤ bsz c ∧ bsz c ≤ 8 ∧ 2 ≤ bpt c ∧ bpt c ≤ 8 := by
  rcases h.facts with ⟨h1, h2⟩ | ⟨h1, h2⟩ | ⟨h1, h2⟩ <;> omega
/-- A block lies in its page. -/
theorem IsC.blk {c : Int} (h : IsC c) {k : Nat} (hk : k < bpt c) : k * bsz c + bsz c ≤ 16 ∧ (k + 1) * bsz c = k * bsz c + bsz c := by
  rcases h.facts with ⟨h1, h2⟩ | ⟨h1, h2⟩ | ⟨h1, h2⟩ <;> (rw [h1]; rw [h2] at hk; omega)
theorem IsC.div {c : Int} (h : IsC c) {j : Nat} (hj : j < 16) : j / bsz c < bpt c ∧ j / bsz c * bsz c ≤ j ∧ j < j / bsz c * bsz c + bsz c ∧ j % bsz c = j - j / bsz c * bsz c := by
  rcases h.facts with ⟨h1, h2⟩ | ⟨h1, h2⟩ | ⟨h1, h2⟩ <;> (rw [h1, h2]; omega)
theorem IsC.of_at {c : Int} (h : IsC c) {k j : Nat} (h1 : k * bsz c ≤ j) (h2 : j < k * bsz c + bsz c) : j / bsz c = k := by
  rcases h.facts with ⟨h3, _⟩ | ⟨h3, _⟩ | ⟨h3, _⟩ <;> (rw [h3] at h1 h2 ⊢; omega)
theorem IsC.mul_div {c : Int} (h : IsC c) (k : Nat) : k * bsz c / bsz c = k ∧ k * bsz c % bsz c = 0 := by
  rcases h.facts with ⟨h3, h4⟩ | ⟨h3, h4⟩ | ⟨h3, h4⟩ <;> (rw [h3]; omega)
theorem IsC.blocks {c : Int} (h : IsC c) {k l : Nat} (hkl : k * bsz c = l * bsz c) : k = l := by
  rcases h.facts with ⟨h3, h4⟩ | ⟨h3, h4⟩ | ⟨h3, h4⟩ <;> (rw [h3] at hkl; omega)

/-- How many of the first k are set. -/
def cnt (u : Nat → Bool) : Nat → Nat
  | 0 => 0
  | k + 1 => cnt u k + if u k then 1 else 0
theorem cnt_le (u : Nat → Bool) (k : Nat) : cnt u k ≤ k := by
  induction k with
  | zero => exact Nat.le_refl _
  | succ k ih => unfold cnt; split <;> omega
theorem cnt_congr {u v : Nat → Bool} {k : Nat} (h : ∀ j, j < k → u j = v j) : cnt u k = cnt v k := by
  induction k with
  | zero => rfl
  | succ k ih => unfold cnt; rw [ih (fun j hj => h j (by omega)), h k (by omega)]
theorem cnt_zero {u : Nat → Bool} {k : Nat} (h : ∀ j, j < k → u j = false) : cnt u k = 0 := by
  induction k with
  | zero => rfl
  | succ k ih => unfold cnt; rw [ih (fun j hj => h j (by omega)), h k (by omega)]; rfl
theorem cnt_pos {u : Nat → Bool} {k j : Nat} (hj : j < k) (h : u j = true) : 0 < cnt u k := by
  induction k with
  | zero => omega
  | succ k ih =>
    unfold cnt
    by_cases e : j = k
    · subst e; rw [h]; simp
    · have := ih (by omega); omega
theorem cnt_full {u : Nat → Bool} {k : Nat} : cnt u k = k ↔ ∀ j, j < k → u j = true := by
  induction k with
  | zero => simp [cnt]
  | succ k ih =>
    have := cnt_le u k
    unfold cnt
    constructor
    · intro h j hj
      by_cases hk : u k = true
      · by_cases e : j = k
        · rw [e]; exact hk
        · exact ih.1 (by rw [hk] at h; simpa using h) j (by omega)
      · simp at hk; rw [hk] at h; simp at h; omega
    · intro h
      rw [h k (by omega), ih.2 (fun j hj => h j (by omega))]
      rfl
theorem cnt_lt_iff {u : Nat → Bool} {k : Nat} : cnt u k < k ↔ ∃ j, j < k ∧ u j = false := by
  constructor
  · intro h
    apply Classical.byContradiction
    intro hn
    have : cnt u k = k := cnt_full.2 fun j hj => by
      cases hu : u j with
      | true => rfl
      | false => exact absurd ⟨j, hj, hu⟩ hn
    omega
  · rintro ⟨j, hj, hu⟩
    have h1 := cnt_le u k
    rcases Nat.lt_or_ge (cnt u k) k with h | h
    · exact h
    · have := cnt_full.1 (by omega : cnt u k = k) j hj
      rw [hu] at this; cases this
theorem cnt_eq_zero {u : Nat → Bool} {k : Nat} : cnt u k = 0 ↔ ∀ j, j < k → u j = false := by
  constructor
  · intro h j hj
    cases hu : u j with
    | false => rfl
    | true => have := cnt_pos hj hu; omega
  · exact cnt_zero
theorem cnt_more {u : Nat → Bool} {k m : Nat} (hkm : k ≤ m) (h : ∀ j, k ≤ j → j < m → u j = false) : cnt u m = cnt u k := by
  induction m with
  | zero => rw [show k = 0 by omega]
  | succ m ih =>
    by_cases e : k = m + 1
    · rw [e]
    · rw [show cnt u (m + 1) = cnt u m + if u m then 1 else 0 from rfl, ih (by omega) (fun j h1 h2 => h j h1 (by omega)), h m (by omega) (by omega)]; rfl
def up {α : Type} (f : Nat → α) (k : Nat) (x : α) : Nat → α := fun j => if j = k then x else f j
theorem up_same {α : Type} (f : Nat → α) (k : Nat) (x : α) : up f k x k = x := by simp [up]
theorem up_other {α : Type} (f : Nat → α) {k j : Nat} (x : α) (h : j ≠ k) : up f k x j = f j := by simp [up, h]
theorem cnt_set {u : Nat → Bool} {k m : Nat} (hk : k < m) (h : u k = false) : cnt (up u k true) m = cnt u m + 1 := by
  induction m with
  | zero => omega
  | succ m ih =>
    unfold cnt
    by_cases e : k = m
    · subst e
      rw [up_same, h, cnt_congr (v := u) (fun j hj => up_other _ _ (by omega))]; simp
    · rw [ih (by omega), up_other _ _ (by omega)]; omega
theorem cnt_clear {u : Nat → Bool} {k m : Nat} (hk : k < m) (h : u k = true) : cnt (up u k false) m + 1 = cnt u m := by
  induction m with
  | zero => omega
  | succ m ih =>
    unfold cnt
    by_cases e : k = m
    · subst e
      rw [up_same, h, cnt_congr (v := u) (fun j hj => up_other _ _ (by omega))]; simp
    · rw [up_other _ _ (by omega)]
      have := ih (by omega); omega

/-- The least k below m with f k; m: there is none. -/
def fst (f : Nat → Bool) : Nat → Nat
  | 0 => 0
  | m + 1 => if fst f m < m then fst f m else if f m then m else m + 1
theorem fst_le (f : Nat → Bool) (m : Nat) : fst f m ≤ m := by
  induction m with
  | zero => exact Nat.le_refl _
  | succ m ih => unfold fst; split; omega; split <;> omega
theorem fst_spec (f : Nat → Bool) (m : Nat) : (∀ j, j < fst f m → f j = false) ∧ (fst f m < m → f (fst f m) = true) := by
  induction m with
  | zero => exact ⟨fun j hj => by simp [fst] at hj, fun h => by simp [fst] at h⟩
  | succ m ih =>
    unfold fst
    have hle := fst_le f m
    split
    · rename_i h
      exact ⟨ih.1, fun _ => ih.2 h⟩
    · have e : fst f m = m := by omega
      split
      · rename_i h2
        exact ⟨by rw [e] at ih; exact ih.1, fun _ => h2⟩
      · rename_i h2
        refine ⟨fun j hj => ?_, fun h => by omega⟩
        by_cases e2 : j = m
        · rw [e2]; simpa using h2
        · exact ih.1 j (by omega)
theorem fst_eq {f : Nat → Bool} {m k : Nat} (hk : k < m) (h : f k = true) (hb : ∀ j, j < k → f j = false) : fst f m = k := by
  have h1 := fst_spec f m
  rcases Nat.lt_trichotomy (fst f m) k with h2 | h2 | h2
  · have := h1.2 (by omega); rw [hb _ h2] at this; cases this
  · exact h2
  · have := h1.1 k h2; rw [h] at this; cases this
theorem fst_none {f : Nat → Bool} {m : Nat} (hb : ∀ j, j < m → f j = false) : fst f m = m := by
  have h1 := fst_spec f m
  have h2 := fst_le f m
  rcases Nat.lt_or_ge (fst f m) m with h | h
  · have := h1.2 h; rw [hb _ h] at this; cases this
  · omega
theorem fst_lt {f : Nat → Bool} {m k : Nat} (hk : k < m) (h : f k = true) : fst f m ≤ k ∧ fst f m < m ∧ f (fst f m) = true := by
  have h1 := fst_spec f m
  have : fst f m ≤ k := by
    rcases Nat.lt_or_ge k (fst f m) with h2 | h2
    · have := h1.1 k h2; rw [h] at this; cases this
    · exact h2
  exact ⟨this, by omega, h1.2 (by omega)⟩
theorem fst_congr {f g : Nat → Bool} {m : Nat} (h : ∀ j, j < m → f j = g j) : fst f m = fst g m := by
  induction m with
  | zero => rfl
  | succ m ih => unfold fst; rw [ih (fun j hj => h j (by omega)), h m (by omega)]

/-- .. as Go's Index tells it. -/
def idx (f : Nat → Bool) (n : Nat) : Int := if fst f n < n then (fst f n : Nat) else -1
theorem idx_yes {f : Nat → Bool} {n : Nat} (h : fst f n < n) : idx f n = (fst f n : Nat) := by unfold idx; rw [if_pos h]
theorem idx_no {f : Nat → Bool} {n : Nat} (h : ¬ fst f n < n) : idx f n = -1 := by unfold idx; rw [if_neg h]

/-- What holds of every page. -/
structure Pg.ok (p : Pg) : Prop where
  cls : p.cls = -1 ∨ IsC p.cls
  free : p.cls = -1 → ∀ k, p.used k = false
  high : p.cls ≠ -1 → ∀ k, bpt p.cls ≤ k → p.used k = false
  some1 : p.cls ≠ -1 → ∃ k, k < bpt p.cls ∧ p.used k = true
def Pl.ok (P : Pl) : Prop := ∀ i, i < P.n → (P.pg i).ok

def Pg.zero : Pg := { cls := -1, used := fun _ => false, cell := fun _ => 0 }
def Pl.zero (n : Nat) : Pl := { n := n, pg := fun _ => Pg.zero }
theorem Pg.zero_ok : Pg.zero.ok := ⟨.inl rfl, fun _ _ => rfl, fun h => absurd rfl h, fun h => absurd rfl h⟩
theorem Pl.zero_ok (n : Nat) : (Pl.zero n).ok := fun _ _ => Pg.zero_ok

def Pg.count (p : Pg) : Nat := cnt p.used 8
theorem Pg.count_le (p : Pg) : p.count ≤ 8 := cnt_le _ _
theorem Pg.ok.isC {p : Pg} (h : p.ok) (hc : p.cls ≠ -1) : IsC p.cls := by rcases h.cls with h1 | h1; exact absurd h1 hc; exact h1
theorem Pg.ok.ge {p : Pg} (h : p.ok) : -1 ≤ p.cls ∧ p.cls ≤ 2 := by rcases h.cls with h1 | h1 | h1 | h1 <;> omega
theorem Pg.ok.count {p : Pg} (h : p.ok) (hc : p.cls ≠ -1) : p.count = cnt p.used (bpt p.cls) :=
  cnt_more (h.isC hc).sz.2.2.2 fun j h1 _ => h.high hc j h1
theorem Pg.ok.count_le {p : Pg} (h : p.ok) (hc : p.cls ≠ -1) : p.count ≤ bpt p.cls := by rw [h.count hc]; exact cnt_le _ _
theorem Pg.ok.count_pos {p : Pg} (h : p.ok) (hc : p.cls ≠ -1) : 0 < p.count := by
  obtain ⟨k, hk, hu⟩ := h.some1 hc
  have := (h.isC hc).sz
  exact cnt_pos (by omega : k < 8) hu
theorem Pg.ok.count_free {p : Pg} (h : p.ok) (hc : p.cls = -1) : p.count = 0 := cnt_zero fun j _ => h.free hc j

def Pg.partly (p : Pg) (c : Int) : Bool := p.cls == c && decide (p.count < bpt c)
theorem Pg.partly_iff {p : Pg} {c : Int} : p.partly c = true ↔ p.cls = c ∧ p.count < bpt c := by simp [Pg.partly]
/-- The first block that is not used; the first that is. -/
def Pg.gap (p : Pg) (c : Int) : Nat := fst (fun k => !p.used k) (bpt c)
def Pg.top (p : Pg) (c : Int) : Nat := fst p.used (bpt c)
theorem Pg.ok.gap {p : Pg} (h : p.ok) {c : Int} (hc : IsC c) (hp : p.partly c = true) : p.gap c < bpt c ∧ p.used (p.gap c) = false := by
  obtain ⟨rfl, h2⟩ := Pg.partly_iff.1 hp
  have hne : p.cls ≠ -1 := by rcases hc with h | h | h <;> omega
  rw [h.count hne] at h2
  obtain ⟨j, hj, hu⟩ := cnt_lt_iff.1 h2
  have := fst_lt (f := fun k => !p.used k) hj (by simp [hu])
  exact ⟨this.2.1, by have := this.2.2; simp only [Bool.not_eq_true'] at this; exact this⟩
theorem Pg.ok.top {p : Pg} (h : p.ok) (hc : p.cls ≠ -1) : p.top p.cls < bpt p.cls ∧ p.used (p.top p.cls) = true := by
  obtain ⟨j, hj, hu⟩ := h.some1 hc
  have := fst_lt (f := p.used) hj hu
  exact ⟨this.2.1, this.2.2⟩

/-- A block is taken, its cells become f. -/
def Pg.take (p : Pg) (c : Int) (k : Nat) (f : Nat → Int) : Pg :=
  { cls := c, used := up p.used k true, cell := fun j => if k * bsz c ≤ j ∧ j < k * bsz c + bsz c then f (j - k * bsz c) else p.cell j }
/-- A block is freed. -/
def Pg.release (p : Pg) (k : Nat) : Pg :=
  { p with used := up p.used k false, cls := if cnt (up p.used k false) 8 = 0 then -1 else p.cls }
theorem Pg.ok.take {p : Pg} (h : p.ok) {c : Int} (hc : IsC c) (hp : p.cls = -1 ∨ p.cls = c) {k : Nat} (hk : k < bpt c) (f : Nat → Int) : (p.take c k f).ok := by
  have hcne : c ≠ -1 := by rcases hc with h | h | h <;> omega
  refine ⟨.inr hc, fun h2 => absurd h2 hcne, fun _ j hj => ?_, fun _ => ⟨k, hk, up_same _ _ _⟩⟩
  show up p.used k true j = false
  have hj' : bpt c ≤ j := hj
  rw [up_other _ _ (by omega)]
  rcases hp with hp | hp
  · exact h.free hp j
  · exact h.high (by omega) j (by rw [hp]; exact hj')
theorem Pg.ok.release {p : Pg} (h : p.ok) (hc : p.cls ≠ -1) (k : Nat) : (p.release k).ok := by
  have hsz := (h.isC hc).sz
  unfold Pg.release
  by_cases h0 : cnt (up p.used k false) 8 = 0
  · have hz := cnt_eq_zero.1 h0
    refine ⟨.inl (by simp [h0]), fun _ j => ?_, fun h2 => by simp [h0] at h2, fun h2 => by simp [h0] at h2⟩
    show up p.used k false j = false
    by_cases hj : j < 8
    · exact hz j hj
    · by_cases e : j = k
      · rw [e, up_same]
      · rw [up_other _ _ e]; exact h.high hc j (by omega)
  · refine ⟨by simp [h0]; exact h.cls, fun h2 => by simp [h0] at h2; exact absurd h2 hc, fun _ j hj => ?_, fun _ => ?_⟩
    · simp only [h0, if_false] at hj
      show up p.used k false j = false
      by_cases e : j = k
      · rw [e, up_same]
      · rw [up_other _ _ e]; exact h.high hc j hj
    · simp only [h0, if_false]
      apply Classical.byContradiction
      intro hn
      apply h0
      apply cnt_zero
      intro j hj
      by_cases e : j = k
      · rw [e, up_same]
      · rw [up_other _ _ e]
        by_cases hb : j < bpt p.cls
        · cases hu : p.used j with
          | false => rfl
          | true => exact absurd ⟨j, hb, by show up p.used k false j = true; rw [up_other _ _ e]; exact hu⟩ hn
        · exact h.high hc j (by omega)

def Pl.set (P : Pl) (i : Nat) (x : Pg) : Pl := { n := P.n, pg := up P.pg i x }
theorem Pl.ok.set {P : Pl} (h : P.ok) {i : Nat} {x : Pg} (hx : x.ok) : (P.set i x).ok := by
  intro j hj
  by_cases e : j = i
  · rw [e]; show (up P.pg i x i).ok; rw [up_same]; exact hx
  · show (up P.pg i x j).ok; rw [up_other _ _ e]; exact h j hj

/-- Alloc: the address, the error, the pool behind. -/
def Pl.alloc (P : Pl) (c : Int) : Int × Int × Pl :=
  if c < 0 ∨ 2 < c then (0, 1, P) else
  let i := fst (fun i => (P.pg i).partly c) P.n
  if i < P.n then
    let k := (P.pg i).gap c
    (((16 * i + k * bsz c : Nat) : Int), 0, P.set i ((P.pg i).take c k fun _ => 0))
  else
    let i := fst (fun i => decide ((P.pg i).cls < 0)) P.n
    if i < P.n then (((16 * i : Nat) : Int), 0, P.set i ((P.pg i).take c 0 fun _ => 0)) else (0, 14, P)
/-- Is it the address of a cell? -/
def Pl.addr (P : Pl) (a : Int) : Bool := decide (0 ≤ a) && decide (a < 16 * P.n)
/-- The used block in which a cell lies. -/
def Pl.begin (P : Pl) (a : Int) : Int × Int :=
  if P.addr a then
    let x := P.pg (a.toNat / 16)
    if x.cls < 0 then (0, 3) else
    let k := a.toNat % 16 / bsz x.cls
    if x.used k then (((a.toNat / 16 * 16 + k * bsz x.cls : Nat) : Int), 0) else (0, 3)
  else (0, 1)
def Pl.cell (P : Pl) (a : Int) : Int × Int :=
  if (P.begin a).2 = 0 then ((P.pg (a.toNat / 16)).cell (a.toNat % 16), 0) else (0, (P.begin a).2)
def Pl.setCell (P : Pl) (a n : Int) : Int × Pl :=
  if (P.begin a).2 = 0 then (0, P.set (a.toNat / 16) { P.pg (a.toNat / 16) with cell := up (P.pg (a.toNat / 16)).cell (a.toNat % 16) n }) else ((P.begin a).2, P)
def Pl.free (P : Pl) (a : Int) : Int × Pl :=
  if (P.begin a).2 = 0 then
    if (P.begin a).1 = a then (0, P.set (a.toNat / 16) ((P.pg (a.toNat / 16)).release (a.toNat % 16 / bsz (P.pg (a.toNat / 16)).cls))) else (3, P)
  else ((P.begin a).2, P)

/-- Which page gives, which gets, of the first k. -/
def Pl.frm (P : Pl) (c : Int) : Nat → Option Nat
  | 0 => none
  | k + 1 => match P.frm c k with
    | none => if (P.pg k).partly c = true then some k else none
    | some f => if (P.pg k).partly c = true ∧ (P.pg k).count ≤ (P.pg f).count then some k else some f
def Pl.too (P : Pl) (c : Int) (f : Option Nat) : Nat → Option Nat
  | 0 => none
  | k + 1 => match P.too c f k with
    | none => if some k ≠ f ∧ (P.pg k).partly c = true then some k else none
    | some t => if some k ≠ f ∧ (P.pg k).partly c = true ∧ (P.pg t).count < (P.pg k).count then some k else some t
def oInt : Option Nat → Int | none => -1 | some k => k
def Pl.pairC (P : Pl) (c : Int) : Option (Nat × Nat) :=
  match P.frm c P.n, P.too c (P.frm c P.n) P.n with
  | some f, some t => some (f, t)
  | _, _ => none
def Pl.pair (P : Pl) : Option (Nat × Nat) := (P.pairC 0).or ((P.pairC 1).or (P.pairC 2))
def Pl.moved (P : Pl) (i j : Nat) : Pl :=
  let a := P.pg i
  let b := P.pg j
  (P.set j (b.take a.cls (b.gap b.cls) fun x => a.cell (a.top a.cls * bsz a.cls + x))).set i (a.release (a.top a.cls))
def Pl.move (P : Pl) : Int × Int × Int × Pl :=
  match P.pair with
  | none => (0, 0, 3, P)
  | some (i, j) =>
    let a := P.pg i
    let b := P.pg j
    (((16 * i + a.top a.cls * bsz a.cls : Nat) : Int), ((16 * j + b.gap b.cls * bsz a.cls : Nat) : Int), 0, P.moved i j)

/-- The sum of the first k. -/
def sumN (f : Nat → Nat) : Nat → Nat
  | 0 => 0
  | k + 1 => sumN f k + f k
def Pl.usedF (P : Pl) (c : Int) (i : Nat) : Nat := if (P.pg i).cls = c then (P.pg i).count else 0
def Pl.roomF (P : Pl) (c : Int) (i : Nat) : Nat := if (P.pg i).cls = -1 then bpt c else if (P.pg i).cls = c then bpt c - (P.pg i).count else 0
def Pl.freeF (P : Pl) (i : Nat) : Nat := if (P.pg i).cls < 0 then 1 else 0
def Pl.partF (P : Pl) (i : Nat) : Nat := if 0 ≤ (P.pg i).cls ∧ (P.pg i).partly (P.pg i).cls = true then 1 else 0
def Pl.fullF (P : Pl) (i : Nat) : Nat := if 0 ≤ (P.pg i).cls ∧ (P.pg i).partly (P.pg i).cls = false then 1 else 0
def Pl.usedN (P : Pl) (c : Int) (k : Nat) : Nat := sumN (P.usedF c) k
def Pl.roomN (P : Pl) (c : Int) (k : Nat) : Nat := sumN (P.roomF c) k
def Pl.freeN (P : Pl) (k : Nat) : Nat := sumN P.freeF k
def Pl.partN (P : Pl) (k : Nat) : Nat := sumN P.partF k
def Pl.fullN (P : Pl) (k : Nat) : Nat := sumN P.fullF k
def Pl.class (P : Pl) (i : Int) : Int × Int := if i < 0 ∨ (P.n : Int) ≤ i then (0, 1) else ((P.pg i.toNat).cls, 0)
def Pl.used (P : Pl) (c : Int) : Int × Int := if c < 0 ∨ 2 < c then (0, 1) else ((P.usedN c P.n : Nat), 0)
def Pl.room (P : Pl) (c : Int) : Int × Int := if c < 0 ∨ 2 < c then (0, 1) else ((P.roomN c P.n : Nat), 0)

/-- A deed: the number, the error, the pool behind. -/
def Pl.do (P : Pl) (d a b : Int) : Int × Int × Pl :=
  if d = 1 ∧ b = 0 then P.alloc a
  else if d = 2 ∧ b = 0 then (0, P.free a)
  else if d = 3 then (0, P.setCell a b)
  else if d = 4 ∧ a = 0 ∧ b = 0 then (P.move.2.1, P.move.2.2.1, P.move.2.2.2)
  else (0, 1, P)

/-- The reference's row that says where used blocks begin. -/
def Pg.live (p : Pg) (j : Nat) : Bool := decide (p.cls ≠ -1) && decide (j % bsz p.cls = 0) && p.used (j / bsz p.cls)
end Go.Proofs.Ytngmiacekcmidaa
