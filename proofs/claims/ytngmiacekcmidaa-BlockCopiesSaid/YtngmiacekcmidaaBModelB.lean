/- Pages of blocks: what the model's steps keep; moves. -/
import Derived.Test.YtngmiacekcmidaaBModel
namespace Go.Proofs.Ytngmiacekcmidaa

theorem sumN_congr {f g : Nat → Nat} {k : Nat} (h : ∀ i, i < k → f i = g i) : sumN f k = sumN g k := by
  induction k with
  | zero => rfl
  | succ k ih => unfold sumN; rw [ih (fun i hi => h i (by omega)), h k (by omega)]
theorem sumN_up {f g : Nat → Nat} {i k : Nat} (hi : i < k) (h : ∀ j, j < k → j ≠ i → g j = f j) : sumN g k + f i = sumN f k + g i := by
  induction k with
  | zero => omega
  | succ k ih =>
    unfold sumN
    by_cases e : i = k
    · subst e
      rw [sumN_congr (f := g) (g := f) (fun j hj => h j (by omega) (by omega))]
      omega
    · have := ih (by omega) (fun j hj hne => h j (by omega) hne)
      rw [h k (by omega) (by omega)]
      omega
theorem sumN_le {f : Nat → Nat} {k m : Nat} (h : ∀ i, i < k → f i ≤ m) : sumN f k ≤ m * k := by
  induction k with
  | zero => exact Nat.zero_le _
  | succ k ih => have h1 := ih (fun i hi => h i (by omega)); have h2 := h k (by omega); unfold sumN; rw [Nat.mul_add]; omega
theorem sumN_zero {f : Nat → Nat} {k : Nat} : sumN f k = 0 ↔ ∀ i, i < k → f i = 0 := by
  induction k with
  | zero => simp [sumN]
  | succ k ih =>
    unfold sumN
    constructor
    · intro h i hi
      by_cases e : i = k
      · rw [e]; omega
      · exact ih.1 (by omega) i (by omega)
    · intro h
      rw [ih.2 (fun i hi => h i (by omega)), h k (by omega)]
theorem sumN_add {f g : Nat → Nat} {k : Nat} : sumN (fun i => f i + g i) k = sumN f k + sumN g k := by
  induction k with
  | zero => rfl
  | succ k ih => unfold sumN; rw [ih]; omega

theorem Pl.set_same (P : Pl) (i : Nat) (x : Pg) : (P.set i x).pg i = x := up_same _ _ _
theorem Pl.set_other (P : Pl) {i j : Nat} (x : Pg) (h : j ≠ i) : (P.set i x).pg j = P.pg j := up_other _ _ h
theorem Pl.set_n (P : Pl) (i : Nat) (x : Pg) : (P.set i x).n = P.n := rfl

theorem isC_iff {c : Int} : ¬ (c < 0 ∨ 2 < c) ↔ IsC c := by unfold IsC; omega

/-- The three ways of Alloc. -/
theorem Pl.alloc_bad {P : Pl} {c : Int} (h : c < 0 ∨ 2 < c) : P.alloc c = (0, 1, P) := by unfold Pl.alloc; rw [if_pos h]
theorem Pl.alloc_part {P : Pl} {c : Int} (h : IsC c) {i : Nat} (hi : i < P.n) (hp : (P.pg i).partly c = true) (hb : ∀ j, j < i → (P.pg j).partly c = false) :
    P.alloc c = (((16 * i + (P.pg i).gap c * bsz c : Nat) : Int), 0, P.set i ((P.pg i).take c ((P.pg i).gap c) fun _ => 0)) := by
  unfold Pl.alloc
  rw [if_neg (isC_iff.2 h)]
  have e : fst (fun i => (P.pg i).partly c) P.n = i := fst_eq hi hp hb
  simp only [e, hi, if_true]
theorem Pl.alloc_new {P : Pl} {c : Int} (h : IsC c) (hn : ∀ j, j < P.n → (P.pg j).partly c = false) {i : Nat} (hi : i < P.n) (hp : (P.pg i).cls < 0) (hb : ∀ j, j < i → ¬ (P.pg j).cls < 0) :
    P.alloc c = (((16 * i : Nat) : Int), 0, P.set i ((P.pg i).take c 0 fun _ => 0)) := by
  unfold Pl.alloc
  rw [if_neg (isC_iff.2 h)]
  have e : fst (fun i => (P.pg i).partly c) P.n = P.n := fst_none hn
  have e2 : fst (fun i => decide ((P.pg i).cls < 0)) P.n = i := fst_eq hi (by simpa using hp) (fun j hj => by simpa using hb j hj)
  simp only [e, e2, hi, Nat.lt_irrefl, if_true, if_false]
theorem Pl.alloc_full {P : Pl} {c : Int} (h : IsC c) (hn : ∀ j, j < P.n → (P.pg j).partly c = false) (hf : ∀ j, j < P.n → ¬ (P.pg j).cls < 0) : P.alloc c = (0, 14, P) := by
  unfold Pl.alloc
  rw [if_neg (isC_iff.2 h)]
  have e : fst (fun i => (P.pg i).partly c) P.n = P.n := fst_none hn
  have e2 : fst (fun i => decide ((P.pg i).cls < 0)) P.n = P.n := fst_none (fun j hj => by simpa using hf j hj)
  simp only [e, e2, Nat.lt_irrefl, if_false]
/-- .. and which one it is. -/
theorem Pl.alloc_cases (P : Pl) (c : Int) : (c < 0 ∨ 2 < c) ∨ IsC c ∧ ((∃ i, i < P.n ∧ (P.pg i).partly c = true ∧ ∀ j, j < i → (P.pg j).partly c = false) ∨
    (∀ j, j < P.n → (P.pg j).partly c = false) ∧ ((∃ i, i < P.n ∧ (P.pg i).cls < 0 ∧ ∀ j, j < i → ¬ (P.pg j).cls < 0) ∨ ∀ j, j < P.n → ¬ (P.pg j).cls < 0)) := by
  by_cases h : c < 0 ∨ 2 < c
  · exact .inl h
  refine .inr ⟨isC_iff.1 h, ?_⟩
  have h1 := fst_spec (fun i => (P.pg i).partly c) P.n
  by_cases hi : fst (fun i => (P.pg i).partly c) P.n < P.n
  · exact .inl ⟨_, hi, h1.2 hi, h1.1⟩
  have e : fst (fun i => (P.pg i).partly c) P.n = P.n := by have := fst_le (fun i => (P.pg i).partly c) P.n; omega
  rw [e] at h1
  refine .inr ⟨h1.1, ?_⟩
  have h2 := fst_spec (fun i => decide ((P.pg i).cls < 0)) P.n
  by_cases hi2 : fst (fun i => decide ((P.pg i).cls < 0)) P.n < P.n
  · exact .inl ⟨_, hi2, by simpa using h2.2 hi2, fun j hj => by simpa using h2.1 j hj⟩
  have e2 : fst (fun i => decide ((P.pg i).cls < 0)) P.n = P.n := by have := fst_le (fun i => decide ((P.pg i).cls < 0)) P.n; omega
  rw [e2] at h2
  exact .inr fun j hj => by simpa using h2.1 j hj

theorem Pg.ok.neg {p : Pg} (h : p.ok) : p.cls < 0 ↔ p.cls = -1 := by have := h.ge; omega
theorem Pl.ok.alloc {P : Pl} (h : P.ok) (c : Int) : (P.alloc c).2.2.ok ∧ (P.alloc c).2.2.n = P.n := by
  rcases P.alloc_cases c with hc | ⟨hc, ⟨i, hi, hp, hb⟩ | ⟨hn, ⟨i, hi, hp, hb⟩ | hf⟩⟩
  · rw [Pl.alloc_bad hc]; exact ⟨h, rfl⟩
  · rw [Pl.alloc_part hc hi hp hb]
    exact ⟨h.set ((h i hi).take hc (.inr (Pg.partly_iff.1 hp).1) ((h i hi).gap hc hp).1 _), rfl⟩
  · rw [Pl.alloc_new hc hn hi hp hb]
    have := hc.sz
    exact ⟨h.set ((h i hi).take hc (.inl ((h i hi).neg.1 hp)) (by omega) _), rfl⟩
  · rw [Pl.alloc_full hc hn hf]; exact ⟨h, rfl⟩

/-- The three ways of Begin. -/
theorem Pl.addr_iff {P : Pl} {a : Int} : P.addr a = true ↔ 0 ≤ a ∧ a < 16 * P.n := by simp [Pl.addr]
theorem Pl.begin_bad {P : Pl} {a : Int} (h : P.addr a = false) : P.begin a = (0, 1) := by unfold Pl.begin; rw [h]; rfl
theorem Pl.begin_free {P : Pl} {a : Int} (h : P.addr a = true) (hc : (P.pg (a.toNat / 16)).cls < 0) : P.begin a = (0, 3) := by unfold Pl.begin; rw [h]; simp [hc]
theorem Pl.begin_yes {P : Pl} {a : Int} (h : P.addr a = true) (hc : ¬ (P.pg (a.toNat / 16)).cls < 0) (hu : (P.pg (a.toNat / 16)).used (a.toNat % 16 / bsz (P.pg (a.toNat / 16)).cls) = true) :
    P.begin a = (((a.toNat / 16 * 16 + a.toNat % 16 / bsz (P.pg (a.toNat / 16)).cls * bsz (P.pg (a.toNat / 16)).cls : Nat) : Int), 0) := by unfold Pl.begin; rw [h]; simp [hc, hu]
theorem Pl.begin_no {P : Pl} {a : Int} (h : P.addr a = true) (hc : ¬ (P.pg (a.toNat / 16)).cls < 0) (hu : (P.pg (a.toNat / 16)).used (a.toNat % 16 / bsz (P.pg (a.toNat / 16)).cls) = false) :
    P.begin a = (0, 3) := by unfold Pl.begin; rw [h]; simp [hc, hu]
theorem Pl.begin_ok {P : Pl} {a : Int} (h : (P.begin a).2 = 0) : P.addr a = true ∧ ¬ (P.pg (a.toNat / 16)).cls < 0 ∧ (P.pg (a.toNat / 16)).used (a.toNat % 16 / bsz (P.pg (a.toNat / 16)).cls) = true ∧
    (P.begin a).1 = ((a.toNat / 16 * 16 + a.toNat % 16 / bsz (P.pg (a.toNat / 16)).cls * bsz (P.pg (a.toNat / 16)).cls : Nat) : Int) ∧ a.toNat / 16 < P.n ∧ a.toNat % 16 < 16 ∧ a = (a.toNat : Int) := by
  cases ha : P.addr a with
  | false => rw [Pl.begin_bad ha] at h; cases h
  | true =>
    have hr := Pl.addr_iff.1 ha
    by_cases hc : (P.pg (a.toNat / 16)).cls < 0
    · rw [Pl.begin_free ha hc] at h; cases h
    · cases hu : (P.pg (a.toNat / 16)).used (a.toNat % 16 / bsz (P.pg (a.toNat / 16)).cls) with
      | false => rw [Pl.begin_no ha hc hu] at h; cases h
      | true => exact ⟨rfl, hc, rfl, by rw [Pl.begin_yes ha hc hu], by omega, by omega, by omega⟩
theorem Pl.begin_err {P : Pl} {a : Int} (h : (P.begin a).2 ≠ 0) : (P.begin a).1 = 0 ∧ ((P.begin a).2 = 1 ∨ (P.begin a).2 = 3) := by
  cases ha : P.addr a with
  | false => rw [Pl.begin_bad ha]; exact ⟨rfl, .inl rfl⟩
  | true =>
    by_cases hc : (P.pg (a.toNat / 16)).cls < 0
    · rw [Pl.begin_free ha hc]; exact ⟨rfl, .inr rfl⟩
    · cases hu : (P.pg (a.toNat / 16)).used (a.toNat % 16 / bsz (P.pg (a.toNat / 16)).cls) with
      | false => rw [Pl.begin_no ha hc hu]; exact ⟨rfl, .inr rfl⟩
      | true => rw [Pl.begin_yes ha hc hu] at h; exact absurd rfl h

theorem Pg.ok.put {p : Pg} (h : p.ok) (f : Nat → Int) : ({ p with cell := f } : Pg).ok := ⟨h.cls, h.free, h.high, h.some1⟩
theorem Pl.ok.setCell {P : Pl} (h : P.ok) (a n : Int) : (P.setCell a n).2.ok ∧ (P.setCell a n).2.n = P.n := by
  unfold Pl.setCell
  split
  · rename_i h0
    have := Pl.begin_ok h0
    exact ⟨h.set ((h _ this.2.2.2.2.1).put _), rfl⟩
  · exact ⟨h, rfl⟩
theorem Pl.ok.free {P : Pl} (h : P.ok) (a : Int) : (P.free a).2.ok ∧ (P.free a).2.n = P.n := by
  unfold Pl.free
  split
  · rename_i h0
    have := Pl.begin_ok h0
    split
    · exact ⟨h.set ((h _ this.2.2.2.2.1).release (by omega) _), rfl⟩
    · exact ⟨h, rfl⟩
  · exact ⟨h, rfl⟩

theorem Pl.frm_some {P : Pl} {c : Int} {k f : Nat} (h : P.frm c k = some f) : f < k ∧ (P.pg f).partly c = true ∧ ∀ i, i < k → (P.pg i).partly c = true → (P.pg f).count ≤ (P.pg i).count := by
  induction k generalizing f with
  | zero => simp [Pl.frm] at h
  | succ k ih =>
    unfold Pl.frm at h
    cases hk : P.frm c k with
    | none =>
      rw [hk] at h
      by_cases hp : (P.pg k).partly c = true
      · simp [hp] at h
        subst h
        refine ⟨by omega, hp, fun i hi hpi => ?_⟩
        by_cases e : i = k
        · rw [e]; exact Nat.le_refl _
        · exfalso
          clear ih
          have : ∀ m, m ≤ k → P.frm c m = none → ∀ i, i < m → (P.pg i).partly c = false := by
            intro m
            induction m with
            | zero => intro _ _ i hi; omega
            | succ m ihm =>
              intro hm hn i hi
              unfold Pl.frm at hn
              cases hq : P.frm c m with
              | none =>
                rw [hq] at hn
                simp at hn
                by_cases e2 : i = m
                · rw [e2]; exact hn
                · exact ihm (by omega) hq i (by omega)
              | some g => rw [hq] at hn; simp only at hn; split at hn <;> cases hn
          have := this k (Nat.le_refl _) hk i (by omega)
          rw [hpi] at this; cases this
      · simp [hp] at h
    | some g =>
      rw [hk] at h
      have hg := ih hk
      simp only at h
      split at h
      · rename_i hp
        simp at h
        subst h
        refine ⟨by omega, hp.1, fun i hi hpi => ?_⟩
        by_cases e : i = k
        · rw [e]; exact Nat.le_refl _
        · have := hg.2.2 i (by omega) hpi; omega
      · rename_i hp
        simp at h
        subst h
        refine ⟨by omega, hg.2.1, fun i hi hpi => ?_⟩
        by_cases e : i = k
        · subst e
          rcases Nat.le_total (P.pg g).count (P.pg i).count with h1 | h1
          · exact h1
          · exact absurd ⟨hpi, h1⟩ hp
        · exact hg.2.2 i (by omega) hpi
theorem Pl.frm_none {P : Pl} {c : Int} {k : Nat} (h : P.frm c k = none) : ∀ i, i < k → (P.pg i).partly c = false := by
  induction k with
  | zero => intro i hi; omega
  | succ k ih =>
    intro i hi
    unfold Pl.frm at h
    cases hq : P.frm c k with
    | none =>
      rw [hq] at h
      simp at h
      by_cases e2 : i = k
      · rw [e2]; exact h
      · exact ih hq i (by omega)
    | some g => rw [hq] at h; simp only at h; split at h <;> cases h
theorem Pl.too_some {P : Pl} {c : Int} {f : Option Nat} {k t : Nat} (h : P.too c f k = some t) : t < k ∧ some t ≠ f ∧ (P.pg t).partly c = true := by
  induction k generalizing t with
  | zero => simp [Pl.too] at h
  | succ k ih =>
    unfold Pl.too at h
    cases hk : P.too c f k with
    | none =>
      rw [hk] at h
      simp only at h
      split at h
      · rename_i h2; simp at h; subst h; exact ⟨by omega, h2⟩
      · cases h
    | some g =>
      rw [hk] at h
      simp only at h
      split at h
      · rename_i h2; simp at h; subst h; exact ⟨by omega, h2.1, h2.2.1⟩
      · simp at h; subst h; have := ih hk; exact ⟨by omega, this.2⟩
theorem Pl.too_none {P : Pl} {c : Int} {f : Option Nat} {k : Nat} (h : P.too c f k = none) : ∀ i, i < k → some i ≠ f → (P.pg i).partly c = false := by
  induction k with
  | zero => intro i hi; omega
  | succ k ih =>
    intro i hi hne
    unfold Pl.too at h
    cases hq : P.too c f k with
    | none =>
      rw [hq] at h
      simp only at h
      split at h
      · cases h
      · rename_i h2
        by_cases e2 : i = k
        · subst e2
          cases hp : (P.pg i).partly c with
          | false => rfl
          | true => exact absurd ⟨hne, hp⟩ h2
        · exact ih hq i (by omega) hne
    | some g => rw [hq] at h; simp only at h; split at h <;> cases h
/-- What the pair is. -/
structure Pl.Pair (P : Pl) (i j : Nat) : Prop where
  hi : i < P.n
  hj : j < P.n
  ne : i ≠ j
  c : IsC (P.pg i).cls
  same : (P.pg j).cls = (P.pg i).cls
  pi : (P.pg i).partly (P.pg i).cls = true
  pj : (P.pg j).partly (P.pg i).cls = true
  le : (P.pg i).count ≤ (P.pg j).count
theorem Pl.pairC_some {P : Pl} {c : Int} (hc : IsC c) {i j : Nat} (h : P.pairC c = some (i, j)) : P.Pair i j ∧ (P.pg i).cls = c := by
  unfold Pl.pairC at h
  cases hf : P.frm c P.n with
  | none => rw [hf] at h; simp at h
  | some f =>
    rw [hf] at h
    cases ht : P.too c (some f) P.n with
    | none => rw [ht] at h; simp at h
    | some t =>
      rw [ht] at h
      simp at h
      obtain ⟨rfl, rfl⟩ := h
      have h1 := Pl.frm_some hf
      have h2 := Pl.too_some ht
      have e1 := (Pg.partly_iff.1 h1.2.1).1
      have e2 := (Pg.partly_iff.1 h2.2.2).1
      refine ⟨⟨h1.1, h2.1, fun e => h2.2.1 (by rw [e]), by rw [e1]; exact hc, by rw [e1, e2], by rw [e1]; exact h1.2.1, by rw [e1]; exact h2.2.2, h1.2.2 _ h2.1 h2.2.2⟩, e1⟩
theorem Pl.pair_some {P : Pl} {i j : Nat} (h : P.pair = some (i, j)) : P.Pair i j := by
  unfold Pl.pair at h
  cases h0 : P.pairC 0 with
  | some x => rw [h0] at h; simp at h; subst h; exact (Pl.pairC_some (.inl rfl) h0).1
  | none =>
    rw [h0] at h
    simp only [Option.none_or] at h
    cases h1 : P.pairC 1 with
    | some x => rw [h1] at h; simp at h; subst h; exact (Pl.pairC_some (.inr (.inl rfl)) h1).1
    | none =>
      rw [h1] at h
      simp only [Option.none_or] at h
      exact (Pl.pairC_some (.inr (.inr rfl)) h).1
/-- Without a pair each class has at most one partly used page. -/
theorem Pl.pairC_none {P : Pl} {c : Int} (h : P.pairC c = none) {i j : Nat} (hi : i < P.n) (hj : j < P.n) (hne : i ≠ j) (hp : (P.pg i).partly c = true) : (P.pg j).partly c = false := by
  unfold Pl.pairC at h
  cases hf : P.frm c P.n with
  | none => exact Pl.frm_none hf j hj
  | some f =>
    rw [hf] at h
    cases ht : P.too c (some f) P.n with
    | some t => rw [ht] at h; cases h
    | none =>
      have h1 := Pl.too_none ht
      by_cases e : j = f
      · have := h1 i hi (by rw [← e]; simpa using hne)
        rw [hp] at this; cases this
      · exact h1 j hj (by simpa using e)
theorem Pl.pair_none {P : Pl} (h : P.pair = none) {c : Int} (hc : IsC c) : P.pairC c = none := by
  unfold Pl.pair at h
  simp only [Option.or_eq_none_iff] at h
  rcases hc with rfl | rfl | rfl
  · exact h.1
  · exact h.2.1
  · exact h.2.2

theorem Pl.ok.moved {P : Pl} (h : P.ok) {i j : Nat} (hp : P.Pair i j) : (P.moved i j).ok ∧ (P.moved i j).n = P.n := by
  unfold Pl.moved
  have hne : (P.pg i).cls ≠ -1 := by rcases hp.c with e | e | e <;> omega
  refine ⟨Pl.ok.set (Pl.ok.set h ?_) ((h i hp.hi).release hne _), rfl⟩
  have := (h j hp.hj).gap hp.c hp.pj
  rw [hp.same]
  exact (h j hp.hj).take hp.c (.inr hp.same) this.1 _
theorem Pl.move_none {P : Pl} (h : P.pair = none) : P.move = (0, 0, 3, P) := by unfold Pl.move; rw [h]
theorem Pl.move_some {P : Pl} {i j : Nat} (h : P.pair = some (i, j)) : P.move = (((16 * i + (P.pg i).top (P.pg i).cls * bsz (P.pg i).cls : Nat) : Int), ((16 * j + (P.pg j).gap (P.pg j).cls * bsz (P.pg i).cls : Nat) : Int), 0, P.moved i j) := by unfold Pl.move; rw [h]
theorem Pl.ok.move {P : Pl} (h : P.ok) : P.move.2.2.2.ok ∧ P.move.2.2.2.n = P.n := by
  cases hp : P.pair with
  | none => rw [Pl.move_none hp]; exact ⟨h, rfl⟩
  | some x => obtain ⟨i, j⟩ := x; rw [Pl.move_some hp]; exact h.moved (Pl.pair_some hp)
theorem Pl.ok.do {P : Pl} (h : P.ok) (d a b : Int) : (P.do d a b).2.2.ok ∧ (P.do d a b).2.2.n = P.n := by
  unfold Pl.do
  split; exact h.alloc a
  split; exact h.free a
  split; exact h.setCell a b
  split; exact h.move
  exact ⟨h, rfl⟩

/-- What is left to move: the pages in use, and of each class the blocks of the page that gives. -/
def Pl.least (P : Pl) (c : Int) (k : Nat) : Nat := match P.frm c k with | none => 0 | some f => (P.pg f).count
def Pl.inUse (P : Pl) (i : Nat) : Nat := if (P.pg i).cls = -1 then 0 else 8
def Pl.pot (P : Pl) : Nat := sumN P.inUse P.n + P.least 0 P.n + P.least 1 P.n + P.least 2 P.n
theorem Pl.least_congr {P P' : Pl} {c : Int} {k : Nat} (h : ∀ i, i < k → (P'.pg i).partly c = (P.pg i).partly c ∧ ((P.pg i).partly c = true → (P'.pg i).count = (P.pg i).count)) :
    P'.frm c k = P.frm c k ∧ P'.least c k = P.least c k := by
  have h1 : P'.frm c k = P.frm c k := by
    induction k with
    | zero => rfl
    | succ k ih =>
      have ih' := ih fun i hi => h i (by omega)
      have hk := h k (by omega)
      unfold Pl.frm
      rw [ih']
      cases hf : P.frm c k with
      | none => simp only [hk.1]
      | some f =>
        have hf' := Pl.frm_some hf
        simp only [hk.1]
        rw [(h f (by omega)).2 hf'.2.1]
        by_cases hp : (P.pg k).partly c = true
        · rw [hk.2 hp]
        · simp [hp]
  refine ⟨h1, ?_⟩
  unfold Pl.least
  rw [h1]
  cases hf : P.frm c k with
  | none => rfl
  | some f =>
    have hf' := Pl.frm_some hf
    exact (h f hf'.1).2 hf'.2.1
theorem Pl.least_le {P : Pl} {c : Int} (hc : IsC c) : P.least c P.n ≤ 7 := by
  unfold Pl.least
  cases hf : P.frm c P.n with
  | none => exact Nat.zero_le _
  | some f =>
    have h1 := (Pg.partly_iff.1 (Pl.frm_some hf).2.1).2
    have := hc.sz
    show (P.pg f).count ≤ 7
    omega
theorem Pl.least_at {P : Pl} {c : Int} {i k : Nat} (hi : i < k) (hp : (P.pg i).partly c = true) : P.least c k ≤ (P.pg i).count := by
  unfold Pl.least
  cases hf : P.frm c k with
  | none => exact Nat.zero_le _
  | some f => exact (Pl.frm_some hf).2.2 i hi hp
theorem Pl.moved_count {P : Pl} (h : P.ok) {i j : Nat} (hp : P.Pair i j) : ((P.moved i j).pg i).count + 1 = (P.pg i).count ∧ ((P.moved i j).pg j).count = (P.pg j).count + 1 ∧ ∀ x, x ≠ i → x ≠ j → (P.moved i j).pg x = P.pg x := by
  have hne : (P.pg i).cls ≠ -1 := by rcases hp.c with e | e | e <;> omega
  have ht := (h i hp.hi).top hne
  have hg := (h j hp.hj).gap hp.c hp.pj
  have hsz := hp.c.sz
  unfold Pl.moved
  refine ⟨?_, ?_, fun x h1 h2 => ?_⟩
  · simp only [Pl.set_same]
    exact cnt_clear (by omega) ht.2
  · simp only [Pl.set_other _ _ hp.ne.symm, Pl.set_same, hp.same]
    exact cnt_set (by omega) hg.2
  · rw [Pl.set_other _ _ h1, Pl.set_other _ _ h2]
theorem Pl.pot_moved {P : Pl} (h : P.ok) {i j : Nat} (hpr : P.pair = some (i, j)) : (P.moved i j).pot < P.pot := by
  have hp := Pl.pair_some hpr
  obtain ⟨h1, h2, h3⟩ := Pl.moved_count h hp
  have hne : (P.pg i).cls ≠ -1 := by rcases hp.c with e | e | e <;> omega
  have hi1 := (h i hp.hi).count_pos hne
  have hb : (P.pg j).count < bpt (P.pg i).cls := (Pg.partly_iff.1 hp.pj).2
  have hsz := hp.c.sz
  -- the page that gives is the least of its class
  have hleast : P.least (P.pg i).cls P.n = (P.pg i).count := by
    have hpc : P.pairC (P.pg i).cls = some (i, j) := by
      unfold Pl.pair at hpr
      cases h0 : P.pairC 0 with
      | some x => rw [h0] at hpr; simp at hpr; subst hpr; rw [(Pl.pairC_some (.inl rfl) h0).2, h0]
      | none =>
        rw [h0] at hpr
        simp only [Option.none_or] at hpr
        cases h1 : P.pairC 1 with
        | some x => rw [h1] at hpr; simp at hpr; subst hpr; rw [(Pl.pairC_some (.inr (.inl rfl)) h1).2, h1]
        | none =>
          rw [h1] at hpr
          simp only [Option.none_or] at hpr
          rw [(Pl.pairC_some (.inr (.inr rfl)) hpr).2, hpr]
    unfold Pl.pairC at hpc
    unfold Pl.least
    cases hf : P.frm (P.pg i).cls P.n with
    | none => rw [hf] at hpc; simp at hpc
    | some f =>
      rw [hf] at hpc
      cases ht : P.too (P.pg i).cls (some f) P.n with
      | none => rw [ht] at hpc; simp at hpc
      | some t => rw [ht] at hpc; simp at hpc; rw [hpc.1]
  have hn : (P.moved i j).n = P.n := (h.moved hp).2
  have hclsi : ((P.moved i j).pg i).cls = (P.pg i).cls ∨ ((P.moved i j).pg i).cls = -1 ∧ (P.pg i).count = 1 := by
    have e : (P.moved i j).pg i = (P.pg i).release ((P.pg i).top (P.pg i).cls) := by unfold Pl.moved; rw [Pl.set_same]
    rw [e] at h1 ⊢
    unfold Pg.release Pg.count at h1
    unfold Pg.release
    simp only at h1 ⊢
    by_cases h0 : cnt (up (P.pg i).used ((P.pg i).top (P.pg i).cls) false) 8 = 0
    · right; simp only [h0, if_true]; rw [h0] at h1; exact ⟨trivial, h1.symm⟩
    · left; simp only [h0, if_false]
  have hclsj : ((P.moved i j).pg j).cls = (P.pg i).cls := by
    unfold Pl.moved
    rw [Pl.set_other _ _ hp.ne.symm, Pl.set_same]
    rfl
  -- the other classes
  have hoth : ∀ c, c ≠ (P.pg i).cls → IsC c → (P.moved i j).least c P.n = P.least c P.n := by
    intro c hc hcc
    refine (Pl.least_congr fun x hx => ?_).2
    by_cases e1 : x = i
    · subst e1
      have f1 : (P.pg x).partly c = false := by
        cases hq : (P.pg x).partly c with
        | false => rfl
        | true => exact absurd (Pg.partly_iff.1 hq).1.symm hc
      have f2 : ((P.moved x j).pg x).partly c = false := by
        cases hq : ((P.moved x j).pg x).partly c with
        | false => rfl
        | true =>
          have := (Pg.partly_iff.1 hq).1
          rcases hclsi with e | ⟨e, _⟩
          · exact absurd (this.symm.trans e) hc
          · rcases hcc with e3 | e3 | e3 <;> omega
      exact ⟨by rw [f1, f2], fun hq => by rw [f1] at hq; cases hq⟩
    · by_cases e2 : x = j
      · subst e2
        have f1 : (P.pg x).partly c = false := by
          cases hq : (P.pg x).partly c with
          | false => rfl
          | true => exact absurd ((Pg.partly_iff.1 hq).1.symm.trans hp.same) hc
        have f2 : ((P.moved i x).pg x).partly c = false := by
          cases hq : ((P.moved i x).pg x).partly c with
          | false => rfl
          | true => exact absurd ((Pg.partly_iff.1 hq).1.symm.trans hclsj) hc
        exact ⟨by rw [f1, f2], fun hq => by rw [f1] at hq; cases hq⟩
      · rw [h3 x e1 e2]; exact ⟨rfl, fun _ => rfl⟩
  -- the pages in use
  have huse : sumN (P.moved i j).inUse P.n + (P.inUse i) = sumN P.inUse P.n + (P.moved i j).inUse i := by
    refine sumN_up hp.hi fun x _ hx => ?_
    unfold Pl.inUse
    by_cases e2 : x = j
    · subst e2; rw [hclsj, hp.same]
    · rw [h3 x hx e2]
  have e8 : P.inUse i = 8 := by unfold Pl.inUse; rw [if_neg hne]
  have hown : sumN (P.moved i j).inUse P.n + (P.moved i j).least (P.pg i).cls P.n < sumN P.inUse P.n + P.least (P.pg i).cls P.n := by
    rw [hleast]
    rcases hclsi with e | ⟨e, e1⟩
    · have e9 : (P.moved i j).inUse i = 8 := by unfold Pl.inUse; rw [if_neg (by rw [e]; exact hne)]
      have hq : ((P.moved i j).pg i).partly (P.pg i).cls = true := Pg.partly_iff.2 ⟨e, by have := (Pg.partly_iff.1 hp.pi).2; omega⟩
      have := Pl.least_at (k := P.n) hp.hi hq
      omega
    · have e9 : (P.moved i j).inUse i = 0 := by unfold Pl.inUse; rw [if_pos e]
      have := Pl.least_le (P := P.moved i j) hp.c
      rw [hn] at this
      omega
  unfold Pl.pot
  rw [hn]
  rcases hp.c with e | e | e <;> rw [e] at hown hoth
  · rw [hoth 1 (by omega) (.inr (.inl rfl)), hoth 2 (by omega) (.inr (.inr rfl))]; omega
  · rw [hoth 0 (by omega) (.inl rfl), hoth 2 (by omega) (.inr (.inr rfl))]; omega
  · rw [hoth 0 (by omega) (.inl rfl), hoth 1 (by omega) (.inr (.inl rfl))]; omega

/-- How many moves there are. -/
def movesF : Nat → Pl → Nat
  | 0, _ => 0
  | k + 1, P => if P.move.2.2.1 = 0 then movesF k P.move.2.2.2 + 1 else 0
def Pl.moves (P : Pl) : Nat := movesF P.pot P
theorem movesF_more {P : Pl} (h : P.ok) {k : Nat} (hk : P.pot ≤ k) : movesF k P = P.moves := by
  have key : ∀ k, ∀ P : Pl, P.ok → ∀ m, P.pot ≤ k → P.pot ≤ m → movesF k P = movesF m P := by
    intro k
    induction k with
    | zero =>
      intro P h m h0 hm
      cases hp : P.pair with
      | some x => obtain ⟨i, j⟩ := x; have := Pl.pot_moved h hp; omega
      | none =>
        cases m with
        | zero => rfl
        | succ m => simp [movesF, Pl.move_none hp]
    | succ k ih =>
      intro P h m h0 hm
      cases hp : P.pair with
      | none =>
        cases m with
        | zero => simp [movesF, Pl.move_none hp]
        | succ m => simp [movesF, Pl.move_none hp]
      | some x =>
        obtain ⟨i, j⟩ := x
        have h1 := Pl.pot_moved h hp
        cases m with
        | zero => omega
        | succ m =>
          unfold movesF
          rw [Pl.move_some hp]
          simp only [if_true]
          rw [ih _ (h.moved (Pl.pair_some hp)).1 m (by omega) (by omega)]
  exact key k P h _ hk (Nat.le_refl _)
theorem Pl.moves_none {P : Pl} (h : P.pair = none) : P.moves = 0 := by
  unfold Pl.moves
  cases P.pot with
  | zero => rfl
  | succ k => simp [movesF, Pl.move_none h]
theorem Pl.moves_some {P : Pl} (h : P.ok) {i j : Nat} (hp : P.pair = some (i, j)) : P.moves = (P.moved i j).moves + 1 := by
  have h1 := Pl.pot_moved h hp
  obtain ⟨k, hk⟩ : ∃ k, P.pot = k + 1 := ⟨P.pot - 1, by omega⟩
  have h2 := movesF_more (h.moved (Pl.pair_some hp)).1 (k := k) (by omega)
  rw [← h2]
  unfold Pl.moves
  rw [hk, movesF, Pl.move_some hp]
  simp
theorem Pl.pot_le (P : Pl) : P.pot ≤ 8 * P.n + 21 := by
  have h0 : sumN P.inUse P.n ≤ 8 * P.n := sumN_le fun i _ => by unfold Pl.inUse; split <;> omega
  have h1 := Pl.least_le (P := P) (c := 0) (.inl rfl)
  have h2 := Pl.least_le (P := P) (c := 1) (.inr (.inl rfl))
  have h3 := Pl.least_le (P := P) (c := 2) (.inr (.inr rfl))
  unfold Pl.pot
  omega
theorem movesF_le (k : Nat) (P : Pl) : movesF k P ≤ k := by
  induction k generalizing P with
  | zero => exact Nat.le_refl _
  | succ k ih => unfold movesF; split; have := ih P.move.2.2.2; omega; omega
theorem Pl.moves_le (P : Pl) : P.moves ≤ 8 * P.n + 21 := Nat.le_trans (movesF_le _ _) (Pl.pot_le P)
end Go.Proofs.Ytngmiacekcmidaa
