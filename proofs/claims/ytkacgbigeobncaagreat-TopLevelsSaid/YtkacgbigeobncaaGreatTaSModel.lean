/- Lemmas of this claim. -/
import Derived.Deep.Slices
import Derived.Deep.Fields
import Derived.ChangeSame
import Derived.ProofKit
import Derived.OpenShut
namespace Go.Proofs.YtkacgbigeobncaaGreat
open Go.ChangeShapes Go.WideShapes Go.Deep
def Nums (w : World) (a : Option Addr) (len : Nat) (f : Nat → Int) : Prop :=
  len ≤ 9223372036854775807 ∧ (len = 0 ∨ ∃ b o, a = some ⟨b, o, none⟩ ∧ ∀ i, i < len → w.cell? ⟨b, o + i, none⟩ = some (.int .i64 (f i)) ∧ (Lit.int .i64 (f i)).wf = true)
theorem spot_add {w : World} {a : Addr} {v : Value} (h : w.cell? (a.add 0) = some v) : ∃ b o, a = ⟨b, o, none⟩ := by
  obtain ⟨b, o, s⟩ := a
  have := World.cell?_spot h
  simp [Addr.add] at this
  exact ⟨b, o, by rw [this]⟩
theorem add_at (b o n : Nat) : (⟨b, o, none⟩ : Addr).add n = ⟨b, o + n, none⟩ := by unfold Addr.add; split <;> simp_all
section
variable {H : Type} {enc : TypeId × Value → H} {P : Program} {w : World} {base : Nat} {spare : Nat → Bool} {held : Bool}
theorem nums_of {t e : TypeId} {fuel len cap : Nat} {a : Option Addr} {x : DataW H × List MemPlace} (ht : P.underlying t = some (.slice e)) (he : P.underlying e = some (.int .i64)) (hc : P.cellsOf e = 1)
    (h : DataW.trod enc P w base spare held fuel t [.slice a len cap] = some x) : ∃ f, Nums w a len f := by
  rcases open_ints ht he hc h with ⟨h1, _⟩ | ⟨a', len', cap', zs, hcs, hb, hl, hm, hz, hx, hcell, hwz⟩
  · simp at h1
    obtain ⟨rfl, rfl, rfl⟩ := h1
    exact ⟨fun _ => 0, by omega, .inl rfl⟩
  · simp at hcs
    obtain ⟨rfl, rfl, rfl⟩ := hcs
    have hm' : maxLen = 9223372036854775807 := rfl
    have hzl : len ≤ zs.length := by rw [hz]; split <;> omega
    rcases Nat.eq_zero_or_pos len with h2 | h2
    · exact ⟨fun _ => 0, by omega, .inl h2⟩
    · obtain ⟨b, o, rfl⟩ := spot_add (hcell 0 (by omega))
      refine ⟨fun i => zs.getD i 0, by omega, .inr ⟨b, o, rfl, fun i hil => ?_⟩⟩
      have h4 := hcell i (by omega)
      rw [add_at] at h4
      refine ⟨h4, hwz _ ?_⟩
      show zs.getD i 0 ∈ zs
      rw [List.getD_eq_getElem?_getD, List.getElem?_eq_getElem (by omega)]
      exact List.getElem_mem _
end
end Go.Proofs.YtkacgbigeobncaaGreat
namespace Go.Proofs.YtkacgbigeobncaaGreat
def gI (l : List Int) (i : Nat) : Int := l[i]?.getD 0
structure QSt where
  cells : List Int
  head : Nat
  tail : Nat
  put : Nat
  take : Nat
  word : Int
  taken : Int
def QSt.n (s : QSt) : Nat := s.cells.length
structure QSt.ok (s : QSt) : Prop where
  n2 : 2 ≤ s.cells.length
  n9 : s.cells.length ≤ 9
  hd : s.head < s.cells.length
  tl : s.tail < s.cells.length
  pt : s.put ≤ 3
  tk : s.take ≤ 3
def QSt.nx (s : QSt) (i : Nat) : Nat := (i + 1) % s.cells.length
def QSt.len (s : QSt) : Nat := if s.head ≤ s.tail then s.tail - s.head else s.tail + s.cells.length - s.head
def QSt.pl (s : QSt) (k : Nat) : Nat := (s.head + k) % s.cells.length
def QSt.new (n : Nat) : QSt := { cells := List.replicate (n + 1) 0, head := 0, tail := 0, put := 0, take := 0, word := 0, taken := 0 }
structure RSt where
  size : Nat
  over : Nat
  taken : Nat
  words : List Int
  putS : Nat
  takeS : Nat
structure RSt.ok (s : RSt) : Prop where
  n1 : 1 ≤ s.size
  n8 : s.size ≤ 8
  tk : s.taken ≤ s.over
  ov : s.words.length = (if s.putS = 0 then s.over else s.over + 1)
  ps : s.putS ≤ 3
  ts : s.takeS ≤ 3
  ne : s.takeS = 0 ∨ s.takeS = 1 ∨ s.taken < s.over
end Go.Proofs.YtkacgbigeobncaaGreat
namespace Go.Proofs.YtkacgbigeobncaaGreat
set_option linter.unusedVariables false
set_option linter.unusedSimpArgs false
def under : List Int → Int
  | [] => 1
  | x :: r => if 2 ≤ under r then under r else if 2 ≤ x then x else 1
theorem under_none {l : List Int} (h : ∀ j, j < l.length → l[j]?.getD 0 < 2) : under l = 1 := by
  induction l with
  | nil => rfl
  | cons x r ih =>
    have h0 := h 0 (by simp)
    have hr := ih (fun j hj => by have := h (j + 1) (by simp; omega); simpa using this)
    simp at h0
    unfold under
    rw [hr, if_neg (by omega), if_neg (by omega)]
theorem under_some {l : List Int} {k : Nat} (hk : k < l.length) (h1 : 2 ≤ l[k]?.getD 0) (h2 : ∀ j, k < j → j < l.length → l[j]?.getD 0 < 2) : under l = l[k]?.getD 0 := by
  induction l generalizing k with
  | nil => simp at hk
  | cons x r ih =>
    cases k with
    | zero =>
      have hr : under r = 1 := under_none (fun j hj => by have := h2 (j + 1) (by omega) (by simp; omega); simpa using this)
      simp at h1
      unfold under
      rw [hr, if_neg (by omega), if_pos h1]
      simp
    | succ k =>
      have hr := ih (k := k) (by simpa using hk) (by simpa using h1) (fun j hj hj2 => by have := h2 (j + 1) (by omega) (by simp; omega); simpa using this)
      simp at h1
      unfold under
      rw [hr, if_pos h1]
      simp
theorem under_mem (l : List Int) : under l = 1 ∨ (2 ≤ under l ∧ under l ∈ l) := by
  induction l with
  | nil => exact .inl rfl
  | cons x r ih =>
    unfold under
    split
    · rename_i h
      rcases ih with h1 | ⟨_, h2⟩
      · omega
      · exact .inr ⟨h, List.mem_cons_of_mem _ h2⟩
    · split
      · rename_i h; exact .inr ⟨h, List.mem_cons_self⟩
      · exact .inl rfl
def upd {α : Type} (f : Nat → α) (t : Nat) (x : α) : Nat → α := fun s => if s = t then x else f s
@[simp] theorem upd_same {α : Type} (f : Nat → α) (t : Nat) (x : α) : upd f t x t = x := if_pos rfl
theorem upd_other {α : Type} (f : Nat → α) {t s : Nat} (x : α) (h : s ≠ t) : upd f t x s = f s := if_neg h
structure Ob where
  area : Int
  blocks : Int
  refs : List Int
  gone : Bool
instance : Inhabited Ob := ⟨⟨0, 0, [], true⟩⟩
structure Sc where
  sizes : List Int
  stk : Nat → List Int
  obs : List Ob
  por : Nat → Int
def isT (t : Int) : Bool := decide (0 ≤ t ∧ t < 5)
def isAn (n : Nat) (a : Int) : Bool := decide (0 ≤ a ∧ a < (n : Int) + 2)
def Sc.n (M : Sc) : Nat := M.sizes.length
def Sc.isA (M : Sc) (a : Int) : Bool := isAn M.n a
def Sc.cntN (M : Sc) (a : Int) : Nat → Nat
  | 0 => 0
  | k + 1 => Sc.cntN M a k + (M.stk k).count a
def Sc.usersN (M : Sc) (a : Int) : Nat := if 2 ≤ a then M.cntN a 5 else 0
def Sc.used (M : Sc) (a : Int) : Bool := decide (0 < M.usersN a)
def pIn (l : List Int) (a : Int) : Option Int := if a ∈ l then some (under (l.takeWhile (· != a))) else none
def Sc.parN (M : Sc) (a : Int) : Nat → Option Int
  | 0 => none
  | k + 1 => (Sc.parN M a k).or (pIn (M.stk k) a)
def Sc.par (M : Sc) (a : Int) : Option Int := if 2 ≤ a then M.parN a 5 else none
def Sc.users (M : Sc) (a : Int) : Int × Int := if M.isA a then (M.usersN a, 0) else (0, 1)
def Sc.parent (M : Sc) (a : Int) : Int × Int := if M.isA a then (match M.par a with | some p => (p, 0) | none => (0, 3)) else (0, 1)
def Sc.enter (M : Sc) (t a : Int) : Int × Sc :=
  if isT t && M.isA a then
    if M.used a && decide (M.par a ≠ some (under (M.stk t.toNat))) then (17, M)
    else if 8 ≤ (M.stk t.toNat).length then (2, M)
    else (0, { M with stk := upd M.stk t.toNat (M.stk t.toNat ++ [a]) })
  else (1, M)
def top (l : List Int) : Int := gI l (l.length - 1)
def goneIn (a : Int) (o : Ob) : Ob := if o.area = a then { o with gone := true } else o
def Sc.reset (M : Sc) (a : Int) : Sc := { M with obs := M.obs.map (goneIn a), por := upd M.por a.toNat 0 }
def Sc.popped (M : Sc) (t : Nat) : Sc := { M with stk := upd M.stk t (M.stk t).dropLast }
def Sc.leave (M : Sc) (t : Int) : Int × Int × Sc :=
  if isT t then
    if (M.stk t.toNat).length < 2 then (0, 13, M)
    else
      (top (M.stk t.toNat), 0, if 2 ≤ top (M.stk t.toNat) ∧ (M.popped t.toNat).used (top (M.stk t.toNat)) = false then (M.popped t.toNat).reset (top (M.stk t.toNat)) else M.popped t.toNat)
  else (0, 1, M)
def Sc.stack (M : Sc) (t : Int) : List Int × Int := if isT t then (M.stk t.toNat, 0) else ([], 1)
def sumB (a : Int) : List Ob → Int
  | [] => 0
  | o :: r => (if o.area = a ∧ o.gone = false then o.blocks else 0) + sumB a r
theorem sumB_append (a : Int) (l r : List Ob) : sumB a (l ++ r) = sumB a l + sumB a r := by
  induction l with
  | nil => simp [sumB]
  | cons x l ih => simp only [List.cons_append, sumB, ih]; omega
def Sc.roomN (M : Sc) (a : Int) : Int := if a < 2 then 1000 else gI M.sizes (a.toNat - 2) - sumB a M.obs
def Sc.room (M : Sc) (a : Int) : Int × Int := if M.isA a then (M.roomN a, 0) else (0, 1)
def Sc.alloc (M : Sc) (t b : Int) : Int × Int × Sc :=
  if isT t && decide (1 ≤ b ∧ b ≤ 8) then
    if M.roomN (top (M.stk t.toNat)) < b then (0, 14, M)
    else if 500 ≤ M.obs.length then (0, 2, M)
    else (M.obs.length + 1, 0, { M with obs := M.obs ++ [⟨top (M.stk t.toNat), b, [], false⟩] })
  else (0, 1, M)
def obI (l : List Ob) (x : Int) : Ob := l[x.toNat - 1]?.getD ⟨0, 0, [], true⟩
def innL (l : List Ob) (x : Int) : Bool := decide (1 ≤ x ∧ x ≤ l.length) && !(obI l x).gone
def Sc.ob (M : Sc) (x : Int) : Ob := obI M.obs x
def Sc.inn (M : Sc) (x : Int) : Bool := innL M.obs x
def Sc.area (M : Sc) (x : Int) : Int × Int := if M.inn x then ((M.ob x).area, 0) else (0, 3)
def Sc.outerN (M : Sc) : Nat → Int → Int → Bool
  | 0, _, _ => false
  | n + 1, a, b => if a = 0 ∨ a = 1 ∨ a = b then true else match M.par b with | some p => Sc.outerN M n a p | none => false
def Sc.may (M : Sc) (x y : Int) : Bool × Int := if M.inn x && M.inn y then (M.outerN 8 (M.ob y).area (M.ob x).area, 0) else (false, 3)
def Sc.refs (M : Sc) (x : Int) : List Int × Int := if M.inn x then ((M.ob x).refs.filter M.inn, 0) else ([], 3)
def Sc.portal (M : Sc) (a : Int) : Int × Int := if M.isA a && decide (2 ≤ a) then (if M.used a then (M.por a.toNat, 0) else (0, 13)) else (0, 1)
def Sc.new (sizes : List Int) : Sc := ⟨sizes, fun _ => [0], [], fun _ => 0⟩
def goodSizes (l : List Int) : Bool := decide (l.length ≤ 6) && l.all fun s => decide (1 ≤ s ∧ s ≤ 24)
structure Sc.Ok (M : Sc) : Prop where
  n6 : M.sizes.length ≤ 6
  sz : ∀ s ∈ M.sizes, 1 ≤ s ∧ s ≤ 24
  s1 : ∀ t, t < 5 → 1 ≤ (M.stk t).length ∧ (M.stk t).length ≤ 8
  s0 : ∀ t, t < 5 → gI (M.stk t) 0 = 0
  sa : ∀ t, t < 5 → ∀ a ∈ M.stk t, 0 ≤ a ∧ a < (M.n : Int) + 2
  pc : ∀ t, t < 5 → ∀ i a, (M.stk t)[i]? = some a → 2 ≤ a → M.par a = some (under ((M.stk t).take i))
  rk : ∃ rk : Int → Nat, ∀ a p, M.par a = some p → 2 ≤ p → rk p < rk a
  ob : M.obs.length ≤ 500
  oa : ∀ o ∈ M.obs, 0 ≤ o.area ∧ o.area < (M.n : Int) + 2 ∧ 1 ≤ o.blocks ∧ o.blocks ≤ 8 ∧ o.refs.Nodup ∧ ∀ y ∈ o.refs, 1 ≤ y ∧ y ≤ M.obs.length
  al : ∀ o ∈ M.obs, o.gone = false → 2 ≤ o.area → M.used o.area = true
  rf : ∀ o ∈ M.obs, o.gone = false → ∀ y ∈ o.refs, M.inn y = true → M.outerN 8 (M.ob y).area o.area = true
  rm : ∀ a, 2 ≤ a → a < (M.n : Int) + 2 → 0 ≤ M.roomN a
  po : ∀ a, 2 ≤ a → a < (M.n : Int) + 2 → M.por a.toNat = 0 ∨ (M.used a = true ∧ M.inn (M.por a.toNat) = true ∧ M.outerN 8 (M.ob (M.por a.toNat)).area a = true)
theorem Sc.cntN_pos {M : Sc} {a : Int} {k : Nat} : 0 < M.cntN a k ↔ ∃ t, t < k ∧ a ∈ M.stk t := by
  induction k with
  | zero => simp [cntN]
  | succ k ih =>
    unfold cntN
    constructor
    · intro h
      by_cases h1 : 0 < M.cntN a k
      · obtain ⟨t, h2, h3⟩ := ih.1 h1
        exact ⟨t, by omega, h3⟩
      · exact ⟨k, by omega, List.count_pos_iff.1 (by omega)⟩
    · rintro ⟨t, h2, h3⟩
      by_cases e : t = k
      · subst e
        have := List.count_pos_iff.2 h3
        omega
      · have := ih.2 ⟨t, by omega, h3⟩
        omega
theorem Sc.used_iff {M : Sc} {a : Int} : M.used a = true ↔ 2 ≤ a ∧ ∃ t, t < 5 ∧ a ∈ M.stk t := by
  unfold used usersN
  by_cases h : 2 ≤ a
  · simp only [h, if_true, decide_eq_true_eq, true_and]; exact cntN_pos
  · simp [h]
theorem pIn_none {l : List Int} {a : Int} : pIn l a = none ↔ a ∉ l := by unfold pIn; split <;> simp_all
theorem pIn_some {l : List Int} {a p : Int} (h : pIn l a = some p) : a ∈ l ∧ ∃ i, l[i]? = some a ∧ p = under (l.take i) := by
  unfold pIn at h
  split at h
  · rename_i hm
    refine ⟨hm, ?_⟩
    simp at h
    refine ⟨(l.takeWhile (· != a)).length, ?_, ?_⟩
    · clear h
      induction l with
      | nil => simp at hm
      | cons x r ih =>
        by_cases e : x = a
        · subst e; simp
        · have : (x != a) = true := by simpa using e
          simp only [List.takeWhile_cons, this, if_true, List.length_cons, List.getElem?_cons_succ]
          exact ih (by simpa [Ne.symm e] using hm)
    · rw [← h]
      congr 1
      exact (List.prefix_iff_eq_take.1 (List.takeWhile_prefix _))
  · cases h
theorem Sc.parN_none {M : Sc} {a : Int} {k : Nat} : M.parN a k = none ↔ ∀ t, t < k → a ∉ M.stk t := by
  induction k with
  | zero => simp [parN]
  | succ k ih =>
    unfold parN
    rw [Option.or_eq_none_iff, ih, pIn_none]
    constructor
    · rintro ⟨h1, h2⟩ t ht
      by_cases e : t = k
      · subst e; exact h2
      · exact h1 t (by omega)
    · intro h; exact ⟨fun t ht => h t (by omega), h k (by omega)⟩
theorem Sc.parN_some {M : Sc} {a p : Int} {k : Nat} (h : M.parN a k = some p) : ∃ t, t < k ∧ pIn (M.stk t) a = some p := by
  induction k with
  | zero => simp [parN] at h
  | succ k ih =>
    unfold parN at h
    rcases Option.or_eq_some_iff.1 h with h | ⟨_, h⟩
    · obtain ⟨t, h1, h2⟩ := ih h; exact ⟨t, by omega, h2⟩
    · exact ⟨k, by omega, h⟩
theorem Sc.par_none {M : Sc} {a : Int} : M.par a = none ↔ M.used a = false := by
  unfold par
  by_cases h : 2 ≤ a
  · rw [if_pos h, parN_none, ← Bool.not_eq_true, used_iff]
    simp [h]
  · rw [if_neg h, ← Bool.not_eq_true, used_iff]; simp [h]
theorem Sc.par_used {M : Sc} {a p : Int} (h : M.par a = some p) : M.used a = true := by
  cases e : M.used a
  · rw [par_none.2 e] at h; cases h
  · rfl
theorem Sc.used_par {M : Sc} {a : Int} (h : M.used a = true) : ∃ p, M.par a = some p := by
  cases e : M.par a
  · rw [par_none.1 e] at h; cases h
  · exact ⟨_, rfl⟩
theorem Sc.par_eq {M : Sc} {a v : Int} (h2 : 2 ≤ a) (hex : ∃ t, t < 5 ∧ a ∈ M.stk t) (h : ∀ t, t < 5 → ∀ p, pIn (M.stk t) a = some p → p = v) : M.par a = some v := by
  obtain ⟨p, hp⟩ := used_par (used_iff.2 ⟨h2, hex⟩)
  rw [hp]
  unfold par at hp
  rw [if_pos h2] at hp
  obtain ⟨t, h1, h3⟩ := parN_some hp
  rw [h t h1 p h3]
theorem Sc.par_two {M : Sc} {a p : Int} (h : M.par a = some p) : 2 ≤ a := (used_iff.1 (par_used h)).1
theorem Sc.par_at {M : Sc} {a p : Int} (h : M.par a = some p) : ∃ t, t < 5 ∧ ∃ i, (M.stk t)[i]? = some a ∧ p = under ((M.stk t).take i) := by
  have h2 := par_two h
  unfold par at h
  rw [if_pos h2] at h
  obtain ⟨t, h1, h3⟩ := parN_some h
  obtain ⟨_, i, h4, h5⟩ := pIn_some h3
  exact ⟨t, h1, i, h4, h5⟩
theorem Sc.par_in {M : Sc} {a p : Int} (h : M.par a = some p) : p = 1 ∨ M.used p = true := by
  obtain ⟨t, h1, i, _, rfl⟩ := par_at h
  rcases under_mem ((M.stk t).take i) with h2 | ⟨h2, h3⟩
  · exact .inl h2
  · exact .inr (used_iff.2 ⟨h2, t, h1, List.mem_of_mem_take h3⟩)
theorem Sc.Ok.pIn {M : Sc} (h : M.Ok) {t : Nat} (ht : t < 5) {a p : Int} (h2 : 2 ≤ a) (hp : pIn (M.stk t) a = some p) : M.par a = some p := by
  obtain ⟨_, i, h3, rfl⟩ := pIn_some hp
  exact h.pc t ht i a h3 h2
theorem Sc.Ok.usedA {M : Sc} (h : M.Ok) {a : Int} (hu : M.used a = true) : 2 ≤ a ∧ a < (M.n : Int) + 2 := by
  obtain ⟨h2, t, ht, hm⟩ := used_iff.1 hu
  exact ⟨h2, (h.sa t ht a hm).2⟩
def rk6 (rk : Int → Nat) (a : Int) : Nat :=
  (if rk 2 < rk a then 1 else 0) + (if rk 3 < rk a then 1 else 0) + (if rk 4 < rk a then 1 else 0) + (if rk 5 < rk a then 1 else 0) + (if rk 6 < rk a then 1 else 0) + (if rk 7 < rk a then 1 else 0)
theorem rk6_le (rk : Int → Nat) (a : Int) : rk6 rk a ≤ 6 := by unfold rk6; (repeat' split) <;> omega
theorem ite_le {p q : Prop} [Decidable p] [Decidable q] (h : p → q) : (if p then 1 else 0) ≤ (if q then 1 else 0 : Nat) := by
  split
  · rw [if_pos (h ‹_›)]; exact Nat.le_refl _
  · exact Nat.zero_le _
theorem ite_lt {p q : Prop} [Decidable p] [Decidable q] (h : q) (h' : ¬ p) : (if p then 1 else 0) + 1 ≤ (if q then 1 else 0 : Nat) := by
  rw [if_pos h, if_neg h']; exact Nat.le_refl _
theorem rk6_lt {rk : Int → Nat} {p a : Int} (h : rk p < rk a) (h2 : 2 ≤ p) (h8 : p < 8) : rk6 rk p < rk6 rk a := by
  have hl : ∀ c, (if rk c < rk p then 1 else 0) ≤ (if rk c < rk a then 1 else 0 : Nat) := fun c => ite_le (fun h' => Nat.lt_trans h' h)
  have hp : (if rk p < rk p then 1 else 0) + 1 ≤ (if rk p < rk a then 1 else 0 : Nat) := ite_lt h (Nat.lt_irrefl _)
  have := hl 2; have := hl 3; have := hl 4; have := hl 5; have := hl 6; have := hl 7
  unfold rk6
  have e : p = 2 ∨ p = 3 ∨ p = 4 ∨ p = 5 ∨ p = 6 ∨ p = 7 := by omega
  rcases e with rfl | rfl | rfl | rfl | rfl | rfl <;> omega
theorem Sc.Ok.rank {M : Sc} (h : M.Ok) : ∃ rk : Int → Nat, (∀ a, rk a ≤ 6) ∧ ∀ a p, M.par a = some p → 2 ≤ p → rk p < rk a := by
  obtain ⟨rk, hr⟩ := h.rk
  refine ⟨rk6 rk, rk6_le rk, fun a p hp h2 => rk6_lt (hr a p hp h2) h2 ?_⟩
  rcases par_in hp with e | e
  · omega
  · have := (h.usedA e).2
    have := h.n6
    unfold n at *
    omega
theorem Sc.outerN_more {M : Sc} {rk : Int → Nat} (hr : ∀ a p, M.par a = some p → 2 ≤ p → rk p < rk a) {n m : Nat} {a b : Int} (hn : rk b + 1 < n) (hm : rk b + 1 < m) : M.outerN n a b = M.outerN m a b := by
  induction n generalizing m b with
  | zero => omega
  | succ n ih =>
    cases m with
    | zero => omega
    | succ m =>
      unfold outerN
      split
      · rfl
      · cases hp : M.par b with
        | none => rfl
        | some p =>
          simp only
          by_cases h2 : 2 ≤ p
          · have := hr b p hp h2
            exact ih (by omega) (by omega)
          · have hn1 : M.par p = none := by unfold par; rw [if_neg h2]
            cases n with
            | zero => omega
            | succ n =>
              cases m with
              | zero => omega
              | succ m => unfold outerN; simp [hn1]
theorem Sc.Ok.outerN {M : Sc} (h : M.Ok) {n : Nat} (hn : 8 ≤ n) (a b : Int) : M.outerN n a b = M.outerN 8 a b := by
  obtain ⟨rk, h6, hr⟩ := h.rank
  have := h6 b
  exact outerN_more hr (by omega) (by omega)
theorem Sc.outer_used {M : Sc} {n : Nat} {a b : Int} (h : M.outerN n a b = true) : a = 0 ∨ a = 1 ∨ a = b ∨ M.used a = true := by
  induction n generalizing b with
  | zero => simp [outerN] at h
  | succ n ih =>
    unfold outerN at h
    split at h
    · rename_i h1; rcases h1 with h1 | h1 | h1 <;> simp [h1]
    · cases hp : M.par b with
      | none => rw [hp] at h; cases h
      | some p =>
        rw [hp] at h
        rcases ih h with h1 | h1 | h1 | h1
        · exact .inl h1
        · exact .inr (.inl h1)
        · subst h1
          rcases par_in hp with h2 | h2
          · exact .inr (.inl h2)
          · exact .inr (.inr (.inr h2))
        · exact .inr (.inr (.inr h1))
theorem Sc.outerN_same {M M' : Sc} {S : Int → Prop} (h : ∀ b, S b → M'.par b = M.par b ∧ ∀ p, M.par b = some p → S p) {n : Nat} {a b : Int} (hb : S b) : M'.outerN n a b = M.outerN n a b := by
  induction n generalizing b with
  | zero => rfl
  | succ n ih =>
    unfold outerN
    rw [(h b hb).1]
    cases hp : M.par b with
    | none => rfl
    | some p => simp only; rw [ih ((h b hb).2 p hp)]
end Go.Proofs.YtkacgbigeobncaaGreat
