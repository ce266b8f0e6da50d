/- Lemmas of this claim. -/
import Derived.Test.YthflghdaejbdkaaKBPlain
import Derived.Test.YthflghdaejbdkaaKQModel
namespace Go.Proofs.Ythflghdaejbdkaa
set_option linter.unusedVariables false
def Blk (P : Pl) (c a : Int) (v : Nat → Int) : Prop := ∃ i k, a = ((16 * i + k * bsz c : Nat) : Int) ∧ P.Holds c i k v
section
variable {P : Pl} {c a : Int} {v : Nat → Int}
theorem Blk.cong (h : Blk P c a v) {v' : Nat → Int} (e : ∀ x, x < bsz c → v' x = v x) : Blk P c a v' := by
  obtain ⟨i, k, ha, hh⟩ := h
  exact ⟨i, k, ha, hh.upto e⟩
theorem Blk.range (h : Blk P c a v) (hc : IsC c) : 0 ≤ a ∧ a + (bsz c : Int) ≤ 16 * (P.n : Int) := by
  obtain ⟨i, k, rfl, hh⟩ := h
  have h1 := hh.hi
  have h2 := (hc.blk hh.kb).1
  omega
theorem Blk.tells (h : Blk P c a v) (hc : IsC c) {x : Nat} (hx : x < bsz c) : P.begin (a + (x : Int)) = (a, 0) ∧ P.cell (a + (x : Int)) = (v x, 0) := by
  obtain ⟨i, k, rfl, hh⟩ := h
  have := hh.tells hc hx
  rw [Int.natCast_add] at this
  exact this
theorem Blk.apart {c' a' : Int} {v' : Nat → Int} (h : Blk P c a v) (hc : IsC c) (h' : Blk P c' a' v') (hc' : IsC c') (hne : a ≠ a') : a + (bsz c : Int) ≤ a' ∨ a' + (bsz c' : Int) ≤ a := by
  obtain ⟨i, k, rfl, hh⟩ := h
  obtain ⟨i', k', rfl, hh'⟩ := h'
  have h1 := hc.blk hh.kb
  have h2 := hc'.blk hh'.kb
  by_cases e : i = i'
  · subst e
    obtain rfl : c = c' := by rw [← hh.cls, hh'.cls]
    by_cases ek : k = k'
    · subst ek; exact absurd rfl hne
    · rcases hc.facts with ⟨h3, _⟩ | ⟨h3, _⟩ | ⟨h3, _⟩ <;> rw [h3] at * <;> omega
  · rcases Nat.lt_or_ge i i' with h3 | h3
    · left; omega
    · right; omega
theorem Blk.alloc (hok : P.ok) (h : Blk P c a v) (hc : IsC c) (cl : Int) : Blk (P.alloc cl).2.2 c a v := by
  obtain ⟨i, k, ha, hh⟩ := h
  exact ⟨i, k, ha, hh.alloc hok hc cl⟩
theorem Blk.free (h : Blk P c a v) (hc : IsC c) {b : Int} (hne : b ≠ a) : Blk (P.free b).2 c a v := by
  obtain ⟨i, k, rfl, hh⟩ := h
  exact ⟨i, k, rfl, hh.free hc hne⟩
theorem Blk.setOther (h : Blk P c a v) {b n : Int} (hb : b < a ∨ a + (bsz c : Int) ≤ b) : Blk (P.setCell b n).2 c a v := by
  obtain ⟨i, k, rfl, hh⟩ := h
  exact ⟨i, k, rfl, hh.setCell (by omega)⟩
theorem Blk.put (h : Blk P c a v) (hc : IsC c) {x : Nat} (hx : x < bsz c) (n : Int) : (P.setCell (a + (x : Int)) n).1 = 0 ∧ Blk (P.setCell (a + (x : Int)) n).2 c a (up v x n) := by
  obtain ⟨i, k, rfl, hh⟩ := h
  have := hh.put hc hx n
  rw [Int.natCast_add] at this
  exact ⟨this.1, i, k, rfl, this.2⟩
theorem Blk.new (hok : P.ok) (hc : IsC c) (he : (P.alloc c).2.1 = 0) : Blk (P.alloc c).2.2 c (P.alloc c).1 (fun _ => 0) := by
  obtain ⟨i, k, h1, h2⟩ := Pl.alloc_holds hok hc he
  exact ⟨i, k, h1, h2⟩
theorem Blk.fresh (hok : P.ok) {c' : Int} (hc' : IsC c') (he : (P.alloc c').2.1 = 0) (h : Blk P c a v) (hc : IsC c) : (P.alloc c').1 ≠ a := by
  obtain ⟨i, k, rfl, hh⟩ := h
  have h1 := hc.blk hh.kb
  have s1 := hc.sz
  have s2 := hc'.sz
  intro e
  rcases P.alloc_cases c' with hb | ⟨_, ⟨j, hj, hp, hb⟩ | ⟨hn, ⟨j, hj, hp, hb⟩ | hf⟩⟩
  · exact absurd hb (isC_iff.2 hc')
  · rw [Pl.alloc_part hc' hj hp hb] at e
    have hg := (hok j hj).gap hc' hp
    have h2 := hc'.blk hg.1
    have e' : 16 * j + (P.pg j).gap c' * bsz c' = 16 * i + k * bsz c := Int.ofNat.inj e
    obtain rfl : j = i := by omega
    have hcl : c' = c := by rw [← hh.cls, (Pg.partly_iff.1 hp).1]
    subst hcl
    have := hc.blocks (k := (P.pg j).gap c') (l := k) (by omega)
    rw [this, hh.used] at hg
    cases hg.2
  · rw [Pl.alloc_new hc' hn hj hp hb] at e
    have e' : 16 * j = 16 * i + k * bsz c := Int.ofNat.inj e
    obtain rfl : j = i := by omega
    rw [hh.cls] at hp
    rcases hc with e2 | e2 | e2 <;> omega
  · rw [Pl.alloc_full hc' hn hf] at he
    cases he
theorem Pl.setCell_same {P : Pl} {a n : Int} (h : P.cell a = (n, 0)) : (P.setCell a n).2 = P ∧ (P.setCell a n).1 = 0 := by
  have hb : (P.begin a).2 = 0 := by
    unfold Pl.cell at h
    split at h
    · assumption
    · rename_i h2; exact absurd (congrArg Prod.snd h) h2
  have hc : (P.pg (a.toNat / 16)).cell (a.toNat % 16) = n := by
    unfold Pl.cell at h
    rw [if_pos hb] at h
    exact congrArg Prod.fst h
  unfold Pl.setCell
  rw [if_pos hb]
  refine ⟨?_, rfl⟩
  have e : ({ P.pg (a.toNat / 16) with cell := up (P.pg (a.toNat / 16)).cell (a.toNat % 16) n } : Pg) = P.pg (a.toNat / 16) := by
    have : up (P.pg (a.toNat / 16)).cell (a.toNat % 16) n = (P.pg (a.toNat / 16)).cell := by
      funext j
      by_cases e : j = a.toNat % 16
      · rw [e, up_same, hc]
      · rw [up_other _ _ e]
    rw [this]
  show P.set (a.toNat / 16) _ = P
  rw [e]
  unfold Pl.set
  have : up P.pg (a.toNat / 16) (P.pg (a.toNat / 16)) = P.pg := by
    funext j
    by_cases e : j = a.toNat / 16
    · rw [e, up_same]
    · rw [up_other _ _ e]
  rw [this]
end
end Go.Proofs.Ythflghdaejbdkaa
namespace Go.Proofs.Ythflghdaejbdkaa
set_option linter.unusedVariables false
def gB (l : List Bool) (i : Nat) : Bool := l[i]?.getD false
structure Th where
  kind : Int
  cls : Int
  refs : List Bool
  slots : List Int
  blocks : List Int
structure Hp where
  P : Pl
  ob : Int → Option Th
def setT (f : Int → Option Th) (h : Int) (o : Option Th) : Int → Option Th := fun j => if j = h then o else f j
theorem setT_same (f : Int → Option Th) (h : Int) (o : Option Th) : setT f h o h = o := if_pos rfl
theorem setT_other (f : Int → Option Th) {h j : Int} (o : Option Th) (e : j ≠ h) : setT f h o j = f j := if_neg e
theorem setT_some {f : Int → Option Th} {h j : Int} {o t : Th} (e : setT f h (some o) j = some t) : (j = h ∧ t = o) ∨ (j ≠ h ∧ f j = some t) := by
  unfold setT at e
  by_cases h1 : j = h
  · rw [if_pos h1] at e; cases e; exact .inl ⟨h1, rfl⟩
  · rw [if_neg h1] at e; exact .inr ⟨h1, e⟩
def fitC (n : Nat) : Int := if n ≤ 2 then 0 else if n ≤ 4 then 1 else 2
def needs (n : Nat) : List Int := fitC (1 + n) :: (if 7 < n then List.replicate ((n + 7) / 8) 2 else [])
theorem fitC_isC (n : Nat) : IsC (fitC n) := by unfold fitC IsC; split; simp; split <;> simp
theorem fitC_fits {n : Nat} (h : n ≤ 7) : 1 + n ≤ bsz (fitC (1 + n)) := by
  unfold fitC
  split
  · show 1 + n ≤ 2; omega
  · split
    · show 1 + n ≤ 4; omega
    · show 1 + n ≤ 8; omega
theorem fitC_big {n : Nat} (h : 7 < n) : fitC (1 + n) = 2 := by unfold fitC; rw [if_neg (by omega), if_neg (by omega)]
theorem needs_len (n : Nat) : (needs n).length = if 7 < n then 1 + (n + 7) / 8 else 1 := by
  unfold needs
  split <;> simp
  omega
theorem needs_zero (n : Nat) : gI (needs n) 0 = fitC (1 + n) := rfl
theorem needs_leaf {n m : Nat} (h1 : 1 ≤ m) (hm : m < (needs n).length) : 7 < n ∧ gI (needs n) m = 2 := by
  rw [needs_len] at hm
  by_cases h : 7 < n
  · rw [if_pos h] at hm
    refine ⟨h, ?_⟩
    unfold needs gI
    rw [if_pos h]
    obtain ⟨k, rfl⟩ : ∃ k, m = k + 1 := ⟨m - 1, by omega⟩
    rw [List.getElem?_cons_succ, List.getElem?_replicate, if_pos (by omega)]
    rfl
  · rw [if_neg h] at hm; omega
theorem needs_isC (n : Nat) {m : Nat} (hm : m < (needs n).length) : IsC (gI (needs n) m) := by
  by_cases h1 : 1 ≤ m
  · rw [(needs_leaf h1 hm).2]; exact .inr (.inr rfl)
  · obtain rfl : m = 0 := by omega
    exact fitC_isC _
theorem needs_le (n : Nat) (h : n ≤ 48) : (needs n).length ≤ 7 := by rw [needs_len]; split <;> omega
theorem needs_pos (n : Nat) : 1 ≤ (needs n).length := by rw [needs_len]; split <;> omega
def allocN (P : Pl) (l : List Int) : Nat → Option (List Int × Pl)
  | 0 => some ([], P)
  | k + 1 => match allocN P l k with
    | some (bs, Q) => if (Q.alloc (gI l k)).2.1 = 0 then some (bs ++ [(Q.alloc (gI l k)).1], (Q.alloc (gI l k)).2.2) else none
    | none => none
def putN (P : Pl) (a : Int) (l : List Int) : Nat → Pl
  | 0 => P
  | k + 1 => ((putN P a l k).setCell (a + (k : Int)) (gI l k)).2
def headP (P : Pl) (h : Int) (bs : List Int) : Pl := putN ((P.setCell (gI bs 0) h).2) (gI bs 0 + 1) (bs.drop 1) (bs.length - 1)
def Hp.least (M : Hp) : Nat := fst (fun k => (M.ob ((k : Int) + 1)).isNone) 192
def Hp.add (M : Hp) (o : Th) : Int × Int × Hp :=
  if M.least < 192 then
    match allocN M.P (needs o.slots.length) (needs o.slots.length).length with
    | some (bs, Q) => ((M.least : Int) + 1, 0, ⟨headP Q ((M.least : Int) + 1) bs, setT M.ob ((M.least : Int) + 1) (some { o with blocks := bs })⟩)
    | none => (0, 14, M)
  else (0, 14, M)
def objT (c : Int) (refs : List Bool) : Th := ⟨2, c, refs, List.replicate refs.length 0, []⟩
def Hp.newObject (M : Hp) (c : Int) (refs : List Bool) : Int × Int × Hp :=
  if c < 0 ∨ 10 ≤ c ∨ 7 < refs.length then (0, 1, M) else M.add (objT c refs)
def Th.addr (o : Th) (s : Nat) : Int := if 1 < o.blocks.length then gI o.blocks (1 + s / 8) + ((s % 8 : Nat) : Int) else gI o.blocks 0 + 1 + (s : Int)
def Hp.slot (M : Hp) (h s : Int) : Int := match M.ob h with | none => 3 | some o => if s < 0 ∨ (o.slots.length : Int) ≤ s then 1 else 0
def isWordI (v : Int) : Bool := decide (-2147483648 ≤ v ∧ v ≤ 2147483647)
def Hp.fits (M : Hp) (r : Bool) (v : Int) : Bool := if r then (decide (v = 0) || (M.ob v).isSome) else isWordI v
def Th.put (o : Th) (s : Nat) (v : Int) : Th := { o with slots := o.slots.set s v }
def Hp.set (M : Hp) (h s v : Int) : Int × Hp := match M.ob h with
  | none => (3, M)
  | some o => if s < 0 ∨ (o.slots.length : Int) ≤ s then (1, M)
    else if M.fits (gB o.refs s.toNat) v then (0, ⟨(M.P.setCell (o.addr s.toNat) v).2, setT M.ob h (some (o.put s.toNat v))⟩) else (1, M)
def Hp.type (M : Hp) (h : Int) : Int × Int × Int × Int := match M.ob h with | none => (0, 0, 0, 3) | some o => (o.kind, o.cls, o.slots.length, 0)
def Th.refsN (o : Th) : Nat → List Int
  | 0 => []
  | k + 1 => o.refsN k ++ if gB o.refs k = true ∧ gI o.slots k ≠ 0 then [gI o.slots k] else []
def Th.refsL (o : Th) : List Int := o.refsN o.slots.length
def Hp.refs (M : Hp) (h : Int) : List Int × Int := match M.ob h with | none => ([], 3) | some o => (o.refsL, 0)
def Hp.refers (M : Hp) (h k : Int) : Bool := decide (k ≠ h) && (match M.ob k with | none => false | some o => decide (h ∈ o.refsL))
def Hp.held (M : Hp) (h : Int) : Bool := (List.range 192).any fun k => M.refers h ((k : Int) + 1)
def freeL (P : Pl) (l : List Int) : Nat → Pl
  | 0 => P
  | k + 1 => ((freeL P l k).free (gI l k)).2
def Hp.new (n : Nat) : Hp := ⟨Pl.zero n, fun _ => none⟩
def Th.cell (o : Th) (h : Int) (m x : Nat) : Int :=
  if m = 0 then (if x = 0 then h else if 1 < o.blocks.length then gI o.blocks x else gI o.slots (x - 1)) else gI o.slots ((m - 1) * 8 + x)
structure Th.ok1 (o : Th) : Prop where
  kd : (o.kind = 2 ∧ 0 ≤ o.cls ∧ o.cls < 10 ∧ o.slots.length ≤ 7) ∨ (o.kind = 3 ∧ o.cls = 0 ∧ o.slots.length ≤ 48 ∧ ∀ s, gB o.refs s = false) ∨ (o.kind = 4 ∧ 0 ≤ o.cls ∧ o.cls < 10 ∧ o.slots.length ≤ 48 ∧ ∀ s, s < o.slots.length → gB o.refs s = true)
  rl : o.refs.length = o.slots.length
structure Hp.Ok (M : Hp) : Prop where
  p : M.P.ok
  n1 : 1 ≤ M.P.n
  n24 : M.P.n ≤ 24
  hr : ∀ h o, M.ob h = some o → 1 ≤ h ∧ h ≤ 192
  th : ∀ h o, M.ob h = some o → o.ok1
  bl : ∀ h o, M.ob h = some o → o.blocks.length = (needs o.slots.length).length
  bk : ∀ h o, M.ob h = some o → ∀ m, m < o.blocks.length → Blk M.P (gI (needs o.slots.length) m) (gI o.blocks m) (o.cell h m)
  dj : ∀ h o, M.ob h = some o → ∀ h' o', M.ob h' = some o' → ∀ m, m < o.blocks.length → ∀ m', m' < o'.blocks.length → gI o.blocks m = gI o'.blocks m' → h = h' ∧ m = m'
  sl : ∀ h o, M.ob h = some o → ∀ s, s < o.slots.length → M.fits (gB o.refs s) (gI o.slots s) = true
theorem Th.ok1.le {o : Th} (h : o.ok1) : o.slots.length ≤ 48 := by rcases h.kd with h | h | h <;> omega
theorem gI_set {l : List Int} {i j : Nat} {v : Int} (hi : i < l.length) : gI (l.set i v) j = if j = i then v else gI l j := by
  unfold gI
  rw [List.getElem?_set]
  by_cases e : i = j
  · subst e; rw [if_pos rfl, if_pos hi, if_pos rfl]; rfl
  · rw [if_neg e, if_neg (Ne.symm e)]
theorem gI_snoc {l : List Int} {x : Int} {j : Nat} : gI (l ++ [x]) j = if j < l.length then gI l j else if j = l.length then x else 0 := by
  unfold gI
  by_cases h : j < l.length
  · rw [if_pos h, List.getElem?_append_left h]
  · rw [if_neg h, List.getElem?_append_right (by omega)]
    by_cases e : j = l.length
    · rw [if_pos e, e]; simp
    · rw [if_neg e, List.getElem?_eq_none (by simp; omega)]; rfl
theorem gI_out {l : List Int} {j : Nat} (h : l.length ≤ j) : gI l j = 0 := by unfold gI; rw [List.getElem?_eq_none h]; rfl
section
variable {M : Hp} {h : Int} {o : Th}
theorem Hp.Ok.blen (hk : M.Ok) (ho : M.ob h = some o) : 1 ≤ o.blocks.length ∧ o.blocks.length ≤ 7 ∧ (1 < o.blocks.length ↔ 7 < o.slots.length) ∧ (7 < o.slots.length → o.blocks.length = 1 + (o.slots.length + 7) / 8) := by
  have h1 := hk.bl h o ho
  have h2 := (hk.th h o ho).le
  have h3 := needs_le _ h2
  rw [needs_len] at h1 h3
  split at h1 <;> (refine ⟨by omega, by omega, by omega, by omega⟩)
theorem Hp.Ok.isC (hk : M.Ok) (ho : M.ob h = some o) {m : Nat} (hm : m < o.blocks.length) : IsC (gI (needs o.slots.length) m) := needs_isC _ (by rw [← hk.bl h o ho]; exact hm)
def Th.slotM (o : Th) (s : Nat) : Nat := if 1 < o.blocks.length then 1 + s / 8 else 0
def Th.slotX (o : Th) (s : Nat) : Nat := if 1 < o.blocks.length then s % 8 else 1 + s
theorem Th.addr_eq (o : Th) (s : Nat) : o.addr s = gI o.blocks (o.slotM s) + (o.slotX s : Int) := by
  unfold addr slotM slotX
  split
  · rfl
  · omega
theorem Hp.Ok.slotAt (hk : M.Ok) (ho : M.ob h = some o) {s : Nat} (hs : s < o.slots.length) :
    o.slotM s < o.blocks.length ∧ o.slotX s < bsz (gI (needs o.slots.length) (o.slotM s)) ∧ o.cell h (o.slotM s) (o.slotX s) = gI o.slots s := by
  obtain ⟨h1, h2, h3, h4⟩ := hk.blen ho
  unfold Th.slotM Th.slotX Th.cell
  by_cases hb : 1 < o.blocks.length
  · have h7 := h3.1 hb
    have hl := h4 h7
    simp only [hb, if_true]
    refine ⟨by omega, ?_, ?_⟩
    · rw [(needs_leaf (by omega) (by rw [← hk.bl h o ho]; omega)).2]
      show s % 8 < 8; omega
    · rw [if_neg (by omega)]
      congr 1; omega
  · have h7 : o.slots.length ≤ 7 := by omega
    simp only [hb, if_false, if_true]
    refine ⟨by omega, ?_, ?_⟩
    · rw [needs_zero]; have := fitC_fits h7; omega
    · rw [if_neg (by omega)]; congr 1; omega
theorem Hp.Ok.slotCell (hk : M.Ok) (ho : M.ob h = some o) {s : Nat} (hs : s < o.slots.length) : M.P.cell (o.addr s) = (gI o.slots s, 0) ∧ (M.P.begin (o.addr s)).2 = 0 := by
  obtain ⟨h1, h2, h3⟩ := hk.slotAt ho hs
  have := (hk.bk h o ho _ h1).tells (hk.isC ho h1) h2
  rw [Th.addr_eq, ← h3]
  exact ⟨this.2, by rw [this.1]⟩
theorem Hp.Ok.headCell (hk : M.Ok) (ho : M.ob h = some o) : M.P.cell (gI o.blocks 0) = (h, 0) := by
  have hb := hk.blen ho
  have hc := hk.isC ho (m := 0) (by omega)
  have := ((hk.bk h o ho 0 (by omega)).tells hc (x := 0) (by have := hc.sz; omega)).2
  simpa [Th.cell] using this
theorem Hp.Ok.linkCell (hk : M.Ok) (ho : M.ob h = some o) {k : Nat} (h1 : 1 ≤ k) (h2 : k < o.blocks.length) : M.P.cell (gI o.blocks 0 + (k : Int)) = (gI o.blocks k, 0) := by
  obtain ⟨hb1, hb2, hb3, hb4⟩ := hk.blen ho
  have hc := hk.isC ho (m := 0) (by omega)
  have h7 := hb3.1 (by omega)
  have := ((hk.bk h o ho 0 (by omega)).tells hc (x := k) (by rw [needs_zero, fitC_big h7]; show k < 8; omega)).2
  rw [this]
  unfold Th.cell
  rw [if_pos rfl, if_neg (by omega), if_pos (by omega)]
end
end Go.Proofs.Ythflghdaejbdkaa
namespace Go.Proofs.Ythflghdaejbdkaa
set_option linter.unusedVariables false
structure AllocS (P : Pl) (l : List Int) (k : Nat) (bs : List Int) (Q : Pl) : Prop where
  ok : Q.ok
  n : Q.n = P.n
  len : bs.length = k
  old : ∀ c a v, IsC c → Blk P c a v → Blk Q c a v ∧ ∀ m, m < k → gI bs m ≠ a
  new : ∀ m, m < k → Blk Q (gI l m) (gI bs m) (fun _ => 0)
  dj : ∀ m, m < k → ∀ m', m' < k → gI bs m = gI bs m' → m = m'
theorem allocN_spec {P : Pl} (hok : P.ok) {l : List Int} (hl : ∀ m, m < l.length → IsC (gI l m)) : ∀ k, k ≤ l.length → ∀ bs Q, allocN P l k = some (bs, Q) → AllocS P l k bs Q := by
  intro k
  induction k with
  | zero =>
    intro _ bs Q e
    unfold allocN at e
    cases e
    exact ⟨hok, rfl, rfl, fun c a v _ h => ⟨h, fun m hm => by omega⟩, fun m hm => by omega, fun m hm => by omega⟩
  | succ k ih =>
    intro hk bs Q e
    unfold allocN at e
    cases e1 : allocN P l k with
    | none => rw [e1] at e; cases e
    | some x =>
      obtain ⟨bs', Q'⟩ := x
      rw [e1] at e
      simp only at e
      split at e
      · rename_i he
        cases e
        have s := ih (by omega) bs' Q' e1
        have hc := hl k (by omega)
        have hgi : ∀ m, m < k → gI (bs' ++ [(Q'.alloc (gI l k)).1]) m = gI bs' m := fun m hm => by rw [gI_snoc, if_pos (by rw [s.len]; exact hm)]
        have hgk : gI (bs' ++ [(Q'.alloc (gI l k)).1]) k = (Q'.alloc (gI l k)).1 := by rw [gI_snoc, if_neg (by rw [s.len]; omega), if_pos s.len.symm]
        refine ⟨(s.ok.alloc _).1, (s.ok.alloc _).2.trans s.n, by simp [s.len], fun c a v hca hb => ?_, fun m hm => ?_, fun m hm m' hm' e2 => ?_⟩
        · obtain ⟨h1, h2⟩ := s.old c a v hca hb
          refine ⟨h1.alloc s.ok hca _, fun m hm => ?_⟩
          by_cases em : m = k
          · rw [em, hgk]; exact h1.fresh s.ok hc he hca
          · rw [hgi m (by omega)]; exact h2 m (by omega)
        · by_cases em : m = k
          · rw [em, hgk]; exact Blk.new s.ok hc he
          · rw [hgi m (by omega)]; exact (s.new m (by omega)).alloc s.ok (hl m (by omega)) _
        · by_cases em : m = k
          · by_cases em' : m' = k
            · omega
            · rw [em, hgk, hgi m' (by omega)] at e2
              exact absurd e2 ((s.new m' (by omega)).fresh s.ok hc he (hl m' (by omega)))
          · by_cases em' : m' = k
            · rw [em', hgk, hgi m (by omega)] at e2
              exact absurd e2.symm ((s.new m (by omega)).fresh s.ok hc he (hl m (by omega)))
            · rw [hgi m (by omega), hgi m' (by omega)] at e2
              exact s.dj m (by omega) m' (by omega) e2
      · cases e
theorem putN_keep {P : Pl} (hok : P.ok) (a : Int) (l : List Int) (k : Nat) : (putN P a l k).ok ∧ (putN P a l k).n = P.n := by
  induction k with
  | zero => exact ⟨hok, rfl⟩
  | succ k ih => exact ⟨(ih.1.setCell _ _).1, (ih.1.setCell _ _).2.trans ih.2⟩
theorem putN_other {P : Pl} {c' a' : Int} {v' : Nat → Int} (h : Blk P c' a' v') {a : Int} {l : List Int} {k : Nat} (ha : a + (k : Int) ≤ a' ∨ a' + (bsz c' : Int) ≤ a) : Blk (putN P a l k) c' a' v' := by
  induction k with
  | zero => exact h
  | succ k ih => exact (ih (by omega)).setOther (by omega)
def putV (v : Nat → Int) (x0 : Nat) (l : List Int) (k : Nat) : Nat → Int := fun x => if x0 ≤ x ∧ x < x0 + k then gI l (x - x0) else v x
theorem putN_in {P : Pl} {c b : Int} {v : Nat → Int} (hc : IsC c) (h : Blk P c b v) {x0 : Nat} {l : List Int} {k : Nat} (hx : x0 + k ≤ bsz c) : Blk (putN P (b + (x0 : Int)) l k) c b (putV v x0 l k) := by
  induction k with
  | zero => exact h.cong (fun x _ => by unfold putV; rw [if_neg (by omega)])
  | succ k ih =>
    have h1 := ((ih (by omega)).put hc (x := x0 + k) (by omega) (gI l k)).2
    unfold putN
    rw [show b + (x0 : Int) + (k : Int) = b + ((x0 + k : Nat) : Int) by omega]
    refine h1.cong (fun x _ => ?_)
    unfold putV
    by_cases e : x = x0 + k
    · rw [e, up_same, if_pos (by omega)]; congr 1; omega
    · rw [up_other _ _ e]
      by_cases e2 : x0 ≤ x ∧ x < x0 + k
      · rw [if_pos e2, if_pos (by omega)]
      · rw [if_neg e2, if_neg (by omega)]
theorem headP_keep {P : Pl} (hok : P.ok) (h : Int) (bs : List Int) : (headP P h bs).ok ∧ (headP P h bs).n = P.n := by
  have h1 := putN_keep (hok.setCell (gI bs 0) h).1 (gI bs 0 + 1) (bs.drop 1) (bs.length - 1)
  exact ⟨h1.1, h1.2.trans (hok.setCell _ _).2⟩
theorem headP_other {P : Pl} {c a : Int} {v : Nat → Int} {c0 : Int} {v0 : Nat → Int} (hc0 : IsC c0) (hc : IsC c) (h : Int) (bs : List Int) (hb : Blk P c0 (gI bs 0) v0) (hl : bs.length ≤ bsz c0) (h0 : 1 ≤ bs.length) (hB : Blk P c a v) (hne : gI bs 0 ≠ a) : Blk (headP P h bs) c a v := by
  have h1 := hb.apart hc0 hB hc hne
  have s := hc0.sz
  exact putN_other (hB.setOther (by omega)) (by omega)
theorem headP_in {P : Pl} {c0 : Int} {v0 : Nat → Int} (hc0 : IsC c0) (h : Int) (bs : List Int) (hb : Blk P c0 (gI bs 0) v0) (hl : bs.length ≤ bsz c0) (h0 : 1 ≤ bs.length) :
    Blk (headP P h bs) c0 (gI bs 0) (fun x => if x = 0 then h else if x < bs.length then gI bs x else v0 x) := by
  have s := hc0.sz
  have h1 := (hb.put hc0 (x := 0) (by omega) h).2
  simp only [Int.natCast_zero, Int.add_zero] at h1
  have h2 := putN_in hc0 h1 (x0 := 1) (l := bs.drop 1) (k := bs.length - 1) (by omega)
  refine h2.cong (fun x _ => ?_)
  unfold putV
  by_cases e : x = 0
  · subst e; rw [if_pos rfl, if_neg (by omega), up_same]
  · rw [if_neg e]
    by_cases e2 : x < bs.length
    · rw [if_pos e2, if_pos (by omega)]
      unfold gI
      rw [List.getElem?_drop, show 1 + (x - 1) = x by omega]
    · rw [if_neg e2, if_neg (by omega), up_other _ _ e]
section
variable {M : Hp} {h : Int} {o : Th}
theorem Hp.least_spec (M : Hp) (hl : M.least < 192) : M.ob ((M.least : Int) + 1) = none := by
  have := (fst_spec (fun k => (M.ob ((k : Int) + 1)).isNone) 192).2 hl
  simpa [Hp.least] using this
theorem needs_fit (n : Nat) (hn : n ≤ 48) : (needs n).length ≤ bsz (gI (needs n) 0) := by
  rw [needs_zero, needs_len]
  by_cases h : 7 < n
  · rw [if_pos h, fitC_big h]; show _ ≤ 8; omega
  · rw [if_neg h]; have := (fitC_isC (1 + n)).sz; omega
theorem Hp.Ok.fits_more {ob' : Int → Option Th} {P' : Pl} {r : Bool} {v : Int} (hf : M.fits r v = true) (he : ∀ k, (M.ob k).isSome = true → (ob' k).isSome = true) : (⟨P', ob'⟩ : Hp).fits r v = true := by
  unfold Hp.fits at hf ⊢
  cases r
  · exact hf
  · simp only [if_true, Bool.or_eq_true] at hf ⊢
    exact hf.imp id (he v)
theorem Hp.Ok.fits_zero (r : Bool) : M.fits r 0 = true := by unfold Hp.fits; cases r <;> rfl
theorem Hp.Ok.add (hk : M.Ok) (ho : o.ok1) (hz : ∀ s, gI o.slots s = 0) : (M.add o).2.2.Ok := by
  unfold Hp.add
  split
  · rename_i hl
    have hnone := M.least_spec hl
    have hle := ho.le
    cases e : allocN M.P (needs o.slots.length) (needs o.slots.length).length with
    | none => exact hk
    | some x =>
      obtain ⟨bs, Q⟩ := x
      have s := allocN_spec hk.p (l := needs o.slots.length) (fun m hm => needs_isC _ hm) _ (Nat.le_refl _) bs Q e
      obtain ⟨hN, hNe⟩ : ∃ hN, hN = (M.least : Int) + 1 := ⟨_, rfl⟩
      rw [← hNe] at hnone
      show Hp.Ok ⟨headP Q ((M.least : Int) + 1) bs, setT M.ob ((M.least : Int) + 1) (some { o with blocks := bs })⟩
      rw [← hNe]
      have hp := needs_pos o.slots.length
      have hlen := s.len
      have hc0 := needs_isC o.slots.length (m := 0) (by omega)
      have hfit := needs_fit o.slots.length hle
      have hb0 := s.new 0 (by omega)
      have hkp := headP_keep s.ok hN bs
      refine ⟨hkp.1, by rw [hkp.2, s.n]; exact hk.n1, by rw [hkp.2, s.n]; exact hk.n24, fun h' o' e' => ?_, fun h' o' e' => ?_, fun h' o' e' => ?_, fun h' o' e' m hm => ?_, fun h1 o1 e1 h2 o2 e2 m hm m' hm' em => ?_, fun h' o' e' s' hs => ?_⟩
      · rcases setT_some e' with ⟨rfl, _⟩ | ⟨_, e2⟩
        · omega
        · exact hk.hr h' o' e2
      · rcases setT_some e' with ⟨_, rfl⟩ | ⟨_, e2⟩
        · exact ⟨ho.kd, ho.rl⟩
        · exact hk.th h' o' e2
      · rcases setT_some e' with ⟨_, rfl⟩ | ⟨_, e2⟩
        · exact hlen
        · exact hk.bl h' o' e2
      · rcases setT_some e' with ⟨rfl, rfl⟩ | ⟨_, e2⟩
        · have hm' : m < bs.length := hm
          show Blk _ (gI (needs o.slots.length) m) (gI bs m) _
          by_cases e0 : m = 0
          · subst e0
            refine (headP_in hc0 h' bs hb0 (by omega) (by omega)).cong (fun x _ => ?_)
            unfold Th.cell
            simp only [if_true]
            by_cases ex : x = 0
            · rw [if_pos ex, if_pos ex]
            · rw [if_neg ex, if_neg ex]
              by_cases e1 : 1 < bs.length
              · rw [if_pos e1]
                by_cases e3 : x < bs.length
                · rw [if_pos e3]
                · rw [if_neg e3, gI_out (by omega)]
              · rw [if_neg e1, if_neg (by omega), hz]
          · have hcm := needs_isC o.slots.length (m := m) (by omega)
            refine (headP_other hc0 hcm h' bs hb0 (by omega) (by omega) (s.new m (by omega)) (fun e3 => e0 (s.dj m (by omega) 0 (by omega) e3.symm))).cong (fun x _ => ?_)
            unfold Th.cell
            rw [if_neg e0]
            exact hz _
        · have hcm := hk.isC e2 hm
          obtain ⟨h1, h2⟩ := s.old _ _ _ hcm (hk.bk h' o' e2 m hm)
          exact headP_other hc0 hcm hN bs hb0 (by omega) (by omega) h1 (h2 0 (by omega))
      · rcases setT_some e1 with ⟨rfl, rfl⟩ | ⟨_, e1'⟩
        · rcases setT_some e2 with ⟨rfl, rfl⟩ | ⟨_, e2'⟩
          · have hm1 : m < bs.length := hm
            have hm2 : m' < bs.length := hm'
            exact ⟨rfl, s.dj m (by omega) m' (by omega) em⟩
          · have hm1 : m < bs.length := hm
            exact absurd em ((s.old _ _ _ (hk.isC e2' hm') (hk.bk h2 o2 e2' m' hm')).2 m (by omega))
        · rcases setT_some e2 with ⟨rfl, rfl⟩ | ⟨_, e2'⟩
          · have hm2 : m' < bs.length := hm'
            exact absurd em.symm ((s.old _ _ _ (hk.isC e1' hm) (hk.bk h1 o1 e1' m hm)).2 m' (by omega))
          · exact hk.dj h1 o1 e1' h2 o2 e2' m hm m' hm' em
      · rcases setT_some e' with ⟨rfl, rfl⟩ | ⟨_, e2⟩
        · show Hp.fits _ (gB o.refs s') (gI o.slots s') = true
          rw [hz]; exact Hp.Ok.fits_zero _
        · refine Hp.Ok.fits_more (hk.sl h' o' e2 s' hs) (fun k hks => ?_)
          by_cases ek : k = hN
          · rw [ek, setT_same]; rfl
          · rw [setT_other _ _ ek]; exact hks
  · exact hk
theorem objT_ok {c : Int} {refs : List Bool} (h : ¬ (c < 0 ∨ 10 ≤ c ∨ 7 < refs.length)) : (objT c refs).ok1 ∧ ∀ s, gI (objT c refs).slots s = 0 := by
  refine ⟨⟨.inl ⟨rfl, by show 0 ≤ c; omega, by show c < 10; omega, by simp [objT]; omega⟩, by simp [objT]⟩, fun s => ?_⟩
  unfold objT gI
  simp only [List.getElem?_replicate]
  split <;> rfl
theorem Hp.Ok.newObject (hk : M.Ok) (c : Int) (refs : List Bool) : (M.newObject c refs).2.2.Ok := by
  unfold Hp.newObject
  split
  · exact hk
  · rename_i hc; exact hk.add (objT_ok hc).1 (objT_ok hc).2
theorem Hp.Ok.put (hk : M.Ok) (ho : M.ob h = some o) {s : Nat} (hs : s < o.slots.length) {v : Int} (hf : M.fits (gB o.refs s) v = true) :
    (⟨(M.P.setCell (o.addr s) v).2, setT M.ob h (some (o.put s v))⟩ : Hp).Ok := by
  obtain ⟨h1, h2, h3⟩ := hk.slotAt ho hs
  have hc := hk.isC ho h1
  have hb := (hk.bk h o ho _ h1).put hc h2 v
  rw [← Th.addr_eq] at hb
  have hsc := hk.p.setCell (o.addr s) v
  have hsl : ∀ x, gI (o.slots.set s v) x = if x = s then v else gI o.slots x := fun x => gI_set hs
  refine ⟨hsc.1, by rw [hsc.2]; exact hk.n1, by rw [hsc.2]; exact hk.n24, fun h' o' e' => ?_, fun h' o' e' => ?_, fun h' o' e' => ?_, fun h' o' e' m hm => ?_, fun a1 o1 e1 a2 o2 e2 m hm m' hm' em => ?_, fun h' o' e' s' hs' => ?_⟩
  · rcases setT_some e' with ⟨rfl, _⟩ | ⟨_, e2⟩
    · exact hk.hr h' o ho
    · exact hk.hr h' o' e2
  · rcases setT_some e' with ⟨_, rfl⟩ | ⟨_, e2⟩
    · have hh := hk.th h o ho
      exact ⟨by have := hh.kd; simp only [Th.put, List.length_set]; exact this, by simp only [Th.put, List.length_set]; exact hh.rl⟩
    · exact hk.th h' o' e2
  · rcases setT_some e' with ⟨_, rfl⟩ | ⟨_, e2⟩
    · have := hk.bl h o ho; simp only [Th.put, List.length_set]; exact this
    · exact hk.bl h' o' e2
  · rcases setT_some e' with ⟨rfl, rfl⟩ | ⟨hne, e2⟩
    · have hm' : m < o.blocks.length := hm
      have hcm := hk.isC ho hm'
      show Blk _ (gI (needs (o.slots.set s v).length) m) (gI o.blocks m) _
      rw [List.length_set]
      by_cases em : m = o.slotM s
      · subst em
        refine hb.2.cong (fun x _ => ?_)
        by_cases ex : x = o.slotX s
        · rw [ex, up_same]
          show (o.put s v).cell h' (o.slotM s) (o.slotX s) = v
          unfold Th.cell Th.put Th.slotM Th.slotX
          simp only [hsl]
          by_cases hb1 : 1 < o.blocks.length
          · simp only [hb1, if_true]
            rw [if_neg (by omega), if_pos (by omega)]
          · simp only [hb1, if_false, if_true]
            rw [if_neg (by omega), if_pos (by omega)]
        · rw [up_other _ _ ex]
          unfold Th.cell Th.put
          unfold Th.slotX at ex
          unfold Th.slotM
          simp only [hsl]
          by_cases hb1 : 1 < o.blocks.length
          · simp only [hb1, if_true] at ex ⊢
            rw [if_neg (by omega), if_neg (by omega), if_neg (by omega)]
          · simp only [hb1, if_false, if_true] at ex ⊢
            by_cases e0 : x = 0
            · rw [if_pos e0, if_pos e0]
            · rw [if_neg e0, if_neg e0, if_neg (by omega)]
      · refine Blk.cong (v := o.cell h' m) ?_ (fun x hx => ?_)
        · have hne : gI o.blocks (o.slotM s) ≠ gI o.blocks m := fun e3 => em (hk.dj h' o ho h' o ho _ h1 _ hm' e3).2.symm
          have := (hk.bk h' o ho _ h1).apart hc (hk.bk h' o ho m hm') hcm hne
          refine (hk.bk h' o ho m hm').setOther ?_
          rw [Th.addr_eq]
          omega
        · unfold Th.cell Th.put
          unfold Th.slotM at em
          simp only [hsl]
          have h8 : ∀ z : Nat, (z : Nat) < 8 → True := fun _ _ => trivial
          by_cases hb1 : 1 < o.blocks.length
          · simp only [hb1, if_true] at em ⊢
            by_cases e0 : m = 0
            · rw [if_pos e0, if_pos e0]
            · rw [if_neg e0, if_neg e0]
              have hx8 : x < 8 := by
                have := (needs_leaf (n := o.slots.length) (m := m) (by omega) (by rw [← hk.bl h' o ho]; exact hm')).2
                rw [this] at hx
                exact hx
              rw [if_neg (by omega)]
          · exfalso
            simp only [hb1, if_false] at em
            have := hk.blen ho
            omega
    · have hcm := hk.isC e2 hm
      refine (hk.bk h' o' e2 m hm).setOther ?_
      have hne2 : gI o.blocks (o.slotM s) ≠ gI o'.blocks m := fun e3 => hne (hk.dj h o ho h' o' e2 _ h1 _ hm e3).1.symm
      have := (hk.bk h o ho _ h1).apart hc (hk.bk h' o' e2 m hm) hcm hne2
      rw [Th.addr_eq]
      omega
  · rcases setT_some e1 with ⟨rfl, rfl⟩ | ⟨_, e1'⟩
    · rcases setT_some e2 with ⟨rfl, rfl⟩ | ⟨_, e2'⟩
      · exact hk.dj _ o ho _ o ho m hm m' hm' em
      · exact hk.dj _ o ho _ o2 e2' m hm m' hm' em
    · rcases setT_some e2 with ⟨rfl, rfl⟩ | ⟨_, e2'⟩
      · exact hk.dj _ o1 e1' _ o ho m hm m' hm' em
      · exact hk.dj _ o1 e1' _ o2 e2' m hm m' hm' em
  · have hmore : ∀ k, (M.ob k).isSome = true → (setT M.ob h (some (o.put s v)) k).isSome = true := fun k hks => by
      by_cases ek : k = h
      · rw [ek, setT_same]; rfl
      · rw [setT_other _ _ ek]; exact hks
    rcases setT_some e' with ⟨rfl, rfl⟩ | ⟨_, e2⟩
    · have hs2 : s' < o.slots.length := by simpa [Th.put] using hs'
      show Hp.fits _ (gB o.refs s') (gI (o.slots.set s v) s') = true
      rw [hsl]
      by_cases e3 : s' = s
      · rw [if_pos e3, e3]; exact Hp.Ok.fits_more hf hmore
      · rw [if_neg e3]; exact Hp.Ok.fits_more (hk.sl h' o ho s' hs2) hmore
    · exact Hp.Ok.fits_more (hk.sl h' o' e2 s' hs') hmore
theorem Hp.Ok.set (hk : M.Ok) (h s v : Int) : (M.set h s v).2.Ok := by
  unfold Hp.set
  cases e : M.ob h with
  | none => exact hk
  | some o =>
    simp only
    split
    · exact hk
    · rename_i hs
      split
      · rename_i hf; exact hk.put e (by omega) hf
      · exact hk
end
end Go.Proofs.Ythflghdaejbdkaa
namespace Go.Proofs.Ythflghdaejbdkaa
set_option linter.unusedVariables false
theorem freeL_other {P : Pl} {c a : Int} {v : Nat → Int} (hc : IsC c) (h : Blk P c a v) {l : List Int} {k : Nat} (hne : ∀ m, m < k → gI l m ≠ a) : Blk (freeL P l k) c a v := by
  induction k with
  | zero => exact h
  | succ k ih => exact (ih (fun m hm => hne m (by omega))).free hc (hne k (by omega))
theorem Th.mem_refsN {o : Th} {k s : Nat} (hs : s < k) (h1 : gB o.refs s = true) (h2 : gI o.slots s ≠ 0) : gI o.slots s ∈ o.refsN k := by
  induction k with
  | zero => omega
  | succ k ih =>
    unfold refsN
    by_cases e : s = k
    · subst e; rw [if_pos ⟨h1, h2⟩]; simp
    · exact List.mem_append_left _ (ih (by omega))
theorem Th.of_mem_refsN {o : Th} {k : Nat} {x : Int} (h : x ∈ o.refsN k) : ∃ s, s < k ∧ gB o.refs s = true ∧ gI o.slots s = x ∧ x ≠ 0 := by
  induction k with
  | zero => simp [refsN] at h
  | succ k ih =>
    unfold refsN at h
    rcases List.mem_append.1 h with h | h
    · obtain ⟨s, h1, h2⟩ := ih h; exact ⟨s, by omega, h2⟩
    · split at h
      · rename_i h1
        simp at h
        exact ⟨k, by omega, h1.1, h.symm, by rw [h]; exact h1.2⟩
      · simp at h
theorem Th.refsN_len (o : Th) (k : Nat) : (o.refsN k).length ≤ k := by
  induction k with
  | zero => simp [refsN]
  | succ k ih => unfold refsN; rw [List.length_append]; split <;> simp <;> omega
section
variable {M : Hp} {h : Int} {o : Th}
theorem Hp.new_none {n : Nat} {h : Int} {o : Th} (e : (Hp.new n).ob h = some o) : False := by cases e
theorem Hp.Ok.new {n : Nat} (h1 : 1 ≤ n) (h24 : n ≤ 24) : (Hp.new n).Ok :=
  ⟨Pl.zero_ok n, h1, h24, fun _ _ e => (Hp.new_none e).elim, fun _ _ e => (Hp.new_none e).elim, fun _ _ e => (Hp.new_none e).elim, fun _ _ e => (Hp.new_none e).elim, fun _ _ e => (Hp.new_none e).elim, fun _ _ e => (Hp.new_none e).elim⟩
end
end Go.Proofs.Ythflghdaejbdkaa
namespace Go.Proofs.Ythflghdaejbdkaa
set_option linter.unusedVariables false
def layB (P : Pl) (o : Th) : Nat → Pl
  | 0 => P
  | k + 1 => ((layB P o k).setCell (gI o.blocks 0 + ((k + 1 : Nat) : Int)) (gI o.blocks (k + 1))).2
def layC (P : Pl) (o : Th) : Nat → Pl
  | 0 => P
  | k + 1 => ((layC P o k).setCell (o.addr k) (gI o.slots k)).2
def layA (P : Pl) (h : Int) (o : Th) : Pl := (P.setCell (gI o.blocks 0) h).2
def Th.lay (o : Th) (P : Pl) (h : Int) : Pl := layC (layB (layA P h o) o (o.blocks.length - 1)) o o.slots.length
theorem lay_keep {P : Pl} (hok : P.ok) (h : Int) (o : Th) (j i : Nat) : (layC (layB (layA P h o) o j) o i).ok ∧ (layC (layB (layA P h o) o j) o i).n = P.n := by
  have h1 := hok.setCell (gI o.blocks 0) h
  have h2 : (layB (layA P h o) o j).ok ∧ (layB (layA P h o) o j).n = P.n := by
    induction j with
    | zero => exact h1
    | succ j ih => exact ⟨(ih.1.setCell _ _).1, (ih.1.setCell _ _).2.trans ih.2⟩
  induction i with
  | zero => exact h2
  | succ i ih => exact ⟨(ih.1.setCell _ _).1, (ih.1.setCell _ _).2.trans ih.2⟩
theorem layB_same {P : Pl} {o : Th} {n : Nat} (h : ∀ k, 1 ≤ k → k ≤ n → P.cell (gI o.blocks 0 + (k : Int)) = (gI o.blocks k, 0)) : layB P o n = P := by
  induction n with
  | zero => rfl
  | succ n ih =>
    unfold layB
    rw [ih (fun k h1 h2 => h k h1 (by omega))]
    exact (Pl.setCell_same (h (n + 1) (by omega) (by omega))).1
theorem layC_same {P : Pl} {o : Th} {n : Nat} (h : ∀ s, s < n → P.cell (o.addr s) = (gI o.slots s, 0)) : layC P o n = P := by
  induction n with
  | zero => rfl
  | succ n ih =>
    unfold layC
    rw [ih (fun s hs => h s (by omega))]
    exact (Pl.setCell_same (h n (by omega))).1
theorem layC_one {P P' : Pl} {o : Th} {n s0 : Nat} (h2 : s0 < n) (he : P' = (P.setCell (o.addr s0) (gI o.slots s0)).2)
    (ha : ∀ s, s < s0 → P.cell (o.addr s) = (gI o.slots s, 0)) (hb : ∀ s, s0 < s → s < n → P'.cell (o.addr s) = (gI o.slots s, 0)) : layC P o n = P' := by
  induction n with
  | zero => omega
  | succ n ih =>
    unfold layC
    by_cases e : s0 = n
    · rw [layC_same (fun s h4 => ha s (by omega)), he, e]
    · rw [ih (by omega) (fun s h3 h4 => hb s h3 (by omega))]
      exact (Pl.setCell_same (hb n (by omega) (by omega))).1
section
variable {M : Hp} {h : Int} {o : Th}
theorem Hp.Ok.lay_set (hk : M.Ok) (ho : M.ob h = some o) {s : Nat} (hs : s < o.slots.length) {v : Int} (hf : M.fits (gB o.refs s) v = true) : (o.put s v).lay M.P h = (M.P.setCell (o.addr s) v).2 := by
  have hk2 := hk.put ho hs hf
  have ho2 : (⟨(M.P.setCell (o.addr s) v).2, setT M.ob h (some (o.put s v))⟩ : Hp).ob h = some (o.put s v) := setT_same _ _ _
  have hsl : ∀ x, gI (o.put s v).slots x = if x = s then v else gI o.slots x := fun x => gI_set hs
  have hlen : (o.put s v).slots.length = o.slots.length := by simp [Th.put]
  unfold Th.lay
  have e1 : layA M.P h (o.put s v) = M.P := (Pl.setCell_same (hk.headCell ho)).1
  have e2 : layB M.P (o.put s v) ((o.put s v).blocks.length - 1) = M.P := layB_same (fun k h1 h2 => hk.linkCell ho h1 (by have := hk.blen ho; show k < o.blocks.length; have h3 : (o.put s v).blocks.length = o.blocks.length := rfl; omega))
  rw [e1, e2, hlen]
  refine layC_one hs ?_ (fun s' h1 => ?_) (fun s' h1 h2 => ?_)
  · show _ = (M.P.setCell (o.addr s) (gI (o.put s v).slots s)).2
    rw [hsl, if_pos rfl]
  · have := (hk.slotCell ho (s := s') (by omega)).1
    rw [hsl, if_neg (by omega)]
    exact this
  · exact (hk2.slotCell ho2 (s := s') (by rw [hlen]; exact h2)).1
theorem layB_put {P : Pl} {o : Th} (n : Nat) : layB P o n = putN P (gI o.blocks 0 + 1) (o.blocks.drop 1) n := by
  induction n with
  | zero => rfl
  | succ n ih =>
    unfold layB putN
    rw [ih, show gI o.blocks 0 + ((n + 1 : Nat) : Int) = gI o.blocks 0 + 1 + (n : Int) by omega]
    congr 2
    unfold gI
    rw [List.getElem?_drop, Nat.add_comm]
theorem layB_head {P : Pl} {o : Th} (h : Int) : layB (layA P h o) o (o.blocks.length - 1) = headP P h o.blocks := by
  unfold headP layA
  exact layB_put _
theorem Hp.Ok.lay_add {hN : Int} {Q : Pl} (hk2 : (⟨headP Q hN o.blocks, setT M.ob hN (some o)⟩ : Hp).Ok) : o.lay Q hN = headP Q hN o.blocks := by
  unfold Th.lay
  rw [layB_head]
  exact layC_same (fun s hs => (hk2.slotCell (setT_same _ _ _) hs).1)
end
end Go.Proofs.Ythflghdaejbdkaa
