/- Lemmas of this claim. -/
import Derived.Test.YthflghdaejbdkaaGreatVBlockJ
import Derived.Laws.StructEq
import Derived.Test.YthflghdaejbdkaaGreatVOModel
namespace Go.Proofs.YthflghdaejbdkaaGreat
open Go.RowKit
set_option maxHeartbeats 3200000
set_option maxRecDepth 100000
set_option linter.unusedVariables false
def allN (f : Nat → Bool) : Nat → Bool
  | 0 => true
  | n + 1 => allN f n && f n
def Pg.blkSame (x y : Pg) (k : Nat) : Bool := !x.used k || allN (fun j => x.cell (k * bsz x.cls + j) == y.cell (k * bsz x.cls + j)) (bsz x.cls)
def Pg.same (x y : Pg) : Bool := (x.cls == y.cls) && (decide (x.cls < 0) || (allN (fun k => x.used k == y.used k) 8 && allN (x.blkSame y) (bpt x.cls)))
end Go.Proofs.YthflghdaejbdkaaGreat
namespace Go.Proofs.YthflghdaejbdkaaGreat
set_option linter.unusedVariables false
theorem Blk.of {P : Pl} {c : Int} {i k : Nat} (hi : i < P.n) (hc : (P.pg i).cls = c) (hk : k < bpt c) (hu : (P.pg i).used k = true) : Blk P c ((16 * i + k * bsz c : Nat) : Int) (fun x => (P.pg i).cell (k * bsz c + x)) :=
  ⟨i, k, rfl, hi, hc, hk, hu, fun _ _ => rfl⟩
theorem Blk.at {P : Pl} {c : Int} (hc : IsC c) {i k : Nat} (hk : k < bpt c) {v : Nat → Int} (h : Blk P c ((16 * i + k * bsz c : Nat) : Int) v) : P.Holds c i k v := by
  obtain ⟨i', k', e, hh⟩ := h
  have h1 := hc.blk hh.kb
  have h2 := hc.blk hk
  have s := hc.sz
  obtain rfl : i = i' := by omega
  have : k = k' := hc.blocks (k := k) (l := k') (by omega)
  subst this
  exact hh
theorem alloc_back {P : Pl} (hok : P.ok) {c c' a : Int} {v : Nat → Int} (hc : IsC c) (h : Blk (P.alloc c').2.2 c a v) : Blk P c a v ∨ a = (P.alloc c').1 := by
  rcases P.alloc_cases c' with hb | ⟨hcl, ⟨i, hi, hp, hb⟩ | ⟨hn, ⟨i, hi, hp, hb⟩ | hf⟩⟩
  · rw [Pl.alloc_bad hb] at h; exact .inl h
  · rw [Pl.alloc_part hcl hi hp hb] at h ⊢
    obtain ⟨j, k, rfl, hh⟩ := h
    by_cases e : j = i
    · subst e
      have e1 := hh.cls
      have e2 := hh.used
      have e3 := hh.cell
      rw [Pl.set_same] at e1 e2 e3
      have hcc : c' = c := e1
      subst hcc
      have hu : up (P.pg j).used ((P.pg j).gap c') true k = true := e2
      by_cases ek : k = (P.pg j).gap c'
      · right; rw [ek]
      · left
        rw [up_other _ _ ek] at hu
        refine ⟨j, k, rfl, hi, (Pg.partly_iff.1 hp).1, hh.kb, hu, fun x hx => ?_⟩
        rw [← e3 x hx]
        show _ = (if _ then _ else _)
        rw [if_neg]
        intro h2
        have h4 := hc.of_at h2.1 h2.2
        have h5 := hc.of_at (k := k) (j := k * bsz c' + x) (by omega) (by omega)
        exact ek (h5.symm.trans h4)
    · left
      have e0 : (P.set i ((P.pg i).take c' ((P.pg i).gap c') fun _ => 0)).pg j = P.pg j := Pl.set_other _ _ e
      exact ⟨j, k, rfl, hh.hi, by rw [← hh.cls, e0], hh.kb, by rw [← hh.used, e0], fun x hx => by rw [← hh.cell x hx, e0]⟩
  · rw [Pl.alloc_new hcl hn hi hp hb] at h ⊢
    obtain ⟨j, k, rfl, hh⟩ := h
    by_cases e : j = i
    · subst e
      have e1 := hh.cls
      have e2 := hh.used
      rw [Pl.set_same] at e1 e2
      have hcc : c' = c := e1
      subst hcc
      have hu : up (P.pg j).used 0 true k = true := e2
      by_cases ek : k = 0
      · right; rw [ek]; simp
      · rw [up_other _ _ ek] at hu
        have hg := (hok j hi).ge
        rw [(hok j hi).free (by omega) k] at hu
        cases hu
    · left
      have e0 : (P.set i ((P.pg i).take c' 0 fun _ => 0)).pg j = P.pg j := Pl.set_other _ _ e
      exact ⟨j, k, rfl, hh.hi, by rw [← hh.cls, e0], hh.kb, by rw [← hh.used, e0], fun x hx => by rw [← hh.cell x hx, e0]⟩
  · rw [Pl.alloc_full hcl hn hf] at h; exact .inl h
theorem set_back {P : Pl} {c a x n : Int} {v : Nat → Int} (h : Blk (P.setCell x n).2 c a v) : ∃ v', Blk P c a v' := by
  unfold Pl.setCell at h
  split at h
  · obtain ⟨j, k, rfl, hh⟩ := h
    by_cases e : j = x.toNat / 16
    · have e1 := hh.cls
      have e2 := hh.used
      rw [e, Pl.set_same] at e1 e2
      have hi := hh.hi
      exact ⟨_, j, k, rfl, hi, by rw [e]; exact e1, hh.kb, by rw [e]; exact e2, fun _ _ => rfl⟩
    · have e0 := Pl.set_other P (i := x.toNat / 16) (j := j) { P.pg (x.toNat / 16) with cell := up (P.pg (x.toNat / 16)).cell (x.toNat % 16) n } e
      exact ⟨_, j, k, rfl, hh.hi, by rw [← hh.cls, e0], hh.kb, by rw [← hh.used, e0], fun _ _ => rfl⟩
  · exact ⟨v, h⟩
theorem free_back {P : Pl} {c a b cb : Int} {v vb : Nat → Int} (hcb : IsC cb) (hb : Blk P cb b vb) (hc : IsC c) (h : Blk (P.free b).2 c a v) : Blk P c a v ∧ a ≠ b := by
  have hbg := hb.begin hcb
  obtain ⟨i, l, rfl, hh0⟩ := hb
  have hr := hcb.blk hh0.kb
  have hdm := hcb.mul_div l
  have s := hcb.sz
  have t1 : (((16 * i + l * bsz cb : Nat) : Int)).toNat / 16 = i := by rw [Int.toNat_natCast]; omega
  have t2 : (((16 * i + l * bsz cb : Nat) : Int)).toNat % 16 = l * bsz cb := by rw [Int.toNat_natCast]; omega
  unfold Pl.free at h
  rw [hbg] at h
  simp only [if_true, t1, t2] at h
  rw [hh0.cls, hdm.1] at h
  obtain ⟨j, k, rfl, hh⟩ := h
  by_cases e : j = i
  · subst e
    have e1 := hh.cls
    have e2 := hh.used
    have e3 := hh.cell
    rw [Pl.set_same] at e1 e2 e3
    have hu : up (P.pg j).used l false k = true := e2
    have hkl : k ≠ l := fun ek => by rw [ek, up_same] at hu; cases hu
    rw [up_other _ _ hkl] at hu
    have hcl : (P.pg j).cls = c := by
      unfold Pg.release at e1
      simp only at e1
      split at e1
      · rcases hc with h | h | h <;> omega
      · exact e1
    refine ⟨⟨j, k, rfl, hh0.hi, hcl, hh.kb, hu, e3⟩, fun e4 => hkl ?_⟩
    have : c = cb := by rw [← hcl, hh0.cls]
    subst this
    exact hc.blocks (by omega)
  · have e0 := Pl.set_other P (i := i) (j := j) ((P.pg i).release l) e
    refine ⟨⟨j, k, rfl, hh.hi, by rw [← hh.cls, e0], hh.kb, by rw [← hh.used, e0], fun x hx => by rw [← hh.cell x hx, e0]⟩, fun e4 => ?_⟩
    have := hc.blk hh.kb
    have := hc.sz
    omega
structure Grown (P0 P : Pl) (B : Int → Prop) : Prop where
  n : P.n = P0.n
  ok : P.ok
  old : ∀ c a v, IsC c → Blk P0 c a v → Blk P c a v ∧ ¬ B a
  new : ∀ c a v, IsC c → Blk P c a v → (∃ v0, Blk P0 c a v0) ∨ B a
section
variable {P0 P : Pl} {B : Int → Prop}
theorem Grown.refl (h : P0.ok) : Grown P0 P0 (fun _ => False) := ⟨rfl, h, fun c a v _ hb => ⟨hb, id⟩, fun c a v _ hb => .inl ⟨v, hb⟩⟩
theorem Grown.alloc (h : Grown P0 P B) {c : Int} (hc : IsC c) (he : (P.alloc c).2.1 = 0) : Grown P0 (P.alloc c).2.2 (fun a => B a ∨ a = (P.alloc c).1) := by
  refine ⟨(h.ok.alloc c).2.trans h.n, (h.ok.alloc c).1, fun c' a v hc' hb => ?_, fun c' a v hc' hb => ?_⟩
  · obtain ⟨h1, h2⟩ := h.old c' a v hc' hb
    refine ⟨h1.alloc h.ok hc' c, fun e => ?_⟩
    rcases e with e | e
    · exact h2 e
    · exact h1.fresh h.ok hc he hc' e.symm
  · rcases alloc_back h.ok hc' hb with h1 | h1
    · exact (h.new c' a v hc' h1).imp id .inl
    · exact .inr (.inr h1)
theorem Grown.set (h : Grown P0 P B) {c a : Int} {v : Nat → Int} (hc : IsC c) (hb : Blk P c a v) (hB : B a) {x n : Int} (h1 : a ≤ x) (h2 : x < a + (bsz c : Int)) : Grown P0 (P.setCell x n).2 B := by
  refine ⟨(h.ok.setCell x n).2.trans h.n, (h.ok.setCell x n).1, fun c' a' v' hc' hb' => ?_, fun c' a' v' hc' hb' => ?_⟩
  · obtain ⟨h3, h4⟩ := h.old c' a' v' hc' hb'
    have := hb.apart hc h3 hc' (fun e => h4 (e ▸ hB))
    exact ⟨h3.setOther (by omega), h4⟩
  · obtain ⟨v2, h3⟩ := set_back hb'
    exact h.new c' a' v2 hc' h3
theorem Grown.free (h : Grown P0 P B) {c b : Int} {v : Nat → Int} (hc : IsC c) (hb : Blk P c b v) (hB : B b) : Grown P0 (P.free b).2 (fun a => B a ∧ a ≠ b) := by
  refine ⟨(h.ok.free b).2.trans h.n, (h.ok.free b).1, fun c' a' v' hc' hb' => ?_, fun c' a' v' hc' hb' => ?_⟩
  · obtain ⟨h3, h4⟩ := h.old c' a' v' hc' hb'
    exact ⟨h3.free hc' (fun e => h4 (e ▸ hB)), fun e => h4 e.1⟩
  · obtain ⟨h3, h4⟩ := free_back hc hb hc' hb'
    exact (h.new c' a' v' hc' h3).imp id (fun e => ⟨e, h4⟩)
theorem Grown.cong (h : Grown P0 P B) {B' : Int → Prop} (e : ∀ a, B a ↔ B' a) : Grown P0 P B' :=
  ⟨h.n, h.ok, fun c a v hc hb => ⟨(h.old c a v hc hb).1, fun x => (h.old c a v hc hb).2 ((e a).2 x)⟩, fun c a v hc hb => (h.new c a v hc hb).imp id (e a).1⟩
structure Pl.Eqv (P Q : Pl) : Prop where
  n : P.n = Q.n
  cls : ∀ i, i < P.n → (P.pg i).cls = (Q.pg i).cls
  used : ∀ i, i < P.n → ∀ k, (P.pg i).used k = (Q.pg i).used k
  cell : ∀ i, i < P.n → ∀ k, (P.pg i).cls ≠ -1 → k < bpt (P.pg i).cls → (P.pg i).used k = true → ∀ j, j < bsz (P.pg i).cls → (P.pg i).cell (k * bsz (P.pg i).cls + j) = (Q.pg i).cell (k * bsz (P.pg i).cls + j)
theorem Pl.Eqv.begin {Q : Pl} (h : Pl.Eqv P Q) (a : Int) : P.begin a = Q.begin a := by
  unfold Pl.begin Pl.addr
  rw [h.n]
  by_cases ha : (decide (0 ≤ a) && decide (a < 16 * (Q.n : Int))) = true
  · rw [if_pos ha, if_pos ha]
    simp at ha
    have hi : a.toNat / 16 < P.n := by rw [h.n]; omega
    simp only
    rw [h.cls _ hi, h.used _ hi]
  · rw [if_neg ha, if_neg ha]
end
theorem Grown.allocN {P : Pl} (hok : P.ok) {l : List Int} (hl : ∀ m, m < l.length → IsC (gI l m)) : ∀ k, k ≤ l.length → ∀ bs Q, allocN P l k = some (bs, Q) → Grown P Q (fun a => ∃ m, m < k ∧ gI bs m = a) := by
  intro k
  induction k with
  | zero =>
    intro _ bs Q e
    unfold Go.Proofs.YthflghdaejbdkaaGreat.allocN at e
    cases e
    exact (Grown.refl hok).cong (fun a => ⟨fun x => x.elim, fun ⟨m, hm, _⟩ => by omega⟩)
  | succ k ih =>
    intro hk bs Q e
    unfold Go.Proofs.YthflghdaejbdkaaGreat.allocN at e
    cases e1 : Go.Proofs.YthflghdaejbdkaaGreat.allocN P l k with
    | none => rw [e1] at e; cases e
    | some x =>
      obtain ⟨bs', Q'⟩ := x
      rw [e1] at e
      simp only at e
      split at e
      · rename_i he
        cases e
        have s := allocN_spec hok hl k (by omega) bs' Q' e1
        refine ((ih (by omega) bs' Q' e1).alloc (hl k (by omega)) he).cong (fun a => ⟨fun x => ?_, fun ⟨m, hm, hg⟩ => ?_⟩)
        · rcases x with ⟨m, hm, hg⟩ | x
          · exact ⟨m, by omega, by rw [gI_snoc, if_pos (by rw [s.len]; exact hm)]; exact hg⟩
          · exact ⟨k, by omega, by rw [gI_snoc, if_neg (by rw [s.len]; omega), if_pos s.len.symm]; exact x.symm⟩
        · by_cases em : m = k
          · right; rw [em, gI_snoc, if_neg (by rw [s.len]; omega), if_pos s.len.symm] at hg; exact hg.symm
          · left; exact ⟨m, by omega, by rw [gI_snoc, if_pos (by rw [s.len]; omega)] at hg; exact hg⟩
      · cases e
theorem Grown.putN {P0 P : Pl} {B : Int → Prop} (h : Grown P0 P B) {c b : Int} {v : Nat → Int} (hc : IsC c) (hb : Blk P c b v) (hB : B b) {x0 : Nat} {l : List Int} {k : Nat} (hx : x0 + k ≤ bsz c) : Grown P0 (putN P (b + (x0 : Int)) l k) B := by
  induction k with
  | zero => exact h
  | succ k ih =>
    unfold Go.Proofs.YthflghdaejbdkaaGreat.putN
    exact (ih (by omega)).set hc (putN_in hc hb (x0 := x0) (l := l) (k := k) (by omega)) hB (by omega) (by omega)
theorem Grown.headP {P0 P : Pl} {B : Int → Prop} (h : Grown P0 P B) {c0 : Int} {v0 : Nat → Int} (hc0 : IsC c0) (n : Int) (bs : List Int) (hb : Blk P c0 (gI bs 0) v0) (hl : bs.length ≤ bsz c0) (h0 : 1 ≤ bs.length) (hB : B (gI bs 0)) : Grown P0 (headP P n bs) B := by
  have s := hc0.sz
  have h1 := (hb.put hc0 (x := 0) (by omega) n).2
  have g1 := h.set hc0 hb hB (x := gI bs 0) (n := n) (by omega) (by omega)
  simp only [Int.natCast_zero, Int.add_zero] at h1
  exact g1.putN hc0 h1 hB (x0 := 1) (by omega)
theorem Grown.freeL {P0 P : Pl} {l : List Int} {cs : List Int} (h : Grown P0 P (fun a => ∃ m, m < l.length ∧ gI l m = a)) (hc : ∀ m, m < l.length → IsC (gI cs m)) (hb : ∀ m, m < l.length → ∃ v, Blk P (gI cs m) (gI l m) v) (hd : ∀ m, m < l.length → ∀ m', m' < l.length → gI l m = gI l m' → m = m') :
    ∀ k, k ≤ l.length → Grown P0 (freeL P l k) (fun a => ∃ m, k ≤ m ∧ m < l.length ∧ gI l m = a) := by
  intro k
  induction k with
  | zero => intro _; exact h.cong (fun a => ⟨fun ⟨m, h1, h2⟩ => ⟨m, Nat.zero_le _, h1, h2⟩, fun ⟨m, _, h1, h2⟩ => ⟨m, h1, h2⟩⟩)
  | succ k ih =>
    intro hk
    obtain ⟨v, hv⟩ := hb k (by omega)
    have h1 : Blk (Go.Proofs.YthflghdaejbdkaaGreat.freeL P l k) (gI cs k) (gI l k) v := freeL_other (hc k (by omega)) hv (fun m hm e => by have := hd m (by omega) k (by omega) e; omega)
    refine ((ih (by omega)).free (hc k (by omega)) h1 ⟨k, Nat.le_refl _, by omega, rfl⟩).cong (fun a => ⟨fun ⟨⟨m, m1, m2, m3⟩, hne⟩ => ?_, fun ⟨m, m1, m2, m3⟩ => ⟨⟨m, by omega, m2, m3⟩, fun e => ?_⟩⟩)
    · by_cases em : m = k
      · rw [em] at m3; exact absurd m3.symm hne
      · exact ⟨m, by omega, m2, m3⟩
    · have := hd m m2 k (by omega) (m3.trans e); omega
end Go.Proofs.YthflghdaejbdkaaGreat
