/- Lemmas of this claim. -/
import Derived.Test.YthflghdaejbdkaaKRBlock
namespace Go.Proofs.Ythflghdaejbdkaa
end Go.Proofs.Ythflghdaejbdkaa
namespace Go.Proofs.Ythflghdaejbdkaa
structure Pl.Holds (P : Pl) (c : Int) (i k : Nat) (v : Nat → Int) : Prop where
  hi : i < P.n
  cls : (P.pg i).cls = c
  kb : k < bpt c
  used : (P.pg i).used k = true
  cell : ∀ x, x < bsz c → (P.pg i).cell (k * bsz c + x) = v x
theorem Pl.Holds.set_other {P : Pl} {c : Int} {i k : Nat} {v : Nat → Int} (h : P.Holds c i k v) {j : Nat} (hj : i ≠ j) (x : Pg) : (P.set j x).Holds c i k v := by
  have e : (P.set j x).pg i = P.pg i := Pl.set_other _ _ hj
  exact ⟨h.hi, by rw [e]; exact h.cls, h.kb, by rw [e]; exact h.used, by rw [e]; exact h.cell⟩
theorem Pl.Holds.set_same {P : Pl} {c : Int} {i k : Nat} {v : Nat → Int} (h : P.Holds c i k v) (x : Pg) (h1 : x.cls = c) (h2 : x.used k = true) (h3 : ∀ y, y < bsz c → x.cell (k * bsz c + y) = (P.pg i).cell (k * bsz c + y)) : (P.set i x).Holds c i k v := by
  have e : (P.set i x).pg i = x := Pl.set_same _ _ _
  exact ⟨h.hi, by rw [e]; exact h1, h.kb, by rw [e]; exact h2, fun y hy => by rw [e, h3 y hy]; exact h.cell y hy⟩
theorem Pl.Holds.take {P : Pl} {c : Int} (hc : IsC c) {i k : Nat} {v : Nat → Int} (h : P.Holds c i k v) {l : Nat} (hl : l ≠ k) (f : Nat → Int) : (P.set i ((P.pg i).take c l f)).Holds c i k v := by
  refine h.set_same _ rfl ?_ (fun y hy => ?_)
  · show up (P.pg i).used l true k = true
    rw [up_other _ _ hl.symm]; exact h.used
  · show (if _ then _ else _) = _
    rw [if_neg]
    intro h2
    apply hl
    have h4 := hc.of_at h2.1 h2.2
    have h5 := hc.of_at (k := k) (j := k * bsz c + y) (by omega) (by omega)
    omega
theorem Pl.Holds.release {P : Pl} {c : Int} (hc : IsC c) {i k : Nat} {v : Nat → Int} (h : P.Holds c i k v) {l : Nat} (hl : l ≠ k) : (P.set i ((P.pg i).release l)).Holds c i k v := by
  have hsz := hc.sz
  have hk := h.kb
  have hn : ¬ cnt (up (P.pg i).used l false) 8 = 0 := by
    intro h0
    have := cnt_eq_zero.1 h0 k (by omega)
    rw [up_other _ _ hl.symm, h.used] at this
    cases this
  refine h.set_same _ ?_ ?_ (fun y hy => rfl)
  · unfold Pg.release; simp only [hn, if_false]; exact h.cls
  · show up (P.pg i).used l false k = true
    rw [up_other _ _ hl.symm]; exact h.used
theorem Pl.Holds.alloc {P : Pl} (hok : P.ok) {c : Int} (hc : IsC c) {i k : Nat} {v : Nat → Int} (h : P.Holds c i k v) (cl : Int) : (P.alloc cl).2.2.Holds c i k v := by
  rcases P.alloc_cases cl with hb | ⟨hcl, ⟨j, hj, hp, hb⟩ | ⟨hn, ⟨j, hj, hp, hb⟩ | hf⟩⟩
  · rw [Pl.alloc_bad hb]; exact h
  · rw [Pl.alloc_part hcl hj hp hb]
    by_cases e : i = j
    · subst e
      have he := (Pg.partly_iff.1 hp).1
      have hcc : cl = c := he.symm.trans h.cls
      subst hcc
      refine h.take hc (fun e => ?_) _
      have := ((hok i hj).gap hc hp).2
      rw [e, h.used] at this; cases this
    · exact h.set_other e _
  · rw [Pl.alloc_new hcl hn hj hp hb]
    refine h.set_other (fun e => ?_) _
    subst e
    rw [h.cls] at hp
    rcases hc with e | e | e <;> omega
  · rw [Pl.alloc_full hcl hn hf]; exact h
theorem Pl.Holds.free {P : Pl} {c : Int} (hc : IsC c) {i k : Nat} {v : Nat → Int} (h : P.Holds c i k v) {a : Int} (ha : a ≠ ((16 * i + k * bsz c : Nat) : Int)) : (P.free a).2.Holds c i k v := by
  unfold Pl.free
  split
  · rename_i h0
    have hb := Pl.begin_ok h0
    split
    · rename_i h1
      by_cases e : i = a.toNat / 16
      · rw [← e] at hb ⊢
        refine h.release hc (fun e2 => ha ?_)
        have h3 := hb.2.2.2.1
        rw [h1, e2, h.cls] at h3
        omega
      · exact h.set_other e _
    · exact h
  · exact h
theorem Pl.Holds.setCell {P : Pl} {c : Int} {i k : Nat} {v : Nat → Int} (h : P.Holds c i k v) {a n : Int} (ha : a < ((16 * i + k * bsz c : Nat) : Int) ∨ ((16 * i + k * bsz c + bsz c : Nat) : Int) ≤ a) : (P.setCell a n).2.Holds c i k v := by
  unfold Pl.setCell
  split
  · rename_i h0
    have hb := Pl.begin_ok h0
    by_cases e : i = a.toNat / 16
    · rw [← e]
      refine h.set_same _ h.cls h.used (fun y hy => ?_)
      show up (P.pg i).cell (a.toNat % 16) n (k * bsz c + y) = _
      rw [up_other]
      have h6 := hb.2.2.2.2.2.2
      omega
    · exact h.set_other e _
  · exact h
theorem Pl.Holds.tells {P : Pl} {c : Int} (hc : IsC c) {i k : Nat} {v : Nat → Int} (h : P.Holds c i k v) {x : Nat} (hx : x < bsz c) :
    P.begin ((16 * i + k * bsz c + x : Nat) : Int) = (((16 * i + k * bsz c : Nat) : Int), 0) ∧ P.cell ((16 * i + k * bsz c + x : Nat) : Int) = (v x, 0) := by
  have hb := hc.blk h.kb
  have hi := h.hi
  obtain ⟨A, hA⟩ : ∃ A, A = 16 * i + k * bsz c + x := ⟨_, rfl⟩
  have h1 : A / 16 = i := by omega
  have h2 : A % 16 = k * bsz c + x := by omega
  have h3 : (k * bsz c + x) / bsz c = k := hc.of_at (by omega) (by omega)
  have hcl := h.cls
  have ha : P.addr (A : Int) = true := Pl.addr_iff.2 ⟨by omega, by omega⟩
  have hbg : P.begin (A : Int) = (((16 * i + k * bsz c : Nat) : Int), 0) := by
    rw [Pl.begin_yes ha (by show ¬ (P.pg (A / 16)).cls < 0; rw [h1, hcl]; rcases hc with e | e | e <;> omega) (by show (P.pg (A / 16)).used (A % 16 / bsz (P.pg (A / 16)).cls) = true; rw [h1, h2, hcl, h3]; exact h.used)]
    show (((A / 16 * 16 + A % 16 / bsz (P.pg (A / 16)).cls * bsz (P.pg (A / 16)).cls : Nat) : Int), (0 : Int)) = _
    rw [h1, h2, hcl, h3, Nat.mul_comm i 16]
  rw [← hA]
  refine ⟨hbg, ?_⟩
  unfold Pl.cell
  rw [hbg]
  simp only [if_true]
  show ((P.pg (A / 16)).cell (A % 16), (0 : Int)) = _
  rw [h1, h2, h.cell x hx]
end Go.Proofs.Ythflghdaejbdkaa
namespace Go.Proofs.Ythflghdaejbdkaa
set_option linter.unusedVariables false
theorem Pg.take_holds {P : Pl} {c : Int} (hc : IsC c) {i k : Nat} (hi : i < P.n) (hk : k < bpt c) : (P.set i ((P.pg i).take c k fun _ => 0)).Holds c i k (fun _ => 0) := by
  refine ⟨hi, ?_, hk, ?_, fun x hx => ?_⟩
  · rw [Pl.set_same]; rfl
  · rw [Pl.set_same]; exact up_same _ _ _
  · rw [Pl.set_same]
    show (if k * bsz c ≤ k * bsz c + x ∧ k * bsz c + x < k * bsz c + bsz c then (0 : Int) else _) = 0
    rw [if_pos ⟨by omega, by omega⟩]
theorem Pl.alloc_holds {P : Pl} (h : P.ok) {c : Int} (hc : IsC c) (he : (P.alloc c).2.1 = 0) :
    ∃ i k, (P.alloc c).1 = ((16 * i + k * bsz c : Nat) : Int) ∧ (P.alloc c).2.2.Holds c i k (fun _ => 0) := by
  have hsz := hc.sz
  rcases P.alloc_cases c with hb | ⟨_, ⟨i, hi, hp, hb⟩ | ⟨hn, ⟨i, hi, hp, hb⟩ | hf⟩⟩
  · exact absurd hb (isC_iff.2 hc)
  · have hg := (h i hi).gap hc hp
    rw [Pl.alloc_part hc hi hp hb]
    exact ⟨i, (P.pg i).gap c, rfl, Pg.take_holds hc hi hg.1⟩
  · rw [Pl.alloc_new hc hn hi hp hb]
    exact ⟨i, 0, by simp, Pg.take_holds hc hi (by omega)⟩
  · rw [Pl.alloc_full hc hn hf] at he
    cases he
theorem Pl.Holds.put {P : Pl} {c : Int} (hc : IsC c) {i k : Nat} {v : Nat → Int} (h : P.Holds c i k v) {x : Nat} (hx : x < bsz c) (n : Int) :
    (P.setCell ((16 * i + k * bsz c + x : Nat) : Int) n).1 = 0 ∧ (P.setCell ((16 * i + k * bsz c + x : Nat) : Int) n).2.Holds c i k (up v x n) := by
  have ht := (h.tells hc hx).1
  have hb := hc.blk h.kb
  obtain ⟨A, hA⟩ : ∃ A, A = 16 * i + k * bsz c + x := ⟨_, rfl⟩
  rw [← hA] at ht ⊢
  have h1 : A / 16 = i := by omega
  have h2 : A % 16 = k * bsz c + x := by omega
  have e : P.setCell (A : Int) n = (0, P.set i { P.pg i with cell := up (P.pg i).cell (k * bsz c + x) n }) := by
    unfold Pl.setCell
    rw [ht]
    simp only [if_true]
    rw [show (A : Int).toNat = A from rfl, h1, h2]
  rw [e]
  refine ⟨rfl, h.hi, ?_, h.kb, ?_, fun y hy => ?_⟩
  · show ((P.set i _).pg i).cls = c
    rw [Pl.set_same]; exact h.cls
  · show ((P.set i _).pg i).used k = true
    rw [Pl.set_same]; exact h.used
  · show ((P.set i _).pg i).cell (k * bsz c + y) = _
    rw [Pl.set_same]
    show up (P.pg i).cell (k * bsz c + x) n (k * bsz c + y) = up v x n y
    by_cases hxy : y = x
    · subst hxy; rw [up_same, up_same]
    · rw [up_other _ _ (by omega), up_other _ _ hxy, h.cell y hy]
theorem Pl.Holds.upto {P : Pl} {c : Int} {i k : Nat} {v v' : Nat → Int} (h : P.Holds c i k v) (e : ∀ x, x < bsz c → v' x = v x) : P.Holds c i k v' :=
  ⟨h.hi, h.cls, h.kb, h.used, fun x hx => by rw [h.cell x hx, e x hx]⟩
end Go.Proofs.Ythflghdaejbdkaa
