/- Pages of blocks, the plain laws: what is written stays. -/
import Derived.Test.YtngmiacekcmidaaBPlain
namespace Go.Proofs.Ytngmiacekcmidaa

/-- The block k of page i is used and of class c, and its cells hold v. -/
structure Pl.Holds (P : Pl) (c : Int) (i k : Nat) (v : Nat → Int) : Prop where
  hi : i < P.n
  cls : (P.pg i).cls = c
  kb : k < bpt c
  used : (P.pg i).used k = true
  cell : ∀ x, x < bsz c → (P.pg i).cell (k * bsz c + x) = v x
theorem Pl.Holds.set_other {P : Pl} {c : Int} {i k : Nat} {v : Nat → Int} (h : P.Holds c i k v) {j : Nat} (hj : i ≠ j) (x : Pg) : (P.set j x).Holds c i k v := by
  have e : (P.set j x).pg i = P.pg i := Pl.set_other _ _ hj
  exact ⟨h.hi, by rw [e]; exact h.cls, h.kb, by rw [e]; exact h.used, by rw [e]; exact h.cell⟩
theorem Pl.Holds.set_same {P : Pl} {c : Int} {i k : Nat} {v : Nat → Int} (h : P.Holds c i k v) (x : Pg) (h1 : x.cls = c) (h2 : x.used k = true) (h3 : ∀ y, y < bsz c → x.cell (k * bsz c + y) = (P.pg i).cell (k * bsz c + y)) : (P.set i x).Holds c i k v := by
  have e : (P.set i x).pg i = x := Pl.set_same _ _ _
  exact ⟨h.hi, by rw [e]; exact h1, h.kb, by rw [e]; exact h2, fun y hy => by rw [e, h3 y hy]; exact h.cell y hy⟩
/-- Another block of the page is taken. -/
theorem Pl.Holds.take {P : Pl} {c : Int} (hc : IsC c) {i k : Nat} {v : Nat → Int} (h : P.Holds c i k v) {l : Nat} (hl : l ≠ k) (f : Nat → Int) : (P.set i ((P.pg i).take c l f)).Holds c i k v := by
  refine h.set_same _ rfl ?_ (fun y hy => ?_)
  · show up (P.pg i).used l true k = true
    rw [up_other _ _ hl.symm]; exact h.used
  · show (if _ then _ else _) = _
    rw [if_neg]
    intro h2
    apply hl
    have h4 := hc.of_at h2.1 h2.2
    have h5 := hc.of_at (k := k) (j := k * bsz c + y) (by omega) (by omega)
    omega
/-- Another block of the page is freed. -/
theorem Pl.Holds.release {P : Pl} {c : Int} (hc : IsC c) {i k : Nat} {v : Nat → Int} (h : P.Holds c i k v) {l : Nat} (hl : l ≠ k) : (P.set i ((P.pg i).release l)).Holds c i k v := by
  have hsz := hc.sz
  have hk := h.kb
  have hn : ¬ cnt (up (P.pg i).used l false) 8 = 0 := by
    intro h0
    have := cnt_eq_zero.1 h0 k (by omega)
    rw [up_other _ _ hl.symm, h.used] at this
    cases this
  refine h.set_same _ ?_ ?_ (fun y hy => rfl)
  · unfold Pg.release; simp only [hn, if_false]; exact h.cls
  · show up (P.pg i).used l false k = true
    rw [up_other _ _ hl.symm]; exact h.used
theorem Pl.Holds.alloc {P : Pl} (hok : P.ok) {c : Int} (hc : IsC c) {i k : Nat} {v : Nat → Int} (h : P.Holds c i k v) (cl : Int) : (P.alloc cl).2.2.Holds c i k v := by
  rcases P.alloc_cases cl with hb | ⟨hcl, ⟨j, hj, hp, hb⟩ | ⟨hn, ⟨j, hj, hp, hb⟩ | hf⟩⟩
  · rw [Pl.alloc_bad hb]; exact h
  · rw [Pl.alloc_part hcl hj hp hb]
    by_cases e : i = j
    · subst e
      have he := (Pg.partly_iff.1 hp).1
      have hcc : cl = c := he.symm.trans h.cls
      subst hcc
      refine h.take hc (fun e => ?_) _
      have := ((hok i hj).gap hc hp).2
      rw [e, h.used] at this; cases this
    · exact h.set_other e _
  · rw [Pl.alloc_new hcl hn hj hp hb]
    refine h.set_other (fun e => ?_) _
    subst e
    rw [h.cls] at hp
    rcases hc with e | e | e <;> omega
  · rw [Pl.alloc_full hcl hn hf]; exact h
theorem Pl.Holds.free {P : Pl} {c : Int} (hc : IsC c) {i k : Nat} {v : Nat → Int} (h : P.Holds c i k v) {a : Int} (ha : a ≠ ((16 * i + k * bsz c : Nat) : Int)) : (P.free a).2.Holds c i k v := by
  unfold Pl.free
  split
  · rename_i h0
    have hb := Pl.begin_ok h0
    split
    · rename_i h1
      by_cases e : i = a.toNat / 16
      · rw [← e] at hb ⊢
        refine h.release hc (fun e2 => ha ?_)
        have h3 := hb.2.2.2.1
        rw [h1, e2, h.cls] at h3
        omega
      · exact h.set_other e _
    · exact h
  · exact h
theorem Pl.Holds.setCell {P : Pl} {c : Int} {i k : Nat} {v : Nat → Int} (h : P.Holds c i k v) {a n : Int} (ha : a < ((16 * i + k * bsz c : Nat) : Int) ∨ ((16 * i + k * bsz c + bsz c : Nat) : Int) ≤ a) : (P.setCell a n).2.Holds c i k v := by
  unfold Pl.setCell
  split
  · rename_i h0
    have hb := Pl.begin_ok h0
    by_cases e : i = a.toNat / 16
    · rw [← e]
      refine h.set_same _ h.cls h.used (fun y hy => ?_)
      show up (P.pg i).cell (a.toNat % 16) n (k * bsz c + y) = _
      rw [up_other]
      have h6 := hb.2.2.2.2.2.2
      omega
    · exact h.set_other e _
  · exact h
/-- The block is moved, or another one. -/
theorem Pl.Holds.moved {P : Pl} (hok : P.ok) {c : Int} (hc : IsC c) {i k : Nat} {v : Nat → Int} (h : P.Holds c i k v) {f t : Nat} (hp : P.Pair f t) :
    (i = f ∧ k = (P.pg f).top (P.pg f).cls ∧ (P.moved f t).Holds c t ((P.pg t).gap c) v) ∨ ((i ≠ f ∨ k ≠ (P.pg f).top (P.pg f).cls) ∧ (P.moved f t).Holds c i k v) := by
  have hne : (P.pg f).cls ≠ -1 := by rcases hp.c with e | e | e <;> omega
  have htop := (hok f hp.hi).top hne
  have hgap := (hok t hp.hj).gap hp.c hp.pj
  by_cases e : i = f ∧ k = (P.pg f).top (P.pg f).cls
  · obtain ⟨rfl, hk⟩ := e
    refine .inl ⟨rfl, hk, ?_⟩
    have hcl := h.cls
    rw [hcl] at hk hgap
    have hts : (P.pg t).cls = c := hp.same.trans hcl
    have e1 : (P.moved i t).pg t = (P.pg t).take c ((P.pg t).gap c) fun x => (P.pg i).cell (k * bsz c + x) := by
      unfold Pl.moved
      rw [Pl.set_other _ _ hp.ne.symm, Pl.set_same, hcl, hts, ← hk]
    refine ⟨hp.hj, by rw [e1]; rfl, hgap.1, by rw [e1]; exact up_same _ _ _, fun x hx => ?_⟩
    rw [e1]
    show (if _ then _ else _) = _
    rw [if_pos ⟨by omega, by omega⟩, show (P.pg t).gap c * bsz c + x - (P.pg t).gap c * bsz c = x by omega]
    exact h.cell x hx
  · have e' : i ≠ f ∨ k ≠ (P.pg f).top (P.pg f).cls := by
      by_cases e2 : i = f
      · exact .inr (fun e3 => e ⟨e2, e3⟩)
      · exact .inl e2
    refine .inr ⟨e', ?_⟩
    unfold Pl.moved
    -- the page that gets
    have h1 : (P.set t ((P.pg t).take (P.pg f).cls ((P.pg t).gap (P.pg t).cls) fun x => (P.pg f).cell ((P.pg f).top (P.pg f).cls * bsz (P.pg f).cls + x))).Holds c i k v := by
      by_cases e2 : i = t
      · subst e2
        have hcl : (P.pg f).cls = c := hp.same.symm.trans h.cls
        rw [hcl] at hgap
        rw [hcl, h.cls]
        refine h.take hc (fun e3 => ?_) _
        rw [e3, h.used] at hgap
        cases hgap.2
      · exact h.set_other e2 _
    by_cases e2 : i = f
    · subst e2
      have e3 : (P.set t ((P.pg t).take (P.pg i).cls ((P.pg t).gap (P.pg t).cls) fun x => (P.pg i).cell ((P.pg i).top (P.pg i).cls * bsz (P.pg i).cls + x))).pg i = P.pg i := Pl.set_other _ _ hp.ne
      have h2 := h1.release hc (l := (P.pg i).top (P.pg i).cls) (by rcases e' with h3 | h3; exact absurd rfl h3; exact h3.symm)
      rw [e3] at h2
      exact h2
    · exact h1.set_other e2 _
/-- .. and what the pool tells of it. -/
theorem Pl.Holds.tells {P : Pl} {c : Int} (hc : IsC c) {i k : Nat} {v : Nat → Int} (h : P.Holds c i k v) {x : Nat} (hx : x < bsz c) :
    P.begin ((16 * i + k * bsz c + x : Nat) : Int) = (((16 * i + k * bsz c : Nat) : Int), 0) ∧ P.cell ((16 * i + k * bsz c + x : Nat) : Int) = (v x, 0) := by
  have hb := hc.blk h.kb
  have hi := h.hi
  obtain ⟨A, hA⟩ : ∃ A, A = 16 * i + k * bsz c + x := ⟨_, rfl⟩
  have h1 : A / 16 = i := by omega
  have h2 : A % 16 = k * bsz c + x := by omega
  have h3 : (k * bsz c + x) / bsz c = k := hc.of_at (by omega) (by omega)
  have hcl := h.cls
  have ha : P.addr (A : Int) = true := Pl.addr_iff.2 ⟨by omega, by omega⟩
  have hbg : P.begin (A : Int) = (((16 * i + k * bsz c : Nat) : Int), 0) := by
    rw [Pl.begin_yes ha (by show ¬ (P.pg (A / 16)).cls < 0; rw [h1, hcl]; rcases hc with e | e | e <;> omega) (by show (P.pg (A / 16)).used (A % 16 / bsz (P.pg (A / 16)).cls) = true; rw [h1, h2, hcl, h3]; exact h.used)]
    show (((A / 16 * 16 + A % 16 / bsz (P.pg (A / 16)).cls * bsz (P.pg (A / 16)).cls : Nat) : Int), (0 : Int)) = _
    rw [h1, h2, hcl, h3, Nat.mul_comm i 16]
  rw [← hA]
  refine ⟨hbg, ?_⟩
  unfold Pl.cell
  rw [hbg]
  simp only [if_true]
  show ((P.pg (A / 16)).cell (A % 16), (0 : Int)) = _
  rw [h1, h2, h.cell x hx]
end Go.Proofs.Ytngmiacekcmidaa
