/- Pages of blocks, the plain laws: a block's numbers are kept. -/
import Derived.Test.YtngmiacekcmidaaBPlainB
namespace Go.Proofs.Ytngmiacekcmidaa
set_option linter.unusedVariables false

theorem Pg.take_holds {P : Pl} {c : Int} (hc : IsC c) {i k : Nat} (hi : i < P.n) (hk : k < bpt c) : (P.set i ((P.pg i).take c k fun _ => 0)).Holds c i k (fun _ => 0) := by
  refine ⟨hi, ?_, hk, ?_, fun x hx => ?_⟩
  · rw [Pl.set_same]; rfl
  · rw [Pl.set_same]; exact up_same _ _ _
  · rw [Pl.set_same]
    show (if k * bsz c ≤ k * bsz c + x ∧ k * bsz c + x < k * bsz c + bsz c then (0 : Int) else _) = 0
    rw [if_pos ⟨by omega, by omega⟩]
/-- A new block: where it is, and that it holds zeros. -/
theorem Pl.alloc_holds {P : Pl} (h : P.ok) {c : Int} (hc : IsC c) (he : (P.alloc c).2.1 = 0) :
    ∃ i k, (P.alloc c).1 = ((16 * i + k * bsz c : Nat) : Int) ∧ (P.alloc c).2.2.Holds c i k (fun _ => 0) := by
  have hsz := hc.sz
  rcases P.alloc_cases c with hb | ⟨_, ⟨i, hi, hp, hb⟩ | ⟨hn, ⟨i, hi, hp, hb⟩ | hf⟩⟩
  · exact absurd hb (isC_iff.2 hc)
  · have hg := (h i hi).gap hc hp
    rw [Pl.alloc_part hc hi hp hb]
    exact ⟨i, (P.pg i).gap c, rfl, Pg.take_holds hc hi hg.1⟩
  · rw [Pl.alloc_new hc hn hi hp hb]
    exact ⟨i, 0, by simp, Pg.take_holds hc hi (by omega)⟩
  · rw [Pl.alloc_full hc hn hf] at he
    cases he
/-- One of its cells is set. -/
theorem Pl.Holds.put {P : Pl} {c : Int} (hc : IsC c) {i k : Nat} {v : Nat → Int} (h : P.Holds c i k v) {x : Nat} (hx : x < bsz c) (n : Int) :
    (P.setCell ((16 * i + k * bsz c + x : Nat) : Int) n).1 = 0 ∧ (P.setCell ((16 * i + k * bsz c + x : Nat) : Int) n).2.Holds c i k (up v x n) := by
  have ht := (h.tells hc hx).1
  have hb := hc.blk h.kb
  obtain ⟨A, hA⟩ : ∃ A, A = 16 * i + k * bsz c + x := ⟨_, rfl⟩
  rw [← hA] at ht ⊢
  have h1 : A / 16 = i := by omega
  have h2 : A % 16 = k * bsz c + x := by omega
  have e : P.setCell (A : Int) n = (0, P.set i { P.pg i with cell := up (P.pg i).cell (k * bsz c + x) n }) := by
    unfold Pl.setCell
    rw [ht]
    simp only [if_true]
    rw [show (A : Int).toNat = A from rfl, h1, h2]
  rw [e]
  refine ⟨rfl, h.hi, ?_, h.kb, ?_, fun y hy => ?_⟩
  · show ((P.set i _).pg i).cls = c
    rw [Pl.set_same]; exact h.cls
  · show ((P.set i _).pg i).used k = true
    rw [Pl.set_same]; exact h.used
  · show ((P.set i _).pg i).cell (k * bsz c + y) = _
    rw [Pl.set_same]
    show up (P.pg i).cell (k * bsz c + x) n (k * bsz c + y) = up v x n y
    by_cases hxy : y = x
    · subst hxy; rw [up_same, up_same]
    · rw [up_other _ _ (by omega), up_other _ _ hxy, h.cell y hy]
/-- A deed that does not touch the block, and no move, keeps it. -/
theorem Pl.Holds.do {P : Pl} (hok : P.ok) {c : Int} (hc : IsC c) {i k : Nat} {v : Nat → Int} (h : P.Holds c i k v) {d a b : Int}
    (h2 : d = 2 → a ≠ ((16 * i + k * bsz c : Nat) : Int)) (h3 : d = 3 → a < ((16 * i + k * bsz c : Nat) : Int) ∨ ((16 * i + k * bsz c + bsz c : Nat) : Int) ≤ a) (h4 : d ≠ 4) :
    (P.do d a b).2.2.Holds c i k v := by
  unfold Pl.do
  split
  · exact h.alloc hok hc a
  · split
    · rename_i hd; exact h.free hc (h2 hd.1)
    · split
      · rename_i hd; exact h.setCell (h3 hd)
      · split
        · rename_i hd; exact absurd hd.1 h4
        · exact h
/-- A move: the block goes where it says, or stays. -/
theorem Pl.Holds.move {P : Pl} (hok : P.ok) {c : Int} (hc : IsC c) {i k : Nat} {v : Nat → Int} (h : P.Holds c i k v) :
    (P.move.2.2.1 = 0 ∧ P.move.1 = ((16 * i + k * bsz c : Nat) : Int) ∧ ∃ i' k', P.move.2.1 = ((16 * i' + k' * bsz c : Nat) : Int) ∧ P.move.2.2.2.Holds c i' k' v) ∨
    (¬ (P.move.2.2.1 = 0 ∧ P.move.1 = ((16 * i + k * bsz c : Nat) : Int)) ∧ P.move.2.2.2.Holds c i k v) := by
  cases hp : P.pair with
  | none =>
    rw [Pl.move_none hp]
    exact .inr ⟨fun h2 => by have := h2.1; simp at this, h⟩
  | some x =>
    obtain ⟨f, t⟩ := x
    have hp2 := Pl.pair_some hp
    rw [Pl.move_some hp]
    rcases h.moved hok hc hp2 with ⟨rfl, h1, h2⟩ | ⟨h1, h2⟩
    · refine .inl ⟨rfl, ?_, t, (P.pg t).gap c, ?_, h2⟩
      · show ((16 * i + (P.pg i).top (P.pg i).cls * bsz (P.pg i).cls : Nat) : Int) = _
        rw [← h1, h.cls]
      · show ((16 * t + (P.pg t).gap (P.pg t).cls * bsz (P.pg i).cls : Nat) : Int) = _
        rw [hp2.same, h.cls]
    · refine .inr ⟨fun h3 => ?_, h2⟩
      have h4 : 16 * f + (P.pg f).top (P.pg f).cls * bsz (P.pg f).cls = 16 * i + k * bsz c := Int.ofNat.inj h3.2
      have hne : (P.pg f).cls ≠ -1 := by rcases hp2.c with e | e | e <;> omega
      have b1 := hp2.c.blk ((hok f hp2.hi).top hne).1
      have b2 := hc.blk h.kb
      have s1 := hp2.c.sz
      have s2 := hc.sz
      have hfi : i = f := by omega
      subst hfi
      rw [h.cls] at h4 h1
      rcases h1 with h1 | h1
      · exact h1 rfl
      · exact h1 (hc.blocks (by omega))
/-- All its cells are told. -/
theorem Pl.Holds.upto {P : Pl} {c : Int} {i k : Nat} {v v' : Nat → Int} (h : P.Holds c i k v) (e : ∀ x, x < bsz c → v' x = v x) : P.Holds c i k v' :=
  ⟨h.hi, h.cls, h.kb, h.used, fun x hx => by rw [h.cell x hx, e x hx]⟩
end Go.Proofs.Ytngmiacekcmidaa
