/- Lemmas of this claim. -/
import Derived.Test.YthflghdaejbdkaaGreatRows
import Derived.Test.YthflghdaejbdkaaGreatWLib
import Derived.Test.YthflghdaejbdkaaGreatWBModel
import Derived.IntWalk
namespace Go.Proofs.YthflghdaejbdkaaGreat
open Go.RowKit
set_option maxHeartbeats 1600000
set_option maxRecDepth 100000
set_option linter.unusedVariables false
structure RRep (w : World) (q k c l : Nat) (P : Pl) : Prop where
  hq : ∃ T c1 c2 c3, Row w q T [.slice (some ⟨k, 0, none⟩) P.n c1, .slice (some ⟨c, 0, none⟩) (P.n * 16) c2, .slice (some ⟨l, 0, none⟩) (P.n * 16) c3]
  rk : ∃ T cs, Row w k T cs
  rc : ∃ T cs, Row w c T cs
  rl : ∃ T cs, Row w l T cs
  kind : ∀ i, i < P.n → w.cell? ⟨k, i, none⟩ = some (.int .i64 (P.pg i).cls)
  cells : ∀ i, i < P.n → ∀ j, j < 16 → w.cell? ⟨c, i * 16 + j, none⟩ = some (.int .i64 ((P.pg i).cell j))
  live : ∀ i, i < P.n → ∀ j, j < 16 → w.cell? ⟨l, i * 16 + j, none⟩ = some (.bool ((P.pg i).live j))
  ne : q ≠ k ∧ q ≠ c ∧ q ≠ l ∧ k ≠ c ∧ k ≠ l ∧ c ≠ l
  n1 : 1 ≤ P.n
  n24 : P.n ≤ 24
theorem RRep.only {w w' : World} {q k c l : Nat} {P : Pl} {F : List Nat} (h : RRep w q k c l P) (o : Only F w w') (h1 : q ∉ F) (h2 : k ∉ F) (h3 : c ∉ F) (h4 : l ∉ F) : RRep w' q k c l P :=
  ⟨by obtain ⟨T, c1, c2, c3, r⟩ := h.hq; exact ⟨T, c1, c2, c3, o.row r h1⟩, h.rk.imp fun _ x => x.imp fun _ y => o.row y h2, h.rc.imp fun _ x => x.imp fun _ y => o.row y h3, h.rl.imp fun _ x => x.imp fun _ y => o.row y h4,
   fun i hi => o.cell (h.kind i hi) h2, fun i hi j hj => o.cell (h.cells i hi j hj) h3, fun i hi j hj => o.cell (h.live i hi j hj) h4, h.ne, h.n1, h.n24⟩
theorem RRep.drewTo {w w' : World} {q k c l : Nat} {P : Pl} (h : RRep w q k c l P) (d : Drew w w') : RRep w' q k c l P := h.only (d.only []) (by simp) (by simp) (by simp) (by simp)
theorem RRep.facts {w : World} {q k c l : Nat} {P : Pl} (h : RRep w q k c l P) : ∃ c1 c2 c3, w.cell? ⟨q, 0, none⟩ = some (.slice (some ⟨k, 0, none⟩) P.n c1) ∧ w.cell? ⟨q, 1, none⟩ = some (.slice (some ⟨c, 0, none⟩) (P.n * 16) c2) ∧ w.cell? ⟨q, 2, none⟩ = some (.slice (some ⟨l, 0, none⟩) (P.n * 16) c3) ∧
    (∀ i, w.frozen? ⟨k, i, none⟩ = false) ∧ (∀ i, w.frozen? ⟨c, i, none⟩ = false) ∧ (∀ i, w.frozen? ⟨l, i, none⟩ = false) ∧ (q < w.heap.size ∧ k < w.heap.size ∧ c < w.heap.size ∧ l < w.heap.size) := by
  obtain ⟨⟨T, c1, c2, c3, hq⟩, ⟨_, _, hk⟩, ⟨_, _, hc⟩, ⟨_, _, hl⟩, _⟩ := h
  exact ⟨c1, c2, c3, hq.cell 0 rfl, hq.cell 1 rfl, hq.cell 2 rfl, hk.free, hc.free, hl.free, hq.lt, hk.lt, hc.lt, hl.lt⟩
theorem set_at {w : World} {b x y : Nat} {v u : Value} (h : w.cell? ⟨b, y, none⟩ = some u) : (w.setCell ⟨b, x, none⟩ v).cell? ⟨b, y, none⟩ = some (if y = x then v else u) := by
  by_cases e : y = x
  · subst e
    rw [if_pos rfl]
    exact World.cell?_setCell_same _ _ _ h
  · rw [if_neg e, World.cell?_setCell_other _ _ _ _ (fun h2 => by injection h2 with _ h3 _; omega)]
    exact h
theorem RRep.setCell {w : World} {q k c l : Nat} {P : Pl} (h : RRep w q k c l P) {i j : Nat} (hi : i < P.n) (hj : j < 16) (v : Int) :
    RRep (w.setCell ⟨c, i * 16 + j, none⟩ (.int .i64 v)) q k c l (P.set i { P.pg i with cell := up (P.pg i).cell j v }) := by
  have o : Only [c] w (w.setCell ⟨c, i * 16 + j, none⟩ (.int .i64 v)) := (Only.refl _ _).set (by simp) _
  obtain ⟨n1, n2, n3, n4, n5, n6⟩ := h.ne
  refine ⟨?_, h.rk.imp fun _ x => x.imp fun _ y => o.row y (by simpa using n4), ?_, h.rl.imp fun _ x => x.imp fun _ y => o.row y (by simpa using n6.symm), fun x hx => ?_, fun x hx y hy => ?_, fun x hx y hy => ?_, h.ne, h.n1, h.n24⟩
  · obtain ⟨T, c1, c2, c3, r⟩ := h.hq; exact ⟨T, c1, c2, c3, o.row r (by simpa using n2)⟩
  · obtain ⟨T, cs, r⟩ := h.rc; exact ⟨T, _, r.set _ _⟩
  · rw [o.cell (h.kind x hx) (by simpa using n4)]
    by_cases e : x = i
    · subst e; rw [Pl.set_same]
    · rw [Pl.set_other _ _ e]
  · rw [set_at (h.cells x hx y hy)]
    by_cases e : x = i
    · subst e
      rw [Pl.set_same]
      show _ = some (Value.int .i64 (up _ _ _ _))
      by_cases e2 : y = j
      · subst e2; rw [if_pos rfl, up_same]
      · rw [if_neg (by omega), up_other _ _ e2]
    · rw [Pl.set_other _ _ e, if_neg (by omega)]
  · rw [o.cell (h.live x hx y hy) (by simpa using n6.symm)]
    by_cases e : x = i
    · subst e; rw [Pl.set_same]; rfl
    · rw [Pl.set_other _ _ e]
theorem Pg.live_free {p : Pg} (h : p.cls = -1) (j : Nat) : p.live j = false := by simp [Pg.live, h]
theorem Pg.live_at {p : Pg} (h : IsC p.cls) (k : Nat) : p.live (k * bsz p.cls) = p.used k := by
  have h1 : p.cls ≠ -1 := by rcases h with e | e | e <;> omega
  simp [Pg.live, h1, (h.mul_div k).1]
theorem Pg.live_iff {p : Pg} (h : IsC p.cls) (j : Nat) : p.live j = true ↔ j = j / bsz p.cls * bsz p.cls ∧ p.used (j / bsz p.cls) = true := by
  have h1 : p.cls ≠ -1 := by rcases h with e | e | e <;> omega
  have h2 := h.facts
  simp only [Pg.live, Bool.and_eq_true, decide_eq_true_eq]
  constructor
  · rintro ⟨⟨_, h3⟩, h4⟩
    exact ⟨by rcases h2 with ⟨e, _⟩ | ⟨e, _⟩ | ⟨e, _⟩ <;> (rw [e] at h3 ⊢; omega), h4⟩
  · rintro ⟨h3, h4⟩
    exact ⟨⟨h1, by rcases h2 with ⟨e, _⟩ | ⟨e, _⟩ | ⟨e, _⟩ <;> (rw [e] at h3 ⊢; omega)⟩, h4⟩
def Pg.okw (p : Pg) : Prop := (p.cls = -1 ∧ ∀ k, p.used k = false) ∨ (IsC p.cls ∧ ∀ k, bpt p.cls ≤ k → p.used k = false)
theorem Pg.ok.w {p : Pg} (h : p.ok) : p.okw := by
  rcases h.cls with hc | hc
  · exact .inl ⟨hc, h.free hc⟩
  · exact .inr ⟨hc, h.high (by rcases hc with e | e | e <;> omega)⟩
theorem Pg.live_cnt {p : Pg} (h : p.okw) : cnt p.live 16 = p.count := by
  rcases h with ⟨hc, hf⟩ | ⟨hc, hh⟩
  · rw [show p.count = 0 from cnt_zero fun j _ => hf j]
    exact cnt_zero fun j _ => Pg.live_free hc j
  · have hne : p.cls ≠ -1 := by rcases hc with e | e | e <;> omega
    rw [show p.count = cnt p.used (bpt p.cls) from cnt_more hc.sz.2.2.2 fun j h1 _ => hh j h1]
    have hl : ∀ k, p.live (k * bsz p.cls) = p.used k := Pg.live_at hc
    have hz : ∀ j, j % bsz p.cls ≠ 0 → p.live j = false := fun j hj => by simp [Pg.live, hj]
    rcases hc.facts with ⟨e1, e2⟩ | ⟨e1, e2⟩ | ⟨e1, e2⟩
    · rw [e1] at hl hz
      rw [e2]
      have a0 := hl 0; have a1 := hl 1; have a2 := hl 2; have a3 := hl 3; have a4 := hl 4; have a5 := hl 5; have a6 := hl 6; have a7 := hl 7
      simp only [Nat.zero_mul, Nat.one_mul, Nat.reduceMul] at a0 a1 a2 a3 a4 a5 a6 a7
      simp only [cnt, a0, a1, a2, a3, a4, a5, a6, a7, hz 1 (by decide), hz 3 (by decide), hz 5 (by decide), hz 7 (by decide), hz 9 (by decide), hz 11 (by decide), hz 13 (by decide), hz 15 (by decide)]
      simp
    · rw [e1] at hl hz
      rw [e2]
      have a0 := hl 0; have a1 := hl 1; have a2 := hl 2; have a3 := hl 3
      simp only [Nat.zero_mul, Nat.one_mul, Nat.reduceMul] at a0 a1 a2 a3
      simp only [cnt, a0, a1, a2, a3, hz 1 (by decide), hz 2 (by decide), hz 3 (by decide), hz 5 (by decide), hz 6 (by decide), hz 7 (by decide), hz 9 (by decide), hz 10 (by decide), hz 11 (by decide), hz 13 (by decide), hz 14 (by decide), hz 15 (by decide)]
      simp
    · rw [e1] at hl hz
      rw [e2]
      have a0 := hl 0; have a1 := hl 1
      simp only [Nat.zero_mul, Nat.one_mul] at a0 a1
      simp only [cnt, a0, a1, hz 1 (by decide), hz 2 (by decide), hz 3 (by decide), hz 4 (by decide), hz 5 (by decide), hz 6 (by decide), hz 7 (by decide), hz 9 (by decide), hz 10 (by decide), hz 11 (by decide), hz 12 (by decide), hz 13 (by decide), hz 14 (by decide), hz 15 (by decide)]
      simp
end Go.Proofs.YthflghdaejbdkaaGreat
namespace Go.Proofs.YthflghdaejbdkaaGreat
open Go.RowKit
set_option maxHeartbeats 1600000
set_option maxRecDepth 100000
set_option linter.unusedVariables false
theorem IsC.full {c : Int} (h : IsC c) : bpt c * bsz c = 16 := by rcases h.facts with ⟨h1, h2⟩ | ⟨h1, h2⟩ | ⟨h1, h2⟩ <;> rw [h1, h2]
theorem Pl.set_set (P : Pl) (i : Nat) (x y : Pg) : (P.set i x).set i y = P.set i y := by
  unfold Pl.set
  congr 1
  funext j
  by_cases e : j = i
  · subst e; rw [up_same, up_same]
  · rw [up_other _ _ e, up_other _ _ e]; exact up_other _ _ e
theorem Pl.set_get (P : Pl) (i : Nat) : P.set i (P.pg i) = P := by
  unfold Pl.set
  cases P
  congr 1
  funext j
  by_cases e : j = i
  · subst e; rw [up_same]
  · rw [up_other _ _ e]
end Go.Proofs.YthflghdaejbdkaaGreat
namespace Go.Proofs.YthflghdaejbdkaaGreat
open Go.RowKit
set_option maxHeartbeats 3200000
set_option maxRecDepth 100000
set_option linter.unusedVariables false
end Go.Proofs.YthflghdaejbdkaaGreat
namespace Go.Proofs.YthflghdaejbdkaaGreat
open Go.RowKit
set_option maxHeartbeats 1600000
set_option maxRecDepth 100000
set_option linter.unusedVariables false
structure Adr (P : Pl) (A i j : Nat) : Prop where
  hi : i = A / 16
  hj : j = A % 16
  hin : i < P.n
  hj16 : j < 16
  hA : A = i * 16 + j
theorem live_begin {P : Pl} (hok : P.ok) {A i j : Nat} (s : Adr P A i j) : (P.pg i).live j = true ↔ (P.begin (A : Int)).2 = 0 ∧ (P.begin (A : Int)).1 = A := by
  have hA : A < 16 * P.n := by have := s.hA; have := s.hin; have := s.hj16; omega
  have ha : P.addr (A : Int) = true := Pl.addr_iff.2 ⟨by omega, by omega⟩
  rcases (hok i s.hin).cls with hc | hC
  · rw [Pg.live_free hc, Pl.begin_free ha (by show (P.pg (A / 16)).cls < 0; rw [← s.hi, hc]; decide)]
    simp
  · have hc : ¬ (P.pg (A / 16)).cls < 0 := by rw [← s.hi]; rcases hC with e | e | e <;> omega
    rw [Pg.live_iff hC]
    have hdv := hC.div s.hj16
    constructor
    · rintro ⟨h1, h2⟩
      rw [Pl.begin_yes ha (by simpa using hc) (by rw [s.hi, s.hj] at h2; simpa using h2)]
      refine ⟨rfl, ?_⟩
      show ((A / 16 * 16 + A % 16 / bsz (P.pg (A / 16)).cls * bsz (P.pg (A / 16)).cls : Nat) : Int) = A
      rw [← s.hi, ← s.hj, ← h1, s.hA]
    · rintro ⟨h1, h2⟩
      have hb := Pl.begin_ok h1
      refine ⟨?_, by rw [s.hi, s.hj]; exact hb.2.2.1⟩
      have h3 := hb.2.2.2.1
      rw [h2] at h3
      have h4 : A = A / 16 * 16 + A % 16 / bsz (P.pg (A / 16)).cls * bsz (P.pg (A / 16)).cls := by exact_mod_cast h3
      rw [← s.hi, ← s.hj] at h4
      have := s.hA
      omega
end Go.Proofs.YthflghdaejbdkaaGreat
