/- Contracts of package block's pools over the model Pl: new pools, Alloc. -/
import Derived.Test.YtngmiacekcmidaaBlockB
namespace Go.Proofs.Ytngmiacekcmidaa
open Go.RowKit
set_option maxHeartbeats 400000
set_option maxRecDepth 100000
set_option linter.unusedVariables false

/-- The pool at p, whose pages lie in block b, is P. -/
structure PRep (w : World) (p b : Nat) (P : Pl) : Prop where
  hp : ∃ T cap, Row w p T [.slice (some ⟨b, 0, none⟩) P.n cap]
  hb : ∃ T cs, Row w b T cs
  pg : ∀ i, i < P.n → PgAt w b (i * 25) (P.pg i)
  ne : p ≠ b
  n1 : 1 ≤ P.n
  n24 : P.n ≤ 24
  ok : P.ok
theorem PRep.only {w w' : World} {p b : Nat} {P : Pl} {F : List Nat} (h : PRep w p b P) (k : Only F w w') (h1 : p ∉ F) (h2 : b ∉ F) : PRep w' p b P :=
  ⟨h.hp.imp fun _ x => x.imp fun _ y => k.row y h1, h.hb.imp fun _ x => x.imp fun _ y => k.row y h2, fun i hi => (h.pg i hi).only k h2, h.ne, h.n1, h.n24, h.ok⟩
theorem PRep.drewN {w : World} {p b : Nat} {P : Pl} (h : PRep w p b P) (n : Nat) : PRep (w.drewN n) p b P := h.only ((Only.refl [] w).drewN n) (by simp) (by simp)
theorem PRep.facts {w : World} {p b : Nat} {P : Pl} (h : PRep w p b P) : ∃ cap, w.cell? ⟨p, 0, none⟩ = some (.slice (some ⟨b, 0, none⟩) P.n cap) ∧ w.frozen? ⟨p, 0, none⟩ = false ∧ (∀ i, w.frozen? ⟨b, i, none⟩ = false) ∧ p < w.heap.size ∧ b < w.heap.size := by
  obtain ⟨⟨T, cap, hp⟩, ⟨T', cs, hb⟩, _⟩ := h
  exact ⟨cap, hp.cell 0 rfl, hp.free 0, hb.free, hp.lt, hb.lt⟩
theorem PRep.turn {w w' : World} {p b : Nat} {P : Pl} (h : PRep w p b P) {i : Nat} (hi : i < P.n) {x : Pg} (hx : PgAt w' b (i * 25) x) (k : PgOnly b (i * 25) w w') (ok : (P.set i x).ok) : PRep w' p b (P.set i x) := by
  refine ⟨h.hp.imp fun _ y => y.imp fun _ z => k.only.row z (by simpa using h.ne), h.hb.imp fun T y => by obtain ⟨cs, hc⟩ := y; exact k.row T cs hc, fun j hj => ?_, h.ne, h.n1, h.n24, ok⟩
  by_cases e : j = i
  · subst e; rw [Pl.set_same]; exact hx
  · rw [Pl.set_other _ _ e]
    intro r hr
    rw [k.cell _ (by omega)]
    exact h.pg j hj r hr

theorem none_rep (w : World) (p b : Nat) (P : Pl) (h : PRep w p b P) : Calls Try.prog 57 #[.pointer (some ⟨p, 0, none⟩)] w (Exact w (.bool false)) := by
  refine calls_abs fun R hR => ?_
  obtain ⟨cap, h0, hf, _⟩ := h.facts
  have h1 := h.n1
  have h24 := h.n24
  have hn : ((P.n : Int) == 0) = false := by simp; omega
  clear h
  go_enter Try.func57, Try.ntmps57
  go_wp2_with fail
  exact hR.out _ _ ⟨rfl, rfl⟩
theorem none_nil (w : World) : Calls Try.prog 57 #[.pointer none] w (Exact w (.bool true)) := by
  refine calls_abs fun R hR => ?_
  go_enter Try.func57, Try.ntmps57
  go_wp2_with fail
  exact hR.out _ _ ⟨rfl, rfl⟩
def isCB (c : Int) : Bool := decide (0 ≤ c) && decide (c < 3)
theorem isCB_iff {c : Int} : isCB c = true ↔ IsC c := by unfold isCB IsC; simp; omega
theorem class_rep (w : World) (p b : Nat) (P : Pl) (h : PRep w p b P) (c : Int) : Calls Try.prog 48 #[.pointer (some ⟨p, 0, none⟩), .int .i64 c] w (Exact w (.bool (isCB c))) := by
  refine calls_abs fun R hR => ?_
  have hb : Hid (isCB c = (decide (0 ≤ c) && decide (c < 3))) := rfl
  by_cases h0 : 0 ≤ c
  · go_enter Try.func48, Try.ntmps48
    go_wp2_with fail
    refine (none_rep _ _ _ _ h).mono ?_
    rintro e _ ⟨rfl, rfl⟩
    go_wp2_with fail
    exact hR.out _ _ ⟨by rw [hb.out]; simp [h0], rfl⟩
  · have h0' : decide (0 ≤ c) = false := by simpa using h0
    have H0 := Lib.hid h0
    clear h0
    go_enter Try.func48, Try.ntmps48
    go_wp2_with fail
    refine (none_rep _ _ _ _ h).mono ?_
    rintro e _ ⟨rfl, rfl⟩
    go_wp2_with fail
    exact hR.out _ _ ⟨by rw [hb.out, h0']; rfl, rfl⟩
theorem class_nil (w : World) (c : Int) : Calls Try.prog 48 #[.pointer none, .int .i64 c] w (Exact w (.bool false)) := by
  refine calls_abs fun R hR => ?_
  go_enter Try.func48, Try.ntmps48
  go_wp2_with fail
  refine (none_nil _).mono ?_
  rintro e _ ⟨rfl, rfl⟩
  go_wp2_with fail
  exact hR.out _ _ ⟨rfl, rfl⟩
theorem address_rep (w : World) (p b : Nat) (P : Pl) (h : PRep w p b P) (a : Int) : Calls Try.prog 60 #[.pointer (some ⟨p, 0, none⟩), .int .i64 a] w (Exact w (.bool (P.addr a))) := by
  refine calls_abs fun R hR => ?_
  obtain ⟨cap, hc, hf, _⟩ := h.facts
  have h24 := h.n24
  have hb : Hid (P.addr a = (decide (0 ≤ a) && decide (a < 16 * P.n))) := rfl
  by_cases h0 : 0 ≤ a
  · go_enter Try.func60, Try.ntmps60
    go_wp2_with fail
    refine (none_rep _ _ _ _ h).mono ?_
    rintro e _ ⟨rfl, rfl⟩
    go_wp2_with fail
    exact hR.out _ _ ⟨by rw [hb.out]; simp [h0], rfl⟩
  · have h0' : decide (0 ≤ a) = false := by simpa using h0
    have H0 := Lib.hid h0
    clear h0
    go_enter Try.func60, Try.ntmps60
    go_wp2_with fail
    refine (none_rep _ _ _ _ h).mono ?_
    rintro e _ ⟨rfl, rfl⟩
    go_wp2_with fail
    exact hR.out _ _ ⟨by rw [hb.out, h0']; rfl, rfl⟩
theorem address_nil (w : World) (a : Int) : Calls Try.prog 60 #[.pointer none, .int .i64 a] w (Exact w (.bool false)) := by
  refine calls_abs fun R hR => ?_
  go_enter Try.func60, Try.ntmps60
  go_wp2_with fail
  refine (none_nil _).mono ?_
  rintro e _ ⟨rfl, rfl⟩
  go_wp2_with fail
  exact hR.out _ _ ⟨rfl, rfl⟩

theorem alloc1_of (w : World) (p : Pg) (cb : Nat) (c : Int) (hc : IsC c) (hcell : w.cell? ⟨cb, 0, none⟩ = some (.int .i64 c)) :
    Calls Try.prog 50 #[.agg p.row.toArray, .pointer (some ⟨cb, 0, none⟩)] w fun e w' => e = .returned (.bool (p.partly c)) ∧ Only [] w w' := by
  refine calls_abs fun R hR => ?_
  have hlt := World.block_lt_of_cell? w _ hcell
  have hpg : PgAt (w.alloc (.cells p.row.toArray 75)) w.heap.size 0 p := by
    intro r hr
    have := (Row.new w 75 p.row).cell r (v := p.at r) (by simp [Pg.row, hr])
    simpa using this
  have HP := Lib.hid hpg
  clear hpg
  go_enter Try.func50, Try.ntmps50
  go_wp2_with fail
  refine (partly_of _ _ _ _ HP.out c hc).mono ?_
  rintro e _ ⟨rfl, rfl⟩
  go_wp2_with fail
  exact hR.out _ _ ⟨rfl, (Only.refl _ _).alloc _⟩
theorem alloc2_of (w : World) (p : Pg) :
    Calls Try.prog 52 #[.agg p.row.toArray] w fun e w' => e = .returned (.bool (decide (p.cls < 0))) ∧ Only [] w w' := by
  refine calls_abs fun R hR => ?_
  have hpg : (w.alloc (.cells p.row.toArray 75)).cell? ⟨w.heap.size, 0, none⟩ = some (.int .i64 p.cls) := (Row.new w 75 p.row).cell 0 (by rfl)
  go_enter Try.func52, Try.ntmps52
  go_wp2_with fail
  exact hR.out _ _ ⟨rfl, (Only.refl _ _).alloc _⟩
end Go.Proofs.Ytngmiacekcmidaa
