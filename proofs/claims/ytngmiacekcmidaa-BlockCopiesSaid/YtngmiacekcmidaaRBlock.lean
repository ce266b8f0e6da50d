/- Contracts of the reference's pools (package isochronref10) over the model Pl. -/
import Derived.Test.YtngmiacekcmidaaRows
import Derived.Test.YtngmiacekcmidaaLibB
import Derived.Test.YtngmiacekcmidaaBModelB
import Derived.IntWalk
namespace Go.Proofs.Ytngmiacekcmidaa
open Go.RowKit
set_option maxHeartbeats 1600000
set_option maxRecDepth 100000
set_option linter.unusedVariables false

/-- The reference's pool at q: its rows lie in the blocks k (classes), c (cells), l (where used blocks begin). -/
structure RRep (w : World) (q k c l : Nat) (P : Pl) : Prop where
  hq : ∃ T c1 c2 c3, Row w q T [.slice (some ⟨k, 0, none⟩) P.n c1, .slice (some ⟨c, 0, none⟩) (P.n * 16) c2, .slice (some ⟨l, 0, none⟩) (P.n * 16) c3]
  rk : ∃ T cs, Row w k T cs
  rc : ∃ T cs, Row w c T cs
  rl : ∃ T cs, Row w l T cs
  kind : ∀ i, i < P.n → w.cell? ⟨k, i, none⟩ = some (.int .i64 (P.pg i).cls)
  cells : ∀ i, i < P.n → ∀ j, j < 16 → w.cell? ⟨c, i * 16 + j, none⟩ = some (.int .i64 ((P.pg i).cell j))
  live : ∀ i, i < P.n → ∀ j, j < 16 → w.cell? ⟨l, i * 16 + j, none⟩ = some (.bool ((P.pg i).live j))
  ne : q ≠ k ∧ q ≠ c ∧ q ≠ l ∧ k ≠ c ∧ k ≠ l ∧ c ≠ l
  n1 : 1 ≤ P.n
  n24 : P.n ≤ 24
theorem RRep.only {w w' : World} {q k c l : Nat} {P : Pl} {F : List Nat} (h : RRep w q k c l P) (o : Only F w w') (h1 : q ∉ F) (h2 : k ∉ F) (h3 : c ∉ F) (h4 : l ∉ F) : RRep w' q k c l P :=
  ⟨by obtain ⟨T, c1, c2, c3, r⟩ := h.hq; exact ⟨T, c1, c2, c3, o.row r h1⟩, h.rk.imp fun _ x => x.imp fun _ y => o.row y h2, h.rc.imp fun _ x => x.imp fun _ y => o.row y h3, h.rl.imp fun _ x => x.imp fun _ y => o.row y h4,
   fun i hi => o.cell (h.kind i hi) h2, fun i hi j hj => o.cell (h.cells i hi j hj) h3, fun i hi j hj => o.cell (h.live i hi j hj) h4, h.ne, h.n1, h.n24⟩
theorem RRep.drewTo {w w' : World} {q k c l : Nat} {P : Pl} (h : RRep w q k c l P) (d : Drew w w') : RRep w' q k c l P := h.only (d.only []) (by simp) (by simp) (by simp) (by simp)
theorem RRep.facts {w : World} {q k c l : Nat} {P : Pl} (h : RRep w q k c l P) : ∃ c1 c2 c3, w.cell? ⟨q, 0, none⟩ = some (.slice (some ⟨k, 0, none⟩) P.n c1) ∧ w.cell? ⟨q, 1, none⟩ = some (.slice (some ⟨c, 0, none⟩) (P.n * 16) c2) ∧ w.cell? ⟨q, 2, none⟩ = some (.slice (some ⟨l, 0, none⟩) (P.n * 16) c3) ∧
    (∀ i, w.frozen? ⟨k, i, none⟩ = false) ∧ (∀ i, w.frozen? ⟨c, i, none⟩ = false) ∧ (∀ i, w.frozen? ⟨l, i, none⟩ = false) ∧ (q < w.heap.size ∧ k < w.heap.size ∧ c < w.heap.size ∧ l < w.heap.size) := by
  obtain ⟨⟨T, c1, c2, c3, hq⟩, ⟨_, _, hk⟩, ⟨_, _, hc⟩, ⟨_, _, hl⟩, _⟩ := h
  exact ⟨c1, c2, c3, hq.cell 0 rfl, hq.cell 1 rfl, hq.cell 2 rfl, hk.free, hc.free, hl.free, hq.lt, hk.lt, hc.lt, hl.lt⟩
/-- A row of cells, one of which is set: what every cell holds behind it. -/
theorem set_at {w : World} {b x y : Nat} {v u : Value} (h : w.cell? ⟨b, y, none⟩ = some u) : (w.setCell ⟨b, x, none⟩ v).cell? ⟨b, y, none⟩ = some (if y = x then v else u) := by
  by_cases e : y = x
  · subst e
    rw [if_pos rfl]
    exact World.cell?_setCell_same _ _ _ h
  · rw [if_neg e, World.cell?_setCell_other _ _ _ _ (fun h2 => by injection h2 with _ h3 _; omega)]
    exact h
theorem RRep.setKind {w : World} {q k c l : Nat} {P : Pl} (h : RRep w q k c l P) {i : Nat} (hi : i < P.n) (v : Int) (hl : ∀ j, j < 16 → ({ P.pg i with cls := v } : Pg).live j = (P.pg i).live j) :
    RRep (w.setCell ⟨k, i, none⟩ (.int .i64 v)) q k c l (P.set i { P.pg i with cls := v }) := by
  have o : Only [k] w (w.setCell ⟨k, i, none⟩ (.int .i64 v)) := (Only.refl _ _).set (by simp) _
  obtain ⟨n1, n2, n3, n4, n5, n6⟩ := h.ne
  refine ⟨?_, ?_, h.rc.imp fun _ x => x.imp fun _ y => o.row y (by simpa using n4.symm), h.rl.imp fun _ x => x.imp fun _ y => o.row y (by simpa using n5.symm), fun x hx => ?_, fun x hx j hj => ?_, fun x hx j hj => ?_, h.ne, h.n1, h.n24⟩
  · obtain ⟨T, c1, c2, c3, r⟩ := h.hq; exact ⟨T, c1, c2, c3, o.row r (by simpa using n1)⟩
  · obtain ⟨T, cs, r⟩ := h.rk; exact ⟨T, _, r.set _ _⟩
  · rw [set_at (h.kind x hx)]
    by_cases e : x = i
    · subst e; rw [if_pos rfl, Pl.set_same]
    · rw [if_neg e, Pl.set_other _ _ e]
  · rw [o.cell (h.cells x hx j hj) (by simpa using n4.symm)]
    by_cases e : x = i
    · subst e; rw [Pl.set_same]
    · rw [Pl.set_other _ _ e]
  · rw [o.cell (h.live x hx j hj) (by simpa using n5.symm)]
    by_cases e : x = i
    · subst e; rw [Pl.set_same, hl j hj]
    · rw [Pl.set_other _ _ e]
theorem RRep.setLive {w : World} {q k c l : Nat} {P : Pl} (h : RRep w q k c l P) {i j : Nat} (hi : i < P.n) (hj : j < 16) (v : Bool) (u : Nat → Bool) (hl : ∀ x, x < 16 → ({ P.pg i with used := u } : Pg).live x = if x = j then v else (P.pg i).live x) :
    RRep (w.setCell ⟨l, i * 16 + j, none⟩ (.bool v)) q k c l (P.set i { P.pg i with used := u }) := by
  have o : Only [l] w (w.setCell ⟨l, i * 16 + j, none⟩ (.bool v)) := (Only.refl _ _).set (by simp) _
  obtain ⟨n1, n2, n3, n4, n5, n6⟩ := h.ne
  refine ⟨?_, h.rk.imp fun _ x => x.imp fun _ y => o.row y (by simpa using n5), h.rc.imp fun _ x => x.imp fun _ y => o.row y (by simpa using n6), ?_, fun x hx => ?_, fun x hx y hy => ?_, fun x hx y hy => ?_, h.ne, h.n1, h.n24⟩
  · obtain ⟨T, c1, c2, c3, r⟩ := h.hq; exact ⟨T, c1, c2, c3, o.row r (by simpa using n3)⟩
  · obtain ⟨T, cs, r⟩ := h.rl; exact ⟨T, _, r.set _ _⟩
  · rw [o.cell (h.kind x hx) (by simpa using n5)]
    by_cases e : x = i
    · subst e; rw [Pl.set_same]
    · rw [Pl.set_other _ _ e]
  · rw [o.cell (h.cells x hx y hy) (by simpa using n6)]
    by_cases e : x = i
    · subst e; rw [Pl.set_same]
    · rw [Pl.set_other _ _ e]
  · rw [set_at (h.live x hx y hy)]
    by_cases e : x = i
    · subst e
      rw [Pl.set_same, hl y hy]
      by_cases e2 : y = j
      · rw [if_pos (by omega), if_pos e2]
      · rw [if_neg (by omega), if_neg e2]
    · rw [Pl.set_other _ _ e, if_neg (by omega)]
theorem RRep.setCell {w : World} {q k c l : Nat} {P : Pl} (h : RRep w q k c l P) {i j : Nat} (hi : i < P.n) (hj : j < 16) (v : Int) :
    RRep (w.setCell ⟨c, i * 16 + j, none⟩ (.int .i64 v)) q k c l (P.set i { P.pg i with cell := up (P.pg i).cell j v }) := by
  have o : Only [c] w (w.setCell ⟨c, i * 16 + j, none⟩ (.int .i64 v)) := (Only.refl _ _).set (by simp) _
  obtain ⟨n1, n2, n3, n4, n5, n6⟩ := h.ne
  refine ⟨?_, h.rk.imp fun _ x => x.imp fun _ y => o.row y (by simpa using n4), ?_, h.rl.imp fun _ x => x.imp fun _ y => o.row y (by simpa using n6.symm), fun x hx => ?_, fun x hx y hy => ?_, fun x hx y hy => ?_, h.ne, h.n1, h.n24⟩
  · obtain ⟨T, c1, c2, c3, r⟩ := h.hq; exact ⟨T, c1, c2, c3, o.row r (by simpa using n2)⟩
  · obtain ⟨T, cs, r⟩ := h.rc; exact ⟨T, _, r.set _ _⟩
  · rw [o.cell (h.kind x hx) (by simpa using n4)]
    by_cases e : x = i
    · subst e; rw [Pl.set_same]
    · rw [Pl.set_other _ _ e]
  · rw [set_at (h.cells x hx y hy)]
    by_cases e : x = i
    · subst e
      rw [Pl.set_same]
      show _ = some (Value.int .i64 (up _ _ _ _))
      by_cases e2 : y = j
      · subst e2; rw [if_pos rfl, up_same]
      · rw [if_neg (by omega), up_other _ _ e2]
    · rw [Pl.set_other _ _ e, if_neg (by omega)]
  · rw [o.cell (h.live x hx y hy) (by simpa using n6.symm)]
    by_cases e : x = i
    · subst e; rw [Pl.set_same]; rfl
    · rw [Pl.set_other _ _ e]

theorem Pg.live_free {p : Pg} (h : p.cls = -1) (j : Nat) : p.live j = false := by simp [Pg.live, h]
theorem Pg.live_at {p : Pg} (h : IsC p.cls) (k : Nat) : p.live (k * bsz p.cls) = p.used k := by
  have h1 : p.cls ≠ -1 := by rcases h with e | e | e <;> omega
  simp [Pg.live, h1, (h.mul_div k).1]
theorem Pg.live_iff {p : Pg} (h : IsC p.cls) (j : Nat) : p.live j = true ↔ j = j / bsz p.cls * bsz p.cls ∧ p.used (j / bsz p.cls) = true := by
  have h1 : p.cls ≠ -1 := by rcases h with e | e | e <;> omega
  have h2 := h.facts
  simp only [Pg.live, Bool.and_eq_true, decide_eq_true_eq]
  constructor
  · rintro ⟨⟨_, h3⟩, h4⟩
    exact ⟨by rcases h2 with ⟨e, _⟩ | ⟨e, _⟩ | ⟨e, _⟩ <;> (rw [e] at h3 ⊢; omega), h4⟩
  · rintro ⟨h3, h4⟩
    exact ⟨⟨h1, by rcases h2 with ⟨e, _⟩ | ⟨e, _⟩ | ⟨e, _⟩ <;> (rw [e] at h3 ⊢; omega)⟩, h4⟩
theorem Pg.live_up {p : Pg} (h : IsC p.cls) (k : Nat) (v : Bool) (x : Nat) : ({ p with used := up p.used k v } : Pg).live x = if x = k * bsz p.cls then v else p.live x := by
  have h1 : p.cls ≠ -1 := by rcases h with e | e | e <;> omega
  by_cases e : x = k * bsz p.cls
  · subst e
    rw [if_pos rfl]
    have := Pg.live_at (p := { p with used := up p.used k v }) h k
    rw [this]
    exact up_same _ _ _
  · rw [if_neg e]
    unfold Pg.live
    by_cases hm : x % bsz p.cls = 0
    · have : x / bsz p.cls ≠ k := by
        intro h2
        apply e
        rw [← h2]
        have h3 := h.facts
        rcases h3 with ⟨e, _⟩ | ⟨e, _⟩ | ⟨e, _⟩ <;> (rw [e] at hm ⊢; omega)
      show (decide (p.cls ≠ -1) && decide (x % bsz p.cls = 0) && up p.used k v (x / bsz p.cls)) = _
      rw [up_other _ _ this]
    · simp [hm]
theorem cnt_step (u : Nat → Bool) (k : Nat) : cnt u (k + 1) = cnt u k + if u k then 1 else 0 := rfl
/-- What holds of a page within a step. -/
def Pg.okw (p : Pg) : Prop := (p.cls = -1 ∧ ∀ k, p.used k = false) ∨ (IsC p.cls ∧ ∀ k, bpt p.cls ≤ k → p.used k = false)
theorem Pg.ok.w {p : Pg} (h : p.ok) : p.okw := by
  rcases h.cls with hc | hc
  · exact .inl ⟨hc, h.free hc⟩
  · exact .inr ⟨hc, h.high (by rcases hc with e | e | e <;> omega)⟩
theorem Pg.live_cnt {p : Pg} (h : p.okw) : cnt p.live 16 = p.count := by
  rcases h with ⟨hc, hf⟩ | ⟨hc, hh⟩
  · rw [show p.count = 0 from cnt_zero fun j _ => hf j]
    exact cnt_zero fun j _ => Pg.live_free hc j
  · have hne : p.cls ≠ -1 := by rcases hc with e | e | e <;> omega
    rw [show p.count = cnt p.used (bpt p.cls) from cnt_more hc.sz.2.2.2 fun j h1 _ => hh j h1]
    have hl : ∀ k, p.live (k * bsz p.cls) = p.used k := Pg.live_at hc
    have hz : ∀ j, j % bsz p.cls ≠ 0 → p.live j = false := fun j hj => by simp [Pg.live, hj]
    rcases hc.facts with ⟨e1, e2⟩ | ⟨e1, e2⟩ | ⟨e1, e2⟩
    · rw [e1] at hl hz
      rw [e2]
      have a0 := hl 0; have a1 := hl 1; have a2 := hl 2; have a3 := hl 3; have a4 := hl 4; have a5 := hl 5; have a6 := hl 6; have a7 := hl 7
      simp only [Nat.zero_mul, Nat.one_mul, Nat.reduceMul] at a0 a1 a2 a3 a4 a5 a6 a7
      simp only [cnt, a0, a1, a2, a3, a4, a5, a6, a7, hz 1 (by decide), hz 3 (by decide), hz 5 (by decide), hz 7 (by decide), hz 9 (by decide), hz 11 (by decide), hz 13 (by decide), hz 15 (by decide)]
      simp
    · rw [e1] at hl hz
      rw [e2]
      have a0 := hl 0; have a1 := hl 1; have a2 := hl 2; have a3 := hl 3
      simp only [Nat.zero_mul, Nat.one_mul, Nat.reduceMul] at a0 a1 a2 a3
      simp only [cnt, a0, a1, a2, a3, hz 1 (by decide), hz 2 (by decide), hz 3 (by decide), hz 5 (by decide), hz 6 (by decide), hz 7 (by decide), hz 9 (by decide), hz 10 (by decide), hz 11 (by decide), hz 13 (by decide), hz 14 (by decide), hz 15 (by decide)]
      simp
    · rw [e1] at hl hz
      rw [e2]
      have a0 := hl 0; have a1 := hl 1
      simp only [Nat.zero_mul, Nat.one_mul] at a0 a1
      simp only [cnt, a0, a1, hz 1 (by decide), hz 2 (by decide), hz 3 (by decide), hz 4 (by decide), hz 5 (by decide), hz 6 (by decide), hz 7 (by decide), hz 9 (by decide), hz 10 (by decide), hz 11 (by decide), hz 12 (by decide), hz 13 (by decide), hz 14 (by decide), hz 15 (by decide)]
      simp

theorem cut_of (w : World) (c : Int) (h : IsC c) : Calls Try.prog 16 #[.int .i64 c] w (Exact w (.int .i64 (bsz c))) := by
  refine calls_abs fun R hR => ?_
  have hb : Hid (∀ k : Nat, k ≤ 2 → bsz (k : Int) = 2 * 2 ^ k) := fun k _ => rfl
  obtain ⟨C, rfl, hC⟩ : ∃ C : Nat, c = C ∧ C ≤ 2 := ⟨c.toNat, by rcases h with e | e | e <;> omega, by rcases h with e | e | e <;> omega⟩
  go_enter Try.func16, Try.ntmps16
  go_wp2_with fail
  go_loop [3, 4] (fun n i => ∃ k : Nat, k ≤ C ∧ i = .int .i64 k ∧ n = .int .i64 (bsz (k : Int) : Nat)) (fun _ i => C - (intOf i).toNat)
  case atStart => exact ⟨0, by omega, rfl, rfl⟩
  case round =>
    obtain ⟨k, hk, rfl, rfl⟩ := hrel
    by_cases hlt : k < C
    · have hs : Hid (bsz ((k + 1 : Nat) : Int) = 2 * bsz (k : Int)) := by show _ = _; rw [hb.out _ (by omega), hb.out _ (by omega), Nat.pow_succ]; omega
      have h8 : bsz (k : Int) ≤ 8 := by
        have h01 : k = 0 ∨ k = 1 := by omega
        rcases h01 with rfl | rfl <;> decide
      go_wp2_with fail
      go_round
      case rel => exact ⟨k + 1, by omega, by go_num, by rw [hs.out]; go_num⟩
      case measure => simp [intOf]; omega
    · obtain rfl : k = C := by omega
      go_wp2_with fail
      exact hR.out _ _ ⟨rfl, rfl⟩

theorem rcount_of (w : World) (q k c l : Nat) (P : Pl) (h : RRep w q k c l P) (i : Nat) (hi : i < P.n) (hok : (P.pg i).okw) :
    Calls Try.prog 65 #[.pointer (some ⟨q, 0, none⟩), .int .i64 i] w (Exact w (.int .i64 (P.pg i).count)) := by
  refine calls_abs fun R hR => ?_
  obtain ⟨c1, c2, c3, z0, z1, z2, _⟩ := h.facts
  have h24 := h.n24
  have H := Lib.hid h
  have HL := Lib.hid (Pg.live_cnt hok)
  clear h hok
  go_enter Try.func65, Try.ntmps65
  go_wp2_with fail
  go_loop [5, 6] (fun n j => ∃ x : Nat, x ≤ 16 ∧ j = .int .i64 x ∧ n = .int .i64 (cnt (P.pg i).live x)) (fun _ j => 16 - (intOf j).toNat)
  case atStart => exact ⟨0, by omega, rfl, rfl⟩
  case round =>
    obtain ⟨x, hx, rfl, rfl⟩ := hrel
    by_cases hlt : x < 16
    · have hcell := H.out.live i hi x hlt
      have hle := cnt_le (P.pg i).live x
      have hs : Hid (cnt (P.pg i).live (x + 1) = cnt (P.pg i).live x + if (P.pg i).live x then 1 else 0) := rfl
      have hidx : ((i : Int) * 16 + (x : Int)).toNat = i * 16 + x := by omega
      cases hu : (P.pg i).live x <;> (rw [hu] at hcell; rw [hu] at hs) <;> (
        go_wp2_with fail
        go_round
        case rel => exact ⟨x + 1, by omega, by go_num, by rw [hs.out]; go_num⟩
        case measure => simp [intOf]; omega)
    · obtain rfl : x = 16 := by omega
      go_wp2_with fail
      exact hR.out _ _ ⟨by rw [← HL.out], rfl⟩
end Go.Proofs.Ytngmiacekcmidaa
