/- Lemmas of this claim. -/
import Derived.Test.YthflghdaejbdkaaRows
import Derived.Test.YthflghdaejbdkaaKLib
import Derived.Test.YthflghdaejbdkaaKBModel
import Derived.IntWalk
namespace Go.Proofs.Ythflghdaejbdkaa
open Go.RowKit
set_option maxHeartbeats 400000
set_option maxRecDepth 100000
set_option linter.unusedVariables false
def Pg.at (p : Pg) (r : Nat) : Value := if r = 0 then .int .i64 p.cls else if r < 9 then .bool (p.used (r - 1)) else .int .i64 (p.cell (r - 9))
def Pg.row (p : Pg) : List Value := (List.range 25).map p.at
def PgAt (w : World) (b o : Nat) (p : Pg) : Prop := ∀ r, r < 25 → w.cell? ⟨b, o + r, none⟩ = some (p.at r)
theorem PgAt.cls {w : World} {b o : Nat} {p : Pg} (h : PgAt w b o p) : w.cell? ⟨b, o, none⟩ = some (.int .i64 p.cls) := h 0 (by decide)
theorem PgAt.used {w : World} {b o : Nat} {p : Pg} (h : PgAt w b o p) {k : Nat} (hk : k < 8) : w.cell? ⟨b, o + 1 + k, none⟩ = some (.bool (p.used k)) := by
  have := h (1 + k) (by omega)
  rw [← Nat.add_assoc] at this
  rw [this, Pg.at, if_neg (by omega), if_pos (by omega), Nat.add_sub_cancel_left]
theorem PgAt.cell {w : World} {b o : Nat} {p : Pg} (h : PgAt w b o p) {k : Nat} (hk : k < 16) : w.cell? ⟨b, o + 9 + k, none⟩ = some (.int .i64 (p.cell k)) := by
  have := h (9 + k) (by omega)
  rw [← Nat.add_assoc] at this
  rw [this, Pg.at, if_neg (by omega), if_neg (by omega), Nat.add_sub_cancel_left]
theorem PgAt.only {w w' : World} {b o : Nat} {p : Pg} {F : List Nat} (h : PgAt w b o p) (hF : Only F w w') (hb : b ∉ F) : PgAt w' b o p := fun r hr => hF.cell (h r hr) hb
theorem PgAt.set {w : World} {b o : Nat} {p : Pg} (h : PgAt w b o p) (r : Nat) (v : Value) (q : Pg) (hr : r < 25) (hv : q.at r = v) (ho : ∀ s, s < 25 → s ≠ r → q.at s = p.at s) :
    PgAt (w.setCell ⟨b, o + r, none⟩ v) b o q := by
  intro s hs
  by_cases e : s = r
  · subst e
    rw [hv]
    exact World.cell?_setCell_same _ _ _ (h s hs)
  · rw [World.cell?_setCell_other _ _ _ _ (fun h2 => by injection h2 with _ h3 _; omega), ho s hs e]
    exact h s hs
theorem PgAt.other {w : World} {b o : Nat} {p : Pg} (h : PgAt w b o p) {a : Addr} (v : Value) (ha : a.block = b → a.spot = none → a.off < o ∨ o + 25 ≤ a.off) : PgAt (w.setCell a v) b o p := by
  intro s hs
  rw [World.cell?_setCell_other _ _ _ _ (by
    intro e
    have := ha (by rw [e]) (by rw [e])
    rw [e] at this
    simp at this
    omega)]
  exact h s hs
theorem range_map_at {α : Type} {f : Nat → α} {n j : Nat} {v : α} (h : ((List.range n).map f)[j]? = some v) : j < n ∧ v = f j := by
  have hj : j < n := by have := (List.getElem?_eq_some_iff.1 h).1; simpa using this
  rw [List.getElem?_map, List.getElem?_range hj] at h
  simp at h
  exact ⟨hj, h.symm⟩
theorem Pg.row_at {p : Pg} {j : Nat} {v : Value} (h : p.row[j]? = some v) : j < 25 ∧ v = p.at j := range_map_at h
theorem PgAt.row {w : World} {b o : Nat} {p : Pg} (h : PgAt w b o p) : ∀ j v, p.row[j]? = some v → w.cell? ⟨b, o + j, none⟩ = some v := by
  intro j v hv
  obtain ⟨h1, rfl⟩ := Pg.row_at hv
  exact h j h1
def usedRow (p : Pg) : List Value := (List.range 8).map fun k => .bool (p.used k)
theorem used_at {p : Pg} {j : Nat} {v : Value} (h : (usedRow p)[j]? = some v) : j < 8 ∧ v = .bool (p.used j) := range_map_at h
theorem run_index_used (w : World) (p : Pg) (k : Nat) (hk : k < 8) : (Instr.index 129 (.agg (usedRow p).toArray) (.int .i64 k)).run Try.prog w = .ok (.bool (p.used k)) w :=
  run_index_agg w 129 4 8 _ k _ Try.underlying129 .bool Try.underlying4 rfl (by kernel_rfl) hk (by simp [usedRow, hk])
theorem count_of (w : World) (b o : Nat) (p : Pg) (h : PgAt w b o p) : Calls Try.prog 93 #[.pointer (some ⟨b, o, none⟩)] w (Exact w (.int .i64 p.count)) := by
  refine calls_abs fun R hR => ?_
  have H := Lib.hid h
  clear h
  go_enter Try.func93, Try.ntmps93
  go_wp2_with (refine wpList_load_agg rfl 129 _ rfl b (o + 1) rfl (usedRow p) _ Try.underlying129 rfl (by kernel_rfl) (fun j v hv => ?c1) ?_)
  case c1 =>
    obtain ⟨h1, rfl⟩ := used_at hv
    exact H.out.used h1
  go_loop [3, 10] (fun n i => ∃ k : Nat, k ≤ 8 ∧ i = .int .i64 k ∧ n = .int .i64 (cnt p.used k)) (fun _ i => 8 - (intOf i).toNat)
  case atStart => exact ⟨0, by omega, rfl, rfl⟩
  case round =>
    obtain ⟨k, hk, rfl, rfl⟩ := hrel
    by_cases hlt : k < 8
    · have hix := fun wx => run_index_used wx p k hlt
      have hle := cnt_le p.used k
      have hs : Hid (cnt p.used (k + 1) = cnt p.used k + if p.used k then 1 else 0) := rfl
      cases hu : p.used k <;> (rw [hu] at hix; rw [hu] at hs) <;> (
        go_wp2_with fail
        go_round
        case rel => exact ⟨k + 1, by omega, by go_num, by rw [hs.out]; go_num⟩
        case measure => simp [intOf]; omega)
    · obtain rfl : k = 8 := by omega
      go_wp2_with fail
      exact hR.out _ _ ⟨rfl, rfl⟩
theorem size_of (w : World) (c : Int) (h : IsC c) : Calls Try.prog 84 #[.int .i64 c] w (Exact w (.int .i64 (bsz c))) := by
  refine calls_abs fun R hR => ?_
  rcases h with rfl | rfl | rfl <;>
  (go_enter Try.func84, Try.ntmps84
   go_wp2_with fail
   exact hR.out _ _ ⟨rfl, rfl⟩)
theorem parts_of (w : World) (c : Int) (h : IsC c) : Calls Try.prog 94 #[.int .i64 c] w (Exact w (.int .i64 (bpt c))) := by
  refine calls_abs fun R hR => ?_
  have hs := h.facts
  go_enter Try.func94, Try.ntmps94
  go_wp2_with fail
  refine (size_of _ _ h).mono ?_
  rintro e _ ⟨rfl, rfl⟩
  rcases hs with ⟨h1, h2⟩ | ⟨h1, h2⟩ | ⟨h1, h2⟩ <;>
  (rw [h1]
   have H2 := Lib.hid h2
   clear h1 h2
   go_wp2_with fail
   exact hR.out _ _ ⟨by rw [H2.out]; rfl, rfl⟩)
theorem partly_of (w : World) (b o : Nat) (p : Pg) (h : PgAt w b o p) (c : Int) (hc : IsC c) : Calls Try.prog 81 #[.pointer (some ⟨b, o, none⟩), .int .i64 c] w (Exact w (.bool (p.partly c))) := by
  refine calls_abs fun R hR => ?_
  have H := Lib.hid h
  have h0 := h.cls
  have hp : Hid (p.partly c = (p.cls == c && decide (p.count < bpt c))) := rfl
  clear h
  cases he : (p.cls == c)
  · go_enter Try.func81, Try.ntmps81
    go_wp2_with fail
    exact hR.out _ _ ⟨by rw [hp.out, he]; rfl, rfl⟩
  · go_enter Try.func81, Try.ntmps81
    go_wp2_with fail
    refine (count_of _ _ _ _ H.out).mono ?_
    rintro e _ ⟨rfl, rfl⟩
    go_wp2_with fail
    refine (parts_of _ _ hc).mono ?_
    rintro e _ ⟨rfl, rfl⟩
    go_wp2_with fail
    all_goals (refine hR.out _ _ ⟨?_, rfl⟩; rw [hp.out, he]; simp)
theorem index_bool (w : World) (b o n cap : Nat) (u : Nat → Bool) (hn : n ≤ 64) (hc : ∀ k, k < n → w.cell? ⟨b, o + k, none⟩ = some (.bool (u k))) (x : Bool) :
    Calls Try.prog 95 #[.slice (some ⟨b, o, none⟩) n cap, .bool x] w (Exact w (.int .i64 (idx (fun k => u k == x) n))) := by
  refine calls_abs fun R hR => ?_
  have H := Lib.hid hc
  clear hc
  go_enter Try.func95, Try.ntmps95
  go_wp2_with fail
  go_loop [8] (fun i => ∃ k : Nat, k ≤ n ∧ i = .int .i64 k ∧ Hid (∀ j, j < k → (u j == x) = false)) (fun i => n - (intOf i).toNat)
  case atStart => exact ⟨0, by omega, rfl, fun j hj => by omega⟩
  case round =>
    obtain ⟨k, hk, rfl, hf⟩ := hrel
    by_cases hlt : k < n
    · have hcell := H.out k hlt
      cases hu : (u k == x)
      · have hu' : (x == u k) = false := by rw [← hu]; cases x <;> cases u k <;> rfl
        go_wp2_with fail
        go_round
        case rel => exact ⟨k + 1, by omega, by go_num, fun j hj => by
          by_cases e : j = k
          · rw [e]; exact hu
          · exact hf.out j (by omega)⟩
        case measure => simp [intOf]; omega
      · have hu' : (x == u k) = true := by rw [← hu]; cases x <;> cases u k <;> rfl
        go_wp2_with fail
        refine hR.out _ _ ⟨?_, rfl⟩
        have e1 := fst_eq (f := fun k => u k == x) hlt hu hf.out
        rw [idx_yes (by rw [e1]; exact hlt), e1]
    · obtain rfl : k = n := by omega
      go_wp2_with fail
      refine hR.out _ _ ⟨?_, rfl⟩
      rw [idx_no (by rw [fst_none (f := fun k => u k == x) hf.out]; omega)]
end Go.Proofs.Ythflghdaejbdkaa
namespace Go.Proofs.Ythflghdaejbdkaa
open Go.RowKit
set_option maxHeartbeats 400000
set_option maxRecDepth 100000
set_option linter.unusedVariables false
theorem PgAt.drewN {w : World} {b o : Nat} {p : Pg} (h : PgAt w b o p) (n : Nat) : PgAt (w.drewN n) b o p := h
theorem first_of (w : World) (b o : Nat) (p : Pg) (h : PgAt w b o p) (hc : IsC p.cls) (x : Bool) :
    Calls Try.prog 83 #[.pointer (some ⟨b, o, none⟩), .bool x] w fun e w' =>
      e = .returned (.int .i64 (idx (fun k => p.used k == x) (bpt p.cls))) ∧ ∃ n, w' = w.drewN n := by
  refine calls_abs fun R hR => ?_
  have H := Lib.hid h
  have h0 := h.cls
  have hsz := hc.sz
  have hb8 : bpt p.cls ≤ 8 := by omega
  have hb9 : (bpt p.cls : Int) ≤ 8 := by omega
  have hb0 : (0 : Int) ≤ bpt p.cls := by omega
  clear h hsz
  go_enter Try.func83, Try.ntmps83
  go_wp2_with fail
  go_quiet (first | (go_at_call 94; exact quiet_exact (parts_of _ _ hc)) | (go_at_call 95; exact quiet_exact (index_bool _ b (o + 1) (bpt p.cls) _ p.used (by omega) (fun k hk => (H.out.drewN _).used (by omega)) x)))
  go_wp2_with fail
  exact hR.out _ _ ⟨rfl, _, rfl⟩
theorem first_gap (w : World) (b o : Nat) (p : Pg) (h : PgAt w b o p) (hc : IsC p.cls) (hg : p.gap p.cls < bpt p.cls) :
    Calls Try.prog 83 #[.pointer (some ⟨b, o, none⟩), .bool false] w fun e w' => e = .returned (.int .i64 (p.gap p.cls)) ∧ ∃ n, w' = w.drewN n := by
  refine (first_of w b o p h hc false).mono ?_
  rintro e w' ⟨rfl, hn⟩
  refine ⟨?_, hn⟩
  have e1 : fst (fun k => p.used k == false) (bpt p.cls) = p.gap p.cls := fst_congr fun j _ => by cases p.used j <;> rfl
  rw [idx_yes (by rw [e1]; exact hg), e1]
theorem Pg.at_used (p : Pg) (k : Nat) (hk : k < 8) : p.at (1 + k) = .bool (p.used k) := by rw [Pg.at, if_neg (by omega), if_pos (by omega), Nat.add_sub_cancel_left]
theorem Pg.at_cell (p : Pg) (k : Nat) : p.at (9 + k) = .int .i64 (p.cell k) := by rw [Pg.at, if_neg (by omega), if_neg (by omega), Nat.add_sub_cancel_left]
theorem Pg.at_eq {p q : Pg} {s : Nat} (h0 : s = 0 → p.cls = q.cls) (h1 : 1 ≤ s → s < 9 → p.used (s - 1) = q.used (s - 1)) (h2 : 9 ≤ s → p.cell (s - 9) = q.cell (s - 9)) : p.at s = q.at s := by
  unfold Pg.at
  by_cases e0 : s = 0
  · rw [if_pos e0, if_pos e0, h0 e0]
  · rw [if_neg e0, if_neg e0]
    by_cases e1 : s < 9
    · rw [if_pos e1, if_pos e1, h1 (by omega) e1]
    · rw [if_neg e1, if_neg e1, h2 (by omega)]
theorem PgAt.setUsed {w : World} {b o : Nat} {p : Pg} (h : PgAt w b o p) {k : Nat} (hk : k < 8) (v : Bool) : PgAt (w.setCell ⟨b, o + 1 + k, none⟩ (.bool v)) b o { p with used := up p.used k v } := by
  rw [Nat.add_assoc]
  refine h.set (1 + k) _ _ (by omega) (by rw [Pg.at_used _ _ hk]; show Value.bool (up p.used k v k) = _; rw [up_same]) fun s hs hne => Pg.at_eq (fun _ => rfl) (fun h1 h2 => up_other _ _ (by omega)) (fun _ => rfl)
theorem PgAt.setCls {w : World} {b o : Nat} {p : Pg} (h : PgAt w b o p) (v : Int) : PgAt (w.setCell ⟨b, o, none⟩ (.int .i64 v)) b o { p with cls := v } :=
  h.set 0 _ _ (by omega) rfl fun s hs hne => Pg.at_eq (fun e => absurd e hne) (fun _ _ => rfl) (fun _ => rfl)
theorem PgAt.setCell {w : World} {b o : Nat} {p : Pg} (h : PgAt w b o p) {k : Nat} (hk : k < 16) (v : Int) : PgAt (w.setCell ⟨b, o + 9 + k, none⟩ (.int .i64 v)) b o { p with cell := up p.cell k v } := by
  rw [Nat.add_assoc]
  refine h.set (9 + k) _ _ (by omega) (by rw [Pg.at_cell]; show Value.int .i64 (up p.cell k v k) = _; rw [up_same]) fun s hs hne => Pg.at_eq (fun _ => rfl) (fun _ _ => rfl) (fun _ => up_other _ _ (by omega))
structure PgOnly (b o : Nat) (w w' : World) : Prop where
  only : Only [b] w w'
  row : ∀ T cs, Row w b T cs → ∃ cs', Row w' b T cs'
  cell : ∀ x, x < o ∨ o + 25 ≤ x → w'.cell? ⟨b, x, none⟩ = w.cell? ⟨b, x, none⟩
theorem PgOnly.refl (b o : Nat) (w : World) : PgOnly b o w w := ⟨Only.refl _ _, fun _ cs h => ⟨cs, h⟩, fun _ _ => rfl⟩
theorem PgOnly.set {b o : Nat} {w w' : World} (h : PgOnly b o w w') (r : Nat) (hr : r < 25) (v : Value) : PgOnly b o w (w'.setCell ⟨b, o + r, none⟩ v) :=
  ⟨h.only.set (by simp) _, fun T cs hc => by obtain ⟨cs', h1⟩ := h.row T cs hc; exact ⟨_, h1.set _ _⟩, fun x hx => by
    rw [World.cell?_setCell_other _ _ _ _ (fun h2 => by injection h2 with _ h3 _; omega)]; exact h.cell x hx⟩
theorem PgOnly.setU {b o : Nat} {w w' : World} (h : PgOnly b o w w') {k : Nat} (hr : k < 8) (v : Value) : PgOnly b o w (w'.setCell ⟨b, o + 1 + k, none⟩ v) := by rw [Nat.add_assoc]; exact h.set _ (by omega) v
theorem PgOnly.drewN {b o : Nat} {w w' : World} (h : PgOnly b o w w') (n : Nat) : PgOnly b o w (w'.drewN n) := ⟨h.only.drewN n, h.row, h.cell⟩
end Go.Proofs.Ythflghdaejbdkaa
namespace Go.Proofs.Ythflghdaejbdkaa
open Go.RowKit
set_option maxHeartbeats 400000
set_option maxRecDepth 100000
set_option linter.unusedVariables false
structure PRep (w : World) (p b : Nat) (P : Pl) : Prop where
  hp : ∃ T cap, Row w p T [.slice (some ⟨b, 0, none⟩) P.n cap]
  hb : ∃ T cs, Row w b T cs
  pg : ∀ i, i < P.n → PgAt w b (i * 25) (P.pg i)
  ne : p ≠ b
  n1 : 1 ≤ P.n
  n24 : P.n ≤ 24
  ok : P.ok
theorem PRep.only {w w' : World} {p b : Nat} {P : Pl} {F : List Nat} (h : PRep w p b P) (k : Only F w w') (h1 : p ∉ F) (h2 : b ∉ F) : PRep w' p b P :=
  ⟨h.hp.imp fun _ x => x.imp fun _ y => k.row y h1, h.hb.imp fun _ x => x.imp fun _ y => k.row y h2, fun i hi => (h.pg i hi).only k h2, h.ne, h.n1, h.n24, h.ok⟩
theorem PRep.drewN {w : World} {p b : Nat} {P : Pl} (h : PRep w p b P) (n : Nat) : PRep (w.drewN n) p b P := h.only ((Only.refl [] w).drewN n) (by simp) (by simp)
theorem PRep.facts {w : World} {p b : Nat} {P : Pl} (h : PRep w p b P) : ∃ cap, w.cell? ⟨p, 0, none⟩ = some (.slice (some ⟨b, 0, none⟩) P.n cap) ∧ w.frozen? ⟨p, 0, none⟩ = false ∧ (∀ i, w.frozen? ⟨b, i, none⟩ = false) ∧ p < w.heap.size ∧ b < w.heap.size := by
  obtain ⟨⟨T, cap, hp⟩, ⟨T', cs, hb⟩, _⟩ := h
  exact ⟨cap, hp.cell 0 rfl, hp.free 0, hb.free, hp.lt, hb.lt⟩
theorem PRep.turn {w w' : World} {p b : Nat} {P : Pl} (h : PRep w p b P) {i : Nat} (hi : i < P.n) {x : Pg} (hx : PgAt w' b (i * 25) x) (k : PgOnly b (i * 25) w w') (ok : (P.set i x).ok) : PRep w' p b (P.set i x) := by
  refine ⟨h.hp.imp fun _ y => y.imp fun _ z => k.only.row z (by simpa using h.ne), h.hb.imp fun T y => by obtain ⟨cs, hc⟩ := y; exact k.row T cs hc, fun j hj => ?_, h.ne, h.n1, h.n24, ok⟩
  by_cases e : j = i
  · subst e; rw [Pl.set_same]; exact hx
  · rw [Pl.set_other _ _ e]
    intro r hr
    rw [k.cell _ (by omega)]
    exact h.pg j hj r hr
theorem none_rep (w : World) (p b : Nat) (P : Pl) (h : PRep w p b P) : Calls Try.prog 76 #[.pointer (some ⟨p, 0, none⟩)] w (Exact w (.bool false)) := by
  refine calls_abs fun R hR => ?_
  obtain ⟨cap, h0, hf, _⟩ := h.facts
  have h1 := h.n1
  have h24 := h.n24
  have hn : ((P.n : Int) == 0) = false := by simp; omega
  clear h
  go_enter Try.func76, Try.ntmps76
  go_wp2_with fail
  exact hR.out _ _ ⟨rfl, rfl⟩
def isCB (c : Int) : Bool := decide (0 ≤ c) && decide (c < 3)
theorem isCB_iff {c : Int} : isCB c = true ↔ IsC c := by unfold isCB IsC; simp; omega
theorem class_rep (w : World) (p b : Nat) (P : Pl) (h : PRep w p b P) (c : Int) : Calls Try.prog 78 #[.pointer (some ⟨p, 0, none⟩), .int .i64 c] w (Exact w (.bool (isCB c))) := by
  refine calls_abs fun R hR => ?_
  have hb : Hid (isCB c = (decide (0 ≤ c) && decide (c < 3))) := rfl
  by_cases h0 : 0 ≤ c
  · go_enter Try.func78, Try.ntmps78
    go_wp2_with fail
    refine (none_rep _ _ _ _ h).mono ?_
    rintro e _ ⟨rfl, rfl⟩
    go_wp2_with fail
    exact hR.out _ _ ⟨by rw [hb.out]; simp [h0], rfl⟩
  · have h0' : decide (0 ≤ c) = false := by simpa using h0
    have H0 := Lib.hid h0
    clear h0
    go_enter Try.func78, Try.ntmps78
    go_wp2_with fail
    refine (none_rep _ _ _ _ h).mono ?_
    rintro e _ ⟨rfl, rfl⟩
    go_wp2_with fail
    exact hR.out _ _ ⟨by rw [hb.out, h0']; rfl, rfl⟩
theorem address_rep (w : World) (p b : Nat) (P : Pl) (h : PRep w p b P) (a : Int) : Calls Try.prog 88 #[.pointer (some ⟨p, 0, none⟩), .int .i64 a] w (Exact w (.bool (P.addr a))) := by
  refine calls_abs fun R hR => ?_
  obtain ⟨cap, hc, hf, _⟩ := h.facts
  have h24 := h.n24
  have hb : Hid (P.addr a = (decide (0 ≤ a) && decide (a < 16 * P.n))) := rfl
  by_cases h0 : 0 ≤ a
  · go_enter Try.func88, Try.ntmps88
    go_wp2_with fail
    refine (none_rep _ _ _ _ h).mono ?_
    rintro e _ ⟨rfl, rfl⟩
    go_wp2_with fail
    exact hR.out _ _ ⟨by rw [hb.out]; simp [h0], rfl⟩
  · have h0' : decide (0 ≤ a) = false := by simpa using h0
    have H0 := Lib.hid h0
    clear h0
    go_enter Try.func88, Try.ntmps88
    go_wp2_with fail
    refine (none_rep _ _ _ _ h).mono ?_
    rintro e _ ⟨rfl, rfl⟩
    go_wp2_with fail
    exact hR.out _ _ ⟨by rw [hb.out, h0']; rfl, rfl⟩
theorem alloc1_of (w : World) (p : Pg) (cb : Nat) (c : Int) (hc : IsC c) (hcell : w.cell? ⟨cb, 0, none⟩ = some (.int .i64 c)) :
    Calls Try.prog 80 #[.agg p.row.toArray, .pointer (some ⟨cb, 0, none⟩)] w fun e w' => e = .returned (.bool (p.partly c)) ∧ Only [] w w' := by
  refine calls_abs fun R hR => ?_
  have hlt := World.block_lt_of_cell? w _ hcell
  have hpg : PgAt (w.alloc (.cells p.row.toArray 132)) w.heap.size 0 p := by
    intro r hr
    have := (Row.new w 132 p.row).cell r (v := p.at r) (by simp [Pg.row, hr])
    simpa using this
  have HP := Lib.hid hpg
  clear hpg
  go_enter Try.func80, Try.ntmps80
  go_wp2_with fail
  refine (partly_of _ _ _ _ HP.out c hc).mono ?_
  rintro e _ ⟨rfl, rfl⟩
  go_wp2_with fail
  exact hR.out _ _ ⟨rfl, (Only.refl _ _).alloc _⟩
theorem alloc2_of (w : World) (p : Pg) :
    Calls Try.prog 82 #[.agg p.row.toArray] w fun e w' => e = .returned (.bool (decide (p.cls < 0))) ∧ Only [] w w' := by
  refine calls_abs fun R hR => ?_
  have hpg : (w.alloc (.cells p.row.toArray 132)).cell? ⟨w.heap.size, 0, none⟩ = some (.int .i64 p.cls) := (Row.new w 132 p.row).cell 0 (by rfl)
  go_enter Try.func82, Try.ntmps82
  go_wp2_with fail
  exact hR.out _ _ ⟨rfl, (Only.refl _ _).alloc _⟩
end Go.Proofs.Ythflghdaejbdkaa
namespace Go.Proofs.Ythflghdaejbdkaa
open Go.RowKit
set_option maxHeartbeats 400000
set_option maxRecDepth 100000
set_option linter.unusedVariables false
theorem indexFunc1 (w : World) (b n cap : Nat) (f : Nat → Pg) (hn : n ≤ 24) (hp : ∀ i, i < n → PgAt w b (i * 25) (f i)) (cb : Nat) (c : Int) (hc : IsC c) (hcell : w.cell? ⟨cb, 0, none⟩ = some (.int .i64 c)) :
    Calls Try.prog 79 #[.slice (some ⟨b, 0, none⟩) n cap, .func (.func 80) #[] #[.pointer (some ⟨cb, 0, none⟩)]] w fun e w' => e = .returned (.int .i64 (idx (fun i => (f i).partly c) n)) ∧ Only [] w w' := by
  refine calls_abs fun R hR => ?_
  have H := Lib.hid hp
  clear hp
  go_enter Try.func79, Try.ntmps79
  go_wp2_with fail
  go_loopw [8] (fun i wr => ∃ k : Nat, k ≤ n ∧ i = .int .i64 k ∧ Hid (∀ j, j < k → ((f j).partly c) = false) ∧ Only [] w wr) (fun i _ => n - (intOf i).toNat)
  case atStart => exact ⟨0, by omega, rfl, fun j hj => by omega, Only.refl _ _⟩
  case round =>
    obtain ⟨k, hk, rfl, hf, ho⟩ := hrel
    by_cases hlt : k < n
    · have hpg := (H.out k hlt).only ho (by simp)
      have HP := Lib.hid hpg
      clear hpg
      go_wp2_with (refine wpList_load_agg rfl 132 _ rfl b (k * 25) rfl (f k).row _ Try.underlying132 rfl (by kernel_rfl) HP.out.row ?_)
      refine (alloc1_of _ _ _ c hc (ho.cell hcell (by simp))).mono ?_
      rintro e w2 ⟨rfl, o2⟩
      have ho2 := ho.trans o2 (by simp)
      clear o2 ho HP
      cases hu : ((f k).partly c)
      · go_wp2_with fail
        refine ⟨⟨k + 1, by omega, by go_num, fun j hj => ?_, ho2⟩, by simp [intOf]; omega⟩
        by_cases e : j = k
        · rw [e]; exact hu
        · exact hf.out j (by omega)
      · go_wp2_with fail
        refine hR.out _ _ ⟨?_, ho2⟩
        have e1 := fst_eq (f := fun i => (f i).partly c) hlt hu hf.out
        rw [idx_yes (by rw [e1]; exact hlt), e1]
        rfl
    · obtain rfl : k = n := by omega
      go_wp2_with fail
      refine hR.out _ _ ⟨?_, ho⟩
      rw [idx_no (by rw [fst_none (f := fun i => (f i).partly c) hf.out]; omega)]
      rfl
theorem indexFunc2 (w : World) (b n cap : Nat) (f : Nat → Pg) (hn : n ≤ 24) (hp : ∀ i, i < n → PgAt w b (i * 25) (f i)) :
    Calls Try.prog 79 #[.slice (some ⟨b, 0, none⟩) n cap, .func (.func 82) #[] #[]] w fun e w' => e = .returned (.int .i64 (idx (fun i => decide ((f i).cls < 0)) n)) ∧ Only [] w w' := by
  refine calls_abs fun R hR => ?_
  have H := Lib.hid hp
  clear hp
  go_enter Try.func79, Try.ntmps79
  go_wp2_with fail
  go_loopw [8] (fun i wr => ∃ k : Nat, k ≤ n ∧ i = .int .i64 k ∧ Hid (∀ j, j < k → (decide ((f j).cls < 0)) = false) ∧ Only [] w wr) (fun i _ => n - (intOf i).toNat)
  case atStart => exact ⟨0, by omega, rfl, fun j hj => by omega, Only.refl _ _⟩
  case round =>
    obtain ⟨k, hk, rfl, hf, ho⟩ := hrel
    by_cases hlt : k < n
    · have hpg := (H.out k hlt).only ho (by simp)
      have HP := Lib.hid hpg
      clear hpg
      go_wp2_with (refine wpList_load_agg rfl 132 _ rfl b (k * 25) rfl (f k).row _ Try.underlying132 rfl (by kernel_rfl) HP.out.row ?_)
      refine (alloc2_of _ _).mono ?_
      rintro e w2 ⟨rfl, o2⟩
      have ho2 := ho.trans o2 (by simp)
      clear o2 ho HP
      cases hu : (decide ((f k).cls < 0))
      · go_wp2_with fail
        refine ⟨⟨k + 1, by omega, by go_num, fun j hj => ?_, ho2⟩, by simp [intOf]; omega⟩
        by_cases e : j = k
        · rw [e]; exact hu
        · exact hf.out j (by omega)
      · go_wp2_with fail
        refine hR.out _ _ ⟨?_, ho2⟩
        have e1 := fst_eq (f := fun i => decide ((f i).cls < 0)) hlt hu hf.out
        rw [idx_yes (by rw [e1]; exact hlt), e1]
        rfl
    · obtain rfl : k = n := by omega
      go_wp2_with fail
      refine hR.out _ _ ⟨?_, ho⟩
      rw [idx_no (by rw [fst_none (f := fun i => decide ((f i).cls < 0)) hf.out]; omega)]
      rfl
theorem PgAt.setCells {w : World} {b o : Nat} {p : Pg} (h : PgAt w b o p) (lo n : Nat) (hn : lo + n ≤ 16) (f : Nat → Int) :
    PgAt (w.setCells b (o + 9 + lo) ((List.range n).map fun j => Value.int .i64 (f j))) b o { p with cell := fun j => if lo ≤ j ∧ j < lo + n then f (j - lo) else p.cell j } := by
  intro s hs
  have hlen : ((List.range n).map fun j => Value.int .i64 (f j)).length = n := by simp
  by_cases hin : 9 + lo ≤ s ∧ s < 9 + lo + n
  · obtain ⟨h1, h2⟩ := hin
    have := World.cell?_setCells_in b ((List.range n).map fun j => Value.int .i64 (f j)) (o + 9 + lo) w (fun j hj => by
      rw [hlen] at hj
      have := h (9 + lo + j) (by omega)
      rw [show o + 9 + lo + j = o + (9 + lo + j) by omega, this]; rfl) (s - 9 - lo) (by rw [hlen]; omega)
    rw [show o + 9 + lo + (s - 9 - lo) = o + s by omega] at this
    rw [this]
    simp only [List.getElem_map, List.getElem_range]
    unfold Pg.at
    rw [if_neg (by omega), if_neg (by omega)]
    simp only []
    rw [if_pos (by omega)]
  · rw [World.cell?_setCells_out b _ _ _ _ (fun _ _ => by simp only [hlen]; omega), h s hs]
    refine congrArg some (Pg.at_eq (fun _ => rfl) (fun _ _ => rfl) fun h9 => ?_)
    show _ = (if _ then _ else _)
    rw [if_neg (by omega)]
theorem PgOnly.setCells {b o : Nat} {w w' : World} (h : PgOnly b o w w') (lo n : Nat) (hn : lo + n ≤ 16) (f : Nat → Int) : PgOnly b o w (w'.setCells b (o + 9 + lo) ((List.range n).map fun j => Value.int .i64 (f j))) := by
  have hlen : ((List.range n).map fun j => Value.int .i64 (f j)).length = n := by simp
  refine ⟨h.only.setCells (by simp) _ _, fun T cs hc => ?_, fun x hx => ?_⟩
  · obtain ⟨cs', h1⟩ := h.row T cs hc
    exact h1.setCells _ _
  · rw [World.cell?_setCells_out b _ _ _ _ (fun _ _ => by simp only [hlen]; omega)]
    exact h.cell x hx
end Go.Proofs.Ythflghdaejbdkaa
namespace Go.Proofs.Ythflghdaejbdkaa
open Go.RowKit
set_option maxHeartbeats 1600000
set_option maxRecDepth 100000
set_option linter.unusedVariables false
theorem alloc_part (w : World) (p b : Nat) (P : Pl) (h : PRep w p b P) (c : Int) (hc : IsC c) (i : Nat) (hi : i < P.n) (hp : (P.pg i).partly c = true) (hb : ∀ j, j < i → (P.pg j).partly c = false) :
    Calls Try.prog 65 #[.pointer (some ⟨p, 0, none⟩), .int .i64 c] w fun e w' =>
      e = .returned (.tuple #[.int .i64 ((16 * i + (P.pg i).gap c * bsz c : Nat) : Int), .int .i64 0]) ∧ PRep w' p b (P.set i ((P.pg i).take c ((P.pg i).gap c) fun _ => 0)) ∧ Only [b] w w' := by
  refine calls_abs fun R hR => ?_
  have hcb : Hid (isCB c = true) := isCB_iff.2 hc
  have hidx : Hid (idx (fun i => (P.pg i).partly c) P.n = (i : Int)) := by
    have e1 := fst_eq (f := fun i => (P.pg i).partly c) hi hp hb
    show _ = _
    rw [idx_yes (by rw [e1]; exact hi), e1]
  obtain ⟨pg1, hpg1⟩ : ∃ x, x = P.pg i := ⟨_, rfl⟩
  have hg : pg1.gap c < bpt c := by rw [hpg1]; exact ((h.ok i hi).gap hc hp).1
  have hcls : pg1.cls = c := by rw [hpg1]; exact (Pg.partly_iff.1 hp).1
  have HG0 : Hid ((P.pg i).gap c = pg1.gap c) := by show _ = _; rw [hpg1]
  have htake : Hid (∀ k, (P.pg i).take c k (fun _ => 0) = pg1.take c k (fun _ => 0)) := by intro k; rw [hpg1]
  have hold : Hid ((P.pg i).cls = -1 ∨ (P.pg i).cls = c) := .inr (Pg.partly_iff.1 hp).1
  have HPG := Lib.hid hpg1
  clear hp hb hpg1
  obtain ⟨cap, h0, hf, hfb, _, _⟩ := h.facts
  have HR0 := Lib.hid h
  clear h
  have h24 := HR0.out.n24
  have hlt := HR0.out.facts.choose_spec.2.2.2
  have ho1 : Only [] w (w.alloc (.cells #[.int .i64 c] 3)) := (Only.refl _ _).alloc _
  have hcb1 : (w.alloc (.cells #[.int .i64 c] 3)).cell? ⟨w.heap.size, 0, none⟩ = some (.int .i64 c) := (Row.new w 3 [.int .i64 c]).cell 0 rfl
  have HR1 := Lib.hid (HR0.out.only ho1 (by simp) (by simp))
  go_enter Try.func65, Try.ntmps65
  go_wp2_with fail
  refine (class_rep _ _ _ _ HR1.out _).mono ?_
  rintro e _ ⟨rfl, rfl⟩
  rw [hcb.out]
  go_wp2_with fail
  refine (indexFunc1 _ b P.n cap P.pg h24 HR1.out.pg w.heap.size c hc hcb1).mono ?_
  rintro e w2 ⟨rfl, o2⟩
  rw [hidx.out]
  have hP2 := Lib.hid (HR1.out.only o2 (by simp) (by simp))
  have hc2 := o2.cell hcb1 (by simp)
  obtain ⟨cap2, z0, zf, zfb, zp, zb⟩ := hP2.out.facts
  have zok : PgAt w2 b (i * 25) pg1 := by rw [HPG.out]; exact hP2.out.pg i hi
  have hgu := zok.used (k := pg1.gap c) (by have := hc.sz; omega)
  have O2 := Lib.hid (ho1.trans o2 (by simp))
  have zOB : Hid (PgOnly b (i * 25) w2 w2) := PgOnly.refl _ _ _
  have zn1 : w.heap.size ≠ b := by omega
  have zn2 : b ≠ w.heap.size := by omega
  clear o2 hcb1 h0 hf hfb ho1
  generalize hg0 : pg1.gap c = k at *
  have HG := Lib.hid hg0
  have hblk := hc.blk hg
  have hsz := hc.sz
  obtain ⟨m, hm⟩ : ∃ m, m = k * bsz c := ⟨_, rfl⟩
  obtain ⟨z, hz⟩ : ∃ z, z = bsz c := ⟨_, rfl⟩
  have HM := Lib.hid hm
  have HZ := Lib.hid hz
  have hi1 : (k : Int) * (z : Int) = (m : Int) := by rw [hm, hz]; simp
  have hi2 : ((k : Int) + 1) * (z : Int) = (m : Int) + (z : Int) := by rw [Int.add_mul, Int.one_mul, hi1]
  have hmz : m + z ≤ 16 := by have := hblk.1; rw [hm, hz]; exact this
  have hz8 : z ≤ 8 := by omega
  have hz2 : 0 < z := by omega
  have h16 : ¬ 16 = m := by omega
  have hb1 : (m : Int) + (z : Int) ≤ 16 := by omega
  have hb2 : (0 : Int) ≤ m := by omega
  have hb3 : (m : Int) ≤ (m : Int) + (z : Int) := by omega
  have hb4 : (0 : Int) ≤ (m : Int) + (z : Int) := by omega
  have hw1 : IntKind.i64.wrap (m : Int) = m := IntWalk.i64_in _ (by omega)
  have hw2 : IntKind.i64.wrap ((m : Int) + (z : Int)) = (m : Int) + (z : Int) := IntWalk.i64_in _ (by omega)
  have hw3 : IntKind.i64.wrap ((k : Int) + 1) = (k : Int) + 1 := IntWalk.i64_in _ (by omega)
  have hsize : ∀ wx, Calls Try.prog 84 #[.int .i64 c] wx (Exact wx (.int .i64 (z : Int))) := fun wx => by rw [HZ.out]; exact size_of wx c hc
  clear hm hz hblk
  clear hg0
  go_wp2_with fail
  have hfst := first_gap w2 b (i * 25) pg1 zok (by rw [hcls]; exact hc) (by rw [hcls, HG.out]; exact hg)
  rw [hcls, HG.out] at hfst
  refine hfst.mono ?_
  clear hfst
  rintro e w3 ⟨rfl, n3, rfl⟩
  have hk8 : k < 8 := by omega
  have zP := Lib.hid ((zok.drewN n3).setUsed hk8 true)
  have zO := Lib.hid ((zOB.out.drewN n3).setU hk8 (.bool true))
  have zc : ((w2.drewN n3).setCell ⟨b, i * 25 + 1 + k, none⟩ (.bool true)).cell? ⟨w.heap.size, 0, none⟩ = some (.int .i64 c) := (((PgOnly.refl b (i * 25) w2).drewN n3).setU hk8 (.bool true)).only.cell hc2 (by simpa using zn1)
  have zff : ∀ x, ((w2.drewN n3).setCell ⟨b, i * 25 + 1 + k, none⟩ (.bool true)).frozen? ⟨b, x, none⟩ = false := fun x => by rw [World.frozen?_setCell]; exact zfb x
  go_wp2_with fail
  generalize (w2.drewN n3).setCell ⟨b, i * 25 + 1 + k, none⟩ (.bool true) = w4 at *
  clear zok hgu z0 zfb hc2
  go_still_tail 13, (by kernel_rfl)
  repeat (first | still_step | still_call (still_exact (hsize _)))
  refine wpStill_nil ?_
  have ez : ((m : Int) + (z : Int)).toNat - m = z := by omega
  rw [ez]
  change wpList _ _ _ _ _ w4.drew
  have zzero : ∀ wx, (zeroValue 3).run Try.prog wx = .ok (.int .i64 0) wx := fun wx => by kernel_rfl
  refine wpList_clear rfl (.tmp 61) 23 3 rfl (.int .i64 0) Try.underlying23 zzero rfl rfl b (i * 25 + 9 + m) z (16 - m) rfl hz2 ?c1 ?c2 ?c3
  case c1 =>
    intro j hj
    have := zP.out.cell (k := m + j) (by omega)
    rw [← Nat.add_assoc] at this
    show (w4.cell? _).isSome = true
    rw [this]
    rfl
  case c2 => exact fun j hj => zff _
  have zP5 : Hid (PgAt (w4.drew.setCells b (i * 25 + 9 + m) ((List.range z).map fun _ => Value.int .i64 0)) b (i * 25) { cls := pg1.cls, used := up pg1.used k true, cell := fun j => if m ≤ j ∧ j < m + z then 0 else pg1.cell j }) := (show PgAt w4.drew b (i * 25) _ from zP.out).setCells m z hmz (fun _ => 0)
  have zO5 : Hid (PgOnly b (i * 25) w2 (w4.drew.setCells b (i * 25 + 9 + m) ((List.range z).map fun _ => Value.int .i64 0))) := (show PgOnly b (i * 25) w2 w4.drew from zO.out.drewN 1).setCells m z hmz (fun _ => 0)
  rw [replicate_range]
  have zc5 : (w4.drew.setCells b (i * 25 + 9 + m) ((List.range z).map fun _ => Value.int .i64 0)).cell? ⟨w.heap.size, 0, none⟩ = some (.int .i64 c) := ((show PgOnly b (i * 25) w4 w4.drew from (PgOnly.refl _ _ _).drewN 1).setCells m z hmz (fun _ => 0)).only.cell zc (by simpa using zn1)
  generalize w4.drew.setCells b (i * 25 + 9 + m) ((List.range z).map fun _ => Value.int .i64 0) = w5 at *
  clear zc zff zP zO
  have hw4 : IntKind.i64.wrap ((i : Int) * 16) = (i : Int) * 16 := IntWalk.i64_in _ (by omega)
  go_wp2_with fail
  refine (hsize _).mono ?_
  rintro e _ ⟨rfl, rfl⟩
  go_wp2_with fail
  refine hR.out _ _ ⟨?_, ?_, ?_⟩
  · have e1 : ((16 * i + (P.pg i).gap c * bsz c : Nat) : Int) = (i : Int) * 16 + (m : Int) := by rw [HG0.out, ← HM.out]; omega
    rw [e1]
    rfl
  · rw [HG0.out]
    refine hP2.out.turn hi ?_ zO5.out (HR0.out.ok.set ((HR0.out.ok i hi).take hc hold.out hg _))
    rw [htake.out k]
    have e2 : pg1.take c k (fun _ => 0) = { cls := pg1.cls, used := up pg1.used k true, cell := fun j => if m ≤ j ∧ j < m + z then 0 else pg1.cell j } := by
      unfold Pg.take
      rw [hcls, HM.out, HZ.out]
    rw [e2]
    exact zP5.out
  · exact (O2.out.mono (by simp) : Only [b] w w2).trans zO5.out.only (by simp)
theorem alloc_new (w : World) (p b : Nat) (P : Pl) (h : PRep w p b P) (c : Int) (hc : IsC c) (hn : ∀ j, j < P.n → (P.pg j).partly c = false) (i : Nat) (hi : i < P.n) (hp : (P.pg i).cls < 0) (hb : ∀ j, j < i → ¬ (P.pg j).cls < 0) :
    Calls Try.prog 65 #[.pointer (some ⟨p, 0, none⟩), .int .i64 c] w fun e w' =>
      e = .returned (.tuple #[.int .i64 ((16 * i : Nat) : Int), .int .i64 0]) ∧ PRep w' p b (P.set i ((P.pg i).take c 0 fun _ => 0)) ∧ Only [b] w w' := by
  refine calls_abs fun R hR => ?_
  have hcb : Hid (isCB c = true) := isCB_iff.2 hc
  have hidx : Hid (idx (fun i => (P.pg i).partly c) P.n = -1) := by
    show _ = _
    rw [idx_no (by rw [fst_none (f := fun i => (P.pg i).partly c) hn]; omega)]
  have hidx2 : Hid (idx (fun i => decide ((P.pg i).cls < 0)) P.n = (i : Int)) := by
    have e1 := fst_eq (f := fun i => decide ((P.pg i).cls < 0)) hi (by simpa using hp) (fun j hj => by simpa using hb j hj)
    show _ = _
    rw [idx_yes (by rw [e1]; exact hi), e1]
  have hfree : (P.pg i).cls = -1 := ((h.ok i hi).neg).1 hp
  obtain ⟨pg1, hpg1⟩ : ∃ x, x = ({ P.pg i with cls := c } : Pg) := ⟨_, rfl⟩
  have hg0 : pg1.gap c = 0 := by
    rw [hpg1]
    exact fst_eq (by have := hc.sz; omega) (by show (!(P.pg i).used 0) = true; rw [(h.ok i hi).free hfree]; rfl) (fun j hj => by omega)
  have hg : pg1.gap c < bpt c := by have := hc.sz; omega
  have hcls : pg1.cls = c := by rw [hpg1]
  have HG0 := Lib.hid hg0
  have htake : Hid (∀ k, (P.pg i).take c k (fun _ => 0) = pg1.take c k (fun _ => 0)) := by intro k; rw [hpg1]; rfl
  have hold : Hid ((P.pg i).cls = -1 ∨ (P.pg i).cls = c) := .inl hfree
  have HPG := Lib.hid hpg1
  clear hp hb hpg1 hn hg0 hfree
  obtain ⟨cap, h0, hf, hfb, _, _⟩ := h.facts
  have HR0 := Lib.hid h
  clear h
  have h24 := HR0.out.n24
  have hlt := HR0.out.facts.choose_spec.2.2.2
  have ho1 : Only [] w (w.alloc (.cells #[.int .i64 c] 3)) := (Only.refl _ _).alloc _
  have hcb1 : (w.alloc (.cells #[.int .i64 c] 3)).cell? ⟨w.heap.size, 0, none⟩ = some (.int .i64 c) := (Row.new w 3 [.int .i64 c]).cell 0 rfl
  have HR1 := Lib.hid (HR0.out.only ho1 (by simp) (by simp))
  go_enter Try.func65, Try.ntmps65
  go_wp2_with fail
  refine (class_rep _ _ _ _ HR1.out _).mono ?_
  rintro e _ ⟨rfl, rfl⟩
  rw [hcb.out]
  go_wp2_with fail
  refine (indexFunc1 _ b P.n cap P.pg h24 HR1.out.pg w.heap.size c hc hcb1).mono ?_
  rintro e w2 ⟨rfl, o2⟩
  rw [hidx.out]
  obtain ⟨cap2, z0, zf, zfb, zp, zb⟩ := (HR1.out.only o2 (by simp) (by simp)).facts
  go_wp2_with fail
  refine (indexFunc2 _ b P.n cap2 P.pg h24 (HR1.out.only o2 (by simp) (by simp)).pg).mono ?_
  rintro e w3 ⟨rfl, o3⟩
  rw [hidx2.out]
  clear z0 zf zfb zp zb
  have hP2 := Lib.hid ((HR1.out.only o2 (by simp) (by simp)).only o3 (by simp) (by simp))
  have hc3 := o3.cell (o2.cell hcb1 (by simp)) (by simp)
  obtain ⟨cap3, z0, zf, zfb, zp, zb⟩ := hP2.out.facts
  have O2 := Lib.hid ((ho1.trans o2 (by simp)).trans o3 (by simp))
  have hpc := (hP2.out.pg i hi).cls
  have zn1 : w.heap.size ≠ b := by omega
  have zn2 : b ≠ w.heap.size := by omega
  have zn3 : p ≠ b := hP2.out.ne
  clear o2 o3 hcb1 h0 hf hfb ho1
  have zok : PgAt ((w3.setCell ⟨b, i * 25, none⟩ (.int .i64 c)).drew) b (i * 25) pg1 := by rw [HPG.out]; exact (hP2.out.pg i hi).setCls c |>.drewN 1
  have zOB : Hid (PgOnly b (i * 25) w3 ((w3.setCell ⟨b, i * 25, none⟩ (.int .i64 c)).drew)) := ((PgOnly.refl _ _ _).set 0 (by omega) _).drewN 1
  have hgu := zok.used (k := pg1.gap c) (by have := hc.sz; omega)
  have hc2 := zOB.out.only.cell hc3 (by simpa using zn1)
  have z0' := zOB.out.only.cell z0 (by simpa using zn3)
  have zfb' : ∀ x, ((w3.setCell ⟨b, i * 25, none⟩ (.int .i64 c)).drew).frozen? ⟨b, x, none⟩ = false := fun x => by rw [show ∀ (wx : World) a, wx.drew.frozen? a = wx.frozen? a from fun _ _ => rfl, World.frozen?_setCell]; exact zfb x
  go_wp2_with fail
  go_still_tail 8, (by kernel_rfl)
  change wpList _ _ _ _ _ w3.drew
  have zfb1 : w3.drew.frozen? ⟨b, i * 25, none⟩ = false := zfb _
  have hpc1 : w3.drew.cell? ⟨b, i * 25, none⟩ = some (.int .i64 (P.pg i).cls) := hpc
  refine wpList_plain rfl fun K hK => ?_
  unfold Oper.wp
  go_simp
  refine hK _ _ ?_
  clear hK K
  refine wpList_nil ?_
  generalize (w3.setCell ⟨b, i * 25, none⟩ (.int .i64 c)).drew = w2 at *
  clear hc3 z0 zfb hpc hpc1 zfb1
  have z0 := z0'
  have zfb := zfb'
  clear z0' zfb'
  generalize hg0 : pg1.gap c = k at *
  have HG := Lib.hid hg0
  have hblk := hc.blk hg
  have hsz := hc.sz
  obtain ⟨m, hm⟩ : ∃ m, m = k * bsz c := ⟨_, rfl⟩
  obtain ⟨z, hz⟩ : ∃ z, z = bsz c := ⟨_, rfl⟩
  have HM := Lib.hid hm
  have HZ := Lib.hid hz
  have hi1 : (k : Int) * (z : Int) = (m : Int) := by rw [hm, hz]; simp
  have hi2 : ((k : Int) + 1) * (z : Int) = (m : Int) + (z : Int) := by rw [Int.add_mul, Int.one_mul, hi1]
  have hmz : m + z ≤ 16 := by have := hblk.1; rw [hm, hz]; exact this
  have hz8 : z ≤ 8 := by omega
  have hz2 : 0 < z := by omega
  have h16 : ¬ 16 = m := by omega
  have hb1 : (m : Int) + (z : Int) ≤ 16 := by omega
  have hb2 : (0 : Int) ≤ m := by omega
  have hb3 : (m : Int) ≤ (m : Int) + (z : Int) := by omega
  have hb4 : (0 : Int) ≤ (m : Int) + (z : Int) := by omega
  have hw1 : IntKind.i64.wrap (m : Int) = m := IntWalk.i64_in _ (by omega)
  have hw2 : IntKind.i64.wrap ((m : Int) + (z : Int)) = (m : Int) + (z : Int) := IntWalk.i64_in _ (by omega)
  have hw3 : IntKind.i64.wrap ((k : Int) + 1) = (k : Int) + 1 := IntWalk.i64_in _ (by omega)
  have hsize : ∀ wx, Calls Try.prog 84 #[.int .i64 c] wx (Exact wx (.int .i64 (z : Int))) := fun wx => by rw [HZ.out]; exact size_of wx c hc
  clear hm hz hblk
  clear hg0
  go_wp2_with fail
  have hfst := first_gap w2 b (i * 25) pg1 zok (by rw [hcls]; exact hc) (by rw [hcls, HG.out]; exact hg)
  rw [hcls, HG.out] at hfst
  refine hfst.mono ?_
  clear hfst
  rintro e w3x ⟨rfl, n3, rfl⟩
  have hk8 : k < 8 := by omega
  have zP := Lib.hid ((zok.drewN n3).setUsed hk8 true)
  have zO := Lib.hid ((zOB.out.drewN n3).setU hk8 (.bool true))
  have zc : ((w2.drewN n3).setCell ⟨b, i * 25 + 1 + k, none⟩ (.bool true)).cell? ⟨w.heap.size, 0, none⟩ = some (.int .i64 c) := (((PgOnly.refl b (i * 25) w2).drewN n3).setU hk8 (.bool true)).only.cell hc2 (by simpa using zn1)
  have zff : ∀ x, ((w2.drewN n3).setCell ⟨b, i * 25 + 1 + k, none⟩ (.bool true)).frozen? ⟨b, x, none⟩ = false := fun x => by rw [World.frozen?_setCell]; exact zfb x
  go_wp2_with fail
  generalize (w2.drewN n3).setCell ⟨b, i * 25 + 1 + k, none⟩ (.bool true) = w4 at *
  clear zok hgu z0 zfb hc2
  go_still_tail 13, (by kernel_rfl)
  repeat (first | still_step | still_call (still_exact (hsize _)))
  refine wpStill_nil ?_
  have ez : ((m : Int) + (z : Int)).toNat - m = z := by omega
  rw [ez]
  change wpList _ _ _ _ _ w4.drew
  have zzero : ∀ wx, (zeroValue 3).run Try.prog wx = .ok (.int .i64 0) wx := fun wx => by kernel_rfl
  refine wpList_clear rfl (.tmp 61) 23 3 rfl (.int .i64 0) Try.underlying23 zzero rfl rfl b (i * 25 + 9 + m) z (16 - m) rfl hz2 ?c1 ?c2 ?c3
  case c1 =>
    intro j hj
    have := zP.out.cell (k := m + j) (by omega)
    rw [← Nat.add_assoc] at this
    show (w4.cell? _).isSome = true
    rw [this]
    rfl
  case c2 => exact fun j hj => zff _
  have zP5 : Hid (PgAt (w4.drew.setCells b (i * 25 + 9 + m) ((List.range z).map fun _ => Value.int .i64 0)) b (i * 25) { cls := pg1.cls, used := up pg1.used k true, cell := fun j => if m ≤ j ∧ j < m + z then 0 else pg1.cell j }) := (show PgAt w4.drew b (i * 25) _ from zP.out).setCells m z hmz (fun _ => 0)
  have zO5 : Hid (PgOnly b (i * 25) w3 (w4.drew.setCells b (i * 25 + 9 + m) ((List.range z).map fun _ => Value.int .i64 0))) := (show PgOnly b (i * 25) w3 w4.drew from zO.out.drewN 1).setCells m z hmz (fun _ => 0)
  rw [replicate_range]
  have zc5 : (w4.drew.setCells b (i * 25 + 9 + m) ((List.range z).map fun _ => Value.int .i64 0)).cell? ⟨w.heap.size, 0, none⟩ = some (.int .i64 c) := ((show PgOnly b (i * 25) w4 w4.drew from (PgOnly.refl _ _ _).drewN 1).setCells m z hmz (fun _ => 0)).only.cell zc (by simpa using zn1)
  generalize w4.drew.setCells b (i * 25 + 9 + m) ((List.range z).map fun _ => Value.int .i64 0) = w5 at *
  clear zc zff zP zO
  have hw4 : IntKind.i64.wrap ((i : Int) * 16) = (i : Int) * 16 := IntWalk.i64_in _ (by omega)
  go_wp2_with fail
  refine (hsize _).mono ?_
  rintro e _ ⟨rfl, rfl⟩
  go_wp2_with fail
  refine hR.out _ _ ⟨?_, ?_, ?_⟩
  · have e1 : ((16 * i : Nat) : Int) = (i : Int) * 16 + (m : Int) := by have h1 := HM.out; rw [HG0.out, Nat.zero_mul] at h1; omega
    rw [e1]
    rfl
  · rw [← HG0.out]
    refine hP2.out.turn hi ?_ zO5.out (HR0.out.ok.set ((HR0.out.ok i hi).take hc hold.out hg _))
    rw [htake.out k]
    have e2 : pg1.take c k (fun _ => 0) = { cls := pg1.cls, used := up pg1.used k true, cell := fun j => if m ≤ j ∧ j < m + z then 0 else pg1.cell j } := by
      unfold Pg.take
      rw [hcls, HM.out, HZ.out]
    rw [e2]
    exact zP5.out
  · exact (O2.out.mono (by simp) : Only [b] w w3).trans zO5.out.only (by simp)
theorem alloc_full (w : World) (p b : Nat) (P : Pl) (h : PRep w p b P) (c : Int) (hc : IsC c) (hn : ∀ j, j < P.n → (P.pg j).partly c = false) (hp : ∀ j, j < P.n → ¬ (P.pg j).cls < 0) :
    Calls Try.prog 65 #[.pointer (some ⟨p, 0, none⟩), .int .i64 c] w fun e w' =>
      e = .returned (.tuple #[.int .i64 0, .int .i64 14]) ∧ PRep w' p b P ∧ Only [b] w w' := by
  refine calls_abs fun R hR => ?_
  have hcb : Hid (isCB c = true) := isCB_iff.2 hc
  have hidx : Hid (idx (fun i => (P.pg i).partly c) P.n = -1) := by
    show _ = _
    rw [idx_no (by rw [fst_none (f := fun i => (P.pg i).partly c) hn]; omega)]
  have hidx2 : Hid (idx (fun i => decide ((P.pg i).cls < 0)) P.n = -1) := by
    show _ = _
    rw [idx_no (by rw [fst_none (f := fun i => decide ((P.pg i).cls < 0)) (fun j hj => by simpa using hp j hj)]; omega)]
  clear hp hn
  obtain ⟨cap, h0, hf, hfb, _, _⟩ := h.facts
  have HR0 := Lib.hid h
  clear h
  have h24 := HR0.out.n24
  have hlt := HR0.out.facts.choose_spec.2.2.2
  have ho1 : Only [] w (w.alloc (.cells #[.int .i64 c] 3)) := (Only.refl _ _).alloc _
  have hcb1 : (w.alloc (.cells #[.int .i64 c] 3)).cell? ⟨w.heap.size, 0, none⟩ = some (.int .i64 c) := (Row.new w 3 [.int .i64 c]).cell 0 rfl
  have HR1 := Lib.hid (HR0.out.only ho1 (by simp) (by simp))
  go_enter Try.func65, Try.ntmps65
  go_wp2_with fail
  refine (class_rep _ _ _ _ HR1.out _).mono ?_
  rintro e _ ⟨rfl, rfl⟩
  rw [hcb.out]
  go_wp2_with fail
  refine (indexFunc1 _ b P.n cap P.pg h24 HR1.out.pg w.heap.size c hc hcb1).mono ?_
  rintro e w2 ⟨rfl, o2⟩
  rw [hidx.out]
  obtain ⟨cap2, z0, zf, zfb, zp, zb⟩ := (HR1.out.only o2 (by simp) (by simp)).facts
  go_wp2_with fail
  refine (indexFunc2 _ b P.n cap2 P.pg h24 (HR1.out.only o2 (by simp) (by simp)).pg).mono ?_
  rintro e w3 ⟨rfl, o3⟩
  rw [hidx2.out]
  go_wp2_with fail
  exact hR.out _ _ ⟨rfl, (HR1.out.only o2 (by simp) (by simp)).only o3 (by simp) (by simp), ((ho1.trans o2 (by simp)).trans o3 (by simp)).mono (by simp)⟩
theorem alloc_bad (w : World) (p b : Nat) (P : Pl) (h : PRep w p b P) (c : Int) (hc : c < 0 ∨ 2 < c) :
    Calls Try.prog 65 #[.pointer (some ⟨p, 0, none⟩), .int .i64 c] w fun e w' =>
      e = .returned (.tuple #[.int .i64 0, .int .i64 1]) ∧ PRep w' p b P ∧ Only [b] w w' := by
  refine calls_abs fun R hR => ?_
  have hcb : Hid (isCB c = false) := by
    cases hq : isCB c with
    | false => rfl
    | true => have := isCB_iff.1 hq; unfold IsC at this; omega
  have ho1 : Only [] w (w.alloc (.cells #[.int .i64 c] 3)) := (Only.refl _ _).alloc _
  have HR1 := Lib.hid (h.only ho1 (by simp) (by simp))
  go_enter Try.func65, Try.ntmps65
  go_wp2_with fail
  refine (class_rep _ _ _ _ HR1.out _).mono ?_
  rintro e _ ⟨rfl, rfl⟩
  rw [hcb.out]
  go_wp2_with fail
  exact hR.out _ _ ⟨rfl, HR1.out, ho1.mono (by simp)⟩
theorem alloc_rep (w : World) (p b : Nat) (P : Pl) (h : PRep w p b P) (c : Int) :
    Calls Try.prog 65 #[.pointer (some ⟨p, 0, none⟩), .int .i64 c] w fun e w' =>
      e = .returned (.tuple #[.int .i64 (P.alloc c).1, .int .i64 (P.alloc c).2.1]) ∧ PRep w' p b (P.alloc c).2.2 ∧ Only [b] w w' := by
  rcases P.alloc_cases c with hc | ⟨hc, ⟨i, hi, hp, hb⟩ | ⟨hn, ⟨i, hi, hp, hb⟩ | hf⟩⟩
  · rw [Pl.alloc_bad hc]; exact alloc_bad w p b P h c hc
  · rw [Pl.alloc_part hc hi hp hb]; exact alloc_part w p b P h c hc i hi hp hb
  · rw [Pl.alloc_new hc hn hi hp hb]; exact alloc_new w p b P h c hc hn i hi hp hb
  · rw [Pl.alloc_full hc hn hf]; exact alloc_full w p b P h c hc hn hf
end Go.Proofs.Ythflghdaejbdkaa
namespace Go.Proofs.Ythflghdaejbdkaa
open Go.RowKit
set_option maxHeartbeats 400000
set_option maxRecDepth 100000
set_option linter.unusedVariables false
theorem where_free (w : World) (p b : Nat) (P : Pl) (h : PRep w p b P) (A : Nat) (hA : A < 16 * P.n) (hc : (P.pg (A / 16)).cls < 0) :
    Calls Try.prog 89 #[.pointer (some ⟨p, 0, none⟩), .int .i64 A] w (Exact w (.tuple #[.pointer none, .int .i64 0, .bool false])) := by
  refine calls_abs fun R hR => ?_
  obtain ⟨cap, h0, hf, _⟩ := h.facts
  have h24 := h.n24
  obtain ⟨i, hi⟩ : ∃ i, i = A / 16 := ⟨_, rfl⟩
  rw [← hi] at hc
  have hin : i < P.n := by omega
  have hq : (A : Int) / 16 = (i : Int) := by omega
  have hpc := (h.pg i hin).cls
  have HI := Lib.hid hi
  clear h hi
  go_enter Try.func89, Try.ntmps89
  go_wp2_with fail
  go_ret3
  exact hR.out _ _ ⟨rfl, rfl⟩
theorem where_used (w : World) (p b : Nat) (P : Pl) (h : PRep w p b P) (A : Nat) (hA : A < 16 * P.n) (hc : ¬ (P.pg (A / 16)).cls < 0) :
    Calls Try.prog 89 #[.pointer (some ⟨p, 0, none⟩), .int .i64 A] w fun e w' =>
      e = .returned (.tuple #[.pointer (some ⟨b, A / 16 * 25, none⟩), .int .i64 ((A % 16 / bsz (P.pg (A / 16)).cls : Nat) : Int), .bool ((P.pg (A / 16)).used (A % 16 / bsz (P.pg (A / 16)).cls))]) ∧ ∃ n, w' = w.drewN n := by
  refine calls_abs fun R hR => ?_
  obtain ⟨cap, h0, hf, _⟩ := h.facts
  have h24 := h.n24
  have HR0 := Lib.hid hR
  obtain ⟨i, hi⟩ : ∃ i, i = A / 16 := ⟨_, rfl⟩
  obtain ⟨j, hj⟩ : ∃ j, j = A % 16 := ⟨_, rfl⟩
  rw [← hi, ← hj] at hR
  rw [← hi] at hc
  have hin : i < P.n := by omega
  have hj16 : j < 16 := by omega
  have hq : (A : Int) / 16 = (i : Int) := by omega
  have hr : (A : Int) % 16 = (j : Int) := by omega
  have hpg := h.pg i hin
  have hpc := hpg.cls
  have hC : IsC (P.pg i).cls := by
    rcases (h.ok i hin).cls with h1 | h1
    · omega
    · exact h1
  obtain ⟨z, hz⟩ : ∃ z, z = bsz (P.pg i).cls := ⟨_, rfl⟩
  obtain ⟨k, hk⟩ : ∃ k, k = j / z := ⟨_, rfl⟩
  rw [← hz, ← hk] at hR
  have hk8 : k < 8 := by have h1 := (hC.div hj16).1; have := hC.sz; rw [← hz, ← hk] at h1; omega
  have hz2 : 2 ≤ z := by have := hC.sz; omega
  have hz8 : z ≤ 8 := by have := hC.sz; omega
  have hu := hpg.used hk8
  have hdiv : (j : Int) / (z : Int) = (k : Int) := by rw [hk]; simp
  have hsize : ∀ wx, Calls Try.prog 84 #[.int .i64 (P.pg i).cls] wx (Exact wx (.int .i64 (z : Int))) := fun wx => by rw [hz]; exact size_of wx _ hC
  have hz0 : ((z : Int) == 0) = false := by simp; omega
  have hc' : decide ((P.pg i).cls < 0) = false := by simpa using hc
  clear h hi hj hz hk hpg HR0
  go_enter Try.func89, Try.ntmps89
  go_wp2_with fail
  refine (hsize _).mono ?_
  rintro e _ ⟨rfl, rfl⟩
  go_wp2_with fail
  go_quiet (fail)
  go_wp2_with fail
  go_ret3
  exact hR.out _ _ ⟨rfl, _, rfl⟩
structure Split (P : Pl) (A i j k z m : Nat) : Prop where
  hi : i = A / 16
  hj : j = A % 16
  hz : z = bsz (P.pg i).cls
  hk : k = j / z
  hm : m = k * z
  hin : i < P.n
  hj16 : j < 16
  hC : IsC (P.pg i).cls
  hk8 : k < 8
  hz2 : 2 ≤ z
  hz8 : z ≤ 8
  hm16 : m + z ≤ 16
  hkp : k < bpt (P.pg i).cls
theorem split_of {P : Pl} (hok : P.ok) {A : Nat} (hA : A < 16 * P.n) (hc : ¬ (P.pg (A / 16)).cls < 0) : ∃ i j k z m, Split P A i j k z m := by
  have hin : A / 16 < P.n := by omega
  have hC : IsC (P.pg (A / 16)).cls := by
    rcases (hok _ hin).cls with h1 | h1
    · omega
    · exact h1
  have hsz := hC.sz
  have hd := hC.div (j := A % 16) (by omega)
  exact ⟨_, _, _, _, _, rfl, rfl, rfl, rfl, rfl, hin, by omega, hC, by omega, by omega, by omega, (hC.blk hd.1).1, hd.1⟩
theorem where_at (w : World) (p b : Nat) (P : Pl) (h : PRep w p b P) {A i j k z m : Nat} (hA : A < 16 * P.n) (s : Split P A i j k z m) :
    Calls Try.prog 89 #[.pointer (some ⟨p, 0, none⟩), .int .i64 A] w fun e w' =>
      e = .returned (.tuple #[.pointer (some ⟨b, i * 25, none⟩), .int .i64 k, .bool ((P.pg i).used k)]) ∧ ∃ n, w' = w.drewN n := by
  have h1 := s.hi
  have hc : ¬ (P.pg (A / 16)).cls < 0 := by rw [← h1]; rcases s.hC with h2 | h2 | h2 <;> omega
  have h3 := where_used w p b P h A hA hc
  rw [← h1, ← s.hj, ← s.hz, ← s.hk] at h3
  exact h3
theorem begin_rep (w : World) (p b : Nat) (P : Pl) (h : PRep w p b P) (a : Int) :
    Calls Try.prog 70 #[.pointer (some ⟨p, 0, none⟩), .int .i64 a] w fun e w' =>
      e = .returned (.tuple #[.int .i64 (P.begin a).1, .int .i64 (P.begin a).2]) ∧ ∃ n, w' = w.drewN n := by
  refine calls_abs fun R hR => ?_
  cases ha : P.addr a with
  | false =>
    rw [Pl.begin_bad ha] at hR
    go_enter Try.func70, Try.ntmps70
    go_wp2_with fail
    refine (address_rep _ _ _ _ h _).mono ?_
    rintro e _ ⟨rfl, rfl⟩
    rw [ha]
    go_wp2_with fail
    exact hR.out _ _ ⟨rfl, drewN_0 _⟩
  | true =>
    obtain ⟨A, rfl⟩ : ∃ A : Nat, a = A := ⟨a.toNat, by have := Pl.addr_iff.1 ha; omega⟩
    have hA : A < 16 * P.n := by have := Pl.addr_iff.1 ha; omega
    have h24 := h.n24
    by_cases hc : (P.pg (A / 16)).cls < 0
    · have hb := Pl.begin_free ha (by simpa using hc)
      rw [hb] at hR
      clear hb
      have HA := Lib.hid ha
      have hadr := address_rep w _ _ _ h (A : Int)
      rw [ha] at hadr
      clear ha
      go_enter Try.func70, Try.ntmps70
      go_wp2_with fail
      refine hadr.mono ?_
      rintro e _ ⟨rfl, rfl⟩
      go_wp2_with fail
      refine (where_free _ _ _ _ h A hA hc).mono ?_
      rintro e _ ⟨rfl, rfl⟩
      go_wp2_with fail
      exact hR.out _ _ ⟨rfl, drewN_0 _⟩
    · obtain ⟨i, j, k, z, m, s⟩ := split_of h.ok hA hc
      have hadr := address_rep w _ _ _ h (A : Int)
      rw [ha] at hadr
      have hq : (A : Int) / 16 = (i : Int) := by have := s.hi; omega
      have hwh := where_at w p b P h hA s
      have hi24 : i < 24 := by have := s.hin; omega
      have hm16 : m ≤ 16 := by have := s.hm16; omega
      have hkz : (k : Int) * (z : Int) = (m : Int) := by rw [s.hm]; simp
      have hpc := (h.pg i s.hin).cls
      have hsize : ∀ wx, Calls Try.prog 84 #[.int .i64 (P.pg i).cls] wx (Exact wx (.int .i64 (z : Int))) := fun wx => by rw [s.hz]; exact size_of wx _ s.hC
      cases hu : (P.pg i).used k with
      | false =>
        have hb := Pl.begin_no ha (by simpa using hc) (by have h1 := hu; rw [s.hk, s.hz, s.hj, s.hi] at h1; simpa using h1)
        rw [hb] at hR
        rw [hu] at hwh
        clear hb ha hc
        go_enter Try.func70, Try.ntmps70
        go_wp2_with fail
        refine hadr.mono ?_
        rintro e _ ⟨rfl, rfl⟩
        go_wp2_with fail
        refine hwh.mono ?_
        rintro e _ ⟨rfl, n1, rfl⟩
        go_wp2_with fail
        exact hR.out _ _ ⟨rfl, _, rfl⟩
      | true =>
        have hb := Pl.begin_yes ha (by simpa using hc) (by have h1 := hu; rw [s.hk, s.hz, s.hj, s.hi] at h1; simpa using h1)
        have e1 : P.begin (A : Int) = (((i * 16 + m : Nat) : Int), 0) := by rw [hb, s.hm, s.hk, s.hz, s.hj, s.hi]; simp
        rw [e1] at hR
        rw [hu] at hwh
        have hw4 : IntKind.i64.wrap ((i : Int) * 16) = (i : Int) * 16 := IntWalk.i64_in _ (by omega)
        clear hb ha hc e1 hu
        go_enter Try.func70, Try.ntmps70
        go_wp2_with fail
        refine hadr.mono ?_
        rintro e _ ⟨rfl, rfl⟩
        go_wp2_with fail
        refine hwh.mono ?_
        rintro e _ ⟨rfl, n1, rfl⟩
        go_wp2_with fail
        refine (hsize _).mono ?_
        rintro e _ ⟨rfl, rfl⟩
        go_wp2_with fail
        exact hR.out _ _ ⟨rfl, _, rfl⟩
end Go.Proofs.Ythflghdaejbdkaa
namespace Go.Proofs.Ythflghdaejbdkaa
open Go.RowKit
set_option maxHeartbeats 400000
set_option maxRecDepth 100000
set_option linter.unusedVariables false
theorem begin_split {P : Pl} (hok : P.ok) {a : Int} (h : (P.begin a).2 = 0) : ∃ A i j k z m : Nat, a = (A : Int) ∧ A < 16 * P.n ∧ Split P A i j k z m ∧ (P.pg i).used k = true ∧ (P.begin a).1 = ((i * 16 + m : Nat) : Int) := by
  obtain ⟨h1, h2, h3, h4, h5, h6, h7⟩ := Pl.begin_ok h
  have hA : a.toNat < 16 * P.n := by have := Pl.addr_iff.1 h1; omega
  obtain ⟨i, j, k, z, m, s⟩ := split_of hok hA h2
  refine ⟨a.toNat, i, j, k, z, m, h7, hA, s, ?_, ?_⟩
  · rw [s.hk, s.hz, s.hj, s.hi]; exact h3
  · rw [h4, s.hm, s.hk, s.hz, s.hj, s.hi]
theorem cell_rep (w : World) (p b : Nat) (P : Pl) (h : PRep w p b P) (a : Int) :
    Calls Try.prog 92 #[.pointer (some ⟨p, 0, none⟩), .int .i64 a] w fun e w' =>
      e = .returned (.tuple #[.int .i64 (P.cell a).1, .int .i64 (P.cell a).2]) ∧ ∃ n, w' = w.drewN n := by
  refine calls_abs fun R hR => ?_
  have hbg := begin_rep w p b P h a
  by_cases h0 : (P.begin a).2 = 0
  · obtain ⟨A, i, j, k, z, m, rfl, hA, s, hu, hb1⟩ := begin_split h.ok h0
    have e1 : P.cell (A : Int) = ((P.pg i).cell j, 0) := by unfold Pl.cell; rw [if_pos h0, s.hj, s.hi]; rfl
    rw [e1] at hR
    rw [h0] at hbg
    obtain ⟨cap, z0, zf, zfb, _⟩ := h.facts
    have hq : (A : Int) / 16 = (i : Int) := by have := s.hi; omega
    have hr : (A : Int) % 16 = (j : Int) := by have := s.hj; omega
    have hi24 : i < 24 := by have := s.hin; have := h.n24; omega
    have hin := s.hin
    have hj16 := s.hj16
    have hcell := (h.pg i hin).cell hj16
    generalize (P.begin (A : Int)).1 = B at hbg
    clear e1 hb1 h0 h s hu
    go_enter Try.func92, Try.ntmps92
    go_wp2_with fail
    refine hbg.mono ?_
    rintro e _ ⟨rfl, n1, rfl⟩
    go_wp2_with fail
    exact hR.out _ _ ⟨rfl, _, rfl⟩
  · have e1 : P.cell a = (0, (P.begin a).2) := by unfold Pl.cell; rw [if_neg h0]
    rw [e1] at hR
    have hne : ((P.begin a).2 != 0) = true := by rw [bne_iff_ne]; exact h0
    clear h0 e1
    go_enter Try.func92, Try.ntmps92
    go_wp2_with fail
    refine hbg.mono ?_
    rintro e _ ⟨rfl, n1, rfl⟩
    go_wp2_with fail
    exact hR.out _ _ ⟨rfl, _, rfl⟩
theorem setCell_rep (w : World) (p b : Nat) (P : Pl) (h : PRep w p b P) (a n : Int) :
    Calls Try.prog 45 #[.pointer (some ⟨p, 0, none⟩), .int .i64 a, .int .i64 n] w fun e w' =>
      e = .returned (.int .i64 (P.setCell a n).1) ∧ PRep w' p b (P.setCell a n).2 ∧ Only [b] w w' := by
  refine calls_abs fun R hR => ?_
  have hbg := begin_rep w p b P h a
  by_cases h0 : (P.begin a).2 = 0
  · obtain ⟨A, i, j, k, z, m, rfl, hA, s, hu, hb1⟩ := begin_split h.ok h0
    have e1 : P.setCell (A : Int) n = (0, P.set i { P.pg i with cell := up (P.pg i).cell j n }) := by unfold Pl.setCell; rw [if_pos h0, s.hj, s.hi]; rfl
    rw [e1] at hR
    rw [h0] at hbg
    obtain ⟨cap, z0, zf, zfb, _⟩ := h.facts
    have hq : (A : Int) / 16 = (i : Int) := by have := s.hi; omega
    have hr : (A : Int) % 16 = (j : Int) := by have := s.hj; omega
    have hi24 : i < 24 := by have := s.hin; have := h.n24; omega
    have hin := s.hin
    have hj16 := s.hj16
    have hcell := (h.pg i hin).cell hj16
    have hfin : ∀ n1, PRep ((w.drewN n1).setCell ⟨b, i * 25 + 9 + j, none⟩ (.int .i64 n)) p b (P.set i { P.pg i with cell := up (P.pg i).cell j n }) := fun n1 =>
      (h.drewN n1).turn hin ((((h.pg i hin).drewN n1).setCell hj16 n)) (by rw [Nat.add_assoc]; exact (PgOnly.refl _ _ _).set _ (by omega) _) (h.ok.set ((h.ok i hin).put _))
    have hfin2 : ∀ n1, Only [b] w ((w.drewN n1).setCell ⟨b, i * 25 + 9 + j, none⟩ (.int .i64 n)) := fun n1 => ((Only.refl [b] w).drewN n1).set (by simp) _
    have HF := Lib.hid hfin
    have HF2 := Lib.hid hfin2
    generalize (P.begin (A : Int)).1 = B at hbg
    clear e1 hb1 h0 h s hu hfin hfin2
    go_enter Try.func45, Try.ntmps45
    go_wp2_with fail
    refine hbg.mono ?_
    rintro e _ ⟨rfl, n1, rfl⟩
    go_wp2_with fail
    exact hR.out _ _ ⟨rfl, HF.out _, HF2.out _⟩
  · have e1 : P.setCell a n = ((P.begin a).2, P) := by unfold Pl.setCell; rw [if_neg h0]
    rw [e1] at hR
    have hne : ((P.begin a).2 == 0) = false := by rw [beq_eq_false_iff_ne]; exact h0
    clear h0 e1
    go_enter Try.func45, Try.ntmps45
    go_wp2_with fail
    refine hbg.mono ?_
    rintro e _ ⟨rfl, n1, rfl⟩
    go_wp2_with fail
    exact hR.out _ _ ⟨rfl, h.drewN _, (Only.refl _ _).drewN _⟩
end Go.Proofs.Ythflghdaejbdkaa
