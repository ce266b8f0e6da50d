/- Contracts of package block's pages over the model Pg. -/
import Derived.Test.YtngmiacekcmidaaRows
import Derived.Test.YtngmiacekcmidaaLibB
import Derived.Test.YtngmiacekcmidaaBModelB
namespace Go.Proofs.Ytngmiacekcmidaa
open Go.RowKit
set_option maxHeartbeats 400000
set_option maxRecDepth 100000
set_option linter.unusedVariables false

/-- Cell r of a page. -/
def Pg.at (p : Pg) (r : Nat) : Value := if r = 0 then .int .i64 p.cls else if r < 9 then .bool (p.used (r - 1)) else .int .i64 (p.cell (r - 9))
def Pg.row (p : Pg) : List Value := (List.range 25).map p.at
/-- A page lies at o in block b. -/
def PgAt (w : World) (b o : Nat) (p : Pg) : Prop := ∀ r, r < 25 → w.cell? ⟨b, o + r, none⟩ = some (p.at r)
theorem PgAt.cls {w : World} {b o : Nat} {p : Pg} (h : PgAt w b o p) : w.cell? ⟨b, o, none⟩ = some (.int .i64 p.cls) := h 0 (by decide)
theorem PgAt.used {w : World} {b o : Nat} {p : Pg} (h : PgAt w b o p) {k : Nat} (hk : k < 8) : w.cell? ⟨b, o + 1 + k, none⟩ = some (.bool (p.used k)) := by
  have := h (1 + k) (by omega)
  rw [← Nat.add_assoc] at this
  rw [this, Pg.at, if_neg (by omega), if_pos (by omega), Nat.add_sub_cancel_left]
theorem PgAt.cell {w : World} {b o : Nat} {p : Pg} (h : PgAt w b o p) {k : Nat} (hk : k < 16) : w.cell? ⟨b, o + 9 + k, none⟩ = some (.int .i64 (p.cell k)) := by
  have := h (9 + k) (by omega)
  rw [← Nat.add_assoc] at this
  rw [this, Pg.at, if_neg (by omega), if_neg (by omega), Nat.add_sub_cancel_left]
theorem PgAt.only {w w' : World} {b o : Nat} {p : Pg} {F : List Nat} (h : PgAt w b o p) (hF : Only F w w') (hb : b ∉ F) : PgAt w' b o p := fun r hr => hF.cell (h r hr) hb
theorem PgAt.set {w : World} {b o : Nat} {p : Pg} (h : PgAt w b o p) (r : Nat) (v : Value) (q : Pg) (hr : r < 25) (hv : q.at r = v) (ho : ∀ s, s < 25 → s ≠ r → q.at s = p.at s) :
    PgAt (w.setCell ⟨b, o + r, none⟩ v) b o q := by
  intro s hs
  by_cases e : s = r
  · subst e
    rw [hv]
    exact World.cell?_setCell_same _ _ _ (h s hs)
  · rw [World.cell?_setCell_other _ _ _ _ (fun h2 => by injection h2 with _ h3 _; omega), ho s hs e]
    exact h s hs
theorem PgAt.other {w : World} {b o : Nat} {p : Pg} (h : PgAt w b o p) {a : Addr} (v : Value) (ha : a.block = b → a.spot = none → a.off < o ∨ o + 25 ≤ a.off) : PgAt (w.setCell a v) b o p := by
  intro s hs
  rw [World.cell?_setCell_other _ _ _ _ (by
    intro e
    have := ha (by rw [e]) (by rw [e])
    rw [e] at this
    simp at this
    omega)]
  exact h s hs
theorem range_map_at {α : Type} {f : Nat → α} {n j : Nat} {v : α} (h : ((List.range n).map f)[j]? = some v) : j < n ∧ v = f j := by
  have hj : j < n := by have := (List.getElem?_eq_some_iff.1 h).1; simpa using this
  rw [List.getElem?_map, List.getElem?_range hj] at h
  simp at h
  exact ⟨hj, h.symm⟩
theorem Pg.row_at {p : Pg} {j : Nat} {v : Value} (h : p.row[j]? = some v) : j < 25 ∧ v = p.at j := range_map_at h
theorem PgAt.row {w : World} {b o : Nat} {p : Pg} (h : PgAt w b o p) : ∀ j v, p.row[j]? = some v → w.cell? ⟨b, o + j, none⟩ = some v := by
  intro j v hv
  obtain ⟨h1, rfl⟩ := Pg.row_at hv
  exact h j h1

def usedRow (p : Pg) : List Value := (List.range 8).map fun k => .bool (p.used k)
theorem used_at {p : Pg} {j : Nat} {v : Value} (h : (usedRow p)[j]? = some v) : j < 8 ∧ v = .bool (p.used j) := range_map_at h
theorem run_index_used (w : World) (p : Pg) (k : Nat) (hk : k < 8) : (Instr.index 72 (.agg (usedRow p).toArray) (.int .i64 k)).run Try.prog w = .ok (.bool (p.used k)) w :=
  run_index_agg w 72 4 8 _ k _ Try.underlying72 .bool Try.underlying4 rfl (by kernel_rfl) hk (by simp [usedRow, hk])

theorem count_of (w : World) (b o : Nat) (p : Pg) (h : PgAt w b o p) : Calls Try.prog 63 #[.pointer (some ⟨b, o, none⟩)] w (Exact w (.int .i64 p.count)) := by
  refine calls_abs fun R hR => ?_
  have H := Lib.hid h
  clear h
  go_enter Try.func63, Try.ntmps63
  go_wp2_with (refine wpList_load_agg rfl 72 _ rfl b (o + 1) rfl (usedRow p) _ Try.underlying72 rfl (by kernel_rfl) (fun j v hv => ?c1) ?_)
  case c1 =>
    obtain ⟨h1, rfl⟩ := used_at hv
    exact H.out.used h1
  go_loop [3, 10] (fun n i => ∃ k : Nat, k ≤ 8 ∧ i = .int .i64 k ∧ n = .int .i64 (cnt p.used k)) (fun _ i => 8 - (intOf i).toNat)
  case atStart => exact ⟨0, by omega, rfl, rfl⟩
  case round =>
    obtain ⟨k, hk, rfl, rfl⟩ := hrel
    by_cases hlt : k < 8
    · have hix := fun wx => run_index_used wx p k hlt
      have hle := cnt_le p.used k
      have hs : Hid (cnt p.used (k + 1) = cnt p.used k + if p.used k then 1 else 0) := rfl
      cases hu : p.used k <;> (rw [hu] at hix; rw [hu] at hs) <;> (
        go_wp2_with fail
        go_round
        case rel => exact ⟨k + 1, by omega, by go_num, by rw [hs.out]; go_num⟩
        case measure => simp [intOf]; omega)
    · obtain rfl : k = 8 := by omega
      go_wp2_with fail
      exact hR.out _ _ ⟨rfl, rfl⟩

theorem size_of (w : World) (c : Int) (h : IsC c) : Calls Try.prog 54 #[.int .i64 c] w (Exact w (.int .i64 (bsz c))) := by
  refine calls_abs fun R hR => ?_
  rcases h with rfl | rfl | rfl <;>
  (go_enter Try.func54, Try.ntmps54
   go_wp2_with fail
   exact hR.out _ _ ⟨rfl, rfl⟩)
theorem parts_of (w : World) (c : Int) (h : IsC c) : Calls Try.prog 62 #[.int .i64 c] w (Exact w (.int .i64 (bpt c))) := by
  refine calls_abs fun R hR => ?_
  have hs := h.facts
  go_enter Try.func62, Try.ntmps62
  go_wp2_with fail
  refine (size_of _ _ h).mono ?_
  rintro e _ ⟨rfl, rfl⟩
  rcases hs with ⟨h1, h2⟩ | ⟨h1, h2⟩ | ⟨h1, h2⟩ <;>
  (rw [h1]
   have H2 := Lib.hid h2
   clear h1 h2
   go_wp2_with fail
   exact hR.out _ _ ⟨by rw [H2.out]; rfl, rfl⟩)

theorem partly_of (w : World) (b o : Nat) (p : Pg) (h : PgAt w b o p) (c : Int) (hc : IsC c) : Calls Try.prog 51 #[.pointer (some ⟨b, o, none⟩), .int .i64 c] w (Exact w (.bool (p.partly c))) := by
  refine calls_abs fun R hR => ?_
  have H := Lib.hid h
  have h0 := h.cls
  have hp : Hid (p.partly c = (p.cls == c && decide (p.count < bpt c))) := rfl
  clear h
  cases he : (p.cls == c)
  · go_enter Try.func51, Try.ntmps51
    go_wp2_with fail
    exact hR.out _ _ ⟨by rw [hp.out, he]; rfl, rfl⟩
  · go_enter Try.func51, Try.ntmps51
    go_wp2_with fail
    refine (count_of _ _ _ _ H.out).mono ?_
    rintro e _ ⟨rfl, rfl⟩
    go_wp2_with fail
    refine (parts_of _ _ hc).mono ?_
    rintro e _ ⟨rfl, rfl⟩
    go_wp2_with fail
    all_goals (refine hR.out _ _ ⟨?_, rfl⟩; rw [hp.out, he]; simp)

/-- The first of the first n bools. -/
theorem index_bool (w : World) (b o n cap : Nat) (u : Nat → Bool) (hn : n ≤ 64) (hc : ∀ k, k < n → w.cell? ⟨b, o + k, none⟩ = some (.bool (u k))) (x : Bool) :
    Calls Try.prog 71 #[.slice (some ⟨b, o, none⟩) n cap, .bool x] w (Exact w (.int .i64 (idx (fun k => u k == x) n))) := by
  refine calls_abs fun R hR => ?_
  have H := Lib.hid hc
  clear hc
  go_enter Try.func71, Try.ntmps71
  go_wp2_with fail
  go_loop [8] (fun i => ∃ k : Nat, k ≤ n ∧ i = .int .i64 k ∧ Hid (∀ j, j < k → (u j == x) = false)) (fun i => n - (intOf i).toNat)
  case atStart => exact ⟨0, by omega, rfl, fun j hj => by omega⟩
  case round =>
    obtain ⟨k, hk, rfl, hf⟩ := hrel
    by_cases hlt : k < n
    · have hcell := H.out k hlt
      cases hu : (u k == x)
      · have hu' : (x == u k) = false := by rw [← hu]; cases x <;> cases u k <;> rfl
        go_wp2_with fail
        go_round
        case rel => exact ⟨k + 1, by omega, by go_num, fun j hj => by
          by_cases e : j = k
          · rw [e]; exact hu
          · exact hf.out j (by omega)⟩
        case measure => simp [intOf]; omega
      · have hu' : (x == u k) = true := by rw [← hu]; cases x <;> cases u k <;> rfl
        go_wp2_with fail
        refine hR.out _ _ ⟨?_, rfl⟩
        have e1 := fst_eq (f := fun k => u k == x) hlt hu hf.out
        rw [idx_yes (by rw [e1]; exact hlt), e1]
    · obtain rfl : k = n := by omega
      go_wp2_with fail
      refine hR.out _ _ ⟨?_, rfl⟩
      rw [idx_no (by rw [fst_none (f := fun k => u k == x) hf.out]; omega)]
end Go.Proofs.Ytngmiacekcmidaa
