/- Lemmas of this claim. -/
import Derived.Test.YtkacgbigeobncaaGreatTaSRep
import Derived.Test.YtkacgbigeobncaaGreatTaLib
import Derived.Deep.AppendLies
import Derived.Deep.RegionLaw
namespace Go.Proofs.YtkacgbigeobncaaGreat
open Go.RowKit Go.Maps
set_option maxHeartbeats 800000
set_option maxRecDepth 100000
set_option linter.unusedVariables false
theorem PRep.cells {w : World} {L : Nat → Option Lb} {p : Nat} {P : Pm} {X : PX} (h : PRep w L p P X) :
    w.cell? ⟨p, 0, none⟩ = some X.scv ∧ (∀ t, t < 5 → w.cell? ⟨p, 1 + t, none⟩ = some (X.sv t)) ∧ w.cell? ⟨p, 6, none⟩ = some (.map (some X.mb)) ∧ w.cell? ⟨p, 7, none⟩ = some (.int .i64 P.made) ∧ ∀ i, w.frozen? ⟨p, i, none⟩ = false := by
  obtain ⟨T, hr⟩ := h.mem
  refine ⟨hr.cell 0 rfl, fun t ht => ?_, hr.cell 6 rfl, hr.cell 7 rfl, fun i => hr.free i⟩
  match t, ht with
  | 0, _ => exact hr.cell 1 rfl
  | 1, _ => exact hr.cell 2 rfl
  | 2, _ => exact hr.cell 3 rfl
  | 3, _ => exact hr.cell 4 rfl
  | 4, _ => exact hr.cell 5 rfl
section
variable {L : Nat → Option Lb} {p : Nat} {P : Pm} {X : PX} {w : World}
theorem none_rep (w : World) (h : PRep w L p P X) : Calls Tryz.prog 13 #[.pointer (some ⟨p, 0, none⟩)] w (Exact w (.bool false)) := by
  refine calls_abs fun R hR => ?_
  have h6 := h.cells.2.2.1
  have hq := fun (w : World) => run_eql_map_nil (P := Tryz.prog) w 41 _ _ (some X.mb) Tryz.underlying41
  clear h
  go_enter Tryz.func13, Tryz.ntmps13
  go_wp2_with fail
  exact hR.out _ _ ⟨rfl, rfl⟩
theorem isThread_any (w : World) (t : Int) : Calls Tryz.prog 14 #[.int .i64 t] w (Exact w (.bool (isT t))) := by
  refine calls_abs fun R hR => ?_
  have H : Hid (isT t = decide (0 ≤ t ∧ t < 5)) := rfl
  go_enter Tryz.func14, Tryz.ntmps14
  go_wp2_with fail
  all_goals (refine hR.out _ _ ⟨?_, rfl⟩; have := H.out; clear H hR; rw [this]; simp_all <;> omega)
theorem ScAt.len {w : World} {v : Value} {l : List Sp} (h : ScAt w L v l) : ∃ a c, v = .slice a l.length c := by
  rcases h with ⟨rfl, rfl⟩ | ⟨g, cap, T, cs, rfl, _⟩
  · exact ⟨_, _, rfl⟩
  · exact ⟨_, _, rfl⟩
theorem isArea_rep (w : World) (h : PRep w L p P X) (hok : P.ok) (a : Int) : Calls Tryz.prog 15 #[.pointer (some ⟨p, 0, none⟩), .int .i64 a] w (Exact w (.bool (P.isA a))) := by
  refine calls_abs fun R hR => ?_
  have c0 := h.cells.1
  have hn := hok.n6
  obtain ⟨a0, cc, e⟩ := h.sc.len
  rw [e] at c0
  have H : Hid (P.isA a = decide (0 ≤ a ∧ a < (P.scs.length : Int) + 2)) := rfl
  generalize P.scs.length = n at *
  clear h hok e
  go_enter Tryz.func15, Tryz.ntmps15
  go_wp2_with fail
  all_goals (refine hR.out _ _ ⟨?_, rfl⟩; have := H.out; clear H hR; rw [this]; simp_all <;> omega)
theorem isT_nat {t : Int} (h : isT t = true) : ∃ n : Nat, t = n ∧ n < 5 := ⟨t.toNat, by unfold isT at h; simp at h; omega, isT_lt h⟩
theorem PRep.stk (h : PRep w L p P X) (hok : P.ok) {t : Nat} (ht : t < 5) : ∃ g cap, X.sv t = .slice (some ⟨g, 0, none⟩) (P.stk t).length cap ∧ g < w.heap.size ∧ L g = some (.stk t) ∧ ∀ i, i < (P.stk t).length → w.cell? ⟨g, i, none⟩ = some (.int .i64 (gI (P.stk t) i)) := by
  obtain ⟨h1, h2⟩ := h.st t ht
  rcases h1.form with ⟨e1, e2⟩ | ⟨g, cap, e, _, hg, _, hc⟩
  · have := (hok.s1 t ht).1; rw [e2] at this; simp at this
  · exact ⟨g, cap, e, hg, h2 g (by rw [e]; rfl), hc⟩
theorem current_rep (w : World) (h : PRep w L p P X) (hok : P.ok) (t : Nat) (ht : t < 5) : Calls Tryz.prog 18 #[.pointer (some ⟨p, 0, none⟩), .int .i64 t] w (Same w (.int .i64 (top (P.stk t)))) := by
  refine calls_abs fun R hR => ?_
  have c1 := h.cells.2.1 t ht
  obtain ⟨g, cap, e, _, _, hc⟩ := h.stk hok ht
  rw [e] at c1
  have hl := hok.s1 t ht
  have hc1 := hc ((P.stk t).length - 1) (by omega)
  have H : Hid (top (P.stk t) = gI (P.stk t) ((P.stk t).length - 1)) := rfl
  generalize gI (P.stk t) ((P.stk t).length - 1) = v at *
  generalize (P.stk t).length = n at *
  obtain ⟨m, rfl⟩ : ∃ m, n = m + 1 := ⟨n - 1, by omega⟩
  rw [Nat.add_sub_cancel] at hc1
  have e1 : ((m + 1 : Nat) : Int) - 1 = m := by omega
  have b1 : (0 : Int) ≤ t := by omega
  have b2 : (t : Int) < 5 := by omega
  clear h hok e hc
  go_enter Tryz.func18, Tryz.ntmps18
  go_wp2_with fail
  go_quiet (fail)
  go_wp2_with fail
  exact hR.out _ _ ⟨by rw [H.out]; rfl, _, rfl⟩
theorem PRep.sp5 (h : PRep w L p P X) {a : Int} (h2 : 2 ≤ a) (ha : a < (P.n : Int) + 2) : ∃ j g cap : Nat, a - 2 = (j : Int) ∧ j < P.n ∧ a.toNat - 2 = j ∧ X.scv = .slice (some ⟨g, 0, none⟩) P.n cap ∧ L g = some .scp ∧
    w.cell? ⟨g, j * 5, none⟩ = some (.int .i64 (P.sp a).size) ∧ w.cell? ⟨g, j * 5 + 1, none⟩ = some (.int .i64 (P.sp a).room) ∧ w.cell? ⟨g, j * 5 + 2, none⟩ = some (.int .i64 (P.sp a).users) ∧ w.cell? ⟨g, j * 5 + 3, none⟩ = some (.int .i64 (P.sp a).parent) ∧ w.cell? ⟨g, j * 5 + 4, none⟩ = some (.int .i64 (P.sp a).portal) ∧
    ∀ r, r < 5 → w.frozen? ⟨g, j * 5 + r, none⟩ = false := by
  obtain ⟨g, cap, e, hl, hc⟩ := h.spAt h2 ha
  exact ⟨a.toNat - 2, g, cap, by omega, by omega, rfl, e, hl, (hc 0 (by omega)).1, (hc 1 (by omega)).1, (hc 2 (by omega)).1, (hc 3 (by omega)).1, (hc 4 (by omega)).1, fun r hr => (hc r hr).2⟩
theorem scope_low (w : World) (v : Value) (a : Int) (h : a < 2) : Calls Tryz.prog 16 #[v, .int .i64 a] w (Exact w (.pointer none)) := by
  refine calls_abs fun R hR => ?_
  go_enter Tryz.func16, Tryz.ntmps16
  go_wp2_with fail
  exact hR.out _ _ ⟨rfl, rfl⟩
theorem scope_at (w : World) (p g n cap j : Nat) (a : Int) (h0 : w.cell? ⟨p, 0, none⟩ = some (.slice (some ⟨g, 0, none⟩) n cap)) (e : a - 2 = (j : Int)) (hj : j < n) (hn : n ≤ 6) :
    Calls Tryz.prog 16 #[.pointer (some ⟨p, 0, none⟩), .int .i64 a] w (Exact w (.pointer (some ⟨g, j * 5, none⟩))) := by
  refine calls_abs fun R hR => ?_
  have h2 : 2 ≤ a := by omega
  have h3 : a ≤ 8 := by omega
  have b1 : (0 : Int) ≤ j := by omega
  have b2 : (j : Int) < n := by omega
  go_enter Tryz.func16, Tryz.ntmps16
  go_wp2_with fail
  exact hR.out _ _ ⟨rfl, rfl⟩
def TwoB (w : World) (r : Bool × Int) (e : Ending) (w' : World) : Prop := e = .returned (.tuple #[.bool r.1, .int .i64 r.2]) ∧ Drew w w'
def TwoL (w : World) (r : List Int × Int) (e : Ending) (w' : World) : Prop := ∃ v, e = .returned (.tuple #[v, .int .i64 r.2]) ∧ Ints w' w.heap.size v r.1 ∧ Only [] w w'
theorem stack_rep (w : World) (h : PRep w L p P X) (hok : P.ok) (t : Int) : Calls Tryz.prog 9 #[.pointer (some ⟨p, 0, none⟩), .int .i64 t] w (TwoL w (P.stack t)) := by
  refine calls_abs fun R hR => ?_
  cases hT : isT t
  · have hr : Hid (P.stack t = ([], 1)) := by show _ = _; unfold Pm.stack; rw [hT]; rfl
    have hi := isThread_any w t
    rw [hT] at hi
    clear hT hok
    go_enter Tryz.func9, Tryz.ntmps9
    go_wp2_with fail
    refine (none_rep _ h).mono ?_
    rintro e _ ⟨rfl, rfl⟩
    go_wp2_with fail
    refine hi.mono ?_
    rintro e _ ⟨rfl, rfl⟩
    go_wp2_with fail
    exact hR.out _ _ ⟨_, by rw [hr.out] <;> rfl, by rw [hr.out]; exact Ints.nil _ _, Only.refl _ _⟩
  · obtain ⟨n, rfl, hn⟩ := isT_nat hT
    have hr : Hid (P.stack n = (P.stk n, 0)) := by show _ = _; unfold Pm.stack; rw [hT]; rfl
    have hi := isThread_any w n
    rw [hT] at hi
    obtain ⟨g, cap, e, _, _, hc⟩ := h.stk hok hn
    have c1 := h.cells.2.1 n hn
    rw [e] at c1
    have hl := (hok.s1 n hn).2
    have b1 : (0 : Int) ≤ n := by omega
    have b2 : (n : Int) < 5 := by omega
    have HC := fun (wx : World) (hx : Drew w wx) => clone_ints wx g (P.stk n).length cap (P.stk n) rfl (by omega) (fun i hi => hx.cell (hc i hi))
    have HK := Lib.hid HC
    clear hT hok hc e HC
    go_enter Tryz.func9, Tryz.ntmps9
    go_wp2_with fail
    refine (none_rep _ h).mono ?_
    rintro e _ ⟨rfl, rfl⟩
    go_wp2_with fail
    refine hi.mono ?_
    rintro e _ ⟨rfl, rfl⟩
    go_wp2_with fail
    refine (HK.out _ (Drew.refl _)).mono ?_
    rintro e w1 ⟨v, rfl, hv, ho, _⟩
    go_wp2_with fail
    exact hR.out _ _ ⟨_, by rw [hr.out] <;> rfl, by rw [hr.out]; exact hv, ho⟩
end
end Go.Proofs.YtkacgbigeobncaaGreat
namespace Go.Proofs.YtkacgbigeobncaaGreat
open Go.RowKit Go.Maps
set_option maxHeartbeats 800000
set_option maxRecDepth 100000
set_option linter.unusedVariables false
section
variable {L : Nat → Option Lb} {p : Nat} {P : Pm} {X : PX} {w : World}
theorem isA_lt2 {P : Pm} {a : Int} (h : P.isA a = true) : 0 ≤ a ∧ a < (P.n : Int) + 2 := by unfold Pm.isA isAn at h; simpa using h
theorem PRep.look (h : PRep w L p P X) {x : Int} (hx : wfI x) : (Instr.lookup 41 (.map (some X.mb)) (.int .i64 x) false).run Tryz.prog w = .ok (mkP ((P.ob x).map fun _ => X.blk x)) w := h.mp.look hx
theorem find_none (w : World) (h : PRep w L p P X) (hok : P.ok) (x : Int) (hx : wfI x) (ho : P.ob x = none) : Calls Tryz.prog 20 #[.pointer (some ⟨p, 0, none⟩), .int .i64 x] w (Exact w (.tuple #[.pointer none, .int .i64 3])) := by
  refine calls_abs fun R hR => ?_
  have hl := h.look hx
  rw [ho] at hl
  replace hl : (Instr.lookup 41 (.map (some X.mb)) (.int .i64 x) false).run Tryz.prog w = .ok (.pointer none) w := hl
  have c6 := h.cells.2.2.1
  clear ho
  go_enter Tryz.func20, Tryz.ntmps20
  go_wp2_with fail
  refine (none_rep _ h).mono ?_
  rintro e _ ⟨rfl, rfl⟩
  go_wp2_with fail
  exact hR.out _ _ ⟨rfl, rfl⟩
theorem find_some (w : World) (h : PRep w L p P X) (hok : P.ok) (x : Int) (hx : wfI x) (t : Th) (ho : P.ob x = some t) : Calls Tryz.prog 20 #[.pointer (some ⟨p, 0, none⟩), .int .i64 x] w (Exact w (.tuple #[.pointer (some ⟨X.blk x, 0, none⟩), .int .i64 0])) := by
  refine calls_abs fun R hR => ?_
  have hl := h.look hx
  rw [ho] at hl
  replace hl : (Instr.lookup 41 (.map (some X.mb)) (.int .i64 x) false).run Tryz.prog w = .ok (.pointer (some ⟨X.blk x, 0, none⟩)) w := hl
  have c6 := h.cells.2.2.1
  clear ho
  go_enter Tryz.func20, Tryz.ntmps20
  go_wp2_with fail
  refine (none_rep _ h).mono ?_
  rintro e _ ⟨rfl, rfl⟩
  go_wp2_with fail
  exact hR.out _ _ ⟨rfl, rfl⟩
end
end Go.Proofs.YtkacgbigeobncaaGreat
