/- Contracts of package block's pools over the model Pl: Do. -/
import Derived.Test.YtngmiacekcmidaaBlockL
namespace Go.Proofs.Ytngmiacekcmidaa
open Go.RowKit
set_option maxHeartbeats 1600000
set_option maxRecDepth 100000
set_option linter.unusedVariables false

theorem Pl.do_bad {P : Pl} {d a b : Int} (h1 : ¬ (d = 1 ∧ b = 0)) (h2 : ¬ (d = 2 ∧ b = 0)) (h3 : d ≠ 3) (h4 : ¬ (d = 4 ∧ a = 0 ∧ b = 0)) : P.do d a b = (0, 1, P) := by
  unfold Pl.do
  rw [if_neg h1, if_neg h2, if_neg h3, if_neg h4]
def DoPost (w : World) (p b : Nat) (r : Int × Int × Pl) (e : Ending) (w' : World) : Prop :=
  e = .returned (.tuple #[.int .i64 r.1, .int .i64 r.2.1]) ∧ PRep w' p b r.2.2 ∧ Only [b] w w'
theorem do_rep (w : World) (p b : Nat) (P : Pl) (h : PRep w p b P) (d x y : Int) :
    Calls Try.prog 19 #[.pointer (some ⟨p, 0, none⟩), .agg #[.int .i64 d, .int .i64 x, .int .i64 y]] w (DoPost w p b (P.do d x y)) := by
  refine calls_abs fun R hR => ?_
  have ho1 : Only [] w (w.alloc (.cells #[.int .i64 d, .int .i64 x, .int .i64 y] 34)) := (Only.refl _ _).alloc _
  have H1 := Lib.hid (h.only ho1 (by simp) (by simp))
  have HO1 := Lib.hid ((Only.refl [b] w).alloc (.cells #[.int .i64 d, .int .i64 x, .int .i64 y] 34))
  clear h ho1
  by_cases hd1 : d < 1
  · rw [Pl.do_bad (by omega) (by omega) (by omega) (by omega)] at hR
    have hd : decide (d < 1) = true := by simpa using hd1
    go_enter Try.func19, Try.ntmps19
    go_wp2_with fail
    exact hR.out _ _ ⟨rfl, H1.out, HO1.out⟩
  by_cases hd4 : 4 < d
  · rw [Pl.do_bad (by omega) (by omega) (by omega) (by omega)] at hR
    have hd : decide (d < 1) = false := by simpa using hd1
    have hd' : decide (4 < d) = true := by simpa using hd4
    go_enter Try.func19, Try.ntmps19
    go_wp2_with fail
    exact hR.out _ _ ⟨rfl, H1.out, HO1.out⟩
  obtain rfl | rfl | rfl | rfl : d = 1 ∨ d = 2 ∨ d = 3 ∨ d = 4 := by omega
  · cases hy : (y != 0)
    · have hy0 : y = 0 := by simpa using hy
      rw [show P.do 1 x y = P.alloc x by unfold Pl.do; rw [if_pos ⟨rfl, hy0⟩]] at hR
      have hc := alloc_rep _ p b P H1.out x
      clear hy0
      go_enter Try.func19, Try.ntmps19
      go_wp2_with fail
      refine hc.mono ?_
      rintro e w2 ⟨rfl, h2, o2⟩
      go_wp2_with fail
      exact hR.out _ _ ⟨rfl, h2, HO1.out.trans o2 (by simp)⟩
    · have hy0 : y ≠ 0 := by simpa using hy
      rw [Pl.do_bad (by omega) (by omega) (by omega) (by omega)] at hR
      clear hy0
      go_enter Try.func19, Try.ntmps19
      go_wp2_with fail
      exact hR.out _ _ ⟨rfl, H1.out, HO1.out⟩
  · cases hy : (y != 0)
    · have hy0 : y = 0 := by simpa using hy
      rw [show P.do 2 x y = (0, P.free x) by unfold Pl.do; rw [if_neg (by omega), if_pos ⟨rfl, hy0⟩]] at hR
      have hc := free_rep _ p b P H1.out x
      clear hy0
      go_enter Try.func19, Try.ntmps19
      go_wp2_with fail
      refine hc.mono ?_
      rintro e w2 ⟨rfl, h2, o2⟩
      go_wp2_with fail
      exact hR.out _ _ ⟨rfl, h2, HO1.out.trans o2 (by simp)⟩
    · have hy0 : y ≠ 0 := by simpa using hy
      rw [Pl.do_bad (by omega) (by omega) (by omega) (by omega)] at hR
      clear hy0
      go_enter Try.func19, Try.ntmps19
      go_wp2_with fail
      exact hR.out _ _ ⟨rfl, H1.out, HO1.out⟩
  · rw [show P.do 3 x y = (0, P.setCell x y) by unfold Pl.do; rw [if_neg (by omega), if_neg (by omega), if_pos rfl]] at hR
    have hc := setCell_rep _ p b P H1.out x y
    go_enter Try.func19, Try.ntmps19
    go_wp2_with fail
    refine hc.mono ?_
    rintro e w2 ⟨rfl, h2, o2⟩
    go_wp2_with fail
    exact hR.out _ _ ⟨rfl, h2, HO1.out.trans o2 (by simp)⟩
  · cases hy : (y != 0)
    · have hy0 : y = 0 := by simpa using hy
      cases hx : (x != 0)
      · have hx0 : x = 0 := by simpa using hx
        rw [show P.do 4 x y = (P.move.2.1, P.move.2.2.1, P.move.2.2.2) by unfold Pl.do; rw [if_neg (by omega), if_neg (by omega), if_neg (by omega), if_pos ⟨rfl, hx0, hy0⟩]] at hR
        have hc := move_rep _ p b P H1.out
        clear hy0 hx0
        go_enter Try.func19, Try.ntmps19
        go_wp2_with fail
        refine hc.mono ?_
        rintro e w2 ⟨rfl, h2, o2⟩
        go_wp2_with fail
        exact hR.out _ _ ⟨rfl, h2, HO1.out.trans o2 (by simp)⟩
      · have hx0 : x ≠ 0 := by simpa using hx
        rw [Pl.do_bad (by omega) (by omega) (by omega) (by omega)] at hR
        clear hy0 hx0
        go_enter Try.func19, Try.ntmps19
        go_wp2_with fail
        exact hR.out _ _ ⟨rfl, H1.out, HO1.out⟩
    · have hy0 : y ≠ 0 := by simpa using hy
      rw [Pl.do_bad (by omega) (by omega) (by omega) (by omega)] at hR
      clear hy0
      go_enter Try.func19, Try.ntmps19
      go_wp2_with fail
      exact hR.out _ _ ⟨rfl, H1.out, HO1.out⟩
theorem do_nil (w : World) (d x y : Int) :
    Calls Try.prog 19 #[.pointer none, .agg #[.int .i64 d, .int .i64 x, .int .i64 y]] w fun e w' => ∃ n, e = .returned (.tuple #[.int .i64 n, .int .i64 1]) ∧ Only [] w w' := by
  refine calls_abs fun R hR => ?_
  have HO1 := Lib.hid ((Only.refl [] w).alloc (.cells #[.int .i64 d, .int .i64 x, .int .i64 y] 34))
  by_cases hd1 : d < 1
  · have hd : decide (d < 1) = true := by simpa using hd1
    go_enter Try.func19, Try.ntmps19
    go_wp2_with fail
    exact hR.out _ _ ⟨_, rfl, HO1.out⟩
  by_cases hd4 : 4 < d
  · have hd : decide (d < 1) = false := by simpa using hd1
    have hd' : decide (4 < d) = true := by simpa using hd4
    go_enter Try.func19, Try.ntmps19
    go_wp2_with fail
    exact hR.out _ _ ⟨_, rfl, HO1.out⟩
  obtain rfl | rfl | rfl | rfl : d = 1 ∨ d = 2 ∨ d = 3 ∨ d = 4 := by omega
  · cases hy : (y != 0)
    · go_enter Try.func19, Try.ntmps19
      go_wp2_with fail
      refine (alloc_nil _ _).mono ?_
      rintro e w2 ⟨rfl, o2⟩
      go_wp2_with fail
      exact hR.out _ _ ⟨_, rfl, HO1.out.trans o2 (by simp)⟩
    · go_enter Try.func19, Try.ntmps19
      go_wp2_with fail
      exact hR.out _ _ ⟨_, rfl, HO1.out⟩
  · cases hy : (y != 0)
    · go_enter Try.func19, Try.ntmps19
      go_wp2_with fail
      refine (free_nil _ _).mono ?_
      rintro e _ ⟨rfl, rfl⟩
      go_wp2_with fail
      exact hR.out _ _ ⟨_, rfl, HO1.out⟩
    · go_enter Try.func19, Try.ntmps19
      go_wp2_with fail
      exact hR.out _ _ ⟨_, rfl, HO1.out⟩
  · go_enter Try.func19, Try.ntmps19
    go_wp2_with fail
    refine (setCell_nil _ _ _).mono ?_
    rintro e _ ⟨rfl, rfl⟩
    go_wp2_with fail
    exact hR.out _ _ ⟨_, rfl, HO1.out⟩
  · cases hy : (y != 0)
    · cases hx : (x != 0)
      · go_enter Try.func19, Try.ntmps19
        go_wp2_with fail
        refine (move_nil _).mono ?_
        rintro e _ ⟨rfl, rfl⟩
        go_wp2_with fail
        exact hR.out _ _ ⟨_, rfl, HO1.out⟩
      · go_enter Try.func19, Try.ntmps19
        go_wp2_with fail
        exact hR.out _ _ ⟨_, rfl, HO1.out⟩
    · go_enter Try.func19, Try.ntmps19
      go_wp2_with fail
      exact hR.out _ _ ⟨_, rfl, HO1.out⟩
end Go.Proofs.Ytngmiacekcmidaa
