/- What a queue and a log that are nil do; the law QueueNil, walked. -/
import Derived.Test.YtemdkffkpdhciaaQLawB
import Derived.Test.YtemdkffkpdhciaaArgs
namespace Go.Proofs.Ytemdkffkpdhciaa
open Go.RowKit
set_option maxHeartbeats 400000
set_option maxRecDepth 100000
set_option linter.unusedVariables false

theorem beginPut_nil (w : World) (n : Int) : Calls Try.prog 14 #[.pointer none, .int .i64 n] w (Exact w (.int .i64 1)) := by
  refine calls_abs fun R hR => ?_
  go_enter Try.func14, Try.ntmps14
  go_wp2_with fail
  refine (none_nil _).mono ?_
  rintro e _ ⟨rfl, rfl⟩
  go_wp2_with fail
  exact hR.out _ _ ⟨rfl, rfl⟩
theorem beginTake_nil (w : World) : Calls Try.prog 16 #[.pointer none] w (Exact w (.int .i64 1)) := by
  refine calls_abs fun R hR => ?_
  go_enter Try.func16, Try.ntmps16
  go_wp2_with fail
  refine (none_nil _).mono ?_
  rintro e _ ⟨rfl, rfl⟩
  go_wp2_with fail
  exact hR.out _ _ ⟨rfl, rfl⟩
theorem stepPut_nil (w : World) : Calls Try.prog 15 #[.pointer none] w (Exact w (.tuple #[.bool false, .bool false, .int .i64 1])) := by
  refine calls_abs fun R hR => ?_
  go_enter Try.func15, Try.ntmps15
  go_wp2_with fail
  refine (none_nil _).mono ?_
  rintro e _ ⟨rfl, rfl⟩
  go_wp2_with fail
  try go_ret3
  exact hR.out _ _ ⟨rfl, rfl⟩
theorem stepTake_nil (w : World) : Calls Try.prog 17 #[.pointer none] w (Exact w (.tuple #[.bool false, .bool false, .int .i64 0, .int .i64 1])) := by
  refine calls_abs fun R hR => ?_
  go_enter Try.func17, Try.ntmps17
  go_wp2_with fail
  refine (none_nil _).mono ?_
  rintro e _ ⟨rfl, rfl⟩
  go_wp2_with fail
  refine bodyPost_ret (results_tmp4 rfl _ _ _) rfl ?_
  exact hR.out _ _ ⟨rfl, rfl⟩
theorem put_nil (w : World) (n : Int) : Calls Try.prog 24 #[.pointer none, .int .i64 n] w (Exact w (.tuple #[.bool false, .int .i64 1])) := by
  refine calls_abs fun R hR => ?_
  go_enter Try.func24, Try.ntmps24
  go_wp2_with fail
  refine (beginPut_nil _ _).mono ?_
  rintro e _ ⟨rfl, rfl⟩
  go_wp2_with fail
  exact hR.out _ _ ⟨rfl, rfl⟩
theorem take_nil (w : World) : Calls Try.prog 25 #[.pointer none] w (Exact w (.tuple #[.int .i64 0, .bool false, .int .i64 1])) := by
  refine calls_abs fun R hR => ?_
  go_enter Try.func25, Try.ntmps25
  go_wp2_with fail
  refine (beginTake_nil _).mono ?_
  rintro e _ ⟨rfl, rfl⟩
  go_wp2_with fail
  try go_ret3
  exact hR.out _ _ ⟨rfl, rfl⟩
theorem logNone_nil (w : World) : Calls Try.prog 58 #[.pointer none] w (Exact w (.bool true)) := by
  refine calls_abs fun R hR => ?_
  go_enter Try.func58, Try.ntmps58
  go_wp2_with fail
  exact hR.out _ _ ⟨rfl, rfl⟩
theorem logAdd_nil (w : World) (n : Int) : Calls Try.prog 31 #[.pointer none, .int .i64 n] w (Exact w (.int .i64 1)) := by
  refine calls_abs fun R hR => ?_
  go_enter Try.func31, Try.ntmps31
  go_wp2_with fail
  refine (logNone_nil _).mono ?_
  rintro e _ ⟨rfl, rfl⟩
  go_wp2_with fail
  exact hR.out _ _ ⟨rfl, rfl⟩
theorem logLast_nil (w : World) : Calls Try.prog 35 #[.pointer none] w (Exact w (.slice none 0 0)) := by
  refine calls_abs fun R hR => ?_
  go_enter Try.func35, Try.ntmps35
  go_wp2_with fail
  refine (logNone_nil _).mono ?_
  rintro e _ ⟨rfl, rfl⟩
  go_wp2_with fail
  exact hR.out _ _ ⟨rfl, rfl⟩
theorem logLost_nil (w : World) : Calls Try.prog 37 #[.pointer none] w (Exact w (.int .i64 0)) := by
  refine calls_abs fun R hR => ?_
  go_enter Try.func37, Try.ntmps37
  go_wp2_with fail
  refine (logNone_nil _).mono ?_
  rintro e _ ⟨rfl, rfl⟩
  go_wp2_with fail
  exact hR.out _ _ ⟨rfl, rfl⟩
theorem logDrain_nil (w : World) : Calls Try.prog 33 #[.pointer none] w (Exact w (.slice none 0 0)) := by
  refine calls_abs fun R hR => ?_
  go_enter Try.func33, Try.ntmps33
  go_wp2_with fail
  refine (logLast_nil _).mono ?_
  rintro e _ ⟨rfl, rfl⟩
  go_wp2_with fail
  refine (logNone_nil _).mono ?_
  rintro e _ ⟨rfl, rfl⟩
  go_wp2_with fail
  exact hR.out _ _ ⟨rfl, rfl⟩

theorem walk_QueueNil (a0 : Int) (w : World) (w0 : (Lit.int .i64 a0).wf = true) :
    Calls Try.prog 9 #[.int .i64 a0] w fun e w' => e = .returned (.bool true) ∧ Below w.heap.size w w' := by
  refine calls_abs fun R hR => ?_
  clear w0
  go_enter Try.func9, Try.ntmps9
  go_wp2_with fail
  refine (stepPut_nil _).mono ?_
  rintro e _ ⟨rfl, rfl⟩
  go_wp2_with fail
  refine (stepTake_nil _).mono ?_
  rintro e _ ⟨rfl, rfl⟩
  go_wp2_with fail
  refine (put_nil _ _).mono ?_
  rintro e _ ⟨rfl, rfl⟩
  go_wp2_with fail
  refine (take_nil _).mono ?_
  rintro e _ ⟨rfl, rfl⟩
  go_wp2_with fail
  refine (busy_nil _).mono ?_
  rintro e _ ⟨rfl, n1, rfl⟩
  go_wp2_with fail
  refine (beginPut_nil _ _).mono ?_
  rintro e _ ⟨rfl, rfl⟩
  go_wp2_with fail
  refine (beginTake_nil _).mono ?_
  rintro e _ ⟨rfl, rfl⟩
  go_wp2_with fail
  refine (len_nil _).mono ?_
  rintro e _ ⟨rfl, rfl⟩
  go_wp2_with fail
  refine (items_nil _).mono ?_
  rintro e _ ⟨rfl, rfl⟩
  go_wp2_with fail
  refine (copy_nil _).mono ?_
  rintro e _ ⟨rfl, rfl⟩
  go_wp2_with fail
  refine (logAdd_nil _ _).mono ?_
  rintro e _ ⟨rfl, rfl⟩
  go_wp2_with fail
  refine (logLast_nil _).mono ?_
  rintro e _ ⟨rfl, rfl⟩
  go_wp2_with fail
  refine (logLost_nil _).mono ?_
  rintro e _ ⟨rfl, rfl⟩
  go_wp2_with fail
  refine (logDrain_nil _).mono ?_
  rintro e _ ⟨rfl, rfl⟩
  go_wp2_with fail
  refine (sane_any _).mono ?_
  rintro e w4 ⟨rfl, o4⟩
  go_wp2_with fail
  exact hR.out _ _ ⟨rfl, (((Only.refl [] _).drewN _).trans o4 (by simp)).below (Nat.le_refl _) (by simp)⟩
end Go.Proofs.Ytemdkffkpdhciaa
