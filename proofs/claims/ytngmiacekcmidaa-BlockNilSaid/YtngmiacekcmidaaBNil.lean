/- The law BlockNil, walked. -/
import Derived.Test.YtngmiacekcmidaaBlockN
import Derived.Test.YtngmiacekcmidaaArgs
namespace Go.Proofs.Ytngmiacekcmidaa
open Go.RowKit
set_option maxHeartbeats 3200000
set_option maxRecDepth 100000
set_option linter.unusedVariables false

theorem walk_BlockNil (a n d x y : Int) (w : World) :
    Calls Try.prog 11 #[.int .i64 a, .int .i64 n, .agg #[.int .i64 d, .int .i64 x, .int .i64 y]] w fun e w' => e = .returned (.bool true) ∧ Below w.heap.size w w' := by
  refine calls_abs fun R hR => ?_
  go_enter Try.func11, Try.ntmps11
  go_wp2_with fail
  refine (alloc_nil _ _).mono ?_
  rintro e w1 ⟨rfl, o1⟩
  have z0 := o1.cell ((Row.new w 34 [.int .i64 d, .int .i64 x, .int .i64 y]).cell 0 rfl) (by simp)
  have z1 := o1.cell ((Row.new w 34 [.int .i64 d, .int .i64 x, .int .i64 y]).cell 1 rfl) (by simp)
  have z2 := o1.cell ((Row.new w 34 [.int .i64 d, .int .i64 x, .int .i64 y]).cell 2 rfl) (by simp)
  have o1' := ((Only.refl [] w).alloc _).trans o1 (by simp)
  clear o1
  go_wp2_with fail
  refine (cell_nil _ _).mono ?_
  rintro e _ ⟨rfl, rfl⟩
  go_wp2_with fail
  refine (move_nil _).mono ?_
  rintro e _ ⟨rfl, rfl⟩
  go_wp2_with fail
  refine (do_nil _ _ _ _).mono ?_
  rintro e w2 ⟨m, rfl, o2⟩
  have o2' := o1'.trans o2 (by simp)
  clear o1' o2 z0 z1 z2
  go_wp2_with fail
  refine (pages_nil _).mono ?_
  rintro e _ ⟨rfl, rfl⟩
  go_wp2_with fail
  refine (begin_nil _ _).mono ?_
  rintro e _ ⟨rfl, rfl⟩
  go_wp2_with fail
  refine (used_nil _ _).mono ?_
  rintro e _ ⟨rfl, rfl⟩
  go_wp2_with fail
  refine (room_nil _ _).mono ?_
  rintro e _ ⟨rfl, rfl⟩
  go_wp2_with fail
  refine (classOf_nil _ _).mono ?_
  rintro e _ ⟨rfl, rfl⟩
  go_wp2_with fail
  refine (new_yes _ 1 (by omega) (by omega)).mono ?_
  rintro e w3 ⟨p, b, rfl, h3, o3, hp, hb⟩
  have o3' := o2'.trans o3 (by simp)
  clear o2' o3
  go_wp2_with fail
  refine (free_nil _ _).mono ?_
  rintro e _ ⟨rfl, rfl⟩
  go_wp2_with fail
  refine (setCell_nil _ _ _).mono ?_
  rintro e _ ⟨rfl, rfl⟩
  go_wp2_with fail
  refine (moves_nil _).mono ?_
  rintro e _ ⟨rfl, rfl⟩
  go_wp2_with fail
  refine (copy_nil _).mono ?_
  rintro e _ ⟨rfl, rfl⟩
  go_wp2_with fail
  refine (same_nil _).mono ?_
  rintro e w4 ⟨rfl, hd4⟩
  have h4 := h3.drewTo hd4
  have o4' := o3'.trans (hd4.only []) (by simp)
  clear h3 o3' hd4
  go_wp2_with fail
  refine (same_nil2 _ p b _ h4).mono ?_
  rintro e w5 ⟨rfl, hd5⟩
  have h5 := h4.drewTo hd5
  have o5' := o4'.trans (hd5.only []) (by simp)
  clear h4 o4' hd5
  go_wp2_with fail
  refine (same_nil1 _ p b _ h5).mono ?_
  rintro e w6 ⟨rfl, hd6⟩
  have o6' := o5'.trans (hd6.only []) (by simp)
  clear h5 o5' hd6
  go_wp2_with fail
  refine (sane_any _).mono ?_
  rintro e w7 ⟨rfl, o7⟩
  go_wp2_with fail
  exact hR.out _ _ ⟨rfl, (o6'.trans o7 (by simp)).below (Nat.le_refl _) (by simp)⟩
end Go.Proofs.Ytngmiacekcmidaa
