/- Law MarkNil: what a nil marker does; the walk (printed by wip/gen/mknil.py). -/
import Derived.Test.YtkjocehdbpekjaaMkL
namespace Go.Proofs.Ytkjocehdbpekjaa
open Go.RowKit Go.Maps
set_option maxHeartbeats 12800000
set_option maxRecDepth 100000
set_option linter.unusedVariables false
theorem mnext_nil (w : World) : Calls Try.prog 19 #[.pointer none] w (Exact w (.tuple #[.int .i64 0, .int .i64 1])) := by
  refine calls_abs fun R hR => ?_
  have c_none := mnone_nil w
  go_enter Try.func19, Try.ntmps19
  go_wp2_with fail
  refine c_none.mono ?_
  rintro e _ ⟨rfl, rfl⟩
  go_wp2_with fail
  exact hR.out _ _ ⟨rfl, rfl⟩
theorem mstep_nil (w : World) : Calls Try.prog 18 #[.pointer none] w (Exact w (.tuple #[.int .i64 0, .int .i64 1])) := by
  refine calls_abs fun R hR => ?_
  have c_next := mnext_nil w
  go_enter Try.func18, Try.ntmps18
  go_wp2_with fail
  refine c_next.mono ?_
  rintro e _ ⟨rfl, rfl⟩
  go_wp2_with fail
  exact hR.out _ _ ⟨rfl, rfl⟩
theorem mnewObject_nil (w : World) (c : Int) (v : Value) : Calls Try.prog 20 #[.pointer none, .int .i64 c, v] w (Exact w (.tuple #[.int .i64 0, .int .i64 1])) := by
  refine calls_abs fun R hR => ?_
  have c_none := mnone_nil w
  go_enter Try.func20, Try.ntmps20
  go_wp2_with fail
  refine c_none.mono ?_
  rintro e _ ⟨rfl, rfl⟩
  go_wp2_with fail
  exact hR.out _ _ ⟨rfl, rfl⟩
theorem mnewArray_nil (w : World) (a b c : Int) : Calls Try.prog 21 #[.pointer none, .int .i64 a, .int .i64 b, .int .i64 c] w (Exact w (.tuple #[.int .i64 0, .int .i64 1])) := by
  refine calls_abs fun R hR => ?_
  have c_none := mnone_nil w
  go_enter Try.func21, Try.ntmps21
  go_wp2_with fail
  refine c_none.mono ?_
  rintro e _ ⟨rfl, rfl⟩
  go_wp2_with fail
  exact hR.out _ _ ⟨rfl, rfl⟩
theorem mcolor_nil (w : World) (x : Int) : Calls Try.prog 22 #[.pointer none, .int .i64 x] w (Exact w (.tuple #[.int .i64 0, .int .i64 1])) := by
  refine calls_abs fun R hR => ?_
  have c_none := mnone_nil w
  go_enter Try.func22, Try.ntmps22
  go_wp2_with fail
  refine c_none.mono ?_
  rintro e _ ⟨rfl, rfl⟩
  go_wp2_with fail
  exact hR.out _ _ ⟨rfl, rfl⟩
theorem mforget_nil (w : World) (x : Int) : Calls Try.prog 23 #[.pointer none, .int .i64 x] w (Exact w (.tuple #[])) := by
  refine calls_abs fun R hR => ?_
  have c_none := mnone_nil w
  go_enter Try.func23, Try.ntmps23
  go_wp2_with fail
  refine c_none.mono ?_
  rintro e _ ⟨rfl, rfl⟩
  go_wp2_with fail
  go_end0
  exact hR.out _ _ ⟨rfl, rfl⟩
theorem mstore_nil (w : World) (x s v : Int) : Calls Try.prog 24 #[.pointer none, .int .i64 x, .int .i64 s, .int .i64 v] w (Exact w (.int .i64 1)) := by
  refine calls_abs fun R hR => ?_
  have c_none := mnone_nil w
  go_enter Try.func24, Try.ntmps24
  go_wp2_with fail
  refine c_none.mono ?_
  rintro e _ ⟨rfl, rfl⟩
  go_wp2_with fail
  exact hR.out _ _ ⟨rfl, rfl⟩
theorem mshade_nil (w : World) (x : Int) : Calls Try.prog 25 #[.pointer none, .int .i64 x] w (Exact w (.int .i64 1)) := by
  refine calls_abs fun R hR => ?_
  have c_none := mnone_nil w
  go_enter Try.func25, Try.ntmps25
  go_wp2_with fail
  refine c_none.mono ?_
  rintro e _ ⟨rfl, rfl⟩
  go_wp2_with fail
  exact hR.out _ _ ⟨rfl, rfl⟩
theorem mgray_nil (w : World) : Calls Try.prog 26 #[.pointer none] w (Exact w (.slice none 0 0)) := by
  refine calls_abs fun R hR => ?_
  have c_none := mnone_nil w
  go_enter Try.func26, Try.ntmps26
  go_wp2_with fail
  refine c_none.mono ?_
  rintro e _ ⟨rfl, rfl⟩
  go_wp2_with fail
  exact hR.out _ _ ⟨rfl, rfl⟩
theorem mwhite_nil (w : World) : Calls Try.prog 27 #[.pointer none] w (fun e w' => e = .returned (.slice none 0 0) ∧ Only [] w w') := by
  refine calls_abs fun R hR => ?_
  have cb := (Row.new w 33 [.pointer none]).cell 0 rfl
  have HO : Hid (Only [] w (w.alloc (.cells #[.pointer none] 33))) := (Only.refl [] w).alloc _
  have c_none := mnone_nil (w.alloc (.cells #[.pointer none] 33))
  go_enter Try.func27, Try.ntmps27
  go_wp2_with fail
  refine c_none.mono ?_
  rintro e _ ⟨rfl, rfl⟩
  go_wp2_with fail
  exact hR.out _ _ ⟨rfl, HO.out⟩
theorem mdone_nil (w : World) : Calls Try.prog 28 #[.pointer none] w (Exact w (.bool true)) := by
  refine calls_abs fun R hR => ?_
  have c_none := mnone_nil w
  go_enter Try.func28, Try.ntmps28
  go_wp2_with fail
  refine c_none.mono ?_
  rintro e _ ⟨rfl, rfl⟩
  go_wp2_with fail
  exact hR.out _ _ ⟨rfl, rfl⟩
theorem mheap_nil (w : World) : Calls Try.prog 29 #[.pointer none] w (Exact w (.pointer none)) := by
  refine calls_abs fun R hR => ?_
  have c_none := mnone_nil w
  go_enter Try.func29, Try.ntmps29
  go_wp2_with fail
  refine c_none.mono ?_
  rintro e _ ⟨rfl, rfl⟩
  go_wp2_with fail
  exact hR.out _ _ ⟨rfl, rfl⟩
theorem mcopy_nil (w : World) : Calls Try.prog 30 #[.pointer none] w (Exact w (.pointer none)) := by
  refine calls_abs fun R hR => ?_
  have c_none := mnone_nil w
  go_enter Try.func30, Try.ntmps30
  go_wp2_with fail
  refine c_none.mono ?_
  rintro e _ ⟨rfl, rfl⟩
  go_wp2_with fail
  exact hR.out _ _ ⟨rfl, rfl⟩
theorem mrun_nil (w : World) : Calls Try.prog 7 #[.pointer none] w (Exact w (.int .i64 0)) := by
  refine calls_abs fun R hR => ?_
  have c := mdone_nil w
  go_enter Try.func7, Try.ntmps7
  go_wp2_with fail
  go_loopw [3] (fun iv wr => iv = .int .i64 0 ∧ wr = w) (fun _ _ => 0)
  case atStart => exact ⟨rfl, rfl⟩
  case round =>
    obtain ⟨rfl, rfl⟩ := hrel
    go_wp2_with fail
    refine c.mono ?_
    rintro e _ ⟨rfl, rfl⟩
    go_wp2_with fail
    exact hR.out _ _ ⟨rfl, rfl⟩
theorem walk_MarkNil (handle slot value : Int) (a2 : Option Addr) (n2 cap2 : Nat) (f2 : Nat → Int) (w : World) (w1 : (Lit.int .i64 handle).wf = true) (w2 : (Lit.int .i64 slot).wf = true) (w3 : (Lit.int .i64 value).wf = true) (h2 : Nums w a2 n2 f2) :
    Calls Try.prog 4 #[.int .i64 handle, .int .i64 slot, .int .i64 value, .slice a2 n2 cap2] w fun e w' => e = .returned (.bool true) ∧ Below w.heap.size w w' := by
  refine calls_abs fun R hR => ?_
  have c1 := mbegin_nil w (.slice a2 n2 cap2)
  clear h2 w1 w2 w3
  go_enter Try.func4, Try.ntmps4
  go_wp2_with fail
  refine c1.mono ?_
  rintro e w1 ⟨rfl, ho⟩
  have HO1 := Lib.hid ho
  clear c1 ho
  have c := mstep_nil w1
  go_wp2_with fail
  refine c.mono ?_
  rintro e _ ⟨rfl, rfl⟩
  clear c
  have c := mnext_nil w1
  go_wp2_with fail
  refine c.mono ?_
  rintro e _ ⟨rfl, rfl⟩
  clear c
  have c := mnewObject_nil w1 0 (.slice none 0 0)
  go_wp2_with fail
  refine c.mono ?_
  rintro e _ ⟨rfl, rfl⟩
  clear c
  have c := mnewArray_nil w1 3 0 1
  go_wp2_with fail
  refine c.mono ?_
  rintro e _ ⟨rfl, rfl⟩
  clear c
  have c := mcolor_nil w1 handle
  go_wp2_with fail
  refine c.mono ?_
  rintro e _ ⟨rfl, rfl⟩
  clear c
  have c := mforget_nil w1 handle
  go_wp2_with fail
  refine c.mono ?_
  rintro e _ ⟨rfl, rfl⟩
  clear c
  have c := mstore_nil w1 handle slot value
  go_wp2_with fail
  refine c.mono ?_
  rintro e _ ⟨rfl, rfl⟩
  clear c
  have c := mshade_nil w1 handle
  go_wp2_with fail
  refine c.mono ?_
  rintro e _ ⟨rfl, rfl⟩
  clear c
  have c := mgray_nil w1
  go_wp2_with fail
  refine c.mono ?_
  rintro e _ ⟨rfl, rfl⟩
  clear c
  have c := mwhite_nil w1
  go_wp2_with fail
  refine c.mono ?_
  rintro e w2 ⟨rfl, ho⟩
  have HO2 : Hid (Only [] w w2) := HO1.out.trans ho (by simp)
  clear c ho HO1
  have c := mdone_nil w2
  go_wp2_with fail
  refine c.mono ?_
  rintro e _ ⟨rfl, rfl⟩
  clear c
  have c := mrun_nil w2
  go_wp2_with fail
  refine c.mono ?_
  rintro e _ ⟨rfl, rfl⟩
  clear c
  have c := mheap_nil w2
  go_wp2_with fail
  refine c.mono ?_
  rintro e _ ⟨rfl, rfl⟩
  clear c
  have c := mcopy_nil w2
  go_wp2_with fail
  refine c.mono ?_
  rintro e _ ⟨rfl, rfl⟩
  clear c
  have c := msane_any w2
  go_wp2_with fail
  refine c.mono ?_
  rintro e w3 ⟨rfl, ho⟩
  have HE : Hid (Below w.heap.size w w3) := bel3 HO2.out ho
  clear c ho
  go_wp2_with fail
  exact hR.out _ _ ⟨rfl, HE.out⟩
end Go.Proofs.Ytkjocehdbpekjaa
