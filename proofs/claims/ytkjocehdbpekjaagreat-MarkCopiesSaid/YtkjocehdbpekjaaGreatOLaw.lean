/- Layer 11's laws: sane; what a nil or zero heap does. -/
import Derived.Test.YtkjocehdbpekjaaGreatSameInts
import Derived.Test.YtkjocehdbpekjaaGreatObjK
namespace Go.Proofs.YtkjocehdbpekjaaGreat
open Go.RowKit Go.Maps
set_option maxHeartbeats 3200000
set_option maxRecDepth 100000
set_option linter.unusedVariables false
theorem Only.pastP {w wr w' : World} (h : Only [] w wr) (k : OnlyP (fun x => w.heap.size ≤ x) wr w') : Only [] w w' :=
  ⟨k.os.trans h.os, k.tape.trans h.tape, k.output.trans h.output, Nat.le_trans h.size k.size, fun x hx hn => by
    rw [k.block x (Nat.lt_of_lt_of_le hx h.size) (by omega)]
    exact h.block x hx hn⟩
theorem Only.bel {w w' : World} (h : Only [] w w') : Below w.heap.size w w' := h.below (Nat.le_refl _) (by simp)
def oM0 : Hp := Hp.new 2
def oM1 : Hp := (oM0.newArray 3 0 9).2.2
theorem osane_r : (oM0.newArray 3 0 9).1 = 1 ∧ (oM0.newArray 3 0 9).2.1 = 0 ∧ oM1.blocks 1 = ([0, 8, 16], 0) := by decide +kernel
theorem osane_ok : oM0.Ok ∧ oM1.Ok := by
  have h0 : oM0.Ok := Hp.Ok.new (by decide) (by decide)
  exact ⟨h0, h0.newArray 3 0 9⟩
theorem handles_nope (w : World) (v : Value) (h : HNope w v) : Calls Tryz.prog 42 #[v] w (Exact w (.slice none 0 0)) := by
  refine calls_abs fun R hR => ?_
  have h1 := hnone_any w v h
  clear h
  go_enter Tryz.func42, Tryz.ntmps42
  go_wp2_with fail
  refine h1.mono ?_
  rintro e _ ⟨rfl, rfl⟩
  go_wp2_with fail
  exact hR.out _ _ ⟨rfl, rfl⟩
theorem reach_nope (w : World) (v : Value) (h : HNope w v) (s : Value) : Calls Tryz.prog 40 #[v, s] w (Exact w (.tuple #[.slice none 0 0, .int .i64 1])) := by
  refine calls_abs fun R hR => ?_
  have h1 := hnone_any w v h
  clear h
  go_enter Tryz.func40, Tryz.ntmps40
  go_wp2_with fail
  refine h1.mono ?_
  rintro e _ ⟨rfl, rfl⟩
  go_wp2_with fail
  exact hR.out _ _ ⟨rfl, rfl⟩
end Go.Proofs.YtkjocehdbpekjaaGreat
