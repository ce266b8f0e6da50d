/- Layer 11's laws: sane; what a nil or zero heap does. -/
import Derived.Test.YtcdeikbehpepjaaGreatSameInts
import Derived.Test.YtcdeikbehpepjaaGreatObjK
namespace Go.Proofs.YtcdeikbehpepjaaGreat
open Go.RowKit Go.Maps
set_option maxHeartbeats 3200000
set_option maxRecDepth 100000
set_option linter.unusedVariables false
theorem Only.pastP {w wr w' : World} (h : Only [] w wr) (k : OnlyP (fun x => w.heap.size ≤ x) wr w') : Only [] w w' :=
  ⟨k.os.trans h.os, k.tape.trans h.tape, k.output.trans h.output, Nat.le_trans h.size k.size, fun x hx hn => by
    rw [k.block x (Nat.lt_of_lt_of_le hx h.size) (by omega)]
    exact h.block x hx hn⟩
theorem Only.bel {w w' : World} (h : Only [] w w') : Below w.heap.size w w' := h.below (Nat.le_refl _) (by simp)
def oM0 : Hp := Hp.new 2
def oM1 : Hp := (oM0.newArray 3 0 9).2.2
theorem osane_r : (oM0.newArray 3 0 9).1 = 1 ∧ (oM0.newArray 3 0 9).2.1 = 0 ∧ oM1.blocks 1 = ([0, 8, 16], 0) := by decide +kernel
theorem osane_ok : oM0.Ok ∧ oM1.Ok := by
  have h0 : oM0.Ok := Hp.Ok.new (by decide) (by decide)
  exact ⟨h0, h0.newArray 3 0 9⟩
theorem osane_any (w : World) : Calls Tryz.prog 14 #[] w (fun e w' => e = .returned (.bool true) ∧ Only [] w w') := by
  refine calls_abs fun R hR => ?_
  have hn := hnew_good w 2 (by decide) (by decide)
  obtain ⟨k0, k1⟩ := osane_ok
  obtain ⟨r0, r1, r2⟩ := osane_r
  have K0 := Lib.hid k0
  have K1 := Lib.hid k1
  have R0 := Lib.hid r0
  have R1 := Lib.hid r1
  have R2 := Lib.hid r2
  clear k0 k1 r0 r1 r2
  go_enter Tryz.func14, Tryz.ntmps14
  go_wp2_with fail
  refine hn.mono ?_
  rintro e w1 ⟨hb, L, X, rfl, hp, hL, ho⟩
  have O1 := Lib.hid ho
  have HL1 := Lib.hid hL
  have c := newArray_rep w1 hp K0.out 3 0 9
  rw [show (Hp.new 2).newArray 3 0 9 = oM0.newArray 3 0 9 from rfl, R0.out, R1.out] at c
  replace c : Calls Tryz.prog _ _ w1 (HDid w1 L hb _ oM1) := c
  clear hn hp hL ho
  go_wp2_with fail
  refine c.mono ?_
  rintro e w2 ⟨rfl, L2, X2, hp, hL, ho⟩
  have O2 : Hid (Only [] w w2) := O1.out.pastP (ho.mono (fun x hx => .inl (HL1.out x hx)))
  have c2 := blocks_rep w2 hp K1.out 1 (by decide)
  rw [R2.out] at c2
  clear c hp hL ho
  go_wp2_with fail
  refine c2.mono ?_
  rintro e w3 ⟨v, rfl, hi, ho⟩
  have O3 : Hid (Only [] w w3) := O2.out.trans ho (by simp)
  obtain ⟨va, vc, rfl⟩ := hi.len
  have I3 := Lib.hid hi
  have c3 := ints_same (w3.alloc (.cells #[.int .i64 0, .int .i64 8, .int .i64 16] 3)) (.slice va 3 vc) (.slice (some ⟨w3.heap.size, 0, none⟩) 3 3) [0, 8, 16] (hi.alloc _).read (.inl ⟨w3.heap.size, 0, 3, rfl, fun i hi => by
    match i, hi with
    | 0, _ => exact (Row.new w3 3 [.int .i64 0, .int .i64 8, .int .i64 16]).cell 0 rfl
    | 1, _ => exact (Row.new w3 3 [.int .i64 0, .int .i64 8, .int .i64 16]).cell 1 rfl
    | 2, _ => exact (Row.new w3 3 [.int .i64 0, .int .i64 8, .int .i64 16]).cell 2 rfl⟩) (by decide)
  clear c2 hi ho
  go_wp2_with fail
  refine c3.mono ?_
  rintro e w4 ⟨rfl, hd⟩
  have O4 : Hid (Only [] w w4) := (O3.out.alloc _).trans (hd.only []) (by simp)
  clear c3 hd
  go_wp2_with fail
  exact hR.out _ _ ⟨rfl, O4.out⟩
theorem handles_nope (w : World) (v : Value) (h : HNope w v) : Calls Tryz.prog 9 #[v] w (Exact w (.slice none 0 0)) := by
  refine calls_abs fun R hR => ?_
  have h1 := hnone_any w v h
  clear h
  go_enter Tryz.func9, Tryz.ntmps9
  go_wp2_with fail
  refine h1.mono ?_
  rintro e _ ⟨rfl, rfl⟩
  go_wp2_with fail
  exact hR.out _ _ ⟨rfl, rfl⟩
theorem reach_nope (w : World) (v : Value) (h : HNope w v) (s : Value) : Calls Tryz.prog 26 #[v, s] w (Exact w (.tuple #[.slice none 0 0, .int .i64 1])) := by
  refine calls_abs fun R hR => ?_
  have h1 := hnone_any w v h
  clear h
  go_enter Tryz.func26, Tryz.ntmps26
  go_wp2_with fail
  refine h1.mono ?_
  rintro e _ ⟨rfl, rfl⟩
  go_wp2_with fail
  exact hR.out _ _ ⟨rfl, rfl⟩
end Go.Proofs.YtcdeikbehpepjaaGreat
