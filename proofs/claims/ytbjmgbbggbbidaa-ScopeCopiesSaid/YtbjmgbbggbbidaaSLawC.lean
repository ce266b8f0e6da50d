/- Layer 15's laws: sane, play. -/
import Derived.Test.YtbjmgbbggbbidaaSLawB
import Derived.Test.YtbjmgbbggbbidaaArgs
namespace Go.Proofs.Ytbjmgbbggbbidaa
open Go.RowKit Go.Maps
set_option maxHeartbeats 3200000
set_option maxRecDepth 100000
set_option linter.unusedVariables false
def sM0 : Sc := Sc.new [4, 4]
def sM1 : Sc := (sM0.enter 0 2).2
def sM2 : Sc := (sM1.enter 0 3).2
def sM3 : Sc := (sM2.enter 1 3).2
theorem sane_r : (sM0.enter 0 2).1 = 0 ∧ (sM1.enter 0 3).1 = 0 ∧ (sM2.enter 1 3).1 = 17 ∧ sM3.parent 3 = (2, 0) := by decide +kernel
theorem sane_ok : sM0.Ok ∧ sM1.Ok ∧ sM2.Ok ∧ sM3.Ok := by
  have h0 : sM0.Ok := Sc.Ok.new (by decide)
  have h1 : sM1.Ok := h0.enter 0 2
  have h2 : sM2.Ok := h1.enter 0 3
  exact ⟨h0, h1, h2, h2.enter 1 3⟩
theorem sane_any (w : World) : Calls Try.prog 13 #[] w (fun e w' => e = .returned (.bool true) ∧ Only [] w w') := by
  refine calls_abs fun R hR => ?_
  have hn := new_good (w.alloc (.cells #[.int .i64 4, .int .i64 4] 3)) (.slice (some ⟨w.heap.size, 0, none⟩) 2 2) [4, 4] (.inl ⟨w.heap.size, 0, 2, rfl, fun i hi => by
    match i, hi with
    | 0, _ => exact (Row.new w 3 [.int .i64 4, .int .i64 4]).cell 0 rfl
    | 1, _ => exact (Row.new w 3 [.int .i64 4, .int .i64 4]).cell 1 rfl⟩) (by decide)
  obtain ⟨s0, s1, s2, s3⟩ := sane_ok
  obtain ⟨r0, r1, r2, r3⟩ := sane_r
  have OK0 := Lib.hid s0
  have OK1 := Lib.hid s1
  have OK2 := Lib.hid s2
  have OK3 := Lib.hid s3
  have R0 := Lib.hid r0
  have R1 := Lib.hid r1
  have R2 := Lib.hid r2
  have R3 := Lib.hid r3
  clear s0 s1 s2 s3 r0 r1 r2 r3
  go_enter Try.func13, Try.ntmps13
  go_wp2_with fail
  refine hn.mono ?_
  rintro e w1 ⟨p, L, X, rfl, hp, hL, ho⟩
  have O1 : Hid (Only [] w w1) := ((Only.refl _ w).alloc _).trans ho (by simp)
  have hL1 : Hid (∀ k, L k ≠ none → w.heap.size ≤ k) := fun k hk => by have := hL k hk; simp at this; omega
  have hp0 : PRep w1 L p sM0.toP X := hp
  have c := enter_rep w1 hp0 OK0.out.toP 0 2
  rw [OK0.out.toP_enter] at c
  replace c : Calls Try.prog _ _ w1 (Did w1 L p (.int .i64 (sM0.enter 0 2).1) sM1.toP) := c
  rw [R0.out] at c
  clear hn hp hp0 hL ho
  go_wp2_with fail
  refine c.mono ?_
  rintro e w2 ⟨rfl, L2, X2, hp, hL, ho⟩
  have O2 : Hid (Only [] w w2) := O1.out.past ⟨ho.os, ho.tape, ho.output, ho.size, fun k hk hn => ho.block k hk (fun x => hn (hL1.out k x))⟩
  have hL2 : Hid (∀ k, L2 k ≠ none → w.heap.size ≤ k) := fun k hk => (hL k hk).elim (hL1.out k) (fun x => by have := O1.out.size; omega)
  clear c
  have c := enter_rep w2 hp OK1.out.toP 0 3
  rw [OK1.out.toP_enter] at c
  replace c : Calls Try.prog _ _ w2 (Did w2 L2 p (.int .i64 (sM1.enter 0 3).1) sM2.toP) := c
  rw [R1.out] at c
  clear hp hL ho
  go_wp2_with fail
  refine c.mono ?_
  rintro e w3 ⟨rfl, L3, X3, hp, hL, ho⟩
  have O3 : Hid (Only [] w w3) := O2.out.past ⟨ho.os, ho.tape, ho.output, ho.size, fun k hk hn => ho.block k hk (fun x => hn (hL2.out k x))⟩
  have hL3 : Hid (∀ k, L3 k ≠ none → w.heap.size ≤ k) := fun k hk => (hL k hk).elim (hL2.out k) (fun x => by have := O2.out.size; omega)
  clear c
  have c := enter_rep w3 hp OK2.out.toP 1 3
  rw [OK2.out.toP_enter] at c
  replace c : Calls Try.prog _ _ w3 (Did w3 L3 p (.int .i64 (sM2.enter 1 3).1) sM3.toP) := c
  rw [R2.out] at c
  clear hp hL ho
  go_wp2_with fail
  refine c.mono ?_
  rintro e w4 ⟨rfl, L4, X4, hp, hL, ho⟩
  have O4 : Hid (Only [] w w4) := O3.out.past ⟨ho.os, ho.tape, ho.output, ho.size, fun k hk hn => ho.block k hk (fun x => hn (hL3.out k x))⟩
  clear c
  have c := parent_rep w4 hp OK3.out.toP 3
  rw [Sc.toP_parentQ, R3.out] at c
  clear hp hL ho
  go_wp2_with fail
  refine c.mono ?_
  rintro e w5 ⟨rfl, hd⟩
  have O5 : Hid (Only [] w w5) := O4.out.trans (hd.only []) (by simp)
  clear c hd
  go_wp2_with fail
  exact hR.out _ _ ⟨rfl, O5.out⟩
end Go.Proofs.Ytbjmgbbggbbidaa
