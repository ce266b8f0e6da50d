/- Layer 12's laws: sane, refs, before, begun. Layer 12's laws: before (printed by wip/gen/mkbefore.py). Layer 12's laws: sane, begun. -/
import Derived.Test.YtkjocehdbpekjaaMkG
import Derived.Test.YtkjocehdbpekjaaOReaches
namespace Go.Proofs.Ytkjocehdbpekjaa
open Go.RowKit Go.Maps
set_option maxHeartbeats 6400000
set_option maxRecDepth 100000
set_option linter.unusedVariables false
def bitAt (c : Int) (i : Nat) : Bool := bits BinOp.and IntKind.i64 (c / 2 ^ i) 1 == 1
def cut9 (b : Int) : Nat := min b.toNat 9
def bitsL (b c : Int) (k : Nat) : List Bool := (List.range k).map (bitAt c)
theorem bitsL_len (b c : Int) (k : Nat) : (bitsL b c k).length = k := by simp [bitsL]
theorem bitsL_succ (b c : Int) (k : Nat) : bitsL b c (k + 1) = bitsL b c k ++ [bitAt c k] := by simp [bitsL, List.range_succ]
theorem cut9_le (b : Int) : cut9 b ≤ 9 := Nat.min_le_right _ _
end Go.Proofs.Ytkjocehdbpekjaa
namespace Go.Proofs.Ytkjocehdbpekjaa
open Go.RowKit Go.Maps
set_option maxHeartbeats 12800000
set_option maxRecDepth 100000
set_option linter.unusedVariables false
end Go.Proofs.Ytkjocehdbpekjaa
namespace Go.Proofs.Ytkjocehdbpekjaa
open Go.RowKit Go.Maps
set_option maxHeartbeats 12800000
set_option maxRecDepth 100000
set_option linter.unusedVariables false
def kM0 : Hp := Hp.new 2
def kM1 : Hp := (kM0.newObject 0 [true]).2.2
def kM2 : Hp := (kM1.newObject 0 []).2.2
def kM3 : Hp := (kM2.set 1 0 2).2
def km0 : Mk := (Mk.start kM3).shades [1]
def km1 : Mk := (km0.store 1 0 0).2
theorem ksane_r : (kM0.newObject 0 [true]).1 = 1 ∧ (kM0.newObject 0 [true]).2.1 = 0 ∧ (kM1.newObject 0 []).1 = 2 ∧ (kM1.newObject 0 []).2.1 = 0 ∧ (kM2.set 1 0 2).1 = 0 ∧ (kM3.ob 1).isSome = true ∧ (km0.store 1 0 0).1 = 0 := by decide +kernel
theorem ksane_s : (km1.steps 0).list ≠ [] ∧ (km1.steps 1).list ≠ [] ∧ (km1.steps 2).list = [] ∧ (km1.steps 2).color 1 = (2, 0) ∧ (km1.steps 2).color 2 = (2, 0) := by decide +kernel
theorem ksane_ok : kM0.OkF ∧ kM1.OkF ∧ kM2.OkF ∧ kM3.OkF ∧ km0.Ok ∧ km1.Ok := by
  have h0 : kM0.OkF := Hp.OkF.new (by decide) (by decide)
  have h1 : kM1.OkF := h0.newObject 0 [true]
  have h2 : kM2.OkF := h1.newObject 0 []
  have h3 : kM3.OkF := h2.set 1 0 2
  have h4 : km0.Ok := Mk.Ok.shades _ _ (Mk.Ok.start h3)
  exact ⟨h0, h1, h2, h3, h4, h4.store 1 0 0⟩
theorem ksane_bad : ¬ kM3.badRoot [1] := by
  rintro ⟨x, h1, h2, h3⟩
  simp at h1
  rw [h1] at h3
  have := ksane_r.2.2.2.2.2.1
  rw [h3] at this
  cases this
theorem ksane_run : km1.runs = 2 ∧ km1.run = km1.steps 2 := by
  obtain ⟨h0, h1, h2, _, _⟩ := ksane_s
  have h := Mk.runs_eq ksane_ok.2.2.2.2.2 (i := 2) (fun j hj => by
    match j, hj with
    | 0, _ => exact h0
    | 1, _ => exact h1) h2
  exact ⟨h.symm, by unfold Mk.run; rw [← h]⟩
theorem barg_nil (w : World) : BArg w (.slice none 0 0) [] := .inl ⟨rfl, rfl⟩
theorem barg_row {w : World} {b T : Nat} {x : Bool} (h : Row w b T [.bool x]) : BArg w (.slice (some ⟨b, 0, none⟩) 1 1) [x] := .inr ⟨⟨b, 0, none⟩, 1, rfl, fun i hi => by
  match i, hi with
  | 0, _ => exact h.cell 0 rfl⟩
theorem msane_any (w : World) : Calls Try.prog 31 #[] w (fun e w' => e = .returned (.bool true) ∧ Only [] w w') := by
  refine calls_abs fun R hR => ?_
  have hn := hnew_good w 2 (by decide) (by decide)
  go_enter Try.func31, Try.ntmps31
  go_wp2_with fail
  refine hn.mono ?_
  rintro e w1 ⟨hb, L, X, rfl, hp, hL, ho⟩
  have f1 : Fam w w1 [PH hb kM0] := (Fam.nil w).add (pborn hp ksane_ok.1 hL ho)
  have HB1 : Hid (Fam w (w1.alloc (.cells #[.bool true] 4)) [PH hb kM0]) := f1.alloc _
  have c1 := HB1.out.pstep 0 rfl (M' := kM1) (fun hk => hk.newObject 0 [true]) (fun L X hr hk => newObject_rep _ hr hk 0 (.slice (some ⟨w1.heap.size, 0, none⟩) 1 1) [true] (barg_row (Row.new w1 4 [.bool true])) (by decide))
  rw [ksane_r.1, ksane_r.2.1] at c1
  clear hn hp hL ho f1
  go_wp2_with fail
  refine c1.mono ?_
  rintro e w2 ⟨rfl, f2⟩
  have HF2 : Hid (Fam w w2 [PH hb kM1]) := f2
  have c2 := HF2.out.pstep 0 rfl (M' := kM2) (fun hk => hk.newObject 0 []) (fun L X hr hk => newObject_rep _ hr hk 0 (.slice none 0 0) [] (barg_nil _) (by decide))
  rw [ksane_r.2.2.1, ksane_r.2.2.2.1] at c2
  clear c1 f2 HB1
  go_wp2_with fail
  refine c2.mono ?_
  rintro e w3 ⟨rfl, f3⟩
  have HF3 : Hid (Fam w w3 [PH hb kM2]) := f3
  have c3 := HF3.out.pstep 0 rfl (M' := kM3) (fun hk => hk.set 1 0 2) (fun L X hr hk => set_rep _ hr hk 1 0 2 (by decide) (by decide))
  rw [ksane_r.2.2.2.2.1] at c3
  clear c2 f3 HF2
  go_wp2_with fail
  refine c3.mono ?_
  rintro e w4 ⟨rfl, f4⟩
  have HF4 : Hid (Fam w w4 [PH hb kM3]) := f4
  have HF5 : Hid (Fam w (w4.alloc (.cells #[.int .i64 1] 3)) [PH hb kM3, RowA w4.heap.size 3 [.int .i64 1]]) := HF4.out.addRow 3 [.int .i64 1]
  have hrd : ∀ w', Row w' w4.heap.size 3 [.int .i64 1] → Read w' (.slice (some ⟨w4.heap.size, 0, none⟩) 1 1) [1] := fun w' h => .inl ⟨w4.heap.size, 0, 1, rfl, fun i hi => by
    match i, hi with
    | 0, _ => exact h.cell 0 rfl⟩
  have c4 := mbegin_rep _ HF5.out (i := 0) rfl (some ⟨w4.heap.size, 0, none⟩) 1 1 [1] rfl (by decide) (fun x hx => by simp at hx; rw [hx]; decide) (hrd _ (HF5.out.row 1 rfl)) (fun p w' m' h7 => hrd _ (h7.row 1 (ML.other rfl (by decide))))
  clear c3 f4 HF3 HF4
  go_wp2_with fail
  refine c4.mono ?_
  rintro e w6 (⟨hbad, _, _⟩ | ⟨_, p, rfl, f6⟩)
  · exact absurd hbad ksane_bad
  have T2 : Two2 ([PH hb kM3, RowA w4.heap.size 3 [.int .i64 1]] ++ [MkA p hb (fun _ => 0) []]) 0 2 := Two2.born rfl
  have HT2 := Lib.hid T2
  have HF6 : Hid (Fam w w6 (ML ([PH hb kM3, RowA w4.heap.size 3 [.int .i64 1]] ++ [MkA p hb (fun _ => 0) []]) 0 2 hb p km0)) := f6
  have c5 := mstore_rep w6 T2 HF6.out ksane_ok.2.2.2.2.1 1 0 0 (by decide) (by decide)
  rw [ksane_r.2.2.2.2.2.2] at c5
  clear c4 f6 HF5 hrd T2
  go_wp2_with fail
  refine c5.mono ?_
  rintro e w7 ⟨rfl, f7⟩
  have c6 := mrun_rep w7 HT2.out f7 ksane_ok.2.2.2.2.2
  replace c6 : Calls Try.prog _ _ w7 (fun e w' => e = .returned (.int .i64 (km1.runs : Int)) ∧ Fam w w' (ML _ 0 2 hb p km1.run)) := c6
  rw [ksane_run.1, ksane_run.2] at c6
  clear c5 f7 HF6
  go_wp2_with fail
  refine c6.mono ?_
  rintro e w8 ⟨rfl, f8⟩
  have HF8 := Lib.hid f8
  have c7 := mcolor_rep w8 HT2.out f8 1 (by decide)
  have HC8 : Hid (∀ n, Calls Try.prog 22 #[.pointer (some ⟨p, 0, none⟩), .int .i64 2] (w8.drewN n) (Same (w8.drewN n) (.tuple #[.int .i64 2, .int .i64 0]))) := fun n => by
    have := mcolor_rep (w8.drewN n) HT2.out (HF8.out.drewN n) 2 (by decide)
    rw [ksane_s.2.2.2.2] at this
    exact this
  rw [ksane_s.2.2.2.1] at c7
  clear c6 f8
  go_wp2_with fail
  refine c7.mono ?_
  rintro e _ ⟨rfl, n, rfl⟩
  have c8 := HC8.out n
  have HO : Hid (Only [] w (w8.drewN n)) := (HF8.out.drewN n).only
  clear c7 HC8 HF8
  generalize w8.drewN n = w9 at *
  go_wp2_with fail
  refine c8.mono ?_
  rintro e _ ⟨rfl, n, rfl⟩
  have HOE : Hid (Only [] w (w9.drewN n)) := HO.out.drewN n
  clear c8 HO
  go_wp2_with fail
  exact hR.out _ _ ⟨rfl, HOE.out⟩
/-- Both heaps and both markers. -/
def FB (hb q p r : Nat) (m : Mk) : List Asn := [PH hb m.M, GH q m.M, MkA p hb m.col m.list, GkA r q m.col m.list]
/-- The document's side is still behind. -/
def FM (hb q p r : Nat) (m m' : Mk) : List Asn := [PH hb m.M, GH q m'.M, MkA p hb m.col m.list, GkA r q m'.col m'.list]
end Go.Proofs.Ytkjocehdbpekjaa
