/- Law ObjectNothing: the walk. -/
import Derived.Test.YtcdeikbehpepjaaOLaw
import Derived.Test.YtcdeikbehpepjaaOArgs
namespace Go.Proofs.Ytcdeikbehpepjaa
open Go.RowKit Go.Maps
set_option maxHeartbeats 6400000
set_option maxRecDepth 100000
set_option linter.unusedVariables false
theorem walk_ObjectNothing (d a b c : Int) (g : Option Addr) (n k : Nat) (l : List Bool) (x y : Int) (w : World) (wa : (Lit.int .i64 a).wf = true) (wb : (Lit.int .i64 b).wf = true) (wc : (Lit.int .i64 c).wf = true) (hba : BCap w g n k l) (wx : (Lit.int .i64 x).wf = true) (wy : (Lit.int .i64 y).wf = true) :
    Calls Try.prog 7 #[.agg #[.int .i64 d, .int .i64 a, .int .i64 b, .int .i64 c, .slice g n k], .agg #[.int .i64 x, .int .i64 y]] w fun e w' => e = .returned (.bool true) ∧ Below w.heap.size w w' := by
  clear wa wb wc hba wx wy
  refine calls_abs fun R hR => ?_
  have HRo : Hid (Row ((w.alloc (.cells #[.int .i64 d, .int .i64 a, .int .i64 b, .int .i64 c, .slice g n k] 55)).alloc (.cells #[.int .i64 x, .int .i64 y] 23)) w.heap.size 55 [.int .i64 d, .int .i64 a, .int .i64 b, .int .i64 c, .slice g n k]) := (Row.new w 55 [_, _, _, _, _]).alloc _
  have HRa : Hid (Row ((w.alloc (.cells #[.int .i64 d, .int .i64 a, .int .i64 b, .int .i64 c, .slice g n k] 55)).alloc (.cells #[.int .i64 x, .int .i64 y] 23)) (w.heap.size + 1) 23 [.int .i64 x, .int .i64 y]) := by
    have := Row.new (w.alloc (.cells #[.int .i64 d, .int .i64 a, .int .i64 b, .int .i64 c, .slice g n k] 55)) 23 [.int .i64 x, .int .i64 y]
    rwa [World.size_alloc] at this
  have HO : Hid (Only [] w ((w.alloc (.cells #[.int .i64 d, .int .i64 a, .int .i64 b, .int .i64 c, .slice g n k] 55)).alloc (.cells #[.int .i64 x, .int .i64 y] 23))) := ((Only.refl [] w).alloc _).alloc _
  by_cases hn : 20 < n
  · have hn1 : (20 : Int) < n := by omega
    go_enter Try.func7, Try.ntmps7
    go_wp2_with fail
    refine (osane_any _).mono ?_
    rintro e w3 ⟨rfl, ho⟩
    have HO3 : Hid (Below w.heap.size w w3) := (HO.out.trans ho (by simp)).bel
    clear ho
    go_wp2_with fail
    exact hR.out _ _ ⟨rfl, HO3.out⟩
  · have hn1 : ¬ (20 : Int) < n := by omega
    go_enter Try.func7, Try.ntmps7
    go_wp2_with fail
    have HRz0 : Hid (((w.alloc (.cells #[.int .i64 d, .int .i64 a, .int .i64 b, .int .i64 c, .slice g n k] 55)).alloc (.cells #[.int .i64 x, .int .i64 y] 23)).heap.size = w.heap.size + 1 + 1) := by show _ = _; simp
    generalize ((w.alloc (.cells #[.int .i64 d, .int .i64 a, .int .i64 b, .int .i64 c, .slice g n k] 55)).alloc (.cells #[.int .i64 x, .int .i64 y] 23)) = w7 at *
    have HRz : Hid (Row (w7.alloc (.cells #[.pointer none, .map none] 67)) (w.heap.size + 1 + 1) 67 [.pointer none, .map none]) := by have := Row.new w7 67 [.pointer none, .map none]; rwa [HRz0.out] at this
    have HO8 : Hid (Only [] w7 (w7.alloc (.cells #[.pointer none, .map none] 67))) := (Only.refl _ _).alloc _
    generalize (w7.alloc (.cells #[.pointer none, .map none] 67)) = w8 at *
    go_loopw [7] (fun iv wr => ∃ k : Nat, k ≤ 2 ∧ iv = .int .i64 k ∧ Only [] w8 wr) (fun iv _ => 2 - (intOf iv).toNat)
    case atStart => exact ⟨0, by omega, rfl, Only.refl _ _⟩
    case round =>
      obtain ⟨m, hm, rfl, ho⟩ := hrel
      have HOr := Lib.hid ho
      have hro : Row wr w.heap.size 55 [.int .i64 d, .int .i64 a, .int .i64 b, .int .i64 c, .slice g n k] := ho.row (HO8.out.row HRo.out (by simp)) (by simp)
      have hra : Row wr (w.heap.size + 1) 23 [.int .i64 x, .int .i64 y] := ho.row (HO8.out.row HRa.out (by simp)) (by simp)
      have hrz : Row wr (w.heap.size + 1 + 1) 67 [.pointer none, .map none] := ho.row HRz.out (by simp)
      have HRO := Lib.hid hro
      have HRA := Lib.hid hra
      clear ho
      obtain ⟨b1, hb1⟩ : ∃ z, z = w.heap.size := ⟨_, rfl⟩
      rw [← hb1] at HRO hro HRA hra hrz ⊢
      clear hb1
      by_cases hm2 : m < 2
      · have hm1 : (m : Int) < 2 := by omega
        have hstep : ∃ v : Value, Hid (HNope wr v) ∧ Hid ((m = 0 ∧ v = .pointer none) ∨ (m = 1 ∧ v = .pointer (some ⟨b1 + 1 + 1, 0, none⟩))) := by
          by_cases e : m = 0
          · exact ⟨.pointer none, .inl rfl, .inl ⟨e, rfl⟩⟩
          · exact ⟨.pointer (some ⟨b1 + 1 + 1, 0, none⟩), .inr ⟨b1 + 1 + 1, rfl, hrz.cell 0 rfl⟩, .inr ⟨by omega, rfl⟩⟩
        obtain ⟨v, HV, HC⟩ := hstep
        have f1 := hro.cell 1 rfl
        have f2 := hro.cell 2 rfl
        have f3 := hro.cell 3 rfl
        have f4 := hro.cell 4 rfl
        have g0 := hra.cell 0 rfl
        have g1 := hra.cell 1 rfl
        clear hro hra hrz hm2
        rcases HC.out with ⟨rfl, rfl⟩ | ⟨rfl, rfl⟩
        all_goals
          clear HC hm
          go_wp2_with fail
          refine (newObject_nope _ _ HV.out _ _).mono ?_
          rintro e _ ⟨rfl, rfl⟩
          go_wp2_with fail
          refine (newArray_nope _ _ HV.out _ _ _).mono ?_
          rintro e _ ⟨rfl, rfl⟩
          go_wp2_with fail
          refine (get_nope _ _ HV.out _ _).mono ?_
          rintro e _ ⟨rfl, m1, rfl⟩
          have HV1 : Hid (HNope (wr.drewN m1) _) := HV.out.only ((Only.refl [] wr).drewN m1)
          have HO1 : Hid (Only [] w8 (wr.drewN m1)) := HOr.out.drewN m1
          have HRO1 : Hid (Row (wr.drewN m1) b1 _ _) := HRO.out
          have HRA1 : Hid (Row (wr.drewN m1) (b1 + 1) _ _) := HRA.out
          clear HV HOr HRO HRA f1 f2 f3 f4 g0 g1
          generalize wr.drewN m1 = w9 at *
          go_wp2_with fail
          refine (hmove_nope _ _ HV1.out).mono ?_
          rintro e _ ⟨rfl, rfl⟩
          go_wp2_with fail
          refine (reach_nope _ _ HV1.out _).mono ?_
          rintro e _ ⟨rfl, rfl⟩
          have g0 := HRA1.out.cell 0 rfl
          have g1 := HRA1.out.cell 1 rfl
          have f3 := HRO1.out.cell 3 rfl
          go_wp2_with fail
          refine (type_nope _ _ HV1.out _).mono ?_
          rintro e _ ⟨rfl, m2, rfl⟩
          have HV2 : Hid (HNope (w9.drewN m2) _) := HV1.out.only ((Only.refl [] w9).drewN m2)
          have HO2 : Hid (Only [] w8 (w9.drewN m2)) := HO1.out.drewN m2
          have HRO2 : Hid (Row (w9.drewN m2) b1 _ _) := HRO1.out
          have HRA2 : Hid (Row (w9.drewN m2) (b1 + 1) _ _) := HRA1.out
          clear HV1 HO1 HRO1 HRA1 f3 g0 g1
          generalize w9.drewN m2 = w10 at *
          have g0 := HRA2.out.cell 0 rfl
          have g1 := HRA2.out.cell 1 rfl
          have f3 := HRO2.out.cell 3 rfl
          go_wp2_with fail
          refine (release_nope _ _ HV2.out _).mono ?_
          rintro e _ ⟨rfl, rfl⟩
          go_wp2_with fail
          refine (set_nope _ _ HV2.out _ _ _).mono ?_
          rintro e _ ⟨rfl, rfl⟩
          go_wp2_with fail
          refine (handles_nope _ _ HV2.out).mono ?_
          rintro e _ ⟨rfl, rfl⟩
          go_wp2_with fail
          refine (hpool_nope _ _ HV2.out).mono ?_
          rintro e _ ⟨rfl, rfl⟩
          go_wp2_with fail
          refine (hcopy_nope _ _ HV2.out).mono ?_
          rintro e _ ⟨rfl, rfl⟩
          go_wp2_with fail
          first
            | exact ⟨⟨1, by omega, by go_num, HO2.out⟩, by simp [intOf]⟩
            | exact ⟨⟨2, by omega, by go_num, HO2.out⟩, by simp [intOf]⟩
      · obtain rfl : m = 2 := by omega
        clear hro hra hrz hm2
        go_wp2_with fail
        refine (alike_none _ none none true true (fun wx _ => hnone_any wx _ (.inl rfl)) (fun wx _ => hnone_any wx _ (.inl rfl)) rfl).mono ?_
        rintro e w9 ⟨rfl, ho9⟩
        have HO9 : Hid (Only [] w w9) := ((HO.out.trans HO8.out (by simp)).trans HOr.out (by simp)).trans ho9 (by simp)
        clear ho9
        go_wp2_with fail
        refine (osane_any _).mono ?_
        rintro e w10 ⟨rfl, ho10⟩
        have HO10 : Hid (Below w.heap.size w w10) := (HO9.out.trans ho10 (by simp)).bel
        clear ho10
        go_wp2_with fail
        exact hR.out _ _ ⟨rfl, HO10.out⟩
end Go.Proofs.Ytcdeikbehpepjaa
