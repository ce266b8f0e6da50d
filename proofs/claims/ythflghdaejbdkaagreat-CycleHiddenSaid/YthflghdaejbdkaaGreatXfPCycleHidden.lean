/- Law CycleHidden: for every input the call returns true, and its arguments read behind it as they read before. -/
import Derived.Test.YthflghdaejbdkaaGreatRows
import Derived.Test.YthflghdaejbdkaaGreatXfLib
import Derived.Test.YthflghdaejbdkaaGreatXfCyHidden
import Derived.Test.YthflghdaejbdkaaGreatXfOFam
import Derived.Test.YthflghdaejbdkaaGreatXfFCycleHiddena
import Derived.Test.YthflghdaejbdkaaGreatXfFCycleHiddenb
import Derived.WalkKit
import Derived.ProofKit
import Derived.OpenShut
import Derived.ShutString
import Derived.ChangeOld
import Derived.Below
import Derived.Lib.SmallJoins
namespace Go.Proofs.YthflghdaejbdkaaGreat.lawCycleHidden
open Go.ChangeShapes Go.WideShapes Go.ChangeAt Go.RowKit
open Go.ChangeMaps (open_string shut_string)
open Go.Joins (open_agg3)
set_option linter.unusedVariables false
theorem own : ownKnob Tryz.prog.godebug = none := by kernel_rfl
theorem laidOut : laidOutB Tryz.prog = true := by kernel_rfl
set_option maxRecDepth 100000 in
theorem lifted (os : Os) (started : os.Started) (H : Type) (enc : TypeId × Value → H) :
    ReturnsInHanded {} Tryz.checked os 6 .any (Rows.cycleHiddenSpec.pre6 enc Tryz.prog Tryz.f6 Rows.cycleHiddenRow.domain false) (Rows.cycleHiddenSpec.post enc Tryz.prog Tryz.f6 false true false false) := by
  refine returnsInHanded_of_change (C := Tryz.checked) own started (by kernel_rfl) Tryz.func6
    (ChangeSpec.witness6 (enc := enc) (C := Tryz.checked) false ⟨#[], #[.int .i64 0, .agg #[.int .i64 0, .int .i64 0], .slice none 0 0, .slice none 0 0, .slice none 0 0], []⟩ 8 (by kernel_rfl) (by kernel_rfl) (by kernel_rfl) (by kernel_rfl)) ?_
  intro W base args ds gs before hval0 hW hcnd _
  have hval : ∀ (j : Nat) t v, Tryz.f6.params[j]? = some t → args[j]? = some v → Value.okWide Tryz.prog W .any base t v := hval0
  have hW' := hW
  obtain ⟨p, q, hA0, hV, rfl, hfz, hnd⟩ := hW
  have hA : DataW.TrodAll enc Tryz.prog W 0 (fun _ => true) true Tryz.f6.params.toList args.toList ds p := hA0
  rw [Tryz.params6] at hA hval
  obtain ⟨v0, vs0, d0, ds0, p0, q0, hargs, rfl, rfl, h0, r0⟩ := trodAll_cons hA
  obtain ⟨v1, vs1, d1, ds1, p1, q1, rfl, rfl, rfl, h1, r1⟩ := trodAll_cons r0
  obtain ⟨v2, vs2, d2, ds2, p2, q2, rfl, rfl, rfl, h2, r2⟩ := trodAll_cons r1
  obtain ⟨v3, vs3, d3, ds3, p3, q3, rfl, rfl, rfl, h3, r3⟩ := trodAll_cons r2
  obtain ⟨v4, vs4, d4, ds4, p4, q4, rfl, rfl, rfl, h4, r4⟩ := trodAll_cons r3
  obtain ⟨rfl, rfl, rfl⟩ := trodAll_nil r4
  obtain rfl : args = #[v0, v1, v2, v3, v4] := by cases args; simp_all
  obtain ⟨rfl, rfl⟩ := trodVars_none hV
  obtain ⟨a0, rfl, rfl, rfl, w0⟩ := open_int Tryz.underlying3 (hval 0 3 v0 rfl rfl) h0
  have k1 := h1
  have lt1 : ∀ x ∈ p1, x.block < W.heap.size := by obtain ⟨m, hm⟩ := k1; exact DataW.trod_lt m _ _ _ hm
  obtain ⟨b10, b11, rfl, x10, x11⟩ := open_arr2 Tryz.underlying64 Tryz.underlying3 (by kernel_rfl) (by kernel_rfl) (hval 1 64 v1 rfl rfl) h1
  obtain ⟨a2, len2, cap2, rfl⟩ := okWide_slice Tryz.underlying59 (hval 2 59 v2 rfl rfl)
  have k2 := h2
  have lt2 : ∀ x ∈ p2, x.block < W.heap.size := by obtain ⟨m, hm⟩ := k2; exact DataW.trod_lt m _ _ _ hm
  obtain ⟨f2, w2⟩ : ∃ f, Recs 4 W a2 len2 f := by
    obtain ⟨fuel, hf⟩ := h2
    exact recs_of 4 Tryz.underlying59 Tryz.underlying80 rfl (by decide) (by kernel_rfl) (by kernel_rfl) (fun j f hj => by match j, hj with | 0, hj => (cases hj; exact Tryz.underlying3) | 1, hj => (cases hj; exact Tryz.underlying3) | 2, hj => (cases hj; exact Tryz.underlying3) | 3, hj => (cases hj; exact Tryz.underlying3) | j + 4, hj => simp at hj) hf
  obtain ⟨a3, len3, cap3, rfl⟩ := okWide_slice Tryz.underlying23 (hval 3 23 v3 rfl rfl)
  have k3 := h3
  have lt3 : ∀ x ∈ p3, x.block < W.heap.size := by obtain ⟨m, hm⟩ := k3; exact DataW.trod_lt m _ _ _ hm
  obtain ⟨f3, w3⟩ : ∃ f, Nums W a3 len3 f := by
    obtain ⟨fuel, hf⟩ := h3
    exact nums_of Tryz.underlying23 Tryz.underlying3 (by kernel_rfl) hf
  obtain ⟨a4, len4, cap4, rfl⟩ := okWide_slice Tryz.underlying23 (hval 4 23 v4 rfl rfl)
  have k4 := h4
  have lt4 : ∀ x ∈ p4, x.block < W.heap.size := by obtain ⟨m, hm⟩ := k4; exact DataW.trod_lt m _ _ _ hm
  obtain ⟨f4, w4⟩ : ∃ f, Nums W a4 len4 f := by
    obtain ⟨fuel, hf⟩ := h4
    exact nums_of Tryz.underlying23 Tryz.underlying3 (by kernel_rfl) hf
  clear hA0 hval0
  refine (walk_CycleHidden a0 b10 b11 a2 len2 cap2 f2 a3 len3 cap3 f3 a4 len4 cap4 f4 W w0 x10 x11 w2 w3 w4).mono fun e W' ⟨he, bel⟩ => ?_
  subst he
  exact ⟨_, rfl, _, _, _, [], _, [], hW', trodAll_mk1 (shut_bool Tryz.underlying4 _), (trodAll_cons_mk (shut_int Tryz.underlying3 w0) (trodAll_cons_mk (Below.trod laidOut (by kernel_rfl) (of_decide_eq_true (by kernel_rfl)) k1 bel lt1) (trodAll_cons_mk (Below.trod laidOut (by kernel_rfl) (of_decide_eq_true (by kernel_rfl)) k2 bel lt2) (trodAll_cons_mk (Below.trod laidOut (by kernel_rfl) (of_decide_eq_true (by kernel_rfl)) k3 bel lt3) (trodAll_cons_mk (Below.trod laidOut (by kernel_rfl) (of_decide_eq_true (by kernel_rfl)) k4 bel lt4) trodAll_mk0))))), rfl, bel.frame _, fun h => by cases h⟩
set_option maxHeartbeats 4000000 in
theorem holds : Rows.CycleHiddenSaid :=
  OpenClaim.holds_of_wide 6 Tryz.f6 rfl rfl rfl rfl rfl rfl rfl ⟨rfl, rfl, rfl, rfl, rfl⟩ rfl rfl rfl rfl rfl (by kernel_rfl) Tryz.func6 (by
      unfold joinedFacts
      repeat' (with_reducible refine Bool.and_eq_true_iff.2 ⟨?_, ?_⟩)
      · as_aux_lemma => kernel_rfl
      · as_aux_lemma => kernel_rfl
      · as_aux_lemma => kernel_rfl
      · as_aux_lemma => kernel_rfl
      · as_aux_lemma => kernel_rfl
      · as_aux_lemma => kernel_rfl
      · as_aux_lemma => kernel_rfl
      · as_aux_lemma => kernel_rfl
      · as_aux_lemma => kernel_rfl
      · exact factCycleHiddena0
      · exact factCycleHiddena1
      · exact factCycleHiddena2
      · exact factCycleHiddena3
      · as_aux_lemma => kernel_rfl
      · as_aux_lemma => kernel_rfl
      · as_aux_lemma => kernel_rfl
      · as_aux_lemma => kernel_rfl
      · as_aux_lemma => kernel_rfl
      · as_aux_lemma => kernel_rfl
      · as_aux_lemma => kernel_rfl
      · as_aux_lemma => kernel_rfl
      · as_aux_lemma => kernel_rfl
      · as_aux_lemma => kernel_rfl
      · as_aux_lemma => kernel_rfl
      · as_aux_lemma => kernel_rfl
      · exact factCycleHiddenb0
      · exact factCycleHiddenb1
      · exact factCycleHiddenb2
      all_goals as_aux_lemma => kernel_rfl)
    (of_decide_eq_true (by kernel_rfl)) (by unfold Func.isWrapper; first | (rw [if_pos (by decide +kernel)]; kernel_rfl) | (rw [if_neg (by decide +kernel)]; exact ⟨rfl, rfl⟩))
    (fun os started H enc _ => lifted os started H enc)
end Go.Proofs.YthflghdaejbdkaaGreat.lawCycleHidden
