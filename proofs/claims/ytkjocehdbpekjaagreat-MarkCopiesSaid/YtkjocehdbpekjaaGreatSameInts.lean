/- The statements' own comparison of two lists of numbers. -/
import Derived.Test.YtkjocehdbpekjaaGreatLib
import Derived.Test.YtkjocehdbpekjaaGreatInts
namespace Go.Proofs.YtkjocehdbpekjaaGreat
open Go.RowKit Go.Maps
set_option maxHeartbeats 3200000
set_option maxRecDepth 100000
set_option linter.unusedVariables false
theorem ints_same (w : World) (v1 v2 : Value) (l : List Int) (h1 : Read w v1 l) (h2 : Read w v2 l) (hl : l.length ≤ 1000) :
    Calls Tryz.prog 34 #[v1, v2] w (fun e w' => e = .returned (.bool true) ∧ Drew w w') := by
  refine calls_abs fun R hR => ?_
  obtain ⟨a1, c1, rfl⟩ := h1.len
  obtain ⟨a2, c2, rfl⟩ := h2.len
  have H1 := Lib.hid h1
  have H2 := Lib.hid h2
  obtain ⟨n, hn⟩ : ∃ n, n = l.length := ⟨_, rfl⟩
  rw [← hn] at hl H1 H2 ⊢
  have HN := Lib.hid hn
  clear h1 h2 hn
  go_enter Tryz.func34, Tryz.ntmps34
  go_wp2_with fail
  go_loopw [5] (fun iv wr => ∃ k m : Nat, k ≤ n ∧ iv = .int .i64 k ∧ wr = w.drewN m) (fun iv _ => n - (intOf iv).toNat)
  case atStart => exact ⟨0, 0, by omega, rfl, rfl⟩
  case round =>
    obtain ⟨k, m, hk, rfl, rfl⟩ := hrel
    by_cases hlt : k < n
    · have hlt' : k < l.length := by have := HN.out; omega
      rcases H1.out with ⟨b1, o1, d1, f1, g1⟩ | ⟨oa, d, f1, g1⟩
      rotate_left
      · rw [g1] at hlt'; simp at hlt'
      rcases H2.out with ⟨b2, o2, d2, f2, g2⟩ | ⟨oa, d, f2, g2⟩
      rotate_left
      · rw [g2] at hlt'; simp at hlt'
      have e1 : a1 = some ⟨b1, o1, none⟩ := by cases f1; rfl
      have e2 : a2 = some ⟨b2, o2, none⟩ := by cases f2; rfl
      subst e1 e2
      have k1 := g1 k hlt'
      have k2 := g2 k hlt'
      have hb1 : (0 : Int) ≤ k := by omega
      have hb2 : (k : Int) < n := by omega
      generalize gI l k = z at *
      clear g1 g2 f1 f2
      go_wp2_with fail
      go_quiet (fail)
      go_wp2_with fail
      exact ⟨⟨k + 1, _, by omega, by go_num, rfl⟩, by simp [intOf]; omega⟩
    · obtain rfl : k = n := by omega
      go_wp2_with fail
      exact hR.out _ _ ⟨rfl, m, rfl⟩
end Go.Proofs.YtkjocehdbpekjaaGreat
