/- Contracts of the reference's memories: Outer, May, Portal. -/
import Derived.Test.YtbjmgbbggbbidaaRScopeE
namespace Go.Proofs.Ytbjmgbbggbbidaa
open Go.RowKit Go.Maps
set_option maxHeartbeats 1600000
set_option maxRecDepth 100000
set_option linter.unusedVariables false
section
variable {w w' : World} {L L' : Nat → Option Rb} {q : Nat} {M : Sc} {X : RX}
theorem routerQ_nil (w : World) (a b : Int) : Calls Try.prog 26 #[.pointer none, .int .i64 a, .int .i64 b] w (Exact w (.tuple #[.bool false, .int .i64 1])) := by
  refine calls_abs fun R hR => ?_
  go_enter Try.func26, Try.ntmps26
  go_wp2_with fail
  refine (risArea_nil _ _).mono ?_
  rintro e _ ⟨rfl, rfl⟩
  go_wp2_with fail
  exact hR.out _ _ ⟨rfl, rfl⟩
theorem routerQ_rep (w : World) (h : RRep w L q M X) (hok : M.Ok) (a b : Int) : Calls Try.prog 26 #[.pointer (some ⟨q, 0, none⟩), .int .i64 a, .int .i64 b] w (Exact w (.tuple #[.bool (M.outer a b).1, .int .i64 (M.outer a b).2])) := by
  refine calls_abs fun R hR => ?_
  have hA := risArea_rep w h hok.toS a
  have hB := risArea_rep w h hok.toS b
  cases hT : M.isA a
  · have hr : Hid (M.outer a b = (false, 1)) := by show _ = _; unfold Sc.outer; rw [hT]; rfl
    rw [hT] at hA
    clear hT h hok
    go_enter Try.func26, Try.ntmps26
    go_wp2_with fail
    refine hA.mono ?_
    rintro e _ ⟨rfl, rfl⟩
    go_wp2_with fail
    exact hR.out _ _ ⟨by rw [hr.out] <;> rfl, rfl⟩
  cases hU : M.isA b
  · have hr : Hid (M.outer a b = (false, 1)) := by show _ = _; unfold Sc.outer; rw [hT, hU]; rfl
    rw [hT] at hA
    rw [hU] at hB
    clear hT hU h hok
    go_enter Try.func26, Try.ntmps26
    go_wp2_with fail
    refine hA.mono ?_
    rintro e _ ⟨rfl, rfl⟩
    go_wp2_with fail
    refine hB.mono ?_
    rintro e _ ⟨rfl, rfl⟩
    go_wp2_with fail
    exact hR.out _ _ ⟨by rw [hr.out] <;> rfl, rfl⟩
  · have hr : Hid (M.outer a b = (M.outerN 8 a b, 0)) := by show _ = _; unfold Sc.outer; rw [hT, hU]; rfl
    have ho := router_rep w h hok a b hU
    rw [hT] at hA
    rw [hU] at hB
    generalize M.outerN 8 a b = v at *
    clear hT hU h hok
    go_enter Try.func26, Try.ntmps26
    go_wp2_with fail
    refine hA.mono ?_
    rintro e _ ⟨rfl, rfl⟩
    go_wp2_with fail
    refine hB.mono ?_
    rintro e _ ⟨rfl, rfl⟩
    go_wp2_with fail
    refine ho.mono ?_
    rintro e _ ⟨rfl, rfl⟩
    go_wp2_with fail
    exact hR.out _ _ ⟨by rw [hr.out] <;> rfl, rfl⟩
theorem rportal_nil (w : World) (a : Int) : Calls Try.prog 34 #[.pointer none, .int .i64 a] w (Exact w (.tuple #[.int .i64 0, .int .i64 1])) := by
  refine calls_abs fun R hR => ?_
  go_enter Try.func34, Try.ntmps34
  go_wp2_with fail
  refine (risArea_nil _ _).mono ?_
  rintro e _ ⟨rfl, rfl⟩
  go_wp2_with fail
  exact hR.out _ _ ⟨rfl, rfl⟩
theorem RRep.porAt (h : RRep w L q M X) {a : Int} (h2 : 0 ≤ a) (ha : a < (M.n : Int) + 2) : w.cell? ⟨X.pg, a.toNat, none⟩ = some (.int .i64 (M.por a.toNat)) ∧ w.frozen? ⟨X.pg, a.toNat, none⟩ = false := by
  obtain ⟨T, cs, hr, hc⟩ := h.pr
  exact ⟨hr.cell _ (hc a.toNat (by omega)), hr.free _⟩
theorem rportal_rep (w : World) (h : RRep w L q M X) (hok : M.Ok) (a : Int) : Calls Try.prog 34 #[.pointer (some ⟨q, 0, none⟩), .int .i64 a] w (Two w (M.portal a)) := by
  refine calls_abs fun R hR => ?_
  have hA := risArea_rep w h hok.toS a
  cases hT : M.isA a
  · have hr : Hid (M.portal a = (0, 1)) := by show _ = _; unfold Sc.portal; rw [hT]; rfl
    rw [hT] at hA
    clear hT h hok
    go_enter Try.func34, Try.ntmps34
    go_wp2_with fail
    refine hA.mono ?_
    rintro e _ ⟨rfl, rfl⟩
    go_wp2_with fail
    exact hR.out _ _ ⟨by rw [hr.out] <;> rfl, Drew.refl _⟩
  by_cases h2 : a < 2
  · have hr : Hid (M.portal a = (0, 1)) := by show _ = _; unfold Sc.portal; rw [hT]; simp [show ¬ 2 ≤ a by omega]
    rw [hT] at hA
    clear hT h hok
    go_enter Try.func34, Try.ntmps34
    go_wp2_with fail
    refine hA.mono ?_
    rintro e _ ⟨rfl, rfl⟩
    go_wp2_with fail
    exact hR.out _ _ ⟨by rw [hr.out] <;> rfl, Drew.refl _⟩
  have hu := rused_rep w h hok.toS a hT
  have han := isA_lt hT
  cases hU : M.used a
  · have hr : Hid (M.portal a = (0, 13)) := by show _ = _; unfold Sc.portal; rw [hT, hU]; simp [show 2 ≤ a by omega]
    rw [hT] at hA
    rw [hU] at hu
    clear hT h hok hU
    go_enter Try.func34, Try.ntmps34
    go_wp2_with fail
    refine hA.mono ?_
    rintro e _ ⟨rfl, rfl⟩
    go_wp2_with fail
    refine hu.mono ?_
    rintro e _ ⟨rfl, rfl⟩
    go_wp2_with fail
    exact hR.out _ _ ⟨by rw [hr.out] <;> rfl, Drew.refl _⟩
  · have hr : Hid (M.portal a = (M.por a.toNat, 0)) := by show _ = _; unfold Sc.portal; rw [hT, hU]; simp [show 2 ≤ a by omega]
    have m3 := h.cells.2.2.2
    obtain ⟨k1, _⟩ := h.porAt han.1 han.2
    rw [hT] at hA
    rw [hU] at hu
    obtain ⟨j, hj⟩ : ∃ j : Nat, a = j := ⟨a.toNat, by omega⟩
    have hn6 : M.n ≤ 6 := hok.n6
    generalize M.n = n at *
    subst hj
    rw [Int.toNat_natCast] at k1 hr
    generalize M.por j = v at *
    have b2 : (j : Int) < ((n + 2 : Nat) : Int) := by omega
    have b1 : (0 : Int) ≤ j := by omega
    generalize n + 2 = n2 at *
    clear hT h hok hU han
    go_enter Try.func34, Try.ntmps34
    go_wp2_with fail
    refine hA.mono ?_
    rintro e _ ⟨rfl, rfl⟩
    go_wp2_with fail
    refine hu.mono ?_
    rintro e _ ⟨rfl, rfl⟩
    go_wp2_with fail
    first
      | exact hR.out _ _ ⟨by rw [hr.out] <;> rfl, Drew.refl _⟩
      | (go_quiet (fail)
         go_wp2_with fail
         exact hR.out _ _ ⟨by rw [hr.out] <;> rfl, Drew.of _ _⟩)
end
end Go.Proofs.Ytbjmgbbggbbidaa
