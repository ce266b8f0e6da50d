/- Contracts of the reference's memories: In, Area, outer, Outer, May, Refs, Portal. -/
import Derived.Test.YtbjmgbbggbbidaaRScopeD
namespace Go.Proofs.Ytbjmgbbggbbidaa
open Go.RowKit Go.Maps
set_option maxHeartbeats 1600000
set_option maxRecDepth 100000
set_option linter.unusedVariables false
section
variable {w w' : World} {L L' : Nat → Option Rb} {q : Nat} {M : Sc} {X : RX}
/-- An object that may be there, cell by cell. -/
theorem RRep.objX (h : RRep w L q M X) {x : Int} (h1 : 1 ≤ x) (h2 : x ≤ M.obs.length) : ∃ (j : Nat) (g cap : Nat), x - 1 = (j : Int) ∧ j < M.obs.length ∧ x.toNat - 1 = j ∧ X.obv = .slice (some ⟨g, 0, none⟩) M.obs.length cap ∧ L g = some .obs ∧ w.cell? ⟨g, j * 4, none⟩ = some (.int .i64 (M.ob x).area) ∧ w.cell? ⟨g, j * 4 + 1, none⟩ = some (.int .i64 (M.ob x).blocks) ∧
    w.cell? ⟨g, j * 4 + 2, none⟩ = some (X.rv j) ∧ w.cell? ⟨g, j * 4 + 3, none⟩ = some (.bool (M.ob x).gone) ∧ (∀ r, w.frozen? ⟨g, r, none⟩ = false) ∧ M.obs[j]? = some (M.ob x) := by
  have hj : x.toNat - 1 < M.obs.length := by omega
  obtain ⟨g, cap, e1, e2, e3, e4, e5, e6, e7⟩ := h.obj hj
  have e : M.ob x = M.obs[x.toNat - 1] := by unfold Sc.ob obI; rw [List.getElem?_eq_getElem hj]; rfl
  rw [e]
  exact ⟨x.toNat - 1, g, cap, by omega, hj, rfl, e1, e2, e3, e4, e5, e6, e7, List.getElem?_eq_getElem hj⟩
theorem inn_iff {M : Sc} {x : Int} : M.inn x = (decide (1 ≤ x ∧ x ≤ M.obs.length) && !(M.ob x).gone) := rfl
theorem rin_rep (w : World) (h : RRep w L q M X) (hok : M.Ok) (x : Int) : Calls Try.prog 35 #[.pointer (some ⟨q, 0, none⟩), .int .i64 x] w (Exact w (.bool (M.inn x))) := by
  refine calls_abs fun R hR => ?_
  have m2 := h.cells.2.2.1
  obtain ⟨va, vc, hv⟩ := h.ob.len
  rw [hv] at m2
  have hob := hok.ob
  have hi : Hid (M.inn x = (decide (1 ≤ x ∧ x ≤ M.obs.length) && !(M.ob x).gone)) := rfl
  by_cases h1 : 1 ≤ x
  · by_cases h2 : x ≤ M.obs.length
    · obtain ⟨j, g, cap, ej, hj, _, e1, _, _, _, _, o3, _, _⟩ := h.objX h1 h2
      rw [e1] at hv
      cases hv
      have hb1 : (0 : Int) ≤ j := by omega
      have hb2 : (j : Int) < (M.obs.length : Nat) := by omega
      have hi2 : Hid (M.inn x = !(M.ob x).gone) := by show _ = _; rw [hi.out]; simp [h1, h2]
      generalize (M.ob x).gone = gn at *
      generalize M.obs.length = len at *
      clear h hok e1
      go_enter Try.func35, Try.ntmps35
      go_wp2_with fail
      exact hR.out _ _ ⟨by rw [hi2.out] <;> rfl, rfl⟩
    · have hi2 : Hid (M.inn x = false) := by show _ = _; rw [hi.out]; simp [h2]
      generalize M.obs.length = len at *
      have h3 : (len : Int) < x := by omega
      clear h hok hv h2
      go_enter Try.func35, Try.ntmps35
      go_wp2_with fail
      exact hR.out _ _ ⟨by rw [hi2.out] <;> rfl, rfl⟩
  · have hi2 : Hid (M.inn x = false) := by show _ = _; rw [hi.out]; simp [h1]
    have h3 : x < 1 := by omega
    clear h hok hv h1
    go_enter Try.func35, Try.ntmps35
    go_wp2_with fail
    exact hR.out _ _ ⟨by rw [hi2.out] <;> rfl, rfl⟩
theorem rarea_nil (w : World) (x : Int) : Calls Try.prog 29 #[.pointer none, .int .i64 x] w (Exact w (.tuple #[.int .i64 0, .int .i64 1])) := by
  refine calls_abs fun R hR => ?_
  go_enter Try.func29, Try.ntmps29
  go_wp2_with fail
  refine (there_nil _).mono ?_
  rintro e _ ⟨rfl, rfl⟩
  go_wp2_with fail
  exact hR.out _ _ ⟨rfl, rfl⟩
theorem rarea_rep (w : World) (h : RRep w L q M X) (hok : M.Ok) (x : Int) : Calls Try.prog 29 #[.pointer (some ⟨q, 0, none⟩), .int .i64 x] w (Two w (M.area x)) := by
  refine calls_abs fun R hR => ?_
  have ht := there_rep w h
  have hin := rin_rep w h hok x
  cases hx : M.inn x
  · have hr : Hid (M.area x = (0, 3)) := by show _ = _; unfold Sc.area; rw [hx]; rfl
    rw [hx] at hin
    clear h hok hx
    go_enter Try.func29, Try.ntmps29
    go_wp2_with fail
    refine ht.mono ?_
    rintro e _ ⟨rfl, rfl⟩
    go_wp2_with fail
    refine hin.mono ?_
    rintro e _ ⟨rfl, rfl⟩
    go_wp2_with fail
    exact hR.out _ _ ⟨by rw [hr.out] <;> rfl, Drew.refl _⟩
  · have hr : Hid (M.area x = ((M.ob x).area, 0)) := by show _ = _; unfold Sc.area; rw [hx]; rfl
    rw [hx] at hin
    have hm := obI_mem hx
    have m2 := h.cells.2.2.1
    obtain ⟨j, g, cap, ej, hj, _, e1, _, o0, _, _, _, _, _⟩ := h.objX hm.2.2.1 hm.2.2.2
    rw [e1] at m2
    have hob := hok.ob
    have hb1 : (0 : Int) ≤ j := by omega
    have hb2 : (j : Int) < (M.obs.length : Nat) := by omega
    have hx1 := hm.2.2
    generalize (M.ob x).area = ar at *
    generalize M.obs.length = len at *
    clear h hok e1 hx hm
    go_enter Try.func29, Try.ntmps29
    go_wp2_with fail
    refine ht.mono ?_
    rintro e _ ⟨rfl, rfl⟩
    go_wp2_with fail
    refine hin.mono ?_
    rintro e _ ⟨rfl, rfl⟩
    go_wp2_with fail
    first
      | exact hR.out _ _ ⟨by rw [hr.out] <;> rfl, Drew.refl _⟩
      | (go_quiet (fail)
         go_wp2_with fail
         exact hR.out _ _ ⟨by rw [hr.out] <;> rfl, Drew.of _ _⟩)
/-- The loop of outer: i rounds are over. -/
theorem router_rep (w : World) (h : RRep w L q M X) (hok : M.Ok) (a b : Int) (hb : M.isA b = true) : Calls Try.prog 61 #[.pointer (some ⟨q, 0, none⟩), .int .i64 a, .int .i64 b] w (Exact w (.bool (M.outerN 8 a b))) := by
  refine calls_abs fun R hR => ?_
  have HP : Hid (∀ b, Calls Try.prog 66 #[.pointer (some ⟨q, 0, none⟩), .int .i64 b] w (Exact w (.tuple #[.int .i64 (M.parent b).1, .int .i64 (M.parent b).2]))) := fun b => rparent_rep w h hok b
  have HOK := Lib.hid hok
  have HB := Lib.hid hb
  clear h hok hb
  go_enter Try.func61, Try.ntmps61
  go_wp2_with fail
  go_loop [2, 7, 8, 9] (fun bv iv _ _ => ∃ (i : Nat) (c : Int), i ≤ 8 ∧ iv = .int .i64 i ∧ bv = .int .i64 c ∧ Hid (M.isA c = true) ∧ Hid (M.outerN 8 a b = M.outerN (8 - i) a c)) (fun _ iv _ _ => 8 - (intOf iv).toNat)
  case atStart => exact ⟨0, b, by omega, rfl, rfl, HB.out, rfl⟩
  case round =>
    obtain ⟨i, c, hi, rfl, rfl, hA, hv⟩ := hrel
    by_cases hlt : i < 8
    · have hst : Hid (M.outerN 8 a b = if a = 0 ∨ a = 1 ∨ a = c then true else match M.par c with | some p => M.outerN (8 - (i + 1)) a p | none => false) := by
        show _ = _
        rw [hv.out, show 8 - i = (8 - (i + 1)) + 1 by omega]
        rfl
      clear hv
      by_cases h0 : a = 0
      · have hr : Hid (M.outerN 8 a b = true) := by show _ = _; rw [hst.out, if_pos (.inl h0)]
        have h0' : (a == 0) = true := by simpa using h0
        clear h0
        go_wp2_with fail
        exact hR.out _ _ ⟨by rw [hr.out] <;> rfl, rfl⟩
      · by_cases h1 : a = 1
        · have hr : Hid (M.outerN 8 a b = true) := by show _ = _; rw [hst.out, if_pos (.inr (.inl h1))]
          have h0' : (a == 0) = false := by simpa using h0
          have h1' : (a == 1) = true := by simpa using h1
          clear h0 h1
          go_wp2_with fail
          exact hR.out _ _ ⟨by rw [hr.out] <;> rfl, rfl⟩
        · by_cases h2 : a = c
          · have hr : Hid (M.outerN 8 a b = true) := by show _ = _; rw [hst.out, if_pos (.inr (.inr h2))]
            have h0' : (a == 0) = false := by simpa using h0
            have h1' : (a == 1) = false := by simpa using h1
            have h2' : (a == c) = true := by simpa using h2
            clear h0 h1 h2
            go_wp2_with fail
            exact hR.out _ _ ⟨by rw [hr.out] <;> rfl, rfl⟩
          · have h0' : (a == 0) = false := by simpa using h0
            have h1' : (a == 1) = false := by simpa using h1
            have h2' : (a == c) = false := by simpa using h2
            have hst2 : Hid (M.outerN 8 a b = match M.par c with | some p => M.outerN (8 - (i + 1)) a p | none => false) := by
              show _ = _; rw [hst.out, if_neg (by omega)]
            have hpc := HP.out c
            have hpv : M.parent c = match M.par c with | some p => (p, 0) | none => (0, 3) := by unfold Sc.parent; rw [hA.out]; rfl
            clear h0 h1 h2 hst
            cases hp : M.par c with
            | none =>
              rw [hp] at hpv
              rw [hpv] at hpc
              have hr : Hid (M.outerN 8 a b = false) := by show _ = _; rw [hst2.out, hp]
              clear hpv hst2 hp
              go_wp2_with fail
              refine hpc.mono ?_
              rintro e _ ⟨rfl, rfl⟩
              go_wp2_with fail
              exact hR.out _ _ ⟨by rw [hr.out] <;> rfl, rfl⟩
            | some p =>
              rw [hp] at hpv
              rw [hpv] at hpc
              have hr : Hid (M.outerN 8 a b = M.outerN (8 - (i + 1)) a p) := by show _ = _; rw [hst2.out, hp]
              have hAp : Hid (M.isA p = true) := by
                show _ = _
                rcases Sc.par_in hp with e | e
                · subst e; unfold Sc.isA isAn; simp; omega
                · have := HOK.out.usedA e; unfold Sc.isA isAn; simp; omega
              clear hpv hst2 hp
              go_wp2_with fail
              refine hpc.mono ?_
              rintro e _ ⟨rfl, rfl⟩
              go_wp2_with fail
              go_round
              case rel => exact ⟨i + 1, p, by omega, by go_num, rfl, hAp, hr⟩
              case measure => simp [intOf]; omega
    · obtain rfl : i = 8 := by omega
      have hr : Hid (M.outerN 8 a b = false) := hv.out
      go_wp2_with fail
      exact hR.out _ _ ⟨by rw [hr.out] <;> rfl, rfl⟩
end
end Go.Proofs.Ytbjmgbbggbbidaa
