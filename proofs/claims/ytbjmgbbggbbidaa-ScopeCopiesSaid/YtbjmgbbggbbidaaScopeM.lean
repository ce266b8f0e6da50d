/- Contracts of package scope: Do (printed by wip/gen/scopem.py). -/
import Derived.Test.YtbjmgbbggbbidaaScopeL
namespace Go.Proofs.Ytbjmgbbggbbidaa
open Go.RowKit Go.Maps
set_option maxHeartbeats 1600000
set_option maxRecDepth 100000
set_option linter.unusedVariables false
section
variable {L : Nat → Option Lb} {p : Nat} {P : Pm} {X : PX} {w : World}
theorem did_after {w1 : World} {r : Value} {P' : Pm} {e : Ending} {w' : World} (ho : Only [] w w1) (h : Did w1 L p r P' e w') : Did w L p r P' e w' := by
  obtain ⟨h1, L', X', h2, h3, h4⟩ := h
  exact ⟨h1, L', X', h2, fun k hk => (h3 k hk).imp id (fun h => by have := ho.size; omega), (ho.toP0 (S := fun k => L k ≠ none)).trans h4 (fun x hx => .inl hx)⟩

theorem do_nope (w : World) (v : Value) (hn : Nope w v) (d a b : Int) : Calls Try.prog 38 #[v, .agg #[.int .i64 d, .int .i64 a, .int .i64 b]] w fun e w' => e = .returned (.tuple #[.int .i64 0, .int .i64 1]) ∧ Only [] w w' := by
  refine calls_abs fun R hR => ?_
  have ho : Only [] w (w.alloc (.cells #[.int .i64 d, .int .i64 a, .int .i64 b] 60)) := (Only.refl _ w).alloc _
  have h : Nope (w.alloc (.cells #[.int .i64 d, .int .i64 a, .int .i64 b] 60)) v := by
    rcases hn with h | ⟨p, h1, h2⟩
    · exact .inl h
    · exact .inr ⟨p, h1, ho.cell h2 (by simp)⟩
  clear hn

  by_cases h1 : d = 1
  · subst h1
    go_enter Try.func38, Try.ntmps38
    go_wp2_with fail
    refine (enter_nope _ _ h _ _).mono ?_
    rintro e _ ⟨rfl, rfl⟩
    go_wp2_with fail
    exact hR.out _ _ ⟨rfl, ho⟩
  by_cases h2 : d = 2
  · subst h2
    clear h1
    cases hb : (b != 0)
    · go_enter Try.func38, Try.ntmps38
      go_wp2_with fail
      refine (leave_nope _ _ h _).mono ?_
      rintro e _ ⟨rfl, rfl⟩
      go_wp2_with fail
      exact hR.out _ _ ⟨rfl, ho⟩
    · go_enter Try.func38, Try.ntmps38
      go_wp2_with fail
      exact hR.out _ _ ⟨rfl, ho⟩
  by_cases h3 : d = 3
  · subst h3
    clear h1 h2
    go_enter Try.func38, Try.ntmps38
    go_wp2_with fail
    refine (alloc_nope _ _ h _ _).mono ?_
    rintro e _ ⟨rfl, rfl⟩
    go_wp2_with fail
    exact hR.out _ _ ⟨rfl, ho⟩
  by_cases h4 : d = 4
  · subst h4
    clear h1 h2 h3
    go_enter Try.func38, Try.ntmps38
    go_wp2_with fail
    refine (refer_nope _ _ h _ _).mono ?_
    rintro e _ ⟨rfl, n, rfl⟩
    go_wp2_with fail
    exact hR.out _ _ ⟨rfl, ho.drewN _⟩
  by_cases h5 : d = 5
  · subst h5
    clear h1 h2 h3 h4
    go_enter Try.func38, Try.ntmps38
    go_wp2_with fail
    refine (setPortal_nope _ _ h _ _).mono ?_
    rintro e _ ⟨rfl, rfl⟩
    go_wp2_with fail
    exact hR.out _ _ ⟨rfl, ho⟩
  · have b1 : (d == 1) = false := by simpa using h1
    have b2 : (d == 2) = false := by simpa using h2
    have b3 : (d == 3) = false := by simpa using h3
    have b4 : (d == 4) = false := by simpa using h4
    have b5 : (d == 5) = false := by simpa using h5
    clear h1 h2 h3 h4 h5
    go_enter Try.func38, Try.ntmps38
    go_wp2_with fail
    exact hR.out _ _ ⟨rfl, ho⟩

theorem do_rep (w : World) (hp : PRep w L p P X) (hok : P.ok) (d a b : Int) (wa : wfI a) (wb : wfI b) : Calls Try.prog 38 #[.pointer (some ⟨p, 0, none⟩), .agg #[.int .i64 d, .int .i64 a, .int .i64 b]] w (DidN w L p (P.do d a b)) := by
  refine calls_abs fun R hR => ?_
  have ho : Only [] w (w.alloc (.cells #[.int .i64 d, .int .i64 a, .int .i64 b] 60)) := (Only.refl _ w).alloc _
  have h := hp.only0 ho
  have HO := Lib.hid ho
  clear hp ho

  by_cases h1 : d = 1
  · subst h1
    have hr : Hid (P.do 1 a b = (0, P.enter a b)) := rfl
    have hc := enter_rep _ h hok a b
    generalize P.enter a b = r at *
    obtain ⟨r1, r2⟩ := r
    go_enter Try.func38, Try.ntmps38
    go_wp2_with fail
    refine hc.mono ?_
    rintro e w1 ⟨rfl, L', X', h2, h3, h4⟩
    have hd : Did _ L p (.tuple #[.int .i64 0, .int .i64 r1]) r2 (.returned (.tuple #[.int .i64 0, .int .i64 r1])) w1 := ⟨rfl, L', X', h2, h3, h4⟩
    have HD := Lib.hid (did_after HO.out hd)
    clear h2 h3 h4 hd hc h
    go_wp2_with fail
    refine hR.out _ _ ?_
    unfold DidN
    rw [hr.out]
    exact HD.out
  by_cases h2 : d = 2
  · subst h2
    clear h1
    cases hb : (b != 0)
    · have hb0 : b = 0 := by simpa using hb
      have hr : Hid (P.do 2 a b = P.leave a) := by show _ = _; unfold Pm.do; simp [hb0]
      clear hb0
      have hc := leave_rep _ h hok a
      generalize P.leave a = r at *
      obtain ⟨r0, r1, r2⟩ := r
      go_enter Try.func38, Try.ntmps38
      go_wp2_with fail
      refine hc.mono ?_
      rintro e w1 ⟨rfl, L', X', h2, h3, h4⟩
      have hd : Did _ L p (.tuple #[.int .i64 r0, .int .i64 r1]) r2 (.returned (.tuple #[.int .i64 r0, .int .i64 r1])) w1 := ⟨rfl, L', X', h2, h3, h4⟩
      have HD := Lib.hid (did_after HO.out hd)
      clear h2 h3 h4 hd hc h
      go_wp2_with fail
      refine hR.out _ _ ?_
      unfold DidN
      rw [hr.out]
      exact HD.out
    · have hb0 : b ≠ 0 := by simpa using hb
      have hr : Hid (P.do 2 a b = (0, 1, P)) := by show _ = _; unfold Pm.do; simp [hb0]
      clear hb0
      go_enter Try.func38, Try.ntmps38
      go_wp2_with fail
      refine hR.out _ _ ?_
      unfold DidN
      rw [hr.out]
      exact did_after HO.out (Did.none h (Drew.refl _))
  by_cases h3 : d = 3
  · subst h3
    clear h1 h2
    have hr : Hid (P.do 3 a b = P.alloc a b) := rfl
    have hc := alloc_rep _ h hok a b
    generalize P.alloc a b = r at *
    obtain ⟨r0, r1, r2⟩ := r
    go_enter Try.func38, Try.ntmps38
    go_wp2_with fail
    refine hc.mono ?_
    rintro e w1 ⟨rfl, L', X', h2, h3, h4⟩
    have hd : Did _ L p (.tuple #[.int .i64 r0, .int .i64 r1]) r2 (.returned (.tuple #[.int .i64 r0, .int .i64 r1])) w1 := ⟨rfl, L', X', h2, h3, h4⟩
    have HD := Lib.hid (did_after HO.out hd)
    clear h2 h3 h4 hd hc h
    go_wp2_with fail
    refine hR.out _ _ ?_
    unfold DidN
    rw [hr.out]
    exact HD.out
  by_cases h4 : d = 4
  · subst h4
    clear h1 h2 h3
    have hr : Hid (P.do 4 a b = (0, P.refer a b)) := rfl
    have hc := refer_rep _ h hok a b wa wb
    generalize P.refer a b = r at *
    obtain ⟨r1, r2⟩ := r
    go_enter Try.func38, Try.ntmps38
    go_wp2_with fail
    refine hc.mono ?_
    rintro e w1 ⟨rfl, L', X', h2, h3, h4⟩
    have hd : Did _ L p (.tuple #[.int .i64 0, .int .i64 r1]) r2 (.returned (.tuple #[.int .i64 0, .int .i64 r1])) w1 := ⟨rfl, L', X', h2, h3, h4⟩
    have HD := Lib.hid (did_after HO.out hd)
    clear h2 h3 h4 hd hc h
    go_wp2_with fail
    refine hR.out _ _ ?_
    unfold DidN
    rw [hr.out]
    exact HD.out
  by_cases h5 : d = 5
  · subst h5
    clear h1 h2 h3 h4
    have hr : Hid (P.do 5 a b = (0, P.setPortal a b)) := rfl
    have hc := setPortal_rep _ h hok a b wb
    generalize P.setPortal a b = r at *
    obtain ⟨r1, r2⟩ := r
    go_enter Try.func38, Try.ntmps38
    go_wp2_with fail
    refine hc.mono ?_
    rintro e w1 ⟨rfl, L', X', h2, h3, h4⟩
    have hd : Did _ L p (.tuple #[.int .i64 0, .int .i64 r1]) r2 (.returned (.tuple #[.int .i64 0, .int .i64 r1])) w1 := ⟨rfl, L', X', h2, h3, h4⟩
    have HD := Lib.hid (did_after HO.out hd)
    clear h2 h3 h4 hd hc h
    go_wp2_with fail
    refine hR.out _ _ ?_
    unfold DidN
    rw [hr.out]
    exact HD.out
  · have hr : Hid (P.do d a b = (0, 1, P)) := by show _ = _; unfold Pm.do; simp [h1, h2, h3, h4, h5]
    have b1 : (d == 1) = false := by simpa using h1
    have b2 : (d == 2) = false := by simpa using h2
    have b3 : (d == 3) = false := by simpa using h3
    have b4 : (d == 4) = false := by simpa using h4
    have b5 : (d == 5) = false := by simpa using h5
    clear h1 h2 h3 h4 h5
    go_enter Try.func38, Try.ntmps38
    go_wp2_with fail
    refine hR.out _ _ ?_
    unfold DidN
    rw [hr.out]
    exact did_after HO.out (Did.none h (Drew.refl _))

end
end Go.Proofs.Ytbjmgbbggbbidaa
