/- Contracts of package scope's questions (printed by wip/gen/scopeq.py). -/
import Derived.Test.YtbjmgbbggbbidaaScope
namespace Go.Proofs.Ytbjmgbbggbbidaa
open Go.RowKit Go.Maps
set_option maxHeartbeats 800000
set_option maxRecDepth 100000
set_option linter.unusedVariables false
section
variable {L : Nat → Option Lb} {p : Nat} {P : Pm} {X : PX} {w : World}
theorem isA_lt2 {P : Pm} {a : Int} (h : P.isA a = true) : 0 ≤ a ∧ a < (P.n : Int) + 2 := by unfold Pm.isA isAn at h; simpa using h

theorem parent_nope (w : World) (v : Value) (h : Nope w v) (a : Int) : Calls Try.prog 15 #[v, .int .i64 a] w (Two w (0, 1)) := by
  refine calls_abs fun R hR => ?_
  go_enter Try.func15, Try.ntmps15
  go_wp2_with fail
  refine (none_any _ _ h).mono ?_
  rintro e _ ⟨rfl, rfl⟩
  go_wp2_with fail
  exact hR.out _ _ ⟨rfl, Drew.refl _⟩

theorem parent_rep (w : World) (h : PRep w L p P X) (hok : P.ok) (a : Int) : Calls Try.prog 15 #[.pointer (some ⟨p, 0, none⟩), .int .i64 a] w (Two w (P.parent a)) := by
  refine calls_abs fun R hR => ?_
  have hA := isArea_rep w h hok a
  cases hT : P.isA a

  · have hr : Hid (P.parent a = (0, 1)) := by show _ = _; unfold Pm.parent; rw [hT]; rfl
    rw [hT] at hA
    clear hT hok
    go_enter Try.func15, Try.ntmps15
    go_wp2_with fail
    refine (none_rep _ h).mono ?_
    rintro e _ ⟨rfl, rfl⟩
    go_wp2_with fail
    refine (hA).mono ?_
    rintro e _ ⟨rfl, rfl⟩
    go_wp2_with fail
    exact hR.out _ _ ⟨by rw [hr.out] <;> rfl, Drew.refl _⟩

  by_cases h2 : 2 ≤ a
  · obtain ⟨j, g, cap, e1, hj, _, e2, _, c0, c1, c2, c3, c4, _⟩ := h.sp5 h2 (isA_lt2 hT).2
    have m0 := h.cells.1
    rw [e2] at m0
    have hn := hok.n6
    have hs := scope_at w p g P.n cap j a m0 e1 hj hn
    rw [hT] at hA
    have HT := Lib.hid hT
    clear hT hok e1 e2 m0 hn hj

    by_cases hu : 0 < (P.sp a).users
    · have hr : Hid (P.parent a = ((P.sp a).parent, 0)) := by show _ = _; unfold Pm.parent; rw [HT.out]; simp [h2, hu]
      go_enter Try.func15, Try.ntmps15
      go_wp2_with fail
      refine (none_rep _ h).mono ?_
      rintro e _ ⟨rfl, rfl⟩
      go_wp2_with fail
      refine (hA).mono ?_
      rintro e _ ⟨rfl, rfl⟩
      go_wp2_with fail
      refine (hs).mono ?_
      rintro e _ ⟨rfl, rfl⟩
      go_wp2_with fail
      exact hR.out _ _ ⟨by rw [hr.out] <;> rfl, Drew.refl _⟩

    · have hr : Hid (P.parent a = (0, 3)) := by show _ = _; unfold Pm.parent; rw [HT.out]; simp [h2, hu]
      go_enter Try.func15, Try.ntmps15
      go_wp2_with fail
      refine (none_rep _ h).mono ?_
      rintro e _ ⟨rfl, rfl⟩
      go_wp2_with fail
      refine (hA).mono ?_
      rintro e _ ⟨rfl, rfl⟩
      go_wp2_with fail
      refine (hs).mono ?_
      rintro e _ ⟨rfl, rfl⟩
      go_wp2_with fail
      exact hR.out _ _ ⟨by rw [hr.out] <;> rfl, Drew.refl _⟩

  · have hr : Hid (P.parent a = (0, 3)) := by show _ = _; unfold Pm.parent; rw [hT]; simp [h2]
    have hs := scope_low w (.pointer (some ⟨p, 0, none⟩)) a (by omega)
    rw [hT] at hA
    clear hT hok
    go_enter Try.func15, Try.ntmps15
    go_wp2_with fail
    refine (none_rep _ h).mono ?_
    rintro e _ ⟨rfl, rfl⟩
    go_wp2_with fail
    refine (hA).mono ?_
    rintro e _ ⟨rfl, rfl⟩
    go_wp2_with fail
    refine (hs).mono ?_
    rintro e _ ⟨rfl, rfl⟩
    go_wp2_with fail
    exact hR.out _ _ ⟨by rw [hr.out] <;> rfl, Drew.refl _⟩

theorem users_nope (w : World) (v : Value) (h : Nope w v) (a : Int) : Calls Try.prog 14 #[v, .int .i64 a] w (Two w (0, 1)) := by
  refine calls_abs fun R hR => ?_
  go_enter Try.func14, Try.ntmps14
  go_wp2_with fail
  refine (none_any _ _ h).mono ?_
  rintro e _ ⟨rfl, rfl⟩
  go_wp2_with fail
  exact hR.out _ _ ⟨rfl, Drew.refl _⟩

theorem users_rep (w : World) (h : PRep w L p P X) (hok : P.ok) (a : Int) : Calls Try.prog 14 #[.pointer (some ⟨p, 0, none⟩), .int .i64 a] w (Two w (P.users a)) := by
  refine calls_abs fun R hR => ?_
  have hA := isArea_rep w h hok a
  cases hT : P.isA a

  · have hr : Hid (P.users a = (0, 1)) := by show _ = _; unfold Pm.users; rw [hT]; rfl
    rw [hT] at hA
    clear hT hok
    go_enter Try.func14, Try.ntmps14
    go_wp2_with fail
    refine (none_rep _ h).mono ?_
    rintro e _ ⟨rfl, rfl⟩
    go_wp2_with fail
    refine (hA).mono ?_
    rintro e _ ⟨rfl, rfl⟩
    go_wp2_with fail
    exact hR.out _ _ ⟨by rw [hr.out] <;> rfl, Drew.refl _⟩

  by_cases h2 : 2 ≤ a
  · obtain ⟨j, g, cap, e1, hj, _, e2, _, c0, c1, c2, c3, c4, _⟩ := h.sp5 h2 (isA_lt2 hT).2
    have m0 := h.cells.1
    rw [e2] at m0
    have hn := hok.n6
    have hs := scope_at w p g P.n cap j a m0 e1 hj hn
    rw [hT] at hA
    have HT := Lib.hid hT
    clear hT hok e1 e2 m0 hn hj

    have hr : Hid (P.users a = ((P.sp a).users, 0)) := by show _ = _; unfold Pm.users; rw [HT.out]; simp [h2]
    go_enter Try.func14, Try.ntmps14
    go_wp2_with fail
    refine (none_rep _ h).mono ?_
    rintro e _ ⟨rfl, rfl⟩
    go_wp2_with fail
    refine (hA).mono ?_
    rintro e _ ⟨rfl, rfl⟩
    go_wp2_with fail
    refine (hs).mono ?_
    rintro e _ ⟨rfl, rfl⟩
    go_wp2_with fail
    exact hR.out _ _ ⟨by rw [hr.out] <;> rfl, Drew.refl _⟩

  · have hr : Hid (P.users a = (0, 0)) := by show _ = _; unfold Pm.users; rw [hT]; simp [h2]
    have hs := scope_low w (.pointer (some ⟨p, 0, none⟩)) a (by omega)
    rw [hT] at hA
    clear hT hok
    go_enter Try.func14, Try.ntmps14
    go_wp2_with fail
    refine (none_rep _ h).mono ?_
    rintro e _ ⟨rfl, rfl⟩
    go_wp2_with fail
    refine (hA).mono ?_
    rintro e _ ⟨rfl, rfl⟩
    go_wp2_with fail
    refine (hs).mono ?_
    rintro e _ ⟨rfl, rfl⟩
    go_wp2_with fail
    exact hR.out _ _ ⟨by rw [hr.out] <;> rfl, Drew.refl _⟩

theorem room_nope (w : World) (v : Value) (h : Nope w v) (a : Int) : Calls Try.prog 18 #[v, .int .i64 a] w (Two w (0, 1)) := by
  refine calls_abs fun R hR => ?_
  go_enter Try.func18, Try.ntmps18
  go_wp2_with fail
  refine (none_any _ _ h).mono ?_
  rintro e _ ⟨rfl, rfl⟩
  go_wp2_with fail
  exact hR.out _ _ ⟨rfl, Drew.refl _⟩

theorem room_rep (w : World) (h : PRep w L p P X) (hok : P.ok) (a : Int) : Calls Try.prog 18 #[.pointer (some ⟨p, 0, none⟩), .int .i64 a] w (Two w (P.room a)) := by
  refine calls_abs fun R hR => ?_
  have hA := isArea_rep w h hok a
  cases hT : P.isA a

  · have hr : Hid (P.room a = (0, 1)) := by show _ = _; unfold Pm.room; rw [hT]; rfl
    rw [hT] at hA
    clear hT hok
    go_enter Try.func18, Try.ntmps18
    go_wp2_with fail
    refine (none_rep _ h).mono ?_
    rintro e _ ⟨rfl, rfl⟩
    go_wp2_with fail
    refine (hA).mono ?_
    rintro e _ ⟨rfl, rfl⟩
    go_wp2_with fail
    exact hR.out _ _ ⟨by rw [hr.out] <;> rfl, Drew.refl _⟩

  by_cases h2 : 2 ≤ a
  · obtain ⟨j, g, cap, e1, hj, _, e2, _, c0, c1, c2, c3, c4, _⟩ := h.sp5 h2 (isA_lt2 hT).2
    have m0 := h.cells.1
    rw [e2] at m0
    have hn := hok.n6
    have hs := scope_at w p g P.n cap j a m0 e1 hj hn
    rw [hT] at hA
    have HT := Lib.hid hT
    clear hT hok e1 e2 m0 hn hj

    have hr : Hid (P.room a = ((P.sp a).room, 0)) := by show _ = _; unfold Pm.room; rw [HT.out]; simp [h2]
    go_enter Try.func18, Try.ntmps18
    go_wp2_with fail
    refine (none_rep _ h).mono ?_
    rintro e _ ⟨rfl, rfl⟩
    go_wp2_with fail
    refine (hA).mono ?_
    rintro e _ ⟨rfl, rfl⟩
    go_wp2_with fail
    refine (hs).mono ?_
    rintro e _ ⟨rfl, rfl⟩
    go_wp2_with fail
    exact hR.out _ _ ⟨by rw [hr.out] <;> rfl, Drew.refl _⟩

  · have hr : Hid (P.room a = (1000, 0)) := by show _ = _; unfold Pm.room; rw [hT]; simp [h2]
    have hs := scope_low w (.pointer (some ⟨p, 0, none⟩)) a (by omega)
    rw [hT] at hA
    clear hT hok
    go_enter Try.func18, Try.ntmps18
    go_wp2_with fail
    refine (none_rep _ h).mono ?_
    rintro e _ ⟨rfl, rfl⟩
    go_wp2_with fail
    refine (hA).mono ?_
    rintro e _ ⟨rfl, rfl⟩
    go_wp2_with fail
    refine (hs).mono ?_
    rintro e _ ⟨rfl, rfl⟩
    go_wp2_with fail
    exact hR.out _ _ ⟨by rw [hr.out] <;> rfl, Drew.refl _⟩

theorem find_nope (w : World) (v : Value) (h : Nope w v) (x : Int) : Calls Try.prog 51 #[v, .int .i64 x] w (Exact w (.tuple #[.pointer none, .int .i64 1])) := by
  refine calls_abs fun R hR => ?_
  go_enter Try.func51, Try.ntmps51
  go_wp2_with fail
  refine (none_any _ _ h).mono ?_
  rintro e _ ⟨rfl, rfl⟩
  go_wp2_with fail
  exact hR.out _ _ ⟨rfl, rfl⟩

/-- What find returns. -/
def Pm.found (P : Pm) (X : PX) (x : Int) : Value × Int := match P.ob x with | some _ => (.pointer (some ⟨X.blk x, 0, none⟩), 0) | none => (.pointer none, 3)
theorem PRep.look (h : PRep w L p P X) {x : Int} (hx : wfI x) : (Instr.lookup 56 (.map (some X.mb)) (.int .i64 x) false).run Try.prog w = .ok (mkP ((P.ob x).map fun _ => X.blk x)) w := h.mp.look hx

theorem find_none (w : World) (h : PRep w L p P X) (hok : P.ok) (x : Int) (hx : wfI x) (ho : P.ob x = none) : Calls Try.prog 51 #[.pointer (some ⟨p, 0, none⟩), .int .i64 x] w (Exact w (.tuple #[.pointer none, .int .i64 3])) := by
  refine calls_abs fun R hR => ?_
  have hl := h.look hx
  rw [ho] at hl
  replace hl : (Instr.lookup 56 (.map (some X.mb)) (.int .i64 x) false).run Try.prog w = .ok (.pointer none) w := hl
  have c6 := h.cells.2.2.1
  clear ho
  go_enter Try.func51, Try.ntmps51
  go_wp2_with fail
  refine (none_rep _ h).mono ?_
  rintro e _ ⟨rfl, rfl⟩
  go_wp2_with fail
  exact hR.out _ _ ⟨rfl, rfl⟩

theorem find_some (w : World) (h : PRep w L p P X) (hok : P.ok) (x : Int) (hx : wfI x) (t : Th) (ho : P.ob x = some t) : Calls Try.prog 51 #[.pointer (some ⟨p, 0, none⟩), .int .i64 x] w (Exact w (.tuple #[.pointer (some ⟨X.blk x, 0, none⟩), .int .i64 0])) := by
  refine calls_abs fun R hR => ?_
  have hl := h.look hx
  rw [ho] at hl
  replace hl : (Instr.lookup 56 (.map (some X.mb)) (.int .i64 x) false).run Try.prog w = .ok (.pointer (some ⟨X.blk x, 0, none⟩)) w := hl
  have c6 := h.cells.2.2.1
  clear ho
  go_enter Try.func51, Try.ntmps51
  go_wp2_with fail
  refine (none_rep _ h).mono ?_
  rintro e _ ⟨rfl, rfl⟩
  go_wp2_with fail
  exact hR.out _ _ ⟨rfl, rfl⟩

theorem area_nope (w : World) (v : Value) (h : Nope w v) (a : Int) : Calls Try.prog 17 #[v, .int .i64 a] w (Two w (0, 1)) := by
  refine calls_abs fun R hR => ?_
  go_enter Try.func17, Try.ntmps17
  go_wp2_with fail
  refine (find_nope _ _ h _).mono ?_
  rintro e _ ⟨rfl, rfl⟩
  go_wp2_with fail
  exact hR.out _ _ ⟨rfl, Drew.refl _⟩

theorem area_rep (w : World) (h : PRep w L p P X) (hok : P.ok) (x : Int) (hx : wfI x) : Calls Try.prog 17 #[.pointer (some ⟨p, 0, none⟩), .int .i64 x] w (Two w (P.area x)) := by
  refine calls_abs fun R hR => ?_
  cases ho : P.ob x with
  | none =>
    have hr : Hid (P.area x = (0, 3)) := by show _ = _; unfold Pm.area; rw [ho]
    have hf := find_none w h hok x hx ho
    clear ho hok
    go_enter Try.func17, Try.ntmps17
    go_wp2_with fail
    refine (hf).mono ?_
    rintro e _ ⟨rfl, rfl⟩
    go_wp2_with fail
    exact hR.out _ _ ⟨by rw [hr.out] <;> rfl, Drew.refl _⟩
  | some t =>
    have hr : Hid (P.area x = (t.area, 0)) := by show _ = _; unfold Pm.area; rw [ho]
    have hf := find_some w h hok x hx t ho
    obtain ⟨⟨T, hrow⟩, _⟩ := h.th x t ho
    have c0 := hrow.cell 0 rfl
    clear ho hok
    go_enter Try.func17, Try.ntmps17
    go_wp2_with fail
    refine (hf).mono ?_
    rintro e _ ⟨rfl, rfl⟩
    go_wp2_with fail
    exact hR.out _ _ ⟨by rw [hr.out] <;> rfl, Drew.refl _⟩

end
end Go.Proofs.Ytbjmgbbggbbidaa
