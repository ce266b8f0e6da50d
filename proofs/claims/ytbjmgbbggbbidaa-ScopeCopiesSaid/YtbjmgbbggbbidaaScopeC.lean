/- Contracts of package scope: outer, Outer, May, Refs, Portal. -/
import Derived.Test.YtbjmgbbggbbidaaScopeB
namespace Go.Proofs.Ytbjmgbbggbbidaa
open Go.RowKit Go.Maps
set_option maxHeartbeats 800000
set_option maxRecDepth 100000
set_option linter.unusedVariables false

theorem Pm.outerN_low {P : Pm} {n : Nat} {a q : Int} (ha : 2 ≤ a) (hq : q < 2) : P.outerN (n + 1) a q = false := by
  unfold Pm.outerN
  rw [if_neg (show ¬ (a < 2 ∨ a = q) by omega), if_pos (.inl hq)]
/-- A scope's rank, and none. -/
def rkm (rk : Int → Nat) (c : Int) : Nat := if c < 2 then 0 else rk c + 1
theorem rkm_lt {rk : Int → Nat} {q c : Int} (hc : 2 ≤ c) (h : 2 ≤ q → rk q < rk c) : rkm rk q < rkm rk c := by
  unfold rkm
  by_cases h2 : q < 2
  · rw [if_pos h2, if_neg (show ¬ c < 2 by omega)]; omega
  · rw [if_neg h2, if_neg (show ¬ c < 2 by omega)]; have := h (by omega); omega
theorem Pm.outerN_more {P : Pm} (hok : P.ok) {rk : Int → Nat} (hr : ∀ a, 2 ≤ a → a < (P.n : Int) + 2 → 0 < (P.sp a).users → 2 ≤ (P.sp a).parent → rk (P.sp a).parent < rk a) {n m : Nat} {a b : Int} (hb : b < (P.n : Int) + 2) (hn : rk b + 1 < n) (hm : rk b + 1 < m) :
    P.outerN n a b = P.outerN m a b := by
  induction n generalizing m b with
  | zero => omega
  | succ n ih =>
    cases m with
    | zero => omega
    | succ m =>
      unfold Pm.outerN
      split
      · rfl
      · rename_i h1
        split
        · rfl
        · rename_i h2
          have h3 := hok.sp b (by omega) hb
          by_cases h4 : 2 ≤ (P.sp b).parent
          · have := hr b (by omega) hb (by omega) h4
            exact ih h3.2.2.2.2.2.2.2 (by omega) (by omega)
          · cases n with
            | zero => omega
            | succ n =>
              cases m with
              | zero => omega
              | succ m =>
                rw [Pm.outerN_low (by omega) (by omega), Pm.outerN_low (by omega) (by omega)]
theorem Pm.ok.outer_step {P : Pm} (hok : P.ok) {a b : Int} (h1 : ¬ (a < 2 ∨ a = b)) (h2 : 2 ≤ b) (hb : b < (P.n : Int) + 2) (hu : (P.sp b).users ≠ 0) : P.outerN 8 a b = P.outerN 8 a (P.sp b).parent := by
  obtain ⟨rk, h6, hr⟩ := hok.rk
  have h3 := hok.sp b h2 hb
  have e : P.outerN 8 a b = P.outerN 7 a (P.sp b).parent := by
    show (if a < 2 ∨ a = b then true else if b < 2 ∨ (P.sp b).users = 0 then false else P.outerN 7 a (P.sp b).parent) = _
    rw [if_neg h1, if_neg (by omega)]
  rw [e]
  by_cases h4 : 2 ≤ (P.sp b).parent
  · have := hr b h2 hb (by omega) h4
    have := h6 b
    exact Pm.outerN_more hok hr h3.2.2.2.2.2.2.2 (by omega) (by omega)
  · rw [Pm.outerN_low (by omega) (by omega), Pm.outerN_low (by omega) (by omega)]
theorem Pm.outer_yes {P : Pm} {a b : Int} (h1 : a < 2 ∨ a = b) : P.outerN 8 a b = true := if_pos h1
theorem Pm.outer_no {P : Pm} {a b : Int} (h1 : ¬ (a < 2 ∨ a = b)) (h2 : b < 2 ∨ (P.sp b).users = 0) : P.outerN 8 a b = false := by
  show (if a < 2 ∨ a = b then true else if b < 2 ∨ (P.sp b).users = 0 then false else P.outerN 7 a (P.sp b).parent) = _
  rw [if_neg h1, if_pos h2]
section
variable {L : Nat → Option Lb} {p : Nat} {P : Pm} {X : PX} {w : World}
theorem outer_rep (w : World) (h : PRep w L p P X) (hok : P.ok) (a b : Int) (hb : b < (P.n : Int) + 2) :
    Calls Try.prog 59 #[.pointer (some ⟨p, 0, none⟩), .int .i64 a, .int .i64 b] w (Exact w (.bool (P.outerN 8 a b))) := by
  refine calls_abs fun R hR => ?_
  obtain ⟨rk, h6, hr⟩ := hok.rk
  have HOK := Lib.hid hok
  have HRK := Lib.hid hr
  have H := Lib.hid h
  have HB := Lib.hid hb
  clear hr hok h hb
  go_enter Try.func59, Try.ntmps59
  go_wp2_with fail
  go_loop [2, 7] (fun bv _ => ∃ c : Int, bv = .int .i64 c ∧ c < (P.n : Int) + 2 ∧ Hid (P.outerN 8 a b = P.outerN 8 a c)) (fun bv _ => rkm rk (intOf bv))
  case atStart => exact ⟨b, rfl, HB.out, rfl⟩
  case round =>
    obtain ⟨c, rfl, hc, he⟩ := hrel
    by_cases h1 : a < 2 ∨ a = c
    · have hv : Hid (P.outerN 8 a b = true) := by show _ = _; rw [he.out, Pm.outer_yes h1]
      by_cases h2 : a < 2
      · clear h1
        go_wp2_with fail
        exact hR.out _ _ ⟨by rw [hv.out] <;> rfl, rfl⟩
      · obtain rfl : a = c := h1.resolve_left h2
        clear h1
        go_wp2_with fail
        exact hR.out _ _ ⟨by rw [hv.out] <;> rfl, rfl⟩
    · have ha2 : 2 ≤ a := by omega
      have hac : (a != c) = true := by simp; omega
      by_cases h2 : c < 2
      · have hv : Hid (P.outerN 8 a b = false) := by show _ = _; rw [he.out, Pm.outer_no h1 (.inl h2)]
        have hs := scope_low w (.pointer (some ⟨p, 0, none⟩)) c h2
        clear h1
        go_wp2_with fail
        refine hs.mono ?_
        rintro e _ ⟨rfl, rfl⟩
        go_wp2_with fail
        exact hR.out _ _ ⟨by rw [hv.out] <;> rfl, rfl⟩
      · obtain ⟨j, g, cap, e1, hj, _, e2, _, c0, c1, c2, c3, c4, _⟩ := H.out.sp5 (a := c) (by omega) hc
        have m0 := H.out.cells.1
        rw [e2] at m0
        have hs := scope_at w p g P.n cap j c m0 e1 hj HOK.out.n6
        have hsp := HOK.out.sp c (by omega) hc
        cases hu : ((P.sp c).users == 0)
        · have hu' : (P.sp c).users ≠ 0 := by simpa using hu
          have hst : Hid (P.outerN 8 a b = P.outerN 8 a (P.sp c).parent) := by show _ = _; rw [he.out, HOK.out.outer_step h1 (by omega) hc hu']
          have hlt : 2 ≤ (P.sp c).parent → rk (P.sp c).parent < rk c := fun h4 => HRK.out c (by omega) hc (by omega) h4
          obtain ⟨q, hq⟩ : ∃ q, q = (P.sp c).parent := ⟨_, rfl⟩
          rw [← hq] at c3 hsp hst hlt
          have HM : Hid (rkm rk q < rkm rk c) := rkm_lt (by omega) hlt
          clear h1 e1 hq hu' m0 hlt
          go_wp2_with fail
          refine hs.mono ?_
          rintro e _ ⟨rfl, rfl⟩
          go_wp2_with fail
          go_round
          case rel => exact ⟨q, rfl, hsp.2.2.2.2.2.2.2, hst⟩
          case measure => exact HM.out
        · have hu' : (P.sp c).users = 0 := by simpa using hu
          have hv : Hid (P.outerN 8 a b = false) := by show _ = _; rw [he.out, Pm.outer_no h1 (.inr hu')]
          rw [hu'] at c2
          clear h1 e1 hu' m0 hu
          go_wp2_with fail
          refine hs.mono ?_
          rintro e _ ⟨rfl, rfl⟩
          go_wp2_with fail
          exact hR.out _ _ ⟨by rw [hv.out] <;> rfl, rfl⟩
theorem outerQ_nope (w : World) (v : Value) (h : Nope w v) (a b : Int) : Calls Try.prog 25 #[v, .int .i64 a, .int .i64 b] w (TwoB w (false, 1)) := by
  refine calls_abs fun R hR => ?_
  go_enter Try.func25, Try.ntmps25
  go_wp2_with fail
  refine (none_any _ _ h).mono ?_
  rintro e _ ⟨rfl, rfl⟩
  go_wp2_with fail
  exact hR.out _ _ ⟨rfl, Drew.refl _⟩

theorem outerQ_rep (w : World) (h : PRep w L p P X) (hok : P.ok) (a b : Int) : Calls Try.prog 25 #[.pointer (some ⟨p, 0, none⟩), .int .i64 a, .int .i64 b] w (TwoB w (P.outer a b)) := by
  refine calls_abs fun R hR => ?_

  have hA := isArea_rep w h hok a
  have hB := isArea_rep w h hok b
  cases hT : P.isA a

  · have hr : Hid (P.outer a b = (false, 1)) := by show _ = _; unfold Pm.outer; rw [hT]; rfl
    rw [hT] at hA
    clear hT hok
    go_enter Try.func25, Try.ntmps25
    go_wp2_with fail
    refine (none_rep _ h).mono ?_
    rintro e _ ⟨rfl, rfl⟩
    go_wp2_with fail
    refine (hA).mono ?_
    rintro e _ ⟨rfl, rfl⟩
    go_wp2_with fail
    exact hR.out _ _ ⟨by rw [hr.out] <;> rfl, Drew.refl _⟩

  cases hU : P.isA b
  · have hr : Hid (P.outer a b = (false, 1)) := by show _ = _; unfold Pm.outer; rw [hT, hU]; rfl
    rw [hT] at hA
    rw [hU] at hB
    clear hT hU hok
    go_enter Try.func25, Try.ntmps25
    go_wp2_with fail
    refine (none_rep _ h).mono ?_
    rintro e _ ⟨rfl, rfl⟩
    go_wp2_with fail
    refine (hA).mono ?_
    rintro e _ ⟨rfl, rfl⟩
    go_wp2_with fail
    refine (hB).mono ?_
    rintro e _ ⟨rfl, rfl⟩
    go_wp2_with fail
    exact hR.out _ _ ⟨by rw [hr.out] <;> rfl, Drew.refl _⟩

  · have hr : Hid (P.outer a b = (P.outerN 8 a b, 0)) := by show _ = _; unfold Pm.outer; rw [hT, hU]; rfl
    rw [hT] at hA
    have ho := outer_rep w h hok a b (isA_lt2 hU).2
    rw [hU] at hB
    clear hT hU hok
    go_enter Try.func25, Try.ntmps25
    go_wp2_with fail
    refine (none_rep _ h).mono ?_
    rintro e _ ⟨rfl, rfl⟩
    go_wp2_with fail
    refine (hA).mono ?_
    rintro e _ ⟨rfl, rfl⟩
    go_wp2_with fail
    refine (hB).mono ?_
    rintro e _ ⟨rfl, rfl⟩
    go_wp2_with fail
    refine (ho).mono ?_
    rintro e _ ⟨rfl, rfl⟩
    go_wp2_with fail
    exact hR.out _ _ ⟨by rw [hr.out] <;> rfl, Drew.refl _⟩

theorem may_nope (w : World) (v : Value) (h : Nope w v) (x y : Int) : Calls Try.prog 27 #[v, .int .i64 x, .int .i64 y] w (TwoB w (false, 1)) := by
  refine calls_abs fun R hR => ?_
  go_enter Try.func27, Try.ntmps27
  go_wp2_with fail
  refine (find_nope _ _ h _).mono ?_
  rintro e _ ⟨rfl, rfl⟩
  go_wp2_with fail
  exact hR.out _ _ ⟨rfl, Drew.refl _⟩

theorem may_rep (w : World) (h : PRep w L p P X) (hok : P.ok) (x y : Int) (hx : wfI x) (hy : wfI y) : Calls Try.prog 27 #[.pointer (some ⟨p, 0, none⟩), .int .i64 x, .int .i64 y] w (TwoB w (P.may x y)) := by
  refine calls_abs fun R hR => ?_

  cases ho : P.ob x with
  | none =>
    have hr : Hid (P.may x y = (false, 3)) := by show _ = _; unfold Pm.may; rw [ho]
    have hf := find_none w h hok x hx ho
    clear ho hok
    go_enter Try.func27, Try.ntmps27
    go_wp2_with fail
    refine (hf).mono ?_
    rintro e _ ⟨rfl, rfl⟩
    go_wp2_with fail
    exact hR.out _ _ ⟨by rw [hr.out] <;> rfl, Drew.refl _⟩

  | some t =>
    have hf := find_some w h hok x hx t ho
    cases ho2 : P.ob y with
    | none =>
      have hr : Hid (P.may x y = (false, 3)) := by show _ = _; unfold Pm.may; rw [ho, ho2]
      have hg := find_none w h hok y hy ho2
      clear ho ho2 hok
      go_enter Try.func27, Try.ntmps27
      go_wp2_with fail
      refine (hf).mono ?_
      rintro e _ ⟨rfl, rfl⟩
      go_wp2_with fail
      refine (hg).mono ?_
      rintro e _ ⟨rfl, rfl⟩
      go_wp2_with fail
      exact hR.out _ _ ⟨by rw [hr.out] <;> rfl, Drew.refl _⟩

    | some u =>
      have hr : Hid (P.may x y = (P.outerN 8 u.area t.area, 0)) := by show _ = _; unfold Pm.may; rw [ho, ho2]
      have hg := find_some w h hok y hy u ho2
      obtain ⟨⟨T1, hrow1⟩, _⟩ := h.th x t ho
      obtain ⟨⟨T2, hrow2⟩, _⟩ := h.th y u ho2
      have c0 := hrow1.cell 0 rfl
      have c1 := hrow2.cell 0 rfl
      have hta := (hok.th x t ho).2.2.2.1
      have hq := fun n => outer_rep (w.drewN n) (h.drewN n) hok u.area t.area hta
      generalize P.outerN 8 u.area t.area = v at *
      generalize u.area = ua at *
      generalize t.area = ta at *
      clear ho ho2 hrow1 hrow2 hta
      go_enter Try.func27, Try.ntmps27
      go_wp2_with fail
      refine (hf).mono ?_
      rintro e _ ⟨rfl, rfl⟩
      go_wp2_with fail
      refine (hg).mono ?_
      rintro e _ ⟨rfl, rfl⟩
      go_wp2_with fail
      go_quiet (first | (go_at_call 59; with_reducible exact quiet_exact (hq _)))
      go_wp2_with fail
      exact hR.out _ _ ⟨by rw [hr.out] <;> rfl, Drew.of _ _⟩

theorem scoped_nope (w : World) (v : Value) (h : Nope w v) (a : Int) : Calls Try.prog 63 #[v, .int .i64 a] w (Exact w (.tuple #[.pointer none, .int .i64 1])) := by
  refine calls_abs fun R hR => ?_
  go_enter Try.func63, Try.ntmps63
  go_wp2_with fail
  refine (none_any _ _ h).mono ?_
  rintro e _ ⟨rfl, rfl⟩
  go_wp2_with fail
  exact hR.out _ _ ⟨rfl, rfl⟩

theorem scoped_bad (w : World) (h : PRep w L p P X) (hok : P.ok) (a : Int) (hb : (P.isA a && decide (2 ≤ a)) = false) : Calls Try.prog 63 #[.pointer (some ⟨p, 0, none⟩), .int .i64 a] w (Exact w (.tuple #[.pointer none, .int .i64 1])) := by
  refine calls_abs fun R hR => ?_
  have hA := isArea_rep w h hok a
  cases hT : P.isA a
  · rw [hT] at hA
    clear hT hok
    go_enter Try.func63, Try.ntmps63
    go_wp2_with fail
    refine (none_rep _ h).mono ?_
    rintro e _ ⟨rfl, rfl⟩
    go_wp2_with fail
    refine (hA).mono ?_
    rintro e _ ⟨rfl, rfl⟩
    go_wp2_with fail
    exact hR.out _ _ ⟨rfl, rfl⟩
  · rw [hT] at hA hb
    have h2 : a < 2 := by simp at hb; omega
    clear hT hok hb
    go_enter Try.func63, Try.ntmps63
    go_wp2_with fail
    refine (none_rep _ h).mono ?_
    rintro e _ ⟨rfl, rfl⟩
    go_wp2_with fail
    refine (hA).mono ?_
    rintro e _ ⟨rfl, rfl⟩
    go_wp2_with fail
    exact hR.out _ _ ⟨rfl, rfl⟩

theorem scoped_at (w : World) (h : PRep w L p P X) (hok : P.ok) (a : Int) (hT : P.isA a = true) (h2 : 2 ≤ a) (g cap j : Nat) (e1 : a - 2 = (j : Int)) (hj : j < P.n) (e2 : X.scv = .slice (some ⟨g, 0, none⟩) P.n cap) : Calls Try.prog 63 #[.pointer (some ⟨p, 0, none⟩), .int .i64 a] w (Exact w (.tuple #[.pointer (some ⟨g, j * 5, none⟩), .int .i64 0])) := by
  refine calls_abs fun R hR => ?_
  have hA := isArea_rep w h hok a
  rw [hT] at hA
  have m0 := h.cells.1
  rw [e2] at m0
  have hs := scope_at w p g P.n cap j a m0 e1 hj hok.n6
  clear hT hok e1 e2 m0
  go_enter Try.func63, Try.ntmps63
  go_wp2_with fail
  refine (none_rep _ h).mono ?_
  rintro e _ ⟨rfl, rfl⟩
  go_wp2_with fail
  refine (hA).mono ?_
  rintro e _ ⟨rfl, rfl⟩
  go_wp2_with fail
  refine (hs).mono ?_
  rintro e _ ⟨rfl, rfl⟩
  go_wp2_with fail
  exact hR.out _ _ ⟨rfl, rfl⟩

theorem portal_nope (w : World) (v : Value) (h : Nope w v) (a : Int) : Calls Try.prog 33 #[v, .int .i64 a] w (Two w (0, 1)) := by
  refine calls_abs fun R hR => ?_
  go_enter Try.func33, Try.ntmps33
  go_wp2_with fail
  refine (scoped_nope _ _ h _).mono ?_
  rintro e _ ⟨rfl, rfl⟩
  go_wp2_with fail
  exact hR.out _ _ ⟨rfl, Drew.refl _⟩

theorem portal_rep (w : World) (h : PRep w L p P X) (hok : P.ok) (a : Int) : Calls Try.prog 33 #[.pointer (some ⟨p, 0, none⟩), .int .i64 a] w (Two w (P.portal a)) := by
  refine calls_abs fun R hR => ?_

  cases hb : (P.isA a && decide (2 ≤ a))
  · have hr : Hid (P.portal a = (0, 1)) := by show _ = _; unfold Pm.portal; rw [hb]; rfl
    have hs := scoped_bad w h hok a hb
    clear hb hok
    go_enter Try.func33, Try.ntmps33
    go_wp2_with fail
    refine (hs).mono ?_
    rintro e _ ⟨rfl, rfl⟩
    go_wp2_with fail
    exact hR.out _ _ ⟨by rw [hr.out] <;> rfl, Drew.refl _⟩

  · have hb2 := hb
    simp only [Bool.and_eq_true, decide_eq_true_eq] at hb2
    obtain ⟨j, g, cap, e1, hj, _, e2, _, c0, c1, c2, c3, c4, _⟩ := h.sp5 hb2.2 (isA_lt2 hb2.1).2
    have hs := scoped_at w h hok a hb2.1 hb2.2 g cap j e1 hj e2
    have hr0 : Hid (P.portal a = if (P.sp a).users = 0 then (0, 13) else ((P.sp a).portal, 0)) := by show _ = _; unfold Pm.portal; rw [hb]; rfl
    clear hb hb2 hok e1 e2 hj
    cases hu : ((P.sp a).users == 0)
    · have hr : Hid (P.portal a = ((P.sp a).portal, 0)) := by show _ = _; rw [hr0.out, if_neg (by simpa using hu)]
      go_enter Try.func33, Try.ntmps33
      go_wp2_with fail
      refine (hs).mono ?_
      rintro e _ ⟨rfl, rfl⟩
      go_wp2_with fail
      exact hR.out _ _ ⟨by rw [hr.out] <;> rfl, Drew.refl _⟩
    · have hr : Hid (P.portal a = (0, 13)) := by show _ = _; rw [hr0.out, if_pos (by simpa using hu)]
      go_enter Try.func33, Try.ntmps33
      go_wp2_with fail
      refine (hs).mono ?_
      rintro e _ ⟨rfl, rfl⟩
      go_wp2_with fail
      exact hR.out _ _ ⟨by rw [hr.out] <;> rfl, Drew.refl _⟩

theorem refs_nope (w : World) (v : Value) (h : Nope w v) (x : Int) : Calls Try.prog 21 #[v, .int .i64 x] w (TwoL w ([], 1)) := by
  refine calls_abs fun R hR => ?_
  go_enter Try.func21, Try.ntmps21
  go_wp2_with fail
  refine (find_nope _ _ h _).mono ?_
  rintro e _ ⟨rfl, rfl⟩
  go_wp2_with fail
  exact hR.out _ _ ⟨_, rfl, Ints.nil _ _, Only.refl _ _⟩

theorem refs_rep (w : World) (h : PRep w L p P X) (hok : P.ok) (x : Int) (hx : wfI x) : Calls Try.prog 21 #[.pointer (some ⟨p, 0, none⟩), .int .i64 x] w (TwoL w (P.refs x)) := by
  refine calls_abs fun R hR => ?_

  cases ho : P.ob x with
  | none =>
    have hr : Hid (P.refs x = ([], 3)) := by show _ = _; unfold Pm.refs; rw [ho]
    have hf := find_none w h hok x hx ho
    clear ho hok
    go_enter Try.func21, Try.ntmps21
    go_wp2_with fail
    refine (hf).mono ?_
    rintro e _ ⟨rfl, rfl⟩
    go_wp2_with fail
    exact hR.out _ _ ⟨_, by rw [hr.out] <;> rfl, by rw [hr.out]; exact Ints.nil _ _, Only.refl _ _⟩

  | some t =>
    have hr : Hid (P.refs x = (t.refs, 0)) := by show _ = _; unfold Pm.refs; rw [ho]
    have hf := find_some w h hok x hx t ho
    obtain ⟨⟨T1, hrow⟩, _, hints, _⟩ := h.th x t ho
    have c2 := hrow.cell 2 rfl
    have hlen := (hok.th x t ho).2.2.2.2.2.2.1
    have HI := Lib.hid hints
    rcases hints.form with ⟨e1, e2⟩ | ⟨g, cap, e1, _, _, _, hc⟩
    · rw [e1] at c2
      have E := Lib.hid e2
      clear ho hok e1 e2 hrow hints
      go_enter Try.func21, Try.ntmps21
      go_wp2_with fail
      refine (hf).mono ?_
      rintro e _ ⟨rfl, rfl⟩
      go_wp2_with fail
      refine (clone_nil _).mono ?_
      rintro e _ ⟨rfl, rfl⟩
      go_wp2_with fail
      exact hR.out _ _ ⟨_, by rw [hr.out] <;> rfl, by rw [hr.out, E.out]; exact Ints.nil _ _, Only.refl _ _⟩
    · rw [e1] at c2
      have HK := clone_ints w g t.refs.length cap t.refs rfl (by omega) hc
      clear ho hok e1 hrow hints hc
      go_enter Try.func21, Try.ntmps21
      go_wp2_with fail
      refine (hf).mono ?_
      rintro e _ ⟨rfl, rfl⟩
      go_wp2_with fail
      refine (HK).mono ?_
      rintro e w1 ⟨v, rfl, hv, ho, _⟩
      go_wp2_with fail
      exact hR.out _ _ ⟨_, by rw [hr.out] <;> rfl, by rw [hr.out]; exact hv, ho⟩

end
end Go.Proofs.Ytbjmgbbggbbidaa
