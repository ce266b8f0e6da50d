/- Contracts of the reference's memories: Parent, Current, Stack. -/
import Derived.Test.YtbjmgbbggbbidaaRScopeB
namespace Go.Proofs.Ytbjmgbbggbbidaa
open Go.RowKit Go.Maps
set_option maxHeartbeats 1600000
set_option maxRecDepth 100000
set_option linter.unusedVariables false
theorem gI_get {l : List Int} {i : Nat} (hi : i < l.length) : gI l i = l[i] := by unfold gI; rw [List.getElem?_eq_getElem hi]; rfl
theorem takeWhile_at {l : List Int} {a : Int} {i : Nat} (hi : i < l.length) (h1 : gI l i = a) (h2 : ∀ j, j < i → gI l j ≠ a) : l.takeWhile (· != a) = l.take i := by
  induction l generalizing i with
  | nil => simp at hi
  | cons x r ih =>
    cases i with
    | zero =>
      rw [gI_get hi] at h1
      simp at h1
      simp [h1]
    | succ i =>
      have h0 := h2 0 (by omega)
      rw [gI_get (by simp)] at h0
      have hx : (x != a) = true := by simpa using h0
      simp only [List.takeWhile_cons, hx, if_true, List.take_succ_cons]
      congr 1
      exact ih (by simpa using hi) (by simpa [gI] using h1) (fun j hj => by have := h2 (j + 1) (by omega); simpa [gI] using this)
theorem pIn_at {l : List Int} {a : Int} {i : Nat} (hi : i < l.length) (h1 : gI l i = a) (h2 : ∀ j, j < i → gI l j ≠ a) : pIn l a = some (under (l.take i)) := by
  unfold pIn
  rw [if_pos (mem_gI.2 ⟨i, hi, h1⟩), takeWhile_at hi h1 h2]
theorem pIn_no {l : List Int} {a : Int} (h : ∀ j, j < l.length → gI l j ≠ a) : pIn l a = none := by
  rw [pIn_none]
  intro hm
  obtain ⟨i, hi, e⟩ := mem_gI.1 hm
  exact h i hi e
theorem parN_keep {M : Sc} {a p : Int} {t s : Nat} (h : M.parN a t = some p) (hs : t ≤ s) : M.parN a s = some p := by
  induction s with
  | zero => obtain rfl : t = 0 := by omega
            exact h
  | succ s ih =>
    by_cases e : t = s + 1
    · subst e; exact h
    · unfold Sc.parN
      rw [ih (by omega)]
      rfl
section
variable {w w' : World} {L L' : Nat → Option Rb} {q : Nat} {M : Sc} {X : RX}
theorem rparent_nil (w : World) (a : Int) : Calls Try.prog 66 #[.pointer none, .int .i64 a] w (Exact w (.tuple #[.int .i64 0, .int .i64 1])) := by
  refine calls_abs fun R hR => ?_
  go_enter Try.func66, Try.ntmps66
  go_wp2_with fail
  refine (risArea_nil _ _).mono ?_
  rintro e _ ⟨rfl, rfl⟩
  go_wp2_with fail
  exact hR.out _ _ ⟨rfl, rfl⟩
theorem rparent_rep (w : World) (h : RRep w L q M X) (hok : M.Ok) (a : Int) : Calls Try.prog 66 #[.pointer (some ⟨q, 0, none⟩), .int .i64 a] w (Exact w (.tuple #[.int .i64 (M.parent a).1, .int .i64 (M.parent a).2])) := by
  refine calls_abs fun R hR => ?_
  have hA := risArea_rep w h hok.toS a
  cases hT : M.isA a
  · have hr : Hid (M.parent a = (0, 1)) := by show _ = _; unfold Sc.parent; rw [hT]; rfl
    rw [hT] at hA
    clear hT hok
    go_enter Try.func66, Try.ntmps66
    go_wp2_with fail
    refine hA.mono ?_
    rintro e _ ⟨rfl, rfl⟩
    go_wp2_with fail
    exact hR.out _ _ ⟨by rw [hr.out] <;> rfl, rfl⟩
  · have hr : Hid (M.parent a = match M.par a with | some p => (p, 0) | none => (0, 3)) := by show _ = _; unfold Sc.parent; rw [hT]; rfl
    rw [hT] at hA
    have m1 := h.cells.2.1
    have HST : Hid (∀ t, t < 5 → ∃ g cap, w.cell? ⟨X.sg, t, none⟩ = some (.slice (some ⟨g, 0, none⟩) (M.stk t).length cap) ∧ ∀ i, i < (M.stk t).length → w.cell? ⟨g, i, none⟩ = some (.int .i64 (gI (M.stk t) i))) := fun t ht => by
      obtain ⟨g, cap, _, h1, _, _, h2⟩ := h.stk hok.toS ht
      exact ⟨g, cap, h1, h2⟩
    have HLN : Hid (∀ t, t < 5 → (M.stk t).length ≤ 8) := fun t ht => (hok.s1 t ht).2
    clear hT hok h
    by_cases h2 : 2 ≤ a
    · have hu : Hid (M.par a = M.parN a 5) := by show _ = _; unfold Sc.par; rw [if_pos h2]
      go_enter Try.func66, Try.ntmps66
      go_wp2_with fail
      refine hA.mono ?_
      rintro e _ ⟨rfl, rfl⟩
      go_wp2_with fail
      go_loop [6, 7] (fun tv _ => ∃ t : Nat, t ≤ 5 ∧ tv = .int .i64 t ∧ Hid (M.parN a t = none)) (fun tv _ => 5 - (intOf tv).toNat)
      case atStart => exact ⟨0, by omega, rfl, rfl⟩
      case round =>
        obtain ⟨t, ht, rfl, hn⟩ := hrel
        by_cases hlt : t < 5
        · obtain ⟨g, cap, k1, k2⟩ := HST.out t hlt
          have hl8 := HLN.out t hlt
          have HK2 := Lib.hid k2
          have b1 : (0 : Int) ≤ t := by omega
          have b2 : (t : Int) < 5 := by omega
          obtain ⟨len, hlen⟩ : ∃ n, n = (M.stk t).length := ⟨_, rfl⟩
          rw [← hlen] at k1 hl8
          have HLEN := Lib.hid hlen
          clear k2 hlen
          go_wp2_with fail
          go_loop [7] (fun iv => ∃ i : Nat, i ≤ len ∧ iv = .int .i64 i ∧ Hid (∀ j, j < i → gI (M.stk t) j ≠ a)) (fun iv => len - (intOf iv).toNat)
          case atStart => exact ⟨0, by omega, rfl, fun j hj => by omega⟩
          case round =>
            obtain ⟨i, hi, rfl, hf⟩ := hrel
            by_cases hlt2 : i < len
            · have hcell := HK2.out i (by have := HLEN.out; omega)
              obtain ⟨x, hx⟩ : ∃ x, x = gI (M.stk t) i := ⟨_, rfl⟩
              rw [← hx] at hcell
              have HX := Lib.hid hx
              clear hx
              cases he : (x == a)
              · have hne : Hid (x ≠ a) := by intro e; simp [e] at he
                go_wp2_with fail
                go_round
                case rel => exact ⟨i + 1, by omega, by go_num, fun j hj => by
                  by_cases e : j = i
                  · rw [e, ← HX.out]; exact hne.out
                  · exact hf.out j (by omega)⟩
                case measure => simp [intOf]; omega
              · have hne : Hid (x = a) := by show _ = _; simpa using he
                have hp : Hid (M.par a = some (under ((M.stk t).take i))) := by
                  show _ = _
                  rw [hu.out]
                  refine parN_keep (t := t + 1) ?_ (by omega)
                  unfold Sc.parN
                  rw [hn.out, pIn_at (by have := HLEN.out; omega) (by rw [← HX.out, hne.out]) hf.out]
                  rfl
                have hc := under_any w g len cap i (M.stk t) HLEN.out.symm hl8 hi HK2.out
                go_wp2_with fail
                refine hc.mono ?_
                rintro e _ ⟨rfl, rfl⟩
                go_wp2_with fail
                refine hR.out _ _ ⟨?_, rfl⟩
                rw [hr.out, hp.out] <;> rfl
            · obtain rfl : i = len := by omega
              have he : Hid (M.parN a (t + 1) = none) := by
                show _ = _
                unfold Sc.parN
                rw [hn.out, pIn_no (fun j hj => hf.out j (by have := HLEN.out; omega))]
                rfl
              go_wp2_with fail
              go_round
              case rel => exact ⟨t + 1, by omega, by go_num, he⟩
              case measure => simp [intOf]; omega
        · obtain rfl : t = 5 := by omega
          go_wp2_with fail
          refine hR.out _ _ ⟨?_, rfl⟩
          rw [hr.out, hu.out, hn.out]
    · have hu : Hid (M.par a = none) := Sc.par_low h2
      go_enter Try.func66, Try.ntmps66
      go_wp2_with fail
      refine hA.mono ?_
      rintro e _ ⟨rfl, rfl⟩
      go_wp2_with fail
      go_loop [6, 7] (fun tv _ => tv = .int .i64 0) (fun tv _ => 0)
      case atStart => rfl
      case round =>
        obtain rfl := hrel
        go_wp2_with fail
        refine hR.out _ _ ⟨?_, rfl⟩
        rw [hr.out, hu.out]
theorem rcurrent_nil (w : World) (a : Int) : Calls Try.prog 65 #[.pointer none, .int .i64 a] w (Two w (0, 1)) := by
  refine calls_abs fun R hR => ?_
  go_enter Try.func65, Try.ntmps65
  go_wp2_with fail
  refine (risThread_nil _ _).mono ?_
  rintro e _ ⟨rfl, rfl⟩
  go_wp2_with fail
  exact hR.out _ _ ⟨rfl, Drew.refl _⟩
theorem rcurrent_rep (w : World) (h : RRep w L q M X) (hok : M.Ok) (t : Int) : Calls Try.prog 65 #[.pointer (some ⟨q, 0, none⟩), .int .i64 t] w (Two w (M.current t)) := by
  refine calls_abs fun R hR => ?_
  have hA := risThread_rep w h t
  cases hT : isT t
  · have hr : Hid (M.current t = (0, 1)) := by show _ = _; unfold Sc.current; rw [hT]; rfl
    rw [hT] at hA
    clear hT hok
    go_enter Try.func65, Try.ntmps65
    go_wp2_with fail
    refine hA.mono ?_
    rintro e _ ⟨rfl, rfl⟩
    go_wp2_with fail
    exact hR.out _ _ ⟨by rw [hr.out] <;> rfl, Drew.refl _⟩
  · obtain ⟨n, rfl, hn⟩ := isT_nat hT
    have hr : Hid (M.current n = (top (M.stk n), 0)) := by show _ = _; unfold Sc.current; rw [hT]; rfl
    rw [hT] at hA
    have m1 := h.cells.2.1
    obtain ⟨g, cap, _, k1, _, _, k2⟩ := h.stk hok.toS hn
    have hl := hok.s1 n hn
    have hc1 := k2 ((M.stk n).length - 1) (by omega)
    have H : Hid (top (M.stk n) = gI (M.stk n) ((M.stk n).length - 1)) := rfl
    generalize gI (M.stk n) ((M.stk n).length - 1) = v at *
    generalize (M.stk n).length = len at *
    obtain ⟨m, rfl⟩ : ∃ m, len = m + 1 := ⟨len - 1, by omega⟩
    rw [Nat.add_sub_cancel] at hc1
    have e1 : ((m + 1 : Nat) : Int) - 1 = m := by omega
    have b1 : (0 : Int) ≤ n := by omega
    have b2 : (n : Int) < 5 := by omega
    clear hT hok k2
    go_enter Try.func65, Try.ntmps65
    go_wp2_with fail
    refine hA.mono ?_
    rintro e _ ⟨rfl, rfl⟩
    go_wp2_with fail
    go_quiet (fail)
    go_wp2_with fail
    exact hR.out _ _ ⟨by rw [hr.out, H.out] <;> rfl, Drew.of _ _⟩
end
end Go.Proofs.Ytbjmgbbggbbidaa
