/- Contracts of the reference's memories: Enter. -/
import Derived.Test.YtbjmgbbggbbidaaRScopeH
namespace Go.Proofs.Ytbjmgbbggbbidaa
open Go.RowKit Go.Maps
set_option maxHeartbeats 3200000
set_option maxRecDepth 100000
set_option linter.unusedVariables false
section
variable {w w' : World} {L L' : Nat → Option Rb} {q : Nat} {M : Sc} {X : RX}
theorem renter_bad (w : World) (h : RRep w L q M X) (hok : M.Ok) (t a : Int) (hb : (isT t && M.isA a) = false) : Calls Try.prog 74 #[.pointer (some ⟨q, 0, none⟩), .int .i64 t, .int .i64 a] w (Exact w (.int .i64 1)) := by
  refine calls_abs fun R hR => ?_
  have hi := risThread_rep w h t
  have hA := risArea_rep w h hok.toS a
  cases hT : isT t
  · rw [hT] at hi
    clear hT hok hA hb h
    go_enter Try.func74, Try.ntmps74
    go_wp2_with fail
    refine hi.mono ?_
    rintro e _ ⟨rfl, rfl⟩
    go_wp2_with fail
    exact hR.out _ _ ⟨rfl, rfl⟩
  · rw [hT] at hi hb
    have hb2 : M.isA a = false := by simpa using hb
    rw [hb2] at hA
    clear hT hok hb hb2 h
    go_enter Try.func74, Try.ntmps74
    go_wp2_with fail
    refine hi.mono ?_
    rintro e _ ⟨rfl, rfl⟩
    go_wp2_with fail
    refine hA.mono ?_
    rintro e _ ⟨rfl, rfl⟩
    go_wp2_with fail
    exact hR.out _ _ ⟨rfl, rfl⟩
theorem renter_in (w : World) (h : RRep w L q M X) (hok : M.Ok) (t : Nat) (ht : t < 5) (a : Int) (hA : M.isA a = true) :
    Calls Try.prog 74 #[.pointer (some ⟨q, 0, none⟩), .int .i64 t, .int .i64 a] w (RDid w L q (.int .i64 (M.enter t a).1) (M.enter t a).2) := by
  refine calls_abs fun R hR => ?_
  have hi := risThread_rep w h t
  have hTt : isT (t : Int) = true := by unfold isT; simp; omega
  have hA' := risArea_rep w h hok.toS a
  rw [hTt] at hi
  rw [hA] at hA'
  have hd0 : Hid (M.enter t a = if M.used a && decide (M.par a ≠ some (under (M.stk t))) then (17, M) else if 8 ≤ (M.stk t).length then (2, M) else (0, M.pushed t a)) := by
    show _ = _; unfold Sc.enter; rw [hTt, hA]; rfl
  obtain ⟨g, cap, e1, k1, f1, hg, hc⟩ := h.stk hok.toS ht
  have m1 := h.cells.2.1
  have hl := hok.s1 t ht
  have hus := rused_rep w h hok.toS a hA
  have hpar := rparent_rep w h hok a
  have hpv : M.parent a = match M.par a with | some p => (p, 0) | none => (0, 3) := by unfold Sc.parent; rw [hA]; rfl
  have hun := under_any w g (M.stk t).length cap (M.stk t).length (M.stk t) rfl (by omega) (Nat.le_refl _) hc
  rw [List.take_length] at hun
  have b1 : (0 : Int) ≤ t := by omega
  have b2 : (t : Int) < 5 := by omega
  have H := Lib.hid h
  have HC := Lib.hid hc
  have hqs := h.lt q (by rw [h.Lm]; simp)
  have hss := h.lt X.sg (by rw [h.Lsg]; simp)
  obtain ⟨len, hlen⟩ : ∃ z, z = (M.stk t).length := ⟨_, rfl⟩
  rw [← hlen] at hd0 k1 hl hun HC
  have HLEN := Lib.hid hlen
  clear h hok hA hTt e1 hc hlen
  have hlast : ¬ (M.used a && decide (M.par a ≠ some (under (M.stk t)))) = true → 8 ≤ len ∨ len < 8 := fun _ => by omega
  clear hlast
  -- the last step, once
  cases hu : M.used a
  · rw [hu] at hus
    have hd1 : Hid (M.enter t a = if 8 ≤ len then (2, M) else (0, M.pushed t a)) := by show _ = _; rw [hd0.out, hu]; rfl
    clear hd0 hu hpar hpv hun
    by_cases h8 : 8 ≤ len
    · have hr : Hid (M.enter t a = (2, M)) := by show _ = _; rw [hd1.out, if_pos h8]
      clear hd1
      go_enter Try.func74, Try.ntmps74
      go_wp2_with fail
      refine hi.mono ?_
      rintro e _ ⟨rfl, rfl⟩
      go_wp2_with fail
      refine hA'.mono ?_
      rintro e _ ⟨rfl, rfl⟩
      go_wp2_with fail
      refine hus.mono ?_
      rintro e _ ⟨rfl, rfl⟩
      go_wp2_with fail
      refine hR.out _ _ ?_
      rw [hr.out]
      exact rdid_none H.out (Drew.refl _)
    · have hr : Hid (M.enter t a = (0, M.pushed t a)) := by show _ = _; rw [hd1.out, if_neg h8]
      clear hd1
      go_enter Try.func74, Try.ntmps74
      go_wp2_with fail
      refine hi.mono ?_
      rintro e _ ⟨rfl, rfl⟩
      go_wp2_with fail
      refine hA'.mono ?_
      rintro e _ ⟨rfl, rfl⟩
      go_wp2_with fail
      refine hus.mono ?_
      rintro e _ ⟨rfl, rfl⟩
      go_wp2_with fail
      have hO : Only [] w w.drew := (Only.refl _ _).drewN 1
      have HM0 := Lib.hid (Ints.made w)
      have hag : ∀ wl, Only [] w wl → ∀ j u, (M.stk t)[j]? = some u → wl.cell? ((⟨g, 0, none⟩ : Addr).add j) = some (.int .i64 u) := fun wl ho j u hu => by
        rw [addr_add, Nat.zero_add]
        have hj : j < (M.stk t).length := (List.getElem?_eq_some_iff.1 hu).1
        have := HC.out j (by have := HLEN.out; omega)
        rw [gI, hu] at this
        exact ho.cell this (by simp)
      have HAG := Lib.hid hag
      have hl1 : 0 < len := by omega
      have hl3 : len ≤ 1000000 := by omega
      have hl4 : len + 1 ≤ 1000000 := by omega
      have hn1 : ([] : List Int).length + len = len := by simp
      have hn2 : ([] ++ M.stk t).length + 1 = len + 1 := by have := HLEN.out; simp; omega
      have HST0 : HasSt X.sg t w.drew := has_of hO k1 f1
      have hsin : (⟨X.sg, t, none⟩ : Addr).block ∈ [X.sg] := by simp
      have hqin : (⟨q, 1, none⟩ : Addr).block ∉ [X.sg] := by simp; rintro rfl; have := H.out.Lm; rw [H.out.Lsg] at this; cases this
      clear hag
      have HN1 := hn1
      go_region_held3 (fun w' => w'.cell? ⟨q, 1, none⟩ = some (.slice (some ⟨X.sg, 0, none⟩) 5 X.sc) ∧ HasSt X.sg t w')
        (first
          | (exact ⟨m1, HST0⟩)
          | (exact ⟨hs2.cell0 m1, has_of hs2 k1 f1⟩)
          | (exact ⟨hs1.cell0 m1, has_of hs1 k1 f1⟩)
          | (refine ⟨?_, HasSt.alloc (by assumption) _⟩; exact (only_a1 w _).cell0 m1)
          | (refine ⟨?_, HasSt.alloc (And.right (by assumption)) _⟩; first | exact (only_a1 w _).cell0 m1 | exact (only_a2 w _ _).cell0 m1 | exact (hs1.alloc _).cell0 m1)
          | (refine ⟨?_, HasSt.set (has_of hs2 k1 f1) _⟩; exact ((Only.refl [X.sg] w2).set (p := ⟨X.sg, t, none⟩) (.inl hsin) _).cell (hs2.cell0 m1) hqin))
        (first
          | (refine step_app (by rfl) (.tmp 50) (.tmp 51) (by rfl) w (by first | exact only_a1 w _ | exact only_a2 w _ _) _ [] (by rfl) (by first | exact made_alone w | exact made_first w _ _ | exact made_second w _ _) ⟨g, 0, none⟩ len cap (M.stk t) (by rfl) HLEN.out.symm (HAG.out _ (by first | exact only_a1 w _ | exact only_a2 w _ _)) hl1 len hn1 hl3 ?_; intro g1 cap1 w1 hi1 hs1 hk1; first | (have hone := hk1 (w.heap.size + 1) (.int .i64 a) (own_succ _) (one_second w _ _ a)) | (have hone := hk1 w.heap.size (.int .i64 a) (own_pred _) (one_first w _ _ a)) | skip)
          | (refine step_app (by rfl) (.tmp 52) (.tmp 54) (by rfl) w (by first | exact hs1 | exact hs1.alloc _) _ _ (by rfl) (by first | exact hi1 | exact hi1.alloc _) _ 1 1 [a] (by rfl) rfl (by first | exact news_of_one hone | exact news_of_new w1 _ a) (by omega) (len + 1) hn2 hl4 ?_; intro g2 cap2 w2 hi2 hs2 hk2; have cst := hs2.cell0 k1; have fst := hs2.frozen0 k1 f1))
      all_goals (
        have hd := stk_end (r := .int .i64 0) H.out ht hs2 hi2
        have HD := Lib.hid hd
        clear hd hi1 hi2 hk1 hk2
        go_wp2_with fail
        refine hR.out _ _ ?_
        rw [hr.out]
        exact HD.out)
  · rw [hu] at hus
    obtain ⟨pp, hpp⟩ := Sc.used_par hu
    rw [hpp] at hpv
    rw [hpv] at hpar
    obtain ⟨un, hund⟩ : ∃ z, z = under (M.stk t) := ⟨_, rfl⟩
    rw [← hund] at hun hd0
    cases hne : (pp != un)
    · have hd1 : Hid (M.enter t a = if 8 ≤ len then (2, M) else (0, M.pushed t a)) := by
        show _ = _
        have e : pp = un := by simpa using hne
        rw [hd0.out, hu, hpp, e]; simp
      clear hd0 hu hpv hpp hund
      by_cases h8 : 8 ≤ len
      · have hr : Hid (M.enter t a = (2, M)) := by show _ = _; rw [hd1.out, if_pos h8]
        clear hd1
        go_enter Try.func74, Try.ntmps74
        go_wp2_with fail
        refine hi.mono ?_
        rintro e _ ⟨rfl, rfl⟩
        go_wp2_with fail
        refine hA'.mono ?_
        rintro e _ ⟨rfl, rfl⟩
        go_wp2_with fail
        refine hus.mono ?_
        rintro e _ ⟨rfl, rfl⟩
        go_wp2_with fail
        refine hpar.mono ?_
        rintro e _ ⟨rfl, rfl⟩
        go_wp2_with fail
        refine hun.mono ?_
        rintro e _ ⟨rfl, rfl⟩
        go_wp2_with fail
        refine hR.out _ _ ?_
        rw [hr.out]
        exact rdid_none H.out (Drew.refl _)
      · have hr : Hid (M.enter t a = (0, M.pushed t a)) := by show _ = _; rw [hd1.out, if_neg h8]
        clear hd1
        go_enter Try.func74, Try.ntmps74
        go_wp2_with fail
        refine hi.mono ?_
        rintro e _ ⟨rfl, rfl⟩
        go_wp2_with fail
        refine hA'.mono ?_
        rintro e _ ⟨rfl, rfl⟩
        go_wp2_with fail
        refine hus.mono ?_
        rintro e _ ⟨rfl, rfl⟩
        go_wp2_with fail
        refine hpar.mono ?_
        rintro e _ ⟨rfl, rfl⟩
        go_wp2_with fail
        refine hun.mono ?_
        rintro e _ ⟨rfl, rfl⟩
        go_wp2_with fail
        have hO : Only [] w w.drew := (Only.refl _ _).drewN 1
        have HM0 := Lib.hid (Ints.made w)
        have hag : ∀ wl, Only [] w wl → ∀ j u, (M.stk t)[j]? = some u → wl.cell? ((⟨g, 0, none⟩ : Addr).add j) = some (.int .i64 u) := fun wl ho j u hu => by
          rw [addr_add, Nat.zero_add]
          have hj : j < (M.stk t).length := (List.getElem?_eq_some_iff.1 hu).1
          have := HC.out j (by have := HLEN.out; omega)
          rw [gI, hu] at this
          exact ho.cell this (by simp)
        have HAG := Lib.hid hag
        have hl1 : 0 < len := by omega
        have hl3 : len ≤ 1000000 := by omega
        have hl4 : len + 1 ≤ 1000000 := by omega
        have hn1 : ([] : List Int).length + len = len := by simp
        have hn2 : ([] ++ M.stk t).length + 1 = len + 1 := by have := HLEN.out; simp; omega
        have HST0 : HasSt X.sg t w.drew := has_of hO k1 f1
        have hsin : (⟨X.sg, t, none⟩ : Addr).block ∈ [X.sg] := by simp
        have hqin : (⟨q, 1, none⟩ : Addr).block ∉ [X.sg] := by simp; rintro rfl; have := H.out.Lm; rw [H.out.Lsg] at this; cases this
        clear hag
        have HN1 := hn1
        go_region_held3 (fun w' => w'.cell? ⟨q, 1, none⟩ = some (.slice (some ⟨X.sg, 0, none⟩) 5 X.sc) ∧ HasSt X.sg t w')
          (first
            | (exact ⟨m1, HST0⟩)
            | (exact ⟨hs2.cell0 m1, has_of hs2 k1 f1⟩)
            | (exact ⟨hs1.cell0 m1, has_of hs1 k1 f1⟩)
            | (refine ⟨?_, HasSt.alloc (by assumption) _⟩; exact (only_a1 w _).cell0 m1)
            | (refine ⟨?_, HasSt.alloc (And.right (by assumption)) _⟩; first | exact (only_a1 w _).cell0 m1 | exact (only_a2 w _ _).cell0 m1 | exact (hs1.alloc _).cell0 m1)
            | (refine ⟨?_, HasSt.set (has_of hs2 k1 f1) _⟩; exact ((Only.refl [X.sg] w2).set (p := ⟨X.sg, t, none⟩) (.inl hsin) _).cell (hs2.cell0 m1) hqin))
          (first
            | (refine step_app (by rfl) (.tmp 50) (.tmp 51) (by rfl) w (by first | exact only_a1 w _ | exact only_a2 w _ _) _ [] (by rfl) (by first | exact made_alone w | exact made_first w _ _ | exact made_second w _ _) ⟨g, 0, none⟩ len cap (M.stk t) (by rfl) HLEN.out.symm (HAG.out _ (by first | exact only_a1 w _ | exact only_a2 w _ _)) hl1 len hn1 hl3 ?_; intro g1 cap1 w1 hi1 hs1 hk1; first | (have hone := hk1 (w.heap.size + 1) (.int .i64 a) (own_succ _) (one_second w _ _ a)) | (have hone := hk1 w.heap.size (.int .i64 a) (own_pred _) (one_first w _ _ a)) | skip)
            | (refine step_app (by rfl) (.tmp 52) (.tmp 54) (by rfl) w (by first | exact hs1 | exact hs1.alloc _) _ _ (by rfl) (by first | exact hi1 | exact hi1.alloc _) _ 1 1 [a] (by rfl) rfl (by first | exact news_of_one hone | exact news_of_new w1 _ a) (by omega) (len + 1) hn2 hl4 ?_; intro g2 cap2 w2 hi2 hs2 hk2; have cst := hs2.cell0 k1; have fst := hs2.frozen0 k1 f1))
        all_goals (
          have hd := stk_end (r := .int .i64 0) H.out ht hs2 hi2
          have HD := Lib.hid hd
          clear hd hi1 hi2 hk1 hk2
          go_wp2_with fail
          refine hR.out _ _ ?_
          rw [hr.out]
          exact HD.out)
    · have hr : Hid (M.enter t a = (17, M)) := by
        show _ = _
        have e : pp ≠ un := by simpa using hne
        rw [hd0.out, hu, hpp]; simp [e]
      clear hd0 hu hpv hpp hund
      go_enter Try.func74, Try.ntmps74
      go_wp2_with fail
      refine hi.mono ?_
      rintro e _ ⟨rfl, rfl⟩
      go_wp2_with fail
      refine hA'.mono ?_
      rintro e _ ⟨rfl, rfl⟩
      go_wp2_with fail
      refine hus.mono ?_
      rintro e _ ⟨rfl, rfl⟩
      go_wp2_with fail
      refine hpar.mono ?_
      rintro e _ ⟨rfl, rfl⟩
      go_wp2_with fail
      refine hun.mono ?_
      rintro e _ ⟨rfl, rfl⟩
      go_wp2_with fail
      refine hR.out _ _ ?_
      rw [hr.out]
      exact rdid_none H.out (Drew.refl _)
theorem renter_rep (w : World) (h : RRep w L q M X) (hok : M.Ok) (t a : Int) :
    Calls Try.prog 74 #[.pointer (some ⟨q, 0, none⟩), .int .i64 t, .int .i64 a] w (RDid w L q (.int .i64 (M.enter t a).1) (M.enter t a).2) := by
  cases hb : (isT t && M.isA a)
  · refine (renter_bad w h hok t a hb).mono ?_
    rintro e _ ⟨rfl, rfl⟩
    have hr : M.enter t a = (1, M) := by unfold Sc.enter; rw [hb]; rfl
    rw [hr]
    exact rdid_none h (Drew.refl _)
  · simp only [Bool.and_eq_true] at hb
    obtain ⟨n, rfl, hn⟩ := isT_nat hb.1
    exact renter_in w h hok n hn a hb.2
end
end Go.Proofs.Ytbjmgbbggbbidaa
