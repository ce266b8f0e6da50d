/- Contracts of the reference's memories: SetPortal. Printed by wip/gen/rsetportal.py. -/
import Derived.Test.YtbjmgbbggbbidaaRScopeK
namespace Go.Proofs.Ytbjmgbbggbbidaa
open Go.RowKit Go.Maps
set_option maxHeartbeats 3200000
set_option maxRecDepth 100000
set_option linter.unusedVariables false
section
variable {w w' : World} {L L' : Nat → Option Rb} {q : Nat} {M : Sc} {X : RX}
theorem rsetPortal_nil (w : World) (a x : Int) : Calls Try.prog 32 #[.pointer none, .int .i64 a, .int .i64 x] w (Exact w (.int .i64 1)) := by
  refine calls_abs fun R hR => ?_
  go_enter Try.func32, Try.ntmps32
  go_wp2_with fail
  refine (risArea_nil _ _).mono ?_
  rintro e _ ⟨rfl, rfl⟩
  go_wp2_with fail
  exact hR.out _ _ ⟨rfl, rfl⟩
theorem rsetPortal_bad (w : World) (h : RRep w L q M X) (hok : M.Ok) (a x : Int) (hb : M.isA a = false) :
    Calls Try.prog 32 #[.pointer (some ⟨q, 0, none⟩), .int .i64 a, .int .i64 x] w (Exact w (.int .i64 1)) := by
  refine calls_abs fun R hR => ?_
  have hA := risArea_rep w h hok.toS a
  rw [hb] at hA
  clear h hok hb
  go_enter Try.func32, Try.ntmps32
  go_wp2_with fail
  refine hA.mono ?_
  rintro e _ ⟨rfl, rfl⟩
  go_wp2_with fail
  exact hR.out _ _ ⟨rfl, rfl⟩
theorem rsetPortal_low (w : World) (h : RRep w L q M X) (hok : M.Ok) (a x : Int) (hb : M.isA a = true) (h2 : a < 2) :
    Calls Try.prog 32 #[.pointer (some ⟨q, 0, none⟩), .int .i64 a, .int .i64 x] w (Exact w (.int .i64 1)) := by
  refine calls_abs fun R hR => ?_
  have hA := risArea_rep w h hok.toS a
  rw [hb] at hA
  clear h hok hb
  go_enter Try.func32, Try.ntmps32
  go_wp2_with fail
  refine hA.mono ?_
  rintro e _ ⟨rfl, rfl⟩
  go_wp2_with fail
  exact hR.out _ _ ⟨rfl, rfl⟩
theorem rsetPortal_none (w : World) (h : RRep w L q M X) (hok : M.Ok) (a x : Int) (hb : M.isA a = true) (h2 : 2 ≤ a) (hx : x ≠ 0) (hn : M.inn x = false) :
    Calls Try.prog 32 #[.pointer (some ⟨q, 0, none⟩), .int .i64 a, .int .i64 x] w (Exact w (.int .i64 3)) := by
  refine calls_abs fun R hR => ?_
  have hA := risArea_rep w h hok.toS a
  rw [hb] at hA
  have hI := rin_rep w h hok x
  rw [hn] at hI
  have h2' : ¬ a < 2 := by omega
  clear h hok hb hn h2
  go_enter Try.func32, Try.ntmps32
  go_wp2_with fail
  refine hA.mono ?_
  rintro e _ ⟨rfl, rfl⟩
  go_wp2_with fail
  refine hI.mono ?_
  rintro e _ ⟨rfl, rfl⟩
  go_wp2_with fail
  exact hR.out _ _ ⟨rfl, rfl⟩
theorem rsetPortal_idle0 (w : World) (h : RRep w L q M X) (hok : M.Ok) (a x : Int) (hb : M.isA a = true) (h2 : 2 ≤ a) (hx : x = 0) (hu : M.used a = false) :
    Calls Try.prog 32 #[.pointer (some ⟨q, 0, none⟩), .int .i64 a, .int .i64 x] w (Exact w (.int .i64 13)) := by
  refine calls_abs fun R hR => ?_
  have hA := risArea_rep w h hok.toS a
  have hU := rused_rep w h hok.toS a hb
  rw [hb] at hA
  rw [hu] at hU
  have h2' : ¬ a < 2 := by omega
  subst hx
  clear h hok hb hu h2
  go_enter Try.func32, Try.ntmps32
  go_wp2_with fail
  refine hA.mono ?_
  rintro e _ ⟨rfl, rfl⟩
  go_wp2_with fail
  refine hU.mono ?_
  rintro e _ ⟨rfl, rfl⟩
  go_wp2_with fail
  exact hR.out _ _ ⟨rfl, rfl⟩
theorem rsetPortal_idle (w : World) (h : RRep w L q M X) (hok : M.Ok) (a x : Int) (hb : M.isA a = true) (h2 : 2 ≤ a) (hx : x ≠ 0) (hn : M.inn x = true) (hu : M.used a = false) :
    Calls Try.prog 32 #[.pointer (some ⟨q, 0, none⟩), .int .i64 a, .int .i64 x] w (Exact w (.int .i64 13)) := by
  refine calls_abs fun R hR => ?_
  have hA := risArea_rep w h hok.toS a
  have hU := rused_rep w h hok.toS a hb
  have hI := rin_rep w h hok x
  rw [hb] at hA
  rw [hu] at hU
  rw [hn] at hI
  have h2' : ¬ a < 2 := by omega
  clear h hok hb hu h2 hn
  go_enter Try.func32, Try.ntmps32
  go_wp2_with fail
  refine hA.mono ?_
  rintro e _ ⟨rfl, rfl⟩
  go_wp2_with fail
  refine hI.mono ?_
  rintro e _ ⟨rfl, rfl⟩
  go_wp2_with fail
  refine hU.mono ?_
  rintro e _ ⟨rfl, rfl⟩
  go_wp2_with fail
  exact hR.out _ _ ⟨rfl, rfl⟩
theorem rsetPortal_ok0 (w : World) (h : RRep w L q M X) (hok : M.Ok) (a x : Int) (hb : M.isA a = true) (h2 : 2 ≤ a) (hx : x = 0) (hu : M.used a = true) :
    Calls Try.prog 32 #[.pointer (some ⟨q, 0, none⟩), .int .i64 a, .int .i64 x] w (RDid w L q (.int .i64 0) { M with por := upd M.por a.toNat x }) := by
  refine calls_abs fun R hR => ?_
  have hA := risArea_rep w h hok.toS a
  have hU := rused_rep w h hok.toS a hb
  rw [hb] at hA
  rw [hu] at hU
  have hlt := isA_lt hb
  have h2' : ¬ a < 2 := by omega
  have hfin : Hid (RRep (w.setCell ⟨X.pg, a.toNat, none⟩ (.int .i64 x)) L q { M with por := upd M.por a.toNat x } X) := h.setPor a.toNat x
  have hlp : Hid (L X.pg ≠ none) := by show _ ≠ _; rw [h.Lpg]; simp
  have m3 := h.cells.2.2.2
  obtain ⟨k1, k2⟩ := h.porAt hlt.1 hlt.2
  obtain ⟨j, hj⟩ : ∃ j : Nat, a = j := ⟨a.toNat, by omega⟩
  have hn6 : M.n ≤ 6 := hok.n6
  subst hx
  obtain ⟨n2n, hn2n⟩ : ∃ z, z = M.n + 2 := ⟨_, rfl⟩
  rw [← hn2n] at m3
  have b2 : a < (n2n : Int) := by omega
  have b3 : n2n ≤ 8 := by omega
  clear h hok hb hu h2 hlt hn6 hn2n
  subst hj
  rw [Int.toNat_natCast] at k1 k2 hfin hR
  have hjb : (0 : Int) ≤ j := by omega
  generalize M.por j = v at *
  go_enter Try.func32, Try.ntmps32
  go_wp2_with fail
  refine hA.mono ?_
  rintro e _ ⟨rfl, rfl⟩
  go_wp2_with fail
  refine hU.mono ?_
  rintro e _ ⟨rfl, rfl⟩
  go_wp2_with fail
  exact hR.out _ _ ⟨rfl, L, X, hfin.out, fun k hk => .inl hk, (OnlyP.refl _ w).set (.inl hlp.out) _⟩
theorem rsetPortal_out (w : World) (h : RRep w L q M X) (hok : M.Ok) (a x : Int) (hb : M.isA a = true) (h2 : 2 ≤ a) (hx : x ≠ 0) (hn : M.inn x = true) (hu : M.used a = true) (ho : M.outerN 8 (M.ob x).area a = false) :
    Calls Try.prog 32 #[.pointer (some ⟨q, 0, none⟩), .int .i64 a, .int .i64 x] w (Exact w (.int .i64 17)) := by
  refine calls_abs fun R hR => ?_
  have hA := risArea_rep w h hok.toS a
  have hU := rused_rep w h hok.toS a hb
  have h2' : ¬ a < 2 := by omega
  have mx := obI_mem hn
  have m2 := h.cells.2.2.1
  obtain ⟨k, g, cap, ek, hk, _, e1, _, o0, _⟩ := h.objX mx.2.2.1 mx.2.2.2
  rw [e1] at m2
  have hob := hok.ob
  have hb1 : (0 : Int) ≤ k := by omega
  have hb2 : (k : Int) < (M.obs.length : Nat) := by omega
  have hx1 := mx.2.2
  have HO : Calls Try.prog 61 #[.pointer (some ⟨q, 0, none⟩), .int .i64 (M.ob x).area, .int .i64 a] w (Exact w (.bool (M.outerN 8 (M.ob x).area a))) := router_rep _ h hok _ _ hb
  rw [ho] at HO
  have hI := rin_rep w h hok x
  rw [hn] at hI
  rw [hb] at hA
  rw [hu] at hU
  generalize (M.ob x).area = ar at *
  generalize M.obs.length = len at *
  clear h hok hb hu h2 hn mx e1 ho
  go_enter Try.func32, Try.ntmps32
  go_wp2_with fail
  refine hA.mono ?_
  rintro e _ ⟨rfl, rfl⟩
  go_wp2_with fail
  refine hI.mono ?_
  rintro e _ ⟨rfl, rfl⟩
  go_wp2_with fail
  refine hU.mono ?_
  rintro e _ ⟨rfl, rfl⟩
  go_wp2_with fail
  refine HO.mono ?_
  rintro e _ ⟨rfl, rfl⟩
  go_wp2_with fail
  exact hR.out _ _ ⟨rfl, rfl⟩
theorem rsetPortal_ok (w : World) (h : RRep w L q M X) (hok : M.Ok) (a x : Int) (hb : M.isA a = true) (h2 : 2 ≤ a) (hx : x ≠ 0) (hn : M.inn x = true) (hu : M.used a = true) (ho : M.outerN 8 (M.ob x).area a = true) :
    Calls Try.prog 32 #[.pointer (some ⟨q, 0, none⟩), .int .i64 a, .int .i64 x] w (RDid w L q (.int .i64 0) { M with por := upd M.por a.toNat x }) := by
  refine calls_abs fun R hR => ?_
  have mx := obI_mem hn
  have m2 := h.cells.2.2.1
  obtain ⟨k, g, cap, ek, hk, _, e1, _, o0, _⟩ := h.objX mx.2.2.1 mx.2.2.2
  rw [e1] at m2
  have hob := hok.ob
  have hb1 : (0 : Int) ≤ k := by omega
  have hb2 : (k : Int) < (M.obs.length : Nat) := by omega
  have hx1 := mx.2.2
  have HO : Calls Try.prog 61 #[.pointer (some ⟨q, 0, none⟩), .int .i64 (M.ob x).area, .int .i64 a] w (Exact w (.bool (M.outerN 8 (M.ob x).area a))) := router_rep _ h hok _ _ hb
  rw [ho] at HO
  have hI := rin_rep w h hok x
  rw [hn] at hI
  have hA := risArea_rep w h hok.toS a
  have hU := rused_rep w h hok.toS a hb
  rw [hb] at hA
  rw [hu] at hU
  have hlt := isA_lt hb
  have h2' : ¬ a < 2 := by omega
  have hfin : Hid (RRep (w.setCell ⟨X.pg, a.toNat, none⟩ (.int .i64 x)) L q { M with por := upd M.por a.toNat x } X) := h.setPor a.toNat x
  have hlp : Hid (L X.pg ≠ none) := by show _ ≠ _; rw [h.Lpg]; simp
  have m3 := h.cells.2.2.2
  obtain ⟨k1, k2⟩ := h.porAt hlt.1 hlt.2
  obtain ⟨j, hj⟩ : ∃ j : Nat, a = j := ⟨a.toNat, by omega⟩
  have hn6 : M.n ≤ 6 := hok.n6
  obtain ⟨n2n, hn2n⟩ : ∃ z, z = M.n + 2 := ⟨_, rfl⟩
  rw [← hn2n] at m3
  have b2 : a < (n2n : Int) := by omega
  have b3 : n2n ≤ 8 := by omega
  clear mx ho hn
  generalize (M.ob x).area = ar at *
  generalize M.obs.length = len at *
  clear h hok hb hu h2 hlt hn6 hn2n e1
  subst hj
  rw [Int.toNat_natCast] at k1 k2 hfin hR
  have hjb : (0 : Int) ≤ j := by omega
  generalize M.por j = v at *
  go_enter Try.func32, Try.ntmps32
  go_wp2_with fail
  refine hA.mono ?_
  rintro e _ ⟨rfl, rfl⟩
  go_wp2_with fail
  refine hI.mono ?_
  rintro e _ ⟨rfl, rfl⟩
  go_wp2_with fail
  refine hU.mono ?_
  rintro e _ ⟨rfl, rfl⟩
  go_wp2_with fail
  refine HO.mono ?_
  rintro e _ ⟨rfl, rfl⟩
  go_wp2_with fail
  exact hR.out _ _ ⟨rfl, L, X, hfin.out, fun k hk => .inl hk, (OnlyP.refl _ w).set (.inl hlp.out) _⟩
theorem rsetPortal_rep (w : World) (h : RRep w L q M X) (hok : M.Ok) (a x : Int) :
    Calls Try.prog 32 #[.pointer (some ⟨q, 0, none⟩), .int .i64 a, .int .i64 x] w (RDid w L q (.int .i64 (M.setPortal a x).1) (M.setPortal a x).2) := by
  have bad : ∀ {e : Int}, M.setPortal a x = (e, M) → Calls Try.prog 32 #[.pointer (some ⟨q, 0, none⟩), .int .i64 a, .int .i64 x] w (Exact w (.int .i64 e)) → Calls Try.prog 32 #[.pointer (some ⟨q, 0, none⟩), .int .i64 a, .int .i64 x] w (RDid w L q (.int .i64 (M.setPortal a x).1) (M.setPortal a x).2) := fun he hc => hc.mono (by
    rintro _ _ ⟨rfl, rfl⟩
    rw [he]
    exact rdid_none h (Drew.refl _))
  cases hb : M.isA a
  · exact bad (by unfold Sc.setPortal; rw [hb]; rfl) (rsetPortal_bad w h hok a x hb)
  by_cases h2 : 2 ≤ a
  rotate_left
  · exact bad (by unfold Sc.setPortal; rw [hb]; simp [h2]) (rsetPortal_low w h hok a x hb (by omega))
  by_cases hx : x = 0
  · cases hu : M.used a
    · exact bad (by unfold Sc.setPortal; rw [hb, hu]; simp [h2, hx]) (rsetPortal_idle0 w h hok a x hb h2 hx hu)
    · rw [show M.setPortal a x = (0, { M with por := upd M.por a.toNat x }) by unfold Sc.setPortal; rw [hb, hu]; simp [h2, hx]]
      exact rsetPortal_ok0 w h hok a x hb h2 hx hu
  cases hn : M.inn x
  · exact bad (by unfold Sc.setPortal; rw [hb, hn]; simp [h2, hx]) (rsetPortal_none w h hok a x hb h2 hx hn)
  cases hu : M.used a
  · exact bad (by unfold Sc.setPortal; rw [hb, hu, hn]; simp [h2]) (rsetPortal_idle w h hok a x hb h2 hx hn hu)
  cases ho : M.outerN 8 (M.ob x).area a
  · exact bad (by unfold Sc.setPortal; rw [hb, hu, hn, ho]; simp [h2, hx]) (rsetPortal_out w h hok a x hb h2 hx hn hu ho)
  · rw [show M.setPortal a x = (0, { M with por := upd M.por a.toNat x }) by unfold Sc.setPortal; rw [hb, hu, hn, ho]; simp [h2]]
    exact rsetPortal_ok w h hok a x hb h2 hx hn hu ho
end
end Go.Proofs.Ytbjmgbbggbbidaa
