/- Contracts of the reference's memories: Stack, Room, In, Area, outer, Outer, May, Portal. -/
import Derived.Test.YtbjmgbbggbbidaaRScopeC
namespace Go.Proofs.Ytbjmgbbggbbidaa
open Go.RowKit Go.Maps
set_option maxHeartbeats 1600000
set_option maxRecDepth 100000
set_option linter.unusedVariables false
section
variable {w w' : World} {L L' : Nat → Option Rb} {q : Nat} {M : Sc} {X : RX}
theorem rstack_nil (w : World) (a : Int) : Calls Try.prog 19 #[.pointer none, .int .i64 a] w (TwoL w ([], 1)) := by
  refine calls_abs fun R hR => ?_
  go_enter Try.func19, Try.ntmps19
  go_wp2_with fail
  refine (risThread_nil _ _).mono ?_
  rintro e _ ⟨rfl, rfl⟩
  go_wp2_with fail
  exact hR.out _ _ ⟨_, rfl, Ints.nil _ _, Only.refl _ _⟩
theorem rstack_rep (w : World) (h : RRep w L q M X) (hok : M.Ok) (t : Int) : Calls Try.prog 19 #[.pointer (some ⟨q, 0, none⟩), .int .i64 t] w (TwoL w (M.stack t)) := by
  refine calls_abs fun R hR => ?_
  have hA := risThread_rep w h t
  cases hT : isT t
  · have hr : Hid (M.stack t = ([], 1)) := by show _ = _; unfold Sc.stack; rw [hT]; rfl
    rw [hT] at hA
    clear hT hok
    go_enter Try.func19, Try.ntmps19
    go_wp2_with fail
    refine hA.mono ?_
    rintro e _ ⟨rfl, rfl⟩
    go_wp2_with fail
    exact hR.out _ _ ⟨_, by rw [hr.out] <;> rfl, by rw [hr.out]; exact Ints.nil _ _, Only.refl _ _⟩
  · obtain ⟨n, rfl, hn⟩ := isT_nat hT
    have hr : Hid (M.stack n = (M.stk n, 0)) := by show _ = _; unfold Sc.stack; rw [hT]; rfl
    rw [hT] at hA
    have m1 := h.cells.2.1
    obtain ⟨g, cap, _, k1, _, _, k2⟩ := h.stk hok.toS hn
    have hl := (hok.s1 n hn).2
    have b1 : (0 : Int) ≤ n := by omega
    have b2 : (n : Int) < 5 := by omega
    have HK := Lib.hid k2
    obtain ⟨len, hlen⟩ : ∃ z, z = (M.stk n).length := ⟨_, rfl⟩
    rw [← hlen] at k1 hl
    have HLEN := Lib.hid hlen
    have hq2 := World.block_lt_of_cell? w _ m1
    have hs2 := World.block_lt_of_cell? w _ k1
    clear hT hok k2 hlen
    go_enter Try.func19, Try.ntmps19
    go_wp2_with fail
    refine hA.mono ?_
    rintro e _ ⟨rfl, rfl⟩
    go_wp2_with (at_builtin; refine append_ints rfl _ _ rfl w.heap.size _ _ rfl (Ints.made w) ⟨g, 0, none⟩ len cap (M.stk n) rfl ?_ ?_ ?_ ?_ ?_)
    · exact HLEN.out.symm
    · intro j u hu
      have hj : j < (M.stk n).length := (List.getElem?_eq_some_iff.1 hu).1
      have h1 := HK.out j hj
      rw [show (⟨g, 0, none⟩ : Addr).add j = ⟨g, j, none⟩ by unfold Addr.add; split <;> simp_all]
      rw [World.cell?_alloc_past _ _ _ (World.block_lt_of_cell? w _ h1), h1, gI, hu]
      rfl
    · simp; omega
    · simp
    · intro v w1 hv ho hn hblk
      have HV : Hid (Ints w1 w.heap.size v (M.stk n)) := hv
      have HO := Lib.hid ho
      clear hv ho hn hblk
      go_wp2_with fail
      exact hR.out _ _ ⟨v, by rw [hr.out] <;> rfl, by rw [hr.out]; exact HV.out, ((Only.refl _ _).alloc _).trans HO.out (fun x hx => .inr (by simp [Value.ownBlock] at hx; omega))⟩
theorem sumB_snoc {l : List Ob} {k : Nat} (hk : k < l.length) (a : Int) : sumB a (l.take (k + 1)) = sumB a (l.take k) + if l[k].area = a ∧ l[k].gone = false then l[k].blocks else 0 := by
  rw [List.take_succ_eq_append_getElem hk, sumB_append]
  simp [sumB]
theorem rroom_nil (w : World) (a : Int) : Calls Try.prog 68 #[.pointer none, .int .i64 a] w (Exact w (.tuple #[.int .i64 0, .int .i64 1])) := by
  refine calls_abs fun R hR => ?_
  go_enter Try.func68, Try.ntmps68
  go_wp2_with fail
  refine (risArea_nil _ _).mono ?_
  rintro e _ ⟨rfl, rfl⟩
  go_wp2_with fail
  exact hR.out _ _ ⟨rfl, rfl⟩
theorem rroom_rep (w : World) (h : RRep w L q M X) (hok : M.Ok) (a : Int) : Calls Try.prog 68 #[.pointer (some ⟨q, 0, none⟩), .int .i64 a] w (Exact w (.tuple #[.int .i64 (M.room a).1, .int .i64 (M.room a).2])) := by
  refine calls_abs fun R hR => ?_
  have hA := risArea_rep w h hok.toS a
  cases hT : M.isA a
  · have hr : Hid (M.room a = (0, 1)) := by show _ = _; unfold Sc.room; rw [hT]; rfl
    rw [hT] at hA
    clear hT hok
    go_enter Try.func68, Try.ntmps68
    go_wp2_with fail
    refine hA.mono ?_
    rintro e _ ⟨rfl, rfl⟩
    go_wp2_with fail
    exact hR.out _ _ ⟨by rw [hr.out] <;> rfl, rfl⟩
  · have hr : Hid (M.room a = (M.roomN a, 0)) := by show _ = _; unfold Sc.room; rw [hT]; rfl
    rw [hT] at hA
    have han := isA_lt hT
    by_cases h2 : a < 2
    · have hu : Hid (M.roomN a = 1000) := by show _ = _; unfold Sc.roomN; rw [if_pos h2]
      clear hT hok
      go_enter Try.func68, Try.ntmps68
      go_wp2_with fail
      refine hA.mono ?_
      rintro e _ ⟨rfl, rfl⟩
      go_wp2_with fail
      exact hR.out _ _ ⟨by rw [hr.out, hu.out] <;> rfl, rfl⟩
    · obtain ⟨j, hj⟩ : ∃ j : Nat, a - 2 = j := ⟨(a - 2).toNat, by omega⟩
      have hjn : j < M.n := by omega
      have hu : Hid (M.roomN a = gI M.sizes j - sumB a M.obs) := by show _ = _; unfold Sc.roomN; rw [if_neg h2, show a.toNat - 2 = j by omega]
      have m0 := h.cells.1
      have m2 := h.cells.2.2.1
      have hsz := hok.sz (gI M.sizes j) (mem_gI.2 ⟨j, hjn, rfl⟩)
      rcases h.sz.form with ⟨_, e2⟩ | ⟨g, cap, e1, _, _, _, hc⟩
      · rw [show M.n = 0 by unfold Sc.n; rw [e2]; rfl] at hjn; omega
      have e1' : X.szv = .slice (some ⟨g, 0, none⟩) M.n cap := e1
      rw [e1'] at m0
      have cj := hc j hjn
      obtain ⟨z, hz⟩ : ∃ z, z = gI M.sizes j := ⟨_, rfl⟩
      rw [← hz] at cj hu hsz
      have hn6 : M.n ≤ 6 := hok.n6
      obtain ⟨va, vc, hv⟩ := h.ob.len
      rw [hv] at m2
      have hob := hok.ob
      have HH := Lib.hid h
      have HV := Lib.hid hv
      have HBL : Hid (∀ k, k < M.obs.length → 1 ≤ (obI M.obs (k + 1)).blocks ∧ (obI M.obs (k + 1)).blocks ≤ 8) := fun k hk => by
        have hm : obI M.obs ((k : Int) + 1) ∈ M.obs := by unfold obI; rw [show ((k : Int) + 1).toNat - 1 = k by omega, List.getElem?_eq_getElem hk]; exact List.getElem_mem hk
        have := hok.oa _ hm
        exact ⟨this.2.2.1, this.2.2.2.1⟩
      have hrm := hok.rm a (by omega) han.2
      rw [hu.out] at hrm
      have HSB : Hid (∀ k, k ≤ M.obs.length → 0 ≤ sumB a (M.obs.take k) ∧ sumB a (M.obs.take k) ≤ 4000) := fun k hk => by
        have hk' : ∀ k, k ≤ M.obs.length → 0 ≤ sumB a (M.obs.take k) ∧ sumB a (M.obs.take k) ≤ 8 * k := by
          intro k
          induction k with
          | zero => intro _; simp [sumB]
          | succ k ih =>
            intro hk
            rw [sumB_snoc (by omega)]
            have h1 := ih (by omega)
            have h2 := hok.oa _ (List.getElem_mem (show k < M.obs.length by omega))
            split <;> omega
        have := hk' k hk
        omega
      have hjb : (0 : Int) ≤ j := by omega
      have hjb2 : (j : Int) < M.n := by omega
      clear hT hok e1 e1' hc hz hv h han hrm
      obtain ⟨len, hlen⟩ : ∃ z, z = M.obs.length := ⟨_, rfl⟩
      rw [← hlen] at m2 hob
      have HLEN := Lib.hid hlen
      clear hlen
      generalize M.n = mn at *
      go_enter Try.func68, Try.ntmps68
      go_wp2_with fail
      refine hA.mono ?_
      rintro e _ ⟨rfl, rfl⟩
      go_wp2_with fail
      go_loop [6, 7] (fun nv iv => ∃ k : Nat, k ≤ len ∧ iv = .int .i64 k ∧ ∃ s : Int, 0 ≤ s ∧ s ≤ 4000 ∧ nv = .int .i64 (z - s) ∧ Hid (s = sumB a (M.obs.take k))) (fun _ iv => len - (intOf iv).toNat)
      case atStart => exact ⟨0, by omega, rfl, 0, by omega, by omega, by simp, by show 0 = _; simp [sumB]⟩
      case round =>
        obtain ⟨k, hk, rfl, s, hs0, hs4, rfl, hs⟩ := hrel
        by_cases hlt : k < len
        · have hlt' : k < M.obs.length := by have := HLEN.out; omega
          obtain ⟨g2, cap2, e2, _, o0, o1, o2, o3, _⟩ := HH.out.obj hlt'
          rw [HV.out, ← HLEN.out] at e2
          simp only [Value.slice.injEq] at e2
          obtain ⟨rfl, _, rfl⟩ := e2
          have hstep : Hid (sumB a (M.obs.take (k + 1)) = s + if M.obs[k].area = a ∧ M.obs[k].gone = false then M.obs[k].blocks else 0) := by show _ = _; rw [sumB_snoc hlt', ← hs.out]
          have hbd := HSB.out (k + 1) (by omega)
          rw [hstep.out] at hbd
          have hbl := HBL.out k hlt'
          have e3 : obI M.obs ((k : Int) + 1) = M.obs[k] := by unfold obI; rw [show ((k : Int) + 1).toNat - 1 = k by omega, List.getElem?_eq_getElem hlt']; rfl
          rw [e3] at hbl
          clear e3
          generalize M.obs[k].area = ar at *
          generalize M.obs[k].blocks = bl at *
          generalize M.obs[k].gone = gn at *
          cases he : (ar == a)
          · have hne : Hid (ar ≠ a) := by intro e; simp [e] at he
            clear hbd
            go_wp2_with fail
            go_round
            case rel => exact ⟨k + 1, by omega, by go_num, s, hs0, hs4, rfl, by show s = _; rw [hstep.out, if_neg (fun x => hne.out x.1)]; omega⟩
            case measure => simp [intOf]; omega
          · have hne : Hid (ar = a) := by show _ = _; simpa using he
            cases gn
            · rw [if_pos ⟨hne.out, rfl⟩] at hbd
              go_wp2_with fail
              go_round
              case rel => exact ⟨k + 1, by omega, by go_num, s + bl, hbd.1, hbd.2, by congr 1; omega, by show s + bl = _; rw [hstep.out, if_pos ⟨hne.out, rfl⟩]⟩
              case measure => simp [intOf]; omega
            · clear hbd
              go_wp2_with fail
              go_round
              case rel => exact ⟨k + 1, by omega, by go_num, s, hs0, hs4, rfl, by show s = _; rw [hstep.out, if_neg (fun x => by cases x.2)]; omega⟩
              case measure => simp [intOf]; omega
        · obtain rfl : k = len := by omega
          have he : Hid (s = sumB a M.obs) := by show _ = _; rw [hs.out, HLEN.out, List.take_length]
          go_wp2_with fail
          exact hR.out _ _ ⟨by rw [hr.out, hu.out, he.out] <;> rfl, rfl⟩
end
end Go.Proofs.Ytbjmgbbggbbidaa
