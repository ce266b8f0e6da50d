/- Lemmas of this claim. -/
import Derived.Test.YthflghdaejbdkaaKRObjM
namespace Go.Proofs.Ythflghdaejbdkaa
open Go.RowKit Go.Maps
set_option maxHeartbeats 6400000
set_option maxRecDepth 100000
set_option linter.unusedVariables false
section
variable {L : Nat → Option Gb} {hb : Nat} {M : Hp} {X : GX}
theorem gset_nil (w : World) (x s y : Int) : Calls Try.prog 23 #[.pointer none, .int .i64 x, .int .i64 s, .int .i64 y] w (Exact w (.int .i64 1)) := by
  refine calls_abs fun R hR => ?_
  have h1 := gslot_nil w x s
  go_enter Try.func23, Try.ntmps23
  go_wp2_with fail
  refine h1.mono ?_
  rintro e _ ⟨rfl, rfl⟩
  go_wp2_with fail
  exact hR.out _ _ ⟨rfl, rfl⟩
theorem gset_lay (w : World) (h : GRep w L hb M X) (hk : M.Ok) {i : Nat} (hi : i < 193) {o : Th} (ho : M.ob (i : Int) = some o) {s : Nat} (hs : s < o.slots.length) {y : Int} (hf : M.fits (gB o.refs s) y = true) {g n cap : Nat} (hv : X.sv i = .slice (some ⟨g, 0, none⟩) n cap) :
    Calls Try.prog 48 #[.pointer (some ⟨hb, 0, none⟩), .int .i64 i] (w.setCell ⟨g, s, none⟩ (.int .i64 y)) (fun e w' => e = .returned (.tuple #[]) ∧
      ∀ r, GDid w L hb r ⟨(M.P.setCell (o.addr s) y).2, setT M.ob i (some (o.put s y))⟩ (.returned r) w') := by
  have hk2 := hk.put ho hs hf
  have ho2 : setT M.ob (i : Int) (some (o.put s y)) (i : Int) = some (o.put s y) := setT_same _ _ _
  have hg := GRep.setSlot (P := M.P) (ob := M.ob) h ho hv s y
  have hLg : L g = some (.sl i) := (h.th i o ho).Ls g (by rw [hv]; rfl)
  refine (glay_any _ hg hk.p hi ho2 (hk2.layOk ho2)).mono ?_
  rintro e w' ⟨rfl, hg2, ho9⟩
  rw [hk.lay_set ho hs hf] at hg2
  exact ⟨rfl, fun r => ⟨rfl, L, X, hg2, fun k hk => .inl hk, ((OnlyP.refl _ w).set (p := ⟨g, s, none⟩) (.inl (by rw [hLg]; simp)) _).trans ho9 (fun x hx => .inl (fun e => by rw [e] at hx; rcases hx with h | h | h | h <;> cases h))⟩⟩
theorem gset_rep (w : World) (h : GRep w L hb M X) (hk : M.Ok) (x s y : Int) : Calls Try.prog 23 #[.pointer (some ⟨hb, 0, none⟩), .int .i64 x, .int .i64 s, .int .i64 y] w (GDid w L hb (.int .i64 (M.set x s y).1) (M.set x s y).2) := by
  refine calls_abs fun R hR => ?_
  have HD : Hid (∀ r, GDid w L hb r M (.returned r) w) := fun r => GDid.none0 h (Only.refl _ _)
  cases ho : M.ob x with
  | none =>
    have hr : M.set x s y = (3, M) := by unfold Hp.set; rw [ho]
    rw [hr] at hR
    have h1 := gslot_none w h hk x s ho
    clear h hk ho hr
    go_enter Try.func23, Try.ntmps23
    go_wp2_with fail
    refine h1.mono ?_
    rintro e _ ⟨rfl, rfl⟩
    go_wp2_with fail
    exact hR.out _ _ (HD.out _)
  | some o =>
    by_cases hbad : s < 0 ∨ (o.slots.length : Int) ≤ s
    · have hr : M.set x s y = (1, M) := by unfold Hp.set; rw [ho]; exact if_pos hbad
      rw [hr] at hR
      have h1 := gslot_bad w h hk x s ho hbad
      clear h hk ho hr hbad
      go_enter Try.func23, Try.ntmps23
      go_wp2_with fail
      refine h1.mono ?_
      rintro e _ ⟨rfl, rfl⟩
      go_wp2_with fail
      exact hR.out _ _ (HD.out _)
    · have h1 := gslot_ok w h hk x s ho hbad
      obtain ⟨m, rfl⟩ : ∃ m : Nat, s = m := ⟨s.toNat, by omega⟩
      have hm : m < o.slots.length := by omega
      have hr : M.set x m y = if M.fits (gB o.refs m) y then (0, ⟨(M.P.setCell (o.addr m) y).2, setT M.ob x (some (o.put m y))⟩) else (1, M) := by
        unfold Hp.set
        rw [ho]
        show (if _ then _ else _) = _
        rw [if_neg hbad, Int.toNat_natCast]
      rw [hr] at hR
      obtain ⟨i, rfl, hi, x0, x1⟩ := hk.idx ho
      have c0 := h.cells.1
      obtain ⟨_, _, c2, c3, _⟩ := h.objSome hi ho
      have th := h.th (i : Int) o ho
      have hrl := (hk.th (i : Int) o ho).rl
      obtain ⟨rg, rc, re, hrc⟩ := th.rb.cellsOf (by omega)
      obtain ⟨sg, sc, se, hsc⟩ : ∃ g cap, X.sv i = .slice (some ⟨g, 0, none⟩) o.slots.length cap ∧ ∀ j, j < o.slots.length → w.cell? ⟨g, j, none⟩ = some (.int .i64 (gI o.slots j)) := by
        rcases th.sl.form with ⟨_, e⟩ | ⟨g, cap, e, _, _, _, hc⟩
        · rw [e] at hm; simp at hm
        · exact ⟨g, cap, e, hc⟩
      have hsfz : w.frozen? ⟨sg, m, none⟩ = false := by
        have := th.sl
        rw [se] at this
        obtain ⟨_, _, cs, hrow, _⟩ := this.row
        exact hrow.free m
      rw [re] at c2
      rw [se] at c3
      have cr := hrc m (by omega)
      have cs := hsc m hm
      have hn := fun (wx : World) => Lib.run_eql_slice_nil (P := Try.prog) wx 63 4 (some ⟨rg, 0, none⟩) o.refs.length rc 0 0 Try.underlying63
      have hin := gin_rep w h hk y
      have HLAY : Hid (M.fits (gB o.refs m) y = true → Calls Try.prog 48 #[.pointer (some ⟨hb, 0, none⟩), .int .i64 i] (w.setCell ⟨sg, m, none⟩ (.int .i64 y)) (fun e w' => e = .returned (.tuple #[]) ∧
          ∀ r, GDid w L hb r ⟨(M.P.setCell (o.addr m) y).2, setT M.ob i (some (o.put m y))⟩ (.returned r) w')) := fun hf => gset_lay w h hk hi ho hm hf se
      have hm0 : (0 : Int) ≤ (m : Int) := by omega
      have hmn : (m : Int) < (o.slots.length : Int) := by omega
      have hmr : (m : Int) < (o.refs.length : Int) := by omega
      obtain ⟨ri, hri⟩ : ∃ z, z = gB o.refs m := ⟨_, rfl⟩
      rw [← hri] at cr HLAY hR
      obtain ⟨og, hog⟩ : ∃ z, z = X.og := ⟨_, rfl⟩
      rw [← hog] at c0 c2 c3
      obtain ⟨rn, hrn⟩ : ∃ z, z = o.refs.length := ⟨_, rfl⟩
      obtain ⟨sn, hsn⟩ : ∃ z, z = o.slots.length := ⟨_, rfl⟩
      rw [← hrn] at c2 hmr hn
      rw [← hsn] at c3 hmn
      clear h hk ho hr hbad re se hrc hsc th hri hog hrn hsn hi hrl hm
      cases ri with
      | false =>
        have hfit : M.fits false y = isWordI y := rfl
        rw [hfit] at hR HLAY
        by_cases w1 : y < -2147483648
        · have HW : Hid (isWordI y = false) := by show _ = _; unfold isWordI; simp; omega
          clear hfit hin HLAY
          go_enter Try.func23, Try.ntmps23
          go_wp2_with fail
          refine h1.mono ?_
          rintro e _ ⟨rfl, rfl⟩
          go_wp2_with fail
          refine hR.out _ _ ?_
          rw [HW.out]
          exact HD.out _
        · by_cases w2 : 2147483647 < y
          · have HW : Hid (isWordI y = false) := by show _ = _; unfold isWordI; simp; omega
            clear hfit hin HLAY
            go_enter Try.func23, Try.ntmps23
            go_wp2_with fail
            refine h1.mono ?_
            rintro e _ ⟨rfl, rfl⟩
            go_wp2_with fail
            refine hR.out _ _ ?_
            rw [HW.out]
            exact HD.out _
          · have HW : Hid (isWordI y = true) := by show _ = _; unfold isWordI; simp; omega
            have HL := Lib.hid (HLAY.out HW.out)
            clear hfit hin HLAY
            go_enter Try.func23, Try.ntmps23
            go_wp2_with fail
            refine h1.mono ?_
            rintro e _ ⟨rfl, rfl⟩
            go_wp2_with fail
            refine HL.out.mono ?_
            rintro e w9 ⟨rfl, hd⟩
            have HDD := Lib.hid hd
            clear hd
            go_wp2_with fail
            refine hR.out _ _ ?_
            rw [HW.out]
            exact HDD.out _
      | true =>
        have hfit : M.fits true y = (decide (y = 0) || (M.ob y).isSome) := rfl
        rw [hfit] at hR HLAY
        by_cases y0 : y = 0
        · subst y0
          have HW : Hid ((decide ((0 : Int) = 0) || (M.ob 0).isSome) = true) := by show _ = _; simp
          have HL := Lib.hid (HLAY.out HW.out)
          clear hfit hin HLAY
          go_enter Try.func23, Try.ntmps23
          go_wp2_with fail
          refine h1.mono ?_
          rintro e _ ⟨rfl, rfl⟩
          go_wp2_with fail
          refine HL.out.mono ?_
          rintro e w9 ⟨rfl, hd⟩
          have HDD := Lib.hid hd
          clear hd
          go_wp2_with fail
          refine hR.out _ _ ?_
          rw [HW.out]
          exact HDD.out _
        · cases hsome : (M.ob y).isSome with
          | true =>
            rw [hsome] at hin
            have HW : Hid ((decide (y = 0) || (M.ob y).isSome) = true) := by show _ = _; rw [hsome]; simp
            have HL := Lib.hid (HLAY.out HW.out)
            clear hfit HLAY hsome
            go_enter Try.func23, Try.ntmps23
            go_wp2_with fail
            refine h1.mono ?_
            rintro e _ ⟨rfl, rfl⟩
            go_wp2_with fail
            refine hin.mono ?_
            rintro e _ ⟨rfl, rfl⟩
            go_wp2_with fail
            refine HL.out.mono ?_
            rintro e w9 ⟨rfl, hd⟩
            have HDD := Lib.hid hd
            clear hd
            go_wp2_with fail
            refine hR.out _ _ ?_
            rw [HW.out]
            exact HDD.out _
          | false =>
            rw [hsome] at hin
            have HW : Hid ((decide (y = 0) || (M.ob y).isSome) = false) := by show _ = _; rw [hsome]; simp [y0]
            clear hfit HLAY hsome
            go_enter Try.func23, Try.ntmps23
            go_wp2_with fail
            refine h1.mono ?_
            rintro e _ ⟨rfl, rfl⟩
            go_wp2_with fail
            refine hin.mono ?_
            rintro e _ ⟨rfl, rfl⟩
            go_wp2_with fail
            refine hR.out _ _ ?_
            rw [HW.out]
            exact HD.out _
end
end Go.Proofs.Ythflghdaejbdkaa
