/- Contracts of the reference's memories: May, Refs. -/
import Derived.Test.YtbjmgbbggbbidaaRScopeF
import Derived.IntWalk
namespace Go.Proofs.Ytbjmgbbggbbidaa
open Go.RowKit Go.Maps
set_option maxHeartbeats 1600000
set_option maxRecDepth 100000
set_option linter.unusedVariables false
section
variable {w w' : World} {L L' : Nat → Option Rb} {q : Nat} {M : Sc} {X : RX}
theorem rmay_nil (w : World) (a b : Int) : Calls Try.prog 28 #[.pointer none, .int .i64 a, .int .i64 b] w (Exact w (.tuple #[.bool false, .int .i64 1])) := by
  refine calls_abs fun R hR => ?_
  go_enter Try.func28, Try.ntmps28
  go_wp2_with fail
  refine (there_nil _).mono ?_
  rintro e _ ⟨rfl, rfl⟩
  go_wp2_with fail
  exact hR.out _ _ ⟨rfl, rfl⟩
theorem isA_of {M : Sc} {a : Int} (h : 0 ≤ a ∧ a < (M.n : Int) + 2) : M.isA a = true := by unfold Sc.isA isAn; simpa using h
theorem rmay_rep (w : World) (h : RRep w L q M X) (hok : M.Ok) (x y : Int) : Calls Try.prog 28 #[.pointer (some ⟨q, 0, none⟩), .int .i64 x, .int .i64 y] w (TwoB w (M.may x y)) := by
  refine calls_abs fun R hR => ?_
  have ht := there_rep w h
  have hix := rin_rep w h hok x
  have hiy := rin_rep w h hok y
  cases hx : M.inn x
  · have hr : Hid (M.may x y = (false, 3)) := by show _ = _; unfold Sc.may; rw [hx]; rfl
    rw [hx] at hix
    clear h hok hx
    go_enter Try.func28, Try.ntmps28
    go_wp2_with fail
    refine ht.mono ?_
    rintro e _ ⟨rfl, rfl⟩
    go_wp2_with fail
    refine hix.mono ?_
    rintro e _ ⟨rfl, rfl⟩
    go_wp2_with fail
    exact hR.out _ _ ⟨by rw [hr.out] <;> rfl, Drew.refl _⟩
  cases hy : M.inn y
  · have hr : Hid (M.may x y = (false, 3)) := by show _ = _; unfold Sc.may; rw [hx, hy]; rfl
    rw [hx] at hix
    rw [hy] at hiy
    clear h hok hx hy
    go_enter Try.func28, Try.ntmps28
    go_wp2_with fail
    refine ht.mono ?_
    rintro e _ ⟨rfl, rfl⟩
    go_wp2_with fail
    refine hix.mono ?_
    rintro e _ ⟨rfl, rfl⟩
    go_wp2_with fail
    refine hiy.mono ?_
    rintro e _ ⟨rfl, rfl⟩
    go_wp2_with fail
    exact hR.out _ _ ⟨by rw [hr.out] <;> rfl, Drew.refl _⟩
  · have hr : Hid (M.may x y = (M.outerN 8 (M.ob y).area (M.ob x).area, 0)) := by show _ = _; unfold Sc.may; rw [hx, hy]; rfl
    rw [hx] at hix
    rw [hy] at hiy
    have mx := obI_mem hx
    have my := obI_mem hy
    have m2 := h.cells.2.2.1
    obtain ⟨j, g, cap, ej, hj, _, e1, _, o0, _⟩ := h.objX mx.2.2.1 mx.2.2.2
    obtain ⟨k, g2, cap2, ek, hk, _, e2, _, p0, _⟩ := h.objX my.2.2.1 my.2.2.2
    rw [e1] at e2 m2
    simp only [Value.slice.injEq, Option.some.injEq, Addr.mk.injEq] at e2
    obtain ⟨⟨rfl, _⟩, _, rfl⟩ := e2
    have hob := hok.ob
    have hb1 : (0 : Int) ≤ j := by omega
    have hb2 : (j : Int) < (M.obs.length : Nat) := by omega
    have hb3 : (0 : Int) ≤ k := by omega
    have hb4 : (k : Int) < (M.obs.length : Nat) := by omega
    have HO : Hid (∀ n, Calls Try.prog 61 #[.pointer (some ⟨q, 0, none⟩), .int .i64 (M.ob y).area, .int .i64 (M.ob x).area] (w.drewN n) (Exact (w.drewN n) (.bool (M.outerN 8 (M.ob y).area (M.ob x).area)))) := fun n => router_rep _ (h.drewN n) hok _ _ (isA_of (hok.areaA hx))
    have hx1 := mx.2.2
    have hy1 := my.2.2
    generalize M.outerN 8 (M.ob y).area (M.ob x).area = v at *
    generalize (M.ob y).area = ay at *
    generalize (M.ob x).area = ax at *
    generalize M.obs.length = len at *
    clear h hok hx hy mx my e1
    go_enter Try.func28, Try.ntmps28
    go_wp2_with fail
    refine ht.mono ?_
    rintro e _ ⟨rfl, rfl⟩
    go_wp2_with fail
    refine hix.mono ?_
    rintro e _ ⟨rfl, rfl⟩
    go_wp2_with fail
    refine hiy.mono ?_
    rintro e _ ⟨rfl, rfl⟩
    go_wp2_with fail
    have w1 : IntKind.i64.wrap (j : Int) = (j : Int) := IntWalk.i64_in _ (by omega)
    have w2 : IntKind.i64.wrap (k : Int) = (k : Int) := IntWalk.i64_in _ (by omega)
    have hq := HO.out
    go_quiet (first | (go_at_call 61; with_reducible exact quiet_exact (hq _)))
    clear w1 w2 hq
    go_wp2_with fail
    exact hR.out _ _ ⟨by rw [hr.out] <;> rfl, Drew.of _ _⟩
theorem rrefs_nil (w : World) (x : Int) : Calls Try.prog 30 #[.pointer none, .int .i64 x] w (TwoL w ([], 1)) := by
  refine calls_abs fun R hR => ?_
  go_enter Try.func30, Try.ntmps30
  go_wp2_with fail
  refine (rarea_nil _ _).mono ?_
  rintro e _ ⟨rfl, rfl⟩
  go_wp2_with fail
  exact hR.out _ _ ⟨_, rfl, Ints.nil _ _, Only.refl _ _⟩
theorem filter_snoc {l : List Int} {p : Int → Bool} {i : Nat} (hi : i < l.length) : (l.take (i + 1)).filter p = (l.take i).filter p ++ if p (gI l i) then [gI l i] else [] := take_filter_succ hi
theorem rrefs_rep (w : World) (h : RRep w L q M X) (hok : M.Ok) (x : Int) : Calls Try.prog 30 #[.pointer (some ⟨q, 0, none⟩), .int .i64 x] w (TwoL w (M.refs x)) := by
  refine calls_abs fun R hR => ?_
  have ha := rarea_rep w h hok x
  cases hx : M.inn x
  · have hr : Hid (M.refs x = ([], 3)) := by show _ = _; unfold Sc.refs; rw [hx]; rfl
    have hav : M.area x = (0, 3) := by unfold Sc.area; rw [hx]; rfl
    rw [hav] at ha
    clear h hok hx hav
    go_enter Try.func30, Try.ntmps30
    go_wp2_with fail
    refine ha.mono ?_
    rintro e _ ⟨rfl, m, rfl⟩
    go_wp2_with fail
    exact hR.out _ _ ⟨_, by rw [hr.out] <;> rfl, by rw [hr.out]; exact Ints.nil _ _, (Only.refl _ _).drewN _⟩
  · have hr : Hid (M.refs x = ((M.ob x).refs.filter M.inn, 0)) := by show _ = _; unfold Sc.refs; rw [hx]; rfl
    have hav : M.area x = ((M.ob x).area, 0) := by unfold Sc.area; rw [hx]; rfl
    rw [hav] at ha
    have mx := obI_mem hx
    have H := Lib.hid h
    have HOK := Lib.hid hok
    have hob := hok.ob
    obtain ⟨j, g, cap, ej, hj, _, e1, hlg, _, _, o2, _, _, hget⟩ := h.objX mx.2.2.1 mx.2.2.2
    have m2 := h.cells.2.2.1
    rw [e1] at m2
    obtain ⟨hI, hIL⟩ := h.ob.2 j _ hget
    have hrl : (M.ob x).refs.length ≤ 500 := by
      have := hok.oa _ mx.1
      exact Nat.le_trans (nodup_le this.2.2.2.2.1 this.2.2.2.2.2) hok.ob
    obtain ⟨va, vc, hv⟩ := hI.len
    have hrd := hI.read
    rw [hv] at o2 hrd
    have HRD := Lib.hid hrd
    have hb1 : (0 : Int) ≤ j := by omega
    have hb2 : (j : Int) < (M.obs.length : Nat) := by omega
    have hx1 := mx.2.2
    obtain ⟨rl, hrln⟩ : ∃ r, r = (M.ob x).refs := ⟨_, rfl⟩
    have hsz : ∀ i, i < rl.length → True := fun _ _ => trivial
    rw [← hrln] at hr hrl HRD o2
    obtain ⟨n, hn⟩ : ∃ n, n = rl.length := ⟨_, rfl⟩
    rw [← hn] at hrl HRD o2
    have HN := Lib.hid hn
    obtain ⟨len, hlen⟩ : ∃ z, z = M.obs.length := ⟨_, rfl⟩
    rw [← hlen] at m2 hb2 hx1 hob
    generalize (M.ob x).area = ar at *
    clear h hok hx hav mx e1 hget hI hIL hv hrd hrln hn hlen hsz
    go_enter Try.func30, Try.ntmps30
    go_wp2_with fail
    refine ha.mono ?_
    rintro e _ ⟨rfl, m, rfl⟩
    go_wp2_with fail
    have HO0 : Hid (Only [] w (w.drewN m)) := (Only.refl _ w).drewN m
    have HM2'' := Lib.hid m2
    have HO2'' := Lib.hid o2
    generalize w.drewN m = w0 at *
    clear m2 o2
    go_loopw [8, 9] (fun lv iv wr => ∃ i : Nat, i ≤ n ∧ iv = .int .i64 i ∧ Ints wr w.heap.size lv ((rl.take i).filter M.inn) ∧ Only [] w wr) (fun _ iv _ => n - (intOf iv).toNat)
    case atStart => exact ⟨0, by omega, rfl, Ints.nil _ _, HO0.out⟩
    case round =>
      obtain ⟨i, hi, rfl, hlv, ho⟩ := hrel
      have HLV := Lib.hid hlv
      have HO := Lib.hid ho
      have m2 : wr.cell? ⟨q, 2, none⟩ = some (.slice (some ⟨g, 0, none⟩) len cap) := ho.cell HM2''.out (by simp)
      have o2 : wr.cell? ⟨g, j * 4 + 2, none⟩ = some (.slice va n vc) := ho.cell HO2''.out (by simp)
      by_cases hlt : i < n
      · have hlt' : i < rl.length := by have := HN.out; omega
        rcases HRD.out with ⟨b, o, d, f1, g1⟩ | ⟨oa, d, f1, g1⟩
        rotate_left
        · rw [g1] at hlt'; simp at hlt'
        have e1 : va = some ⟨b, o, none⟩ := by cases f1; rfl
        subst e1
        have hci := ho.cell (g1 i hlt') (by simp)
        have hin := rin_rep wr (H.out.only0 ho) HOK.out (gI rl i)
        have hfs : Hid ((rl.take (i + 1)).filter M.inn = (rl.take i).filter M.inn ++ if M.inn (gI rl i) then [gI rl i] else []) := filter_snoc hlt'
        obtain ⟨y, hy⟩ : ∃ y, y = gI rl i := ⟨_, rfl⟩
        rw [← hy] at hci hin hfs
        have hyb := World.block_lt_of_cell? wr _ hci
        have hsz := ho.size
        have hgb := World.block_lt_of_cell? wr _ o2
        have hqb := World.block_lt_of_cell? wr _ m2
        clear hlv ho hy f1 g1
        cases hiy : M.inn y
        · rw [hiy] at hin
          have he : Hid ((rl.take (i + 1)).filter M.inn = (rl.take i).filter M.inn) := by show _ = _; rw [hfs.out, hiy]; simp
          clear hiy hfs
          go_wp2_with fail
          refine hin.mono ?_
          rintro e _ ⟨rfl, rfl⟩
          go_wp2_with fail
          exact ⟨⟨i + 1, by omega, by go_num, by rw [he.out]; exact HLV.out, HO.out⟩, by simp [intOf]; omega⟩
        · rw [hiy] at hin
          have he : Hid ((rl.take (i + 1)).filter M.inn = (rl.take i).filter M.inn ++ [y]) := by show _ = _; rw [hfs.out, hiy]; simp
          clear hiy hfs
          have hfl : ((rl.take i).filter M.inn).length ≤ 500 := Nat.le_trans (List.length_filter_le _ _) (by rw [List.length_take]; omega)
          have HFL := Lib.hid hfl
          clear hfl
          go_wp2_with fail
          refine hin.mono ?_
          rintro e _ ⟨rfl, rfl⟩
          clear hin
          go_wp2_with (at_builtin; refine append_int1 rfl _ _ rfl w.heap.size _ _ rfl (HLV.out.alloc (.cells #[.int .i64 y] 3)) wr.heap.size y rfl ?c1 ?c2 ?c3 ?c4)
          case c1 => exact (Row.new wr _ [_]).cell 0 rfl
          case c2 => have := HFL.out; omega
          case c3 => simp; omega
          case c4 =>
            intro v' w2 hi2 ho2 hb2
            have hO : Only [] w w2 := (HO.out.alloc _).trans ho2 (fun z hz => .inr (by
              have := HLV.out.own
              cases e : u8.ownBlock with
              | none => rw [e] at hz; simp at hz
              | some c => rw [e] at hz; simp at hz; subst hz; exact (this _ e).1))
            have HI2 := Lib.hid hi2
            have HO2 := Lib.hid hO
            clear hi2 ho2 hb2 hO
            go_wp2_with fail
            exact ⟨⟨i + 1, by omega, by go_num, by rw [he.out]; exact HI2.out, HO2.out⟩, by simp [intOf]; omega⟩
      · obtain rfl : i = n := by omega
        have he : Hid ((rl.take i).filter M.inn = rl.filter M.inn) := by show _ = _; rw [HN.out, List.take_length]
        clear hlv ho
        go_wp2_with fail
        exact hR.out _ _ ⟨_, by rw [hr.out] <;> rfl, by rw [hr.out, ← he.out]; exact HLV.out, HO.out⟩
end
end Go.Proofs.Ytbjmgbbggbbidaa
