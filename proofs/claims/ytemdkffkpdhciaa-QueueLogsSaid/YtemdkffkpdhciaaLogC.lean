/- Contracts of the reference's log; New of both; the two side by side. -/
import Derived.Test.YtemdkffkpdhciaaLogB
namespace Go.Proofs.Ytemdkffkpdhciaa
open Go.RowKit
set_option maxHeartbeats 400000
set_option maxRecDepth 100000
set_option linter.unusedVariables false

theorem refLogAdd_rep (w : World) (p : Nat) (F : List Nat) (s : RLog) (h : ORep w 83 p F s.row s.words) (hk : s.ok) (hb : s.words.length < 549755813888) (n : Int) :
    Calls Try.prog 32 #[.pointer (some ⟨p, 0, none⟩), .int .i64 n] w fun e w' => ∃ F', e = .returned (.int .i64 (s.add n).1) ∧ ORep w' 83 p F' (s.add n).2.row (s.add n).2.words ∧ Only F w w' ∧ Within w F F' := by
  refine calls_abs fun R hR => ?_
  have hgl := hk.gl
  have hs16 := hk.s16
  have HF := Lib.hid (Within.refl w F)
  go_enter Try.func32, Try.ntmps32
  go_wp2_with fail
  refine (refWord_any _ _).mono ?_
  rintro e _ ⟨rfl, rfl⟩
  cases hw : isWordB n
  · go_wp2_with fail
    refine hR.out _ _ ⟨F, ?_⟩
    rw [RLog.add_bad hw]
    exact ⟨rfl, h, Only.refl _ _, HF.out⟩
  · obtain ⟨v, hp, hv, hne, rfl⟩ := h.ex
    have h3 := hp.cell 3 rfl
    have hf := hp.free
    have hlt := hp.lt
    have HNE := Lib.hid hne
    clear hne
    go_wp2_with (at_builtin; refine append_int1 rfl _ _ rfl 0 _ _ rfl (hv.alloc _) w.heap.size n rfl ?c1 ?c2 ?c3 ?c4)
    case c1 => exact (Row.new w _ [_]).cell 0 rfl
    case c2 => omega
    case c3 => omega
    case c4 =>
      intro v' w1 hv1 ho1 hb1
      have HB : Hid (v'.ownBlock = v.ownBlock ∨ ∀ k, v'.ownBlock = some k → w.heap.size ≤ k) := by
        rcases hb1 with hb | hb
        · exact .inl hb
        · refine .inr (fun k hk => ?_)
          rw [hb] at hk
          cases hk
          simp
      have hr := ho1.row (hp.alloc _) (by simpa using HNE.out)
      obtain ⟨a', cap', hform⟩ := hv1.len
      rw [List.length_append, List.length_singleton] at hform
      have hf' := hr.free
      have hr0 := hr.cell 0 rfl
      have hr1 := hr.cell 1 rfl
      have hr3 := hr.cell 3 rfl
      have HO : Hid (Only (p :: v.ownBlock.toList) w w1) := ((Only.refl _ _).alloc _).trans ho1 (fun x hx => .inl (List.mem_cons_of_mem _ hx))
      have HV := Lib.hid hv1
      clear hb1 ho1 hv1 h3 hf hv
      subst hform
      obtain ⟨g1, g2, g3⟩ := ORep.put (w := w) 3 (RLog.row { s with words := s.words ++ [n] }) v.ownBlock HO.out hr HV.out HB.out HNE.out hlt rfl
      have G := Lib.hid (And.intro g1 (And.intro g2 g3))
      clear g1 g2 g3
      by_cases hfull : s.words.length + 1 - s.gone > s.size
      · have hfi : (s.size : Int) < (s.words.length : Int) + 1 - (s.gone : Int) := by omega
        go_wp2_with fail
        go_quiet (fail)
        go_wp2_with fail
        refine hR.out _ _ ⟨p :: (Value.slice a' (s.words.length + 1) cap').ownBlock.toList, ?_⟩
        rw [RLog.add_full hw hfull]
        exact ⟨rfl, (G.out.1.drewN _).set 1 (.int .i64 (s.gone + 1)) (row' := RLog.row { s with words := s.words ++ [n], gone := s.gone + 1 }) (fun _ => rfl), (G.out.2.1.drewN _).set (by simp) _, G.out.2.2⟩
      · have hfi : ¬ (s.size : Int) < (s.words.length : Int) + 1 - (s.gone : Int) := by omega
        go_wp2_with fail
        go_quiet (fail)
        go_wp2_with fail
        refine hR.out _ _ ⟨p :: (Value.slice a' (s.words.length + 1) cap').ownBlock.toList, ?_⟩
        rw [RLog.add_more hw hfull]
        exact ⟨rfl, G.out.1.drewN _, G.out.2.1.drewN _, G.out.2.2⟩

theorem refLogLost_rep (w : World) (p : Nat) (F : List Nat) (s : RLog) (h : ORep w 83 p F s.row s.words) (hk : s.ok) :
    Calls Try.prog 38 #[.pointer (some ⟨p, 0, none⟩)] w (Same w (.int .i64 ((s.gone : Int) - s.drained))) := by
  refine calls_abs fun R hR => ?_
  have hgl := hk.gl
  have hdg := hk.dg
  have hwl := hk.wl
  obtain ⟨v, hp, hv, hne, rfl⟩ := h.ex
  have h1 := hp.cell 1 rfl
  have h2 := hp.cell 2 rfl
  go_enter Try.func38, Try.ntmps38
  go_wp2_with fail
  go_quiet (fail)
  go_wp2_with fail
  exact hR.out _ _ ⟨rfl, drewN_n _ _⟩

theorem refLogLast_rep (w : World) (p : Nat) (F : List Nat) (s : RLog) (h : ORep w 83 p F s.row s.words) (hk : s.ok) :
    Calls Try.prog 36 #[.pointer (some ⟨p, 0, none⟩)] w fun e w' => ∃ v, e = .returned v ∧ Ints w' w.heap.size v (s.words.drop s.gone) ∧ Only [] w w' := by
  refine calls_abs fun R hR => ?_
  have hgl := hk.gl
  have hwl := hk.wl
  obtain ⟨v, hp, hv, hne, rfl⟩ := h.ex
  have h1 := hp.cell 1 rfl
  have h3 := hp.cell 3 rfl
  rcases hv.form with ⟨rfl, e⟩ | ⟨g, cap, rfl, hg0, hg1, hg2, hg3⟩
  · have hz : s.gone = 0 := by rw [e] at hgl; simpa using hgl
    have hi : Hid (s.words.drop s.gone = []) := by simp [Hid, e]
    have h1' : w.cell? ⟨p, 1, none⟩ = some (.int .i64 0) := by rw [h1, hz]; rfl
    clear hz e h1
    go_enter Try.func36, Try.ntmps36
    go_wp2_with fail
    go_still_tail 9, (by kernel_rfl)
    go_wp2_with (at_builtin; refine append_ints_none rfl _ _ rfl w.heap.size _ _ rfl (Ints.nil _ _) rfl ?_)
    refine hR.out _ _ ⟨_, rfl, ?_, (Only.refl _ _).drew⟩
    rw [hi.out]
    exact Ints.nil _ _
  · have hto : s.gone ≤ cap := by omega
    have HG := Lib.hid hg3
    have HIL : Hid ((s.words.drop s.gone).length = s.words.length - s.gone) := by simp [Hid]
    clear hg3
    by_cases hcc : cap = s.gone
    · subst hcc
      have hz0 : s.words.length - s.gone = 0 := by omega
      go_enter Try.func36, Try.ntmps36
      go_wp2_with fail
      go_still_tail 9, (by kernel_rfl)
      go_wp2_with (at_builtin; refine append_ints rfl _ _ rfl w.heap.size _ _ rfl (Ints.nil _ _) ⟨g, 0, none⟩ _ _ (s.words.drop s.gone) rfl ?c1 ?c2 ?c3 ?c4 ?c5)
      case c1 => first | exact HIL.out | (rw [HIL.out]; omega)
      case c2 =>
        intro j u hu
        have hj : j < s.words.length - s.gone := by rw [← HIL.out]; exact (List.getElem?_eq_some_iff.1 hu).1
        omega
      case c3 => simp
      case c5 =>
        intro v' w1 hv1 ho1 _ _
        go_wp2_with fail
        exact hR.out _ _ ⟨v', rfl, hv1, ((Only.refl _ _).drew).trans ho1 (by simp [Value.ownBlock])⟩
    · go_enter Try.func36, Try.ntmps36
      go_wp2_with fail
      go_still_tail 9, (by kernel_rfl)
      go_wp2_with (at_builtin; refine append_ints rfl _ _ rfl w.heap.size _ _ rfl (Ints.nil _ _) ⟨g, s.gone, none⟩ _ _ (s.words.drop s.gone) rfl ?c1 ?c2 ?c3 ?c4 ?c5)
      case c1 => exact HIL.out
      case c2 =>
        intro j u hu
        have hj : j < s.words.length - s.gone := by rw [← HIL.out]; exact (List.getElem?_eq_some_iff.1 hu).1
        have h1 := HG.out (s.gone + j) (by omega)
        rw [show (⟨g, s.gone, none⟩ : Addr).add j = ⟨g, s.gone + j, none⟩ by unfold Addr.add; split <;> simp_all]
        show w.cell? _ = _
        rw [h1, gI]
        rw [List.getElem?_drop] at hu
        rw [hu]
        rfl
      case c3 => simp; omega
      case c5 =>
        intro v' w1 hv1 ho1 _ _
        clear hv h1
        go_wp2_with fail
        exact hR.out _ _ ⟨v', rfl, hv1, ((Only.refl _ _).drew).trans ho1 (by simp [Value.ownBlock])⟩

theorem refLogDrain_rep (w : World) (p : Nat) (F : List Nat) (s : RLog) (h : ORep w 83 p F s.row s.words) (hk : s.ok) (hd : s.drained + s.words.length ≤ 1099511627776) :
    Calls Try.prog 34 #[.pointer (some ⟨p, 0, none⟩)] w fun e w' => ∃ v, e = .returned v ∧ Ints w' w.heap.size v (s.words.drop s.gone) ∧
      ORep w' 83 p F (RLog.row { s with drained := s.drained + (s.words.length - s.gone), gone := s.words.length }) s.words ∧ Only F w w' := by
  refine calls_abs fun R hR => ?_
  have hgl := hk.gl
  go_enter Try.func34, Try.ntmps34
  go_wp2_with fail
  refine (refLogLast_rep _ _ _ _ h hk).mono ?_
  rintro e w1 ⟨v1, rfl, i1, o1⟩
  have h1 := h.only o1 (by simp)
  have hlt := h.lt p h.mem
  have hmem := h.mem
  have hpl : Hid (p ∉ v1.ownBlock.toList) := fun hm => by have := (i1.own p (by simpa using hm)).1; omega
  obtain ⟨v, hp, hv, hne, hF⟩ := h1.ex
  have e2 := hp.cell 2 rfl
  have e1 := hp.cell 1 rfl
  have e3 := hp.cell 3 rfl
  have ef := hp.free
  obtain ⟨av, cv, hvv⟩ := hv.len
  obtain ⟨a1, c1, hvl⟩ := i1.len
  rw [List.length_drop] at hvl
  have HI := Lib.hid i1
  have HO := Lib.hid o1
  clear i1 o1 hv hne hF
  subst hvv
  subst hvl
  go_wp2_with fail
  refine hR.out _ _ ⟨Value.slice a1 (s.words.length - s.gone) c1, rfl, ?_, ?_, ((HO.out.mono (by simp)).set (.inl hmem) _).set (.inl hmem) _⟩
  · exact HI.out.only (F := [p]) (((Only.refl _ _).set (by simp) _).set (by simp) _) (fun k hk hm => hpl.out (by simp at hm; rw [← hm, hk]; simp))
  · exact (h1.set 2 (.int .i64 ((s.drained : Int) + ((s.words.length - s.gone : Nat) : Int))) (row' := RLog.row { s with drained := s.drained + (s.words.length - s.gone) }) (fun _ => by simp [RLog.row])).set 1 (.int .i64 s.words.length) (row' := RLog.row { s with drained := s.drained + (s.words.length - s.gone), gone := s.words.length }) (fun _ => rfl)

theorem logNew_no (w : World) (n : Int) (hn : n < 1 ∨ 16 < n) :
    Calls Try.prog 29 #[.int .i64 n] w (Exact w (.tuple #[.pointer none, .int .i64 1])) := by
  refine calls_abs fun R hR => ?_
  rcases hn with hn | hn
  · go_enter Try.func29, Try.ntmps29
    go_wp2_with fail
    exact hR.out _ _ ⟨rfl, rfl⟩
  · have : 1 ≤ n := by omega
    go_enter Try.func29, Try.ntmps29
    go_wp2_with fail
    exact hR.out _ _ ⟨rfl, rfl⟩
theorem refLogNew_no (w : World) (n : Int) (hn : n < 1 ∨ 16 < n) :
    Calls Try.prog 30 #[.int .i64 n] w (Exact w (.tuple #[.pointer none, .int .i64 1])) := by
  refine calls_abs fun R hR => ?_
  rcases hn with hn | hn
  · go_enter Try.func30, Try.ntmps30
    go_wp2_with fail
    exact hR.out _ _ ⟨rfl, rfl⟩
  · have : 1 ≤ n := by omega
    go_enter Try.func30, Try.ntmps30
    go_wp2_with fail
    exact hR.out _ _ ⟨rfl, rfl⟩
theorem logNew_yes (w : World) (n : Nat) (h1 : 1 ≤ n) (h2 : n ≤ 16) :
    Calls Try.prog 29 #[.int .i64 n] w fun e w' => ∃ p F, e = .returned (.tuple #[.pointer (some ⟨p, 0, none⟩), .int .i64 0]) ∧ ORep w' 81 p F (LSt.row ⟨[], n, 0⟩) [] ∧ Only [] w w' ∧ (∀ x ∈ F, w.heap.size ≤ x) := by
  refine calls_abs fun R hR => ?_
  go_enter Try.func29, Try.ntmps29
  go_wp2_with fail
  exact hR.out _ _ ⟨w.heap.size, [w.heap.size], rfl, ⟨.slice none 0 0, Row.new w 81 (LSt.row ⟨[], n, 0⟩ (.slice none 0 0)), Ints.nil _ _, by simp [Value.ownBlock], rfl⟩, (Only.refl _ _).alloc _, by simp⟩
theorem refLogNew_yes (w : World) (n : Nat) (h1 : 1 ≤ n) (h2 : n ≤ 16) :
    Calls Try.prog 30 #[.int .i64 n] w fun e w' => ∃ p F, e = .returned (.tuple #[.pointer (some ⟨p, 0, none⟩), .int .i64 0]) ∧ ORep w' 83 p F (RLog.row ⟨n, 0, 0, []⟩) [] ∧ Only [] w w' ∧ (∀ x ∈ F, w.heap.size ≤ x) := by
  refine calls_abs fun R hR => ?_
  go_enter Try.func30, Try.ntmps30
  go_wp2_with fail
  exact hR.out _ _ ⟨w.heap.size, [w.heap.size], rfl, ⟨.slice none 0 0, Row.new w 83 (RLog.row ⟨n, 0, 0, []⟩ (.slice none 0 0)), Ints.nil _ _, by simp [Value.ownBlock], rfl⟩, (Only.refl _ _).alloc _, by simp⟩
end Go.Proofs.Ytemdkffkpdhciaa
