/- Contracts of the reference's queue, more. -/
import Derived.Test.YtemdkffkpdhciaaRefQ
namespace Go.Proofs.Ytemdkffkpdhciaa
open Go.RowKit
set_option maxHeartbeats 400000

theorem refStepTake_rep (w : World) (p : Nat) (F : List Nat) (s : RSt) (h : RRep w p F s) (hk : s.ok) (hb : s.words.length < 1099511627776) :
    Calls Try.prog 47 #[.pointer (some ⟨p, 0, none⟩)] w fun e w' =>
      e = .returned (.tuple #[.bool s.stepTake.1, .bool s.stepTake.2.1, .int .i64 s.stepTake.2.2.1, .int .i64 s.stepTake.2.2.2.1]) ∧ RRep w' p F s.stepTake.2.2.2.2 ∧ Only F w w' := by
  refine calls_abs fun R hR => ?_
  obtain ⟨v, hp, hv, hne, rfl⟩ := h.ex
  have h1 := hp.cell 1 rfl
  have h2 := hp.cell 2 rfl
  have h3 := hp.cell 3 rfl
  have h5 := hp.cell 5 rfl
  have hf := hp.free
  have hk1 := hk.tk
  have hk8 := hk.n8
  have hov := hk.ov
  have hob : s.over ≤ s.words.length := by split at hov <;> omega
  clear hov
  have hcase : s.takeS = 0 ∨ s.takeS = 1 ∨ s.takeS = 2 ∨ s.takeS = 3 := by have := hk.ts; omega
  rcases hcase with hp4 | hp4 | hp4 | hp4 <;> (rw [hp4] at h5; have HP := Lib.hid hp4; clear hp4)
  · go_enter Try.func47, Try.ntmps47
    go_wp2_with fail
    refine bodyPost_ret (results_tmp4 rfl _ _ _) rfl ?_
    refine hR.out _ _ ?_
    simp only [RSt.stepTake, HP.out]
    exact ⟨rfl, h, Only.refl _ _⟩
  · cases hz : ((s.over : Int) == (s.taken : Int))
    · go_enter Try.func47, Try.ntmps47
      go_wp2_with fail
      go_quiet (fail)
      go_wp2_with fail
      refine bodyPost_ret (results_tmp4 rfl _ _ _) rfl ?_
      refine hR.out _ _ ?_
      have e : s.stepTake = (false, false, 0, 0, { s with takeS := 2 }) := by
        unfold RSt.stepTake
        rw [if_neg (by rw [HP.out]; omega), if_pos HP.out, if_neg]
        rw [beq_eq_false_iff_ne] at hz
        omega
      rw [e]
      exact ⟨rfl, (h.drewN _).setTake 2, ((Only.refl _ _).drewN _).set (by simp) _⟩
    · go_enter Try.func47, Try.ntmps47
      go_wp2_with fail
      go_quiet (fail)
      go_wp2_with fail
      refine bodyPost_ret (results_tmp4 rfl _ _ _) rfl ?_
      refine hR.out _ _ ?_
      have e : s.stepTake = (true, false, 0, 0, { s with takeS := 0 }) := by
        unfold RSt.stepTake
        rw [if_neg (by rw [HP.out]; omega), if_pos HP.out, if_pos]
        have := eq_of_beq hz
        omega
      rw [e]
      exact ⟨rfl, (h.drewN _).setTake 0, ((Only.refl _ _).drewN _).set (by simp) _⟩
  · go_enter Try.func47, Try.ntmps47
    go_wp2_with fail
    refine bodyPost_ret (results_tmp4 rfl _ _ _) rfl ?_
    refine hR.out _ _ ?_
    simp only [RSt.stepTake, HP.out]
    exact ⟨rfl, h.setTake 3, (Only.refl _ _).set (by simp) _⟩
  · have hlt : s.taken < s.over := by have := hk.ne; have := HP.out; omega
    rcases hv.form with ⟨_, e⟩ | ⟨g, cap, rfl, hg0, hg1, hg2, hg3⟩
    · rw [e] at hob; simp at hob; omega
    have hat := hg3 s.taken (by omega)
    have hlt2 : s.taken < s.words.length := by omega
    clear hg3
    go_enter Try.func47, Try.ntmps47
    go_wp2_with fail
    go_quiet (fail)
    go_wp2_with fail
    refine bodyPost_ret (results_tmp4 rfl _ _ _) rfl ?_
    refine hR.out _ _ ?_
    simp only [RSt.stepTake, HP.out]
    exact ⟨rfl, ((h.drewN _).setTaken (s.taken + 1)).setTake 0, (((Only.refl _ _).drewN _).set (by simp) _).set (by simp) _⟩

theorem refBusy_rep (w : World) (p : Nat) (F : List Nat) (s : RSt) (h : RRep w p F s) :
    Calls Try.prog 50 #[.pointer (some ⟨p, 0, none⟩)] w
      (Same w (.tuple #[.bool (decide (0 < s.putS)), .bool (decide (0 < s.takeS))])) := by
  refine calls_abs fun R hR => ?_
  obtain ⟨v, hv, hne, hF, h0, h1, h2, h3, h4, h5, hf, hlt⟩ := h.facts
  clear hF
  go_enter Try.func50, Try.ntmps50
  go_wp2_with fail
  go_quiet (fail)
  go_wp2_with fail
  try go_ret2
  refine hR.out _ _ ⟨?_, drewN_n _ _⟩
  simp

theorem refLen_rep (w : World) (p : Nat) (F : List Nat) (s : RSt) (h : RRep w p F s) (hk : s.ok) (hb : s.words.length < 1099511627776) :
    Calls Try.prog 51 #[.pointer (some ⟨p, 0, none⟩)] w
      (Same w (.int .i64 ((s.over : Int) - s.taken))) := by
  refine calls_abs fun R hR => ?_
  obtain ⟨v, hv, hne, hF, h0, h1, h2, h3, h4, h5, hf, hlt⟩ := h.facts
  have hk1 := hk.tk
  have hov := hk.ov
  have hob : s.over ≤ s.words.length := by split at hov <;> omega
  clear hov hF
  go_enter Try.func51, Try.ntmps51
  go_wp2_with fail
  go_quiet (fail)
  go_wp2_with fail
  exact hR.out _ _ ⟨rfl, drewN_n _ _⟩

theorem refItems_rep (w : World) (p : Nat) (F : List Nat) (s : RSt) (h : RRep w p F s) (hk : s.ok) (hb : s.words.length < 1099511627776) :
    Calls Try.prog 52 #[.pointer (some ⟨p, 0, none⟩)] w fun e w' =>
      ∃ v, e = .returned v ∧ Ints w' w.heap.size v s.items ∧ Only [] w w' := by
  refine calls_abs fun R hR => ?_
  obtain ⟨v, hv, hne, hF, h0, h1, h2, h3, h4, h5, hf, hlt⟩ := h.facts
  have hk1 := hk.tk
  have hov := hk.ov
  have hob : s.over ≤ s.words.length := by split at hov <;> omega
  clear hov hF
  rcases hv.form with ⟨rfl, e⟩ | ⟨g, cap, rfl, hg0, hg1, hg2, hg3⟩
  · have hz : s.over = 0 := by rw [e] at hob; simpa using hob
    have hz' : s.taken = 0 := by omega
    have hi : Hid (s.items = []) := by simp [Hid, RSt.items, e]
    rw [hz] at h1
    rw [hz'] at h2
    clear hz hz' e
    go_enter Try.func52, Try.ntmps52
    go_wp2_with fail
    go_still_tail 13, (by kernel_rfl)
    go_wp2_with (at_builtin; refine append_ints_none rfl _ _ rfl w.heap.size _ _ rfl (Ints.nil _ _) rfl ?_)
    refine hR.out _ _ ⟨_, rfl, ?_, (Only.refl _ _).drew⟩
    rw [hi.out]
    exact Ints.nil _ _
  · have hto : s.taken ≤ cap := by omega
    have hoc : s.over ≤ cap := by omega
    have HG := Lib.hid hg3
    have hil : s.items.length = s.over - s.taken := by simp [RSt.items]; omega
    have HIL := Lib.hid hil
    clear hg3 hil
    by_cases hcc : cap = s.taken
    · subst hcc
      go_enter Try.func52, Try.ntmps52
      go_wp2_with fail
      go_still_tail 13, (by kernel_rfl)
      go_wp2_with (at_builtin; refine append_ints rfl _ _ rfl w.heap.size _ _ rfl (Ints.nil _ _) ⟨g, 0, none⟩ _ _ s.items rfl ?c1 ?c2 ?c3 ?c4 ?c5)
      case c1 => first | exact HIL.out | (rw [HIL.out]; omega)
      case c2 =>
        intro j u hu
        have hj : j < s.over - s.taken := by rw [← HIL.out]; exact (List.getElem?_eq_some_iff.1 hu).1
        omega
      case c3 => simp
      case c5 =>
        intro v' w1 hv1 ho1 _ _
        clear hv h1
        go_wp2_with fail
        exact hR.out _ _ ⟨v', rfl, hv1, ((Only.refl _ _).drew).trans ho1 (by simp [Value.ownBlock])⟩
    · go_enter Try.func52, Try.ntmps52
      go_wp2_with fail
      go_still_tail 13, (by kernel_rfl)
      go_wp2_with (at_builtin; refine append_ints rfl _ _ rfl w.heap.size _ _ rfl (Ints.nil _ _) ⟨g, s.taken, none⟩ _ _ s.items rfl ?c1 ?c2 ?c3 ?c4 ?c5)
      case c1 => first | exact HIL.out | (rw [HIL.out]; omega)
      case c2 =>
        intro j u hu
        have hj : j < s.over - s.taken := by rw [← HIL.out]; exact (List.getElem?_eq_some_iff.1 hu).1
        have h1 := HG.out (s.taken + j) (by omega)
        rw [show (⟨g, s.taken, none⟩ : Addr).add j = ⟨g, s.taken + j, none⟩ by unfold Addr.add; split <;> simp_all]
        show w.cell? _ = _
        rw [h1, gI]
        have : s.items[j]? = s.words[s.taken + j]? := by
          simp only [RSt.items, List.getElem?_drop]
          rw [List.getElem?_take_of_lt (by omega)]
        rw [← this, hu]
        rfl
      case c3 => simp; omega
      case c5 =>
        intro v' w1 hv1 ho1 _ _
        clear hv h1
        go_wp2_with fail
        exact hR.out _ _ ⟨v', rfl, hv1, ((Only.refl _ _).drew).trans ho1 (by simp [Value.ownBlock])⟩

theorem refCopy_rep (w : World) (p : Nat) (F : List Nat) (s : RSt) (h : RRep w p F s) (hb : s.words.length < 1099511627776) :
    Calls Try.prog 26 #[.pointer (some ⟨p, 0, none⟩)] w fun e w' =>
      ∃ p' F', e = .returned (.pointer (some ⟨p', 0, none⟩)) ∧ RRep w' p' F' s ∧ Only [] w w' ∧ (∀ x ∈ F', w.heap.size ≤ x) := by
  refine calls_abs fun R hR => ?_
  obtain ⟨v, hp, hv, hne, rfl⟩ := h.ex
  have h0 := hp.cell 0 rfl
  have h1 := hp.cell 1 rfl
  have h2 := hp.cell 2 rfl
  have h3 := hp.cell 3 rfl
  have h4 := hp.cell 4 rfl
  have h5 := hp.cell 5 rfl
  have hlt := hp.lt
  obtain ⟨a0, c0, hv0⟩ := hv.len
  have hfin : ∀ (vv : Value) (w1 : World) (dst : Unit), Ints w1 (w.heap.size + 1) vv s.words → Only [] (w.alloc (.cells #[.int .i64 s.size, .int .i64 s.over, .int .i64 s.taken, v, .int .i64 s.putS, .int .i64 s.takeS] 74)) w1 →
      ∃ p' F', (Ending.returned (.pointer (some ⟨w.heap.size, 0, none⟩)) : Ending) = .returned (.pointer (some ⟨p', 0, none⟩)) ∧ RRep (w1.setCell ⟨w.heap.size, 3, none⟩ vv) p' F' s ∧ Only [] w (w1.setCell ⟨w.heap.size, 3, none⟩ vv) ∧ (∀ x ∈ F', w.heap.size ≤ x) := by
    intro vv w1 _ hv1 ho1
    have hr := ho1.row (Row.new w 74 (s.row v)) (by simp)
    have hnb : vv.ownBlock ≠ some w.heap.size := by intro e; have := (hv1.own _ e).1; omega
    refine ⟨w.heap.size, w.heap.size :: vv.ownBlock.toList, rfl, ⟨vv, hr.set 3 _, ?_, hnb, rfl⟩, (((Only.refl _ _).alloc _).trans ho1 (by simp)).set (by simp) _, ?_⟩
    · exact (hv1.base (Nat.zero_le _)).only (F := [w.heap.size]) ((Only.refl _ _).set (by simp) _) (fun k hk hm => hnb (by simp at hm; rw [← hm]; exact hk))
    · intro x hx
      rcases List.mem_cons.1 hx with rfl | hx
      · omega
      · have := (hv1.own x (by simpa using hx)).1
        omega
  have HF := Lib.hid hfin
  clear hfin
  rcases hv.form with ⟨hv2, e⟩ | ⟨g, cap, hv2, hg0, hg1, hg2, hg3⟩
  · subst hv2
    have HE := Lib.hid e
    clear e hv0
    go_enter Try.func26, Try.ntmps26
    go_wp2_with (at_builtin; refine append_ints_none rfl _ _ rfl (w.heap.size + 1) _ _ rfl (Ints.nil _ _) rfl ?_)
    have hh := HF.out (.slice none 0 0) _ () (by rw [HE.out]; exact Ints.nil _ _) (Only.refl _ _)
    rw [World.setCell_alloc_new] at hh
    exact hR.out _ _ hh
  · subst hv2
    have HG := Lib.hid hg3
    clear hg3 hv0
    go_enter Try.func26, Try.ntmps26
    go_wp2_with (at_builtin; refine append_ints rfl _ _ rfl (w.heap.size + 1) _ _ rfl (Ints.nil _ _) ⟨g, 0, none⟩ _ _ s.words rfl ?c1 ?c2 ?c3 ?c4 ?c5)
    case c1 => rfl
    case c2 =>
      intro j u hu
      have hj := (List.getElem?_eq_some_iff.1 hu).1
      have h1 := HG.out j hj
      rw [show (⟨g, 0, none⟩ : Addr).add j = ⟨g, j, none⟩ by unfold Addr.add; split <;> simp_all]
      rw [World.cell?_alloc_past _ _ _ hg1, h1, gI, hu]
      rfl
    case c3 => simp; omega
    case c4 => simp
    case c5 =>
      intro v' w1 hv1 ho1 _ _
      obtain ⟨a', c', hf'⟩ := hv1.len
      have hr := ho1.row (Row.new w 74 (s.row _)) (by simp [Value.ownBlock])
      have hr0 := hr.cell 3 rfl
      have hrf := hr.free
      have H1 := Lib.hid hv1
      have H2 := Lib.hid ho1
      clear hv1 ho1
      subst hf'
      go_wp2_with fail
      exact hR.out _ _ (HF.out _ w1 () H1.out H2.out)
end Go.Proofs.Ytemdkffkpdhciaa
