/- Contracts of package queue's functions, more: Items, Len, Busy, Copy, New. -/
import Derived.Test.YtemdkffkpdhciaaQueueB
namespace Go.Proofs.Ytemdkffkpdhciaa
open Go.RowKit
set_option maxHeartbeats 400000

theorem items_rep (w : World) (q c : Nat) (s : QSt) (h : QRep w q c s) (hk : s.ok) :
    Calls Try.prog 19 #[.pointer (some ⟨q, 0, none⟩)] w fun e w' =>
      ∃ v, e = .returned v ∧ Ints w' w.heap.size v s.items ∧ Only [] w w' := by
  refine calls_abs fun R hR => ?_
  obtain ⟨cap, h0, h1, h2, h3, h4, h5, h6, hf, hg⟩ := h.facts
  have hn := hk.n9
  have hl := s.len_lt hk
  have HW : Hid (q < w.heap.size ∧ c < w.heap.size) := h.lt
  go_enter Try.func19, Try.ntmps19
  go_wp2_with fail
  refine (none_rep _ _ _ _ h hk).mono ?_
  rintro e _ ⟨rfl, rfl⟩
  go_wp2_with fail
  go_loopw [3, 4] (fun v i wr => ∃ k : Nat, k ≤ s.len ∧ i = .int .i64 (s.pl k) ∧ Ints wr w.heap.size v (s.itemsTo k) ∧ Only [] w wr) (fun v _ _ => s.len - sLen v)
  case atStart => exact ⟨0, by omega, by rw [s.pl_0 hk], Ints.nil _ _, Only.refl _ _⟩
  case round =>
    obtain ⟨k, hkl, rfl, hv, ho⟩ := hrel
    have hq := h.only ho (by simp) (by simp)
    obtain ⟨cap', h0, h1, h2, h3, h4, h5, h6, hf, hg⟩ := hq.facts
    have hat := hq.at _ (s.pl_lt hk k)
    have hpl := s.pl_lt hk k
    have hlw : Hid (w.heap.size ≤ wr.heap.size) := ho.size
    have hln : Hid ((s.itemsTo k).length = k) := s.itemsTo_len k
    cases ht : ((s.pl k : Int) != (s.tail : Int))
    · have hkl' : k = s.len := by
        refine (s.pl_tail hk k hkl).1 (Int.ofNat.inj (by simpa using ht))
      have HK := Lib.hid hkl'
      clear hkl'
      go_wp2_with fail
      refine hR.out _ _ ⟨_, rfl, ?_, ho⟩
      have := hv
      rw [HK.out] at this
      exact this
    · go_wp2_with (at_builtin; refine append_int1 rfl _ _ rfl w.heap.size _ _ rfl (hv.alloc _) wr.heap.size (gI s.cells (s.pl k)) rfl ?_ ?_ ?_ ?_)
      · exact (Row.new wr _ [_]).cell 0 rfl
      · rw [hln.out]; omega
      · have := hlw.out; simp; omega
      · intro v' w1 hv1 ho1 _
        have ho2 : Only [] w w1 := (ho.alloc _).trans ho1 (fun x hx => .inr (hv.own x (by simpa using hx)).1)
        have hq2 := h.only ho2 (by simp) (by simp)
        clear hat hf hg h0 h1 h2 h3 h4 h5 h6 ho1
        go_wp2_with fail
        refine (behind_rep _ _ _ _ hq2 hk _ hpl).mono ?_
        rintro e _ ⟨rfl, rfl⟩
        go_wp2_with fail
        have hkn : k ≠ s.len := by
          intro e
          rw [(s.pl_tail hk k hkl).2 e] at ht
          simp at ht
        refine ⟨⟨k + 1, by omega, by rw [s.pl_succ], by rw [s.itemsTo_succ]; exact hv1, ho2⟩, ?_⟩
        rw [hv1.sLen, hv.sLen, List.length_append, hln.out]
        simp
        omega

theorem items_nil (w : World) :
    Calls Try.prog 19 #[.pointer none] w (Exact w (.slice none 0 0)) := by
  refine calls_abs fun R hR => ?_
  go_enter Try.func19, Try.ntmps19
  go_wp2_with fail
  refine (none_nil _).mono ?_
  rintro e _ ⟨rfl, rfl⟩
  go_wp2_with fail
  exact hR.out _ _ ⟨rfl, rfl⟩

theorem len_rep (w : World) (q c : Nat) (s : QSt) (h : QRep w q c s) (hk : s.ok) :
    Calls Try.prog 20 #[.pointer (some ⟨q, 0, none⟩)] w fun e w' =>
      e = .returned (.int .i64 s.len) ∧ Only [] w w' := by
  refine calls_abs fun R hR => ?_
  have hl : Hid (s.items.length = s.len) := s.itemsTo_len s.len
  go_enter Try.func20, Try.ntmps20
  go_wp2_with fail
  refine (items_rep _ _ _ _ h hk).mono ?_
  rintro e w1 ⟨v, rfl, hv, ho⟩
  obtain ⟨a, cap, hv2⟩ := hv.len
  rw [hl.out] at hv2
  subst hv2
  go_wp2_with fail
  exact hR.out _ _ ⟨rfl, ho⟩

theorem len_nil (w : World) :
    Calls Try.prog 20 #[.pointer none] w (Exact w (.int .i64 0)) := by
  refine calls_abs fun R hR => ?_
  go_enter Try.func20, Try.ntmps20
  go_wp2_with fail
  refine (items_nil _).mono ?_
  rintro e _ ⟨rfl, rfl⟩
  go_wp2_with fail
  exact hR.out _ _ ⟨rfl, rfl⟩

theorem busy_rep (w : World) (q c : Nat) (s : QSt) (h : QRep w q c s) (hk : s.ok) :
    Calls Try.prog 39 #[.pointer (some ⟨q, 0, none⟩)] w
      (Same w (.tuple #[.bool ((s.put : Int) != 0), .bool ((s.take : Int) != 0)])) := by
  refine calls_abs fun R hR => ?_
  obtain ⟨cap, h0, h1, h2, h3, h4, h5, h6, hf, hg⟩ := h.facts
  go_enter Try.func39, Try.ntmps39
  go_wp2_with fail
  go_quiet ((go_at_call 40; exact quiet_exact (none_rep _ _ _ _ (h.drewN _) hk)))
  go_wp2_with fail
  try go_ret2
  exact hR.out _ _ ⟨rfl, drewN_n _ _⟩
theorem busy_nil (w : World)  :
    Calls Try.prog 39 #[.pointer none] w
      (Same w (.tuple #[.bool false, .bool false])) := by
  refine calls_abs fun R hR => ?_
  go_enter Try.func39, Try.ntmps39
  go_wp2_with fail
  go_quiet ((go_at_call 40; exact quiet_exact (none_nil _)))
  go_wp2_with fail
  try go_ret2
  exact hR.out _ _ ⟨rfl, drewN_n _ _⟩

theorem copy_nil (w : World)  :
    Calls Try.prog 23 #[.pointer none] w (Exact w (.pointer none)) := by
  refine calls_abs fun R hR => ?_
  go_enter Try.func23, Try.ntmps23
  go_wp2_with fail
  refine (none_nil _).mono ?_
  rintro e _ ⟨rfl, rfl⟩
  go_wp2_with fail
  exact hR.out _ _ ⟨rfl, rfl⟩

theorem copy_rep (w : World) (q c : Nat) (s : QSt) (h : QRep w q c s) (hk : s.ok) :
    Calls Try.prog 23 #[.pointer (some ⟨q, 0, none⟩)] w fun e w' => ∃ q' c', e = .returned (.pointer (some ⟨q', 0, none⟩)) ∧ QRep w' q' c' s ∧ Only [] w w' ∧ w.heap.size ≤ q' ∧ w.heap.size ≤ c' := by
  refine calls_abs fun R hR => ?_
  obtain ⟨cap, h0, h1, h2, h3, h4, h5, h6, hf, hg⟩ := h.facts
  have hlt := h.lt.1
  go_enter Try.func23, Try.ntmps23
  go_wp2_with fail
  refine (none_rep _ _ _ _ h hk).mono ?_
  rintro e _ ⟨rfl, rfl⟩
  go_wp2_with fail
  have hcl := h.lt.2
  have hn9 := hk.n9
  refine (clone_ints _ c s.cells.length _ s.cells rfl (by omega) (fun i hi => ?_)).mono ?_
  · rw [World.cell?_alloc_past _ _ _ hcl]
    exact h.at i hi
  rintro e w1 ⟨v, rfl, hv, ho, hvn⟩
  have hr := ho.row (Row.new w 72 (s.row c cap)) (by simp)
  have hr0 := hr.cell 0 rfl
  have hrf := hr.free 0
  have ho1 : Only [] w w1 := ((Only.refl _ _).alloc _).trans ho (by simp)
  obtain ⟨hv1, hv2⟩ := hv
  rcases hv2 with ⟨hv3, _⟩ | ⟨g, cap2, cur, rfl, hg1, hg2, hg3, hg4, hg5, hg6⟩
  · exact absurd hv3 hvn
  clear hvn
  simp at hg1
  have HS := Lib.hid hg5
  have HT := Lib.hid hg6
  clear hg5 hg6 hv1
  go_wp2_with fail
  refine hR.out _ _ ⟨w.heap.size, g, rfl, ⟨⟨cap2, ?_⟩, ⟨cur.toList.drop s.cells.length, ?_⟩, by omega⟩, ho1.set (by simp) _, by omega, by omega⟩
  · exact hr.set 0 _
  · have e : s.cells.map (Value.int .i64) ++ cur.toList.drop s.cells.length = cur.toList := by
      have := HT.out
      rw [Nat.mul_one] at this
      rw [← this, List.take_append_drop]
    rw [e]
    have : Row w1 g 3 cur.toList := by simpa [Row] using hg2
    exact this.other (by simp; omega) _

theorem new_no (w : World) (n : Int) (hn : n < 1 ∨ 8 < n) :
    Calls Try.prog 10 #[.int .i64 n] w (Exact w (.tuple #[.pointer none, .int .i64 1])) := by
  refine calls_abs fun R hR => ?_
  rcases hn with hn | hn
  · go_enter Try.func10, Try.ntmps10
    go_wp2_with fail
    exact hR.out _ _ ⟨rfl, rfl⟩
  · have : 1 ≤ n := by omega
    go_enter Try.func10, Try.ntmps10
    go_wp2_with fail
    exact hR.out _ _ ⟨rfl, rfl⟩
theorem new_yes (w : World) (n : Nat) (h1 : 1 ≤ n) (h2 : n ≤ 8) :
    Calls Try.prog 10 #[.int .i64 n] w fun e w' => ∃ q c, e = .returned (.tuple #[.pointer (some ⟨q, 0, none⟩), .int .i64 0]) ∧ QRep w' q c (QSt.new n) ∧ Only [] w w' ∧ w.heap.size ≤ q ∧ w.heap.size ≤ c := by
  refine calls_abs fun R hR => ?_
  go_enter Try.func10, Try.ntmps10
  go_wp2_with (refine make_ints rfl _ _ rfl _ _ _ _ (n + 1) rfl rfl ?_ ?_ ?_ ?_)
  · simp
  · simp
  · omega
  · intro w1 hr ho
    go_wp2_with fail
    refine hR.out _ _ ⟨w1.heap.size, w.heap.size, rfl, ⟨⟨n + 1, ?_⟩, ⟨[], ?_⟩, ?_⟩, ho.alloc _, ho.size, Nat.le_refl _⟩
    · have := Row.new w1 72 ((QSt.new n).row w.heap.size (n + 1))
      simpa [QSt.row, QSt.new] using this
    · simpa [QSt.new] using hr.alloc _
    · have := hr.lt
      omega
end Go.Proofs.Ytemdkffkpdhciaa
