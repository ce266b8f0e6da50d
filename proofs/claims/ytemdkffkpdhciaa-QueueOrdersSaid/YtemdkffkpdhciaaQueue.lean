/- Contracts of package queue's functions over the model QSt. -/
import Derived.Test.YtemdkffkpdhciaaRows
import Derived.Test.YtemdkffkpdhciaaInts
namespace Go.Proofs.Ytemdkffkpdhciaa
open Go.RowKit

def QSt.row (c cap : Nat) (s : QSt) : List Value :=
  [.slice (some ⟨c, 0, none⟩) s.cells.length cap, .int .i64 s.head, .int .i64 s.tail, .int .i64 s.put, .int .i64 s.take, .int .i64 s.word, .int .i64 s.taken]

structure QRep (w : World) (q c : Nat) (s : QSt) : Prop where
  hq : ∃ cap, Row w q 72 (s.row c cap)
  hc : ∃ xs, Row w c 3 (s.cells.map (Value.int .i64) ++ xs)
  ne : q ≠ c

theorem QRep.drewN {w : World} {q c : Nat} {s : QSt} (h : QRep w q c s) (n : Nat) : QRep (w.drewN n) q c s := ⟨h.hq, h.hc, h.ne⟩
theorem QRep.drew {w : World} {q c : Nat} {s : QSt} (h : QRep w q c s) : QRep w.drew q c s := ⟨h.hq, h.hc, h.ne⟩
theorem QRep.only {w w' : World} {q c : Nat} {s : QSt} {F : List Nat} (h : QRep w q c s) (k : Only F w w') (h1 : q ∉ F) (h2 : c ∉ F) : QRep w' q c s := ⟨h.hq.imp fun _ x => k.row x h1, h.hc.imp fun _ x => k.row x h2, h.ne⟩
theorem QRep.setHead {w : World} {q c : Nat} {s : QSt} (h : QRep w q c s) (v : Nat) : QRep (w.setCell ⟨q, 1, none⟩ (.int .i64 v)) q c { s with head := v } :=
  ⟨h.hq.imp fun _ x => x.set 1 _, h.hc.imp fun _ x => x.other h.ne _, h.ne⟩
theorem QRep.setTail {w : World} {q c : Nat} {s : QSt} (h : QRep w q c s) (v : Nat) : QRep (w.setCell ⟨q, 2, none⟩ (.int .i64 v)) q c { s with tail := v } :=
  ⟨h.hq.imp fun _ x => x.set 2 _, h.hc.imp fun _ x => x.other h.ne _, h.ne⟩
theorem QRep.setPut {w : World} {q c : Nat} {s : QSt} (h : QRep w q c s) (v : Nat) : QRep (w.setCell ⟨q, 3, none⟩ (.int .i64 v)) q c { s with put := v } :=
  ⟨h.hq.imp fun _ x => x.set 3 _, h.hc.imp fun _ x => x.other h.ne _, h.ne⟩
theorem QRep.setTake {w : World} {q c : Nat} {s : QSt} (h : QRep w q c s) (v : Nat) : QRep (w.setCell ⟨q, 4, none⟩ (.int .i64 v)) q c { s with take := v } :=
  ⟨h.hq.imp fun _ x => x.set 4 _, h.hc.imp fun _ x => x.other h.ne _, h.ne⟩
theorem QRep.setWord {w : World} {q c : Nat} {s : QSt} (h : QRep w q c s) (v : Int) : QRep (w.setCell ⟨q, 5, none⟩ (.int .i64 v)) q c { s with word := v } :=
  ⟨h.hq.imp fun _ x => x.set 5 _, h.hc.imp fun _ x => x.other h.ne _, h.ne⟩
theorem QRep.setTaken {w : World} {q c : Nat} {s : QSt} (h : QRep w q c s) (v : Int) : QRep (w.setCell ⟨q, 6, none⟩ (.int .i64 v)) q c { s with taken := v } :=
  ⟨h.hq.imp fun _ x => x.set 6 _, h.hc.imp fun _ x => x.other h.ne _, h.ne⟩
theorem QRep.setAt {w : World} {q c : Nat} {s : QSt} (h : QRep w q c s) (i : Nat) (v : Int) (hi : i < s.cells.length) : QRep (w.setCell ⟨c, i, none⟩ (.int .i64 v)) q c { s with cells := s.cells.set i v } := by
  refine ⟨?_, ?_, h.ne⟩
  · obtain ⟨cap, hq⟩ := h.hq
    have := hq.other (a := ⟨c, i, none⟩) h.ne.symm (.int .i64 v)
    exact ⟨cap, by simpa [QSt.row] using this⟩
  · obtain ⟨xs, hc⟩ := h.hc
    have := hc.set i (.int .i64 v)
    exact ⟨xs, by simpa [List.set_append, hi] using this⟩

/-- What the walk wants to know of the queue's cells. -/
theorem QRep.facts {w : World} {q c : Nat} {s : QSt} (h : QRep w q c s) :
    ∃ cap, w.cell? ⟨q, 0, none⟩ = some (.slice (some ⟨c, 0, none⟩) s.cells.length cap) ∧ w.cell? ⟨q, 1, none⟩ = some (.int .i64 s.head) ∧ w.cell? ⟨q, 2, none⟩ = some (.int .i64 s.tail) ∧
    w.cell? ⟨q, 3, none⟩ = some (.int .i64 s.put) ∧ w.cell? ⟨q, 4, none⟩ = some (.int .i64 s.take) ∧ w.cell? ⟨q, 5, none⟩ = some (.int .i64 s.word) ∧ w.cell? ⟨q, 6, none⟩ = some (.int .i64 s.taken) ∧
    (∀ i, w.frozen? ⟨q, i, none⟩ = false) ∧ (∀ i, w.frozen? ⟨c, i, none⟩ = false) := by
  obtain ⟨⟨cap, hq⟩, ⟨xs, hc⟩, _⟩ := h
  exact ⟨cap, hq.cell 0 rfl, hq.cell 1 rfl, hq.cell 2 rfl, hq.cell 3 rfl, hq.cell 4 rfl, hq.cell 5 rfl, hq.cell 6 rfl, hq.free, hc.free⟩
theorem QRep.lt {w : World} {q c : Nat} {s : QSt} (h : QRep w q c s) : q < w.heap.size ∧ c < w.heap.size := by
  obtain ⟨⟨cap, hq⟩, ⟨xs, hc⟩, _⟩ := h
  exact ⟨hq.lt, hc.lt⟩
theorem QRep.at {w : World} {q c : Nat} {s : QSt} (h : QRep w q c s) (i : Nat) (hi : i < s.cells.length) : w.cell? ⟨c, i, none⟩ = some (.int .i64 (gI s.cells i)) :=
  h.hc.elim fun _ x => x.cell i (by simp [hi, gI, List.getElem?_append])

set_option maxHeartbeats 400000

theorem none_rep (w : World) (q c : Nat) (s : QSt) (h : QRep w q c s) (hk : s.ok) :
    Calls Try.prog 40 #[.pointer (some ⟨q, 0, none⟩)] w (Exact w (.bool false)) := by
  obtain ⟨cap, h0, h1, h2, h3, h4, h5, h6, hf, hg⟩ := h.facts
  have hk2 := hk.n2
  have hn := cast_ne0 hk2
  go_enter Try.func40, Try.ntmps40
  go_wp2
  go_ret
  exact ⟨rfl, rfl⟩

theorem none_nil (w : World) :
    Calls Try.prog 40 #[.pointer none] w (Exact w (.bool true)) := by
  go_enter Try.func40, Try.ntmps40
  go_wp2
  go_ret
  exact ⟨rfl, rfl⟩

theorem isWord_any (n : Int) (w : World) :
    Calls Try.prog 41 #[.int .i64 n] w (Exact w (.bool (isWordB n))) := by
  by_cases h1 : -2147483648 ≤ n
  · by_cases h2 : n ≤ 2147483647
    · go_enter Try.func41, Try.ntmps41
      go_wp2
      go_ret
      exact ⟨by simp [isWordB, h1, h2], rfl⟩
    · go_enter Try.func41, Try.ntmps41
      go_wp2
      go_ret
      exact ⟨by simp [isWordB, h1, h2], rfl⟩
  · go_enter Try.func41, Try.ntmps41
    go_wp2
    go_ret
    exact ⟨by simp [isWordB]; omega, rfl⟩

theorem behind_rep (w : World) (q c : Nat) (s : QSt) (h : QRep w q c s) (hk : s.ok) (i : Nat) (hi : i < s.cells.length) :
    Calls Try.prog 43 #[.pointer (some ⟨q, 0, none⟩), .int .i64 i] w (Exact w (.int .i64 ((s.nx i : Nat) : Int))) := by
  obtain ⟨cap, h0, h1, h2, h3, h4, h5, h6, hf, hg⟩ := h.facts
  have hk2 := hk.n2
  have hk9 := hk.n9
  have hn := cast_ne0 hk2
  go_enter Try.func43, Try.ntmps43
  go_wp2
  go_ret
  exact ⟨by rw [QSt.nx_cast]; rfl, rfl⟩

theorem begin_at (w : World) (q o : Nat) (v : Int) (h0 : w.cell? ⟨q, o, none⟩ = some (.int .i64 v)) (hf : w.frozen? ⟨q, o, none⟩ = false) (p : Value) :
    Calls Try.prog 42 #[p, .pointer (some ⟨q, o, none⟩)] w fun e w' =>
      (v = 0 ∧ e = .returned (.int .i64 0) ∧ w' = w.setCell ⟨q, o, none⟩ (.int .i64 1)) ∨ (v ≠ 0 ∧ e = .returned (.int .i64 13) ∧ w' = w) := by
  refine calls_abs fun R hR => ?_
  by_cases hz : v = 0
  · have HZ := Lib.hid hz
    have hz' : (v != 0) = false := by simpa using hz
    clear hz
    go_enter Try.func42, Try.ntmps42
    go_wp2
    exact hR.out _ _ (.inl ⟨HZ.out, rfl, rfl⟩)
  · have hz'' : (v != 0) = true := by simpa using hz
    go_enter Try.func42, Try.ntmps42
    go_wp2
    exact hR.out _ _ (.inr ⟨hz, rfl, rfl⟩)

theorem beginPut_rep (w : World) (q c : Nat) (s : QSt) (h : QRep w q c s) (hk : s.ok) (n : Int) :
    Calls Try.prog 14 #[.pointer (some ⟨q, 0, none⟩), .int .i64 n] w fun e w' =>
      e = .returned (.int .i64 (s.beginPut n).1) ∧ QRep w' q c (s.beginPut n).2 ∧ Only [q] w w' := by
  refine calls_abs fun R hR => ?_
  go_enter Try.func14, Try.ntmps14
  go_wp2_with fail
  refine (none_rep _ _ _ _ h hk).mono ?_
  rintro e _ ⟨rfl, rfl⟩
  go_wp2_with fail
  refine (isWord_any _ _).mono ?_
  rintro e _ ⟨rfl, rfl⟩
  cases hw : isWordB n
  · go_wp2_with fail
    refine hR.out _ _ ?_
    simp only [QSt.beginPut, hw]
    exact ⟨rfl, h, Only.refl _ _⟩
  · obtain ⟨_, _, _, _, h3, _, _, _, hf, _⟩ := h.facts
    go_wp2_with fail
    refine (begin_at _ _ _ _ h3 (hf 3) _).mono ?_
    rintro e w1 (⟨hz, rfl, rfl⟩ | ⟨hz, rfl, rfl⟩)
    · have h1 := h.setPut 1
      obtain ⟨_, _, _, _, _, _, h5, _, hf, _⟩ := h1.facts
      have HZ := Lib.hid hz
      clear hz h3
      go_wp2_with fail
      refine hR.out _ _ ?_
      have hz : s.put = 0 := by have := HZ.out; omega
      simp only [QSt.beginPut, hw, hz, if_true]
      exact ⟨rfl, h1.setWord n, ((Only.refl _ _).set (by simp) _).set (by simp) _⟩
    · go_wp2_with fail
      refine hR.out _ _ ?_
      have hz : ¬ s.put = 0 := by omega
      simp only [QSt.beginPut, hw, hz, if_true, if_false]
      exact ⟨rfl, h, Only.refl _ _⟩

theorem beginTake_rep (w : World) (q c : Nat) (s : QSt) (h : QRep w q c s) (hk : s.ok) :
    Calls Try.prog 16 #[.pointer (some ⟨q, 0, none⟩)] w fun e w' =>
      e = .returned (.int .i64 s.beginTake.1) ∧ QRep w' q c s.beginTake.2 ∧ Only [q] w w' := by
  refine calls_abs fun R hR => ?_
  go_enter Try.func16, Try.ntmps16
  go_wp2_with fail
  refine (none_rep _ _ _ _ h hk).mono ?_
  rintro e _ ⟨rfl, rfl⟩
  obtain ⟨_, _, _, _, _, h4, _, _, hf, _⟩ := h.facts
  go_wp2_with fail
  refine (begin_at _ _ _ _ h4 (hf 4) _).mono ?_
  rintro e w1 (⟨hz, rfl, rfl⟩ | ⟨hz, rfl, rfl⟩)
  · have HZ := Lib.hid hz
    clear hz
    go_wp2_with fail
    refine hR.out _ _ ?_
    have hz : s.take = 0 := by have := HZ.out; omega
    simp only [QSt.beginTake, hz, if_true]
    exact ⟨rfl, h.setTake 1, (Only.refl _ _).set (by simp) _⟩
  · go_wp2_with fail
    refine hR.out _ _ ?_
    have hz : ¬ s.take = 0 := by omega
    simp only [QSt.beginTake, hz, if_false]
    exact ⟨rfl, h, Only.refl _ _⟩

theorem stepPut_rep (w : World) (q c : Nat) (s : QSt) (h : QRep w q c s) (hk : s.ok) :
    Calls Try.prog 15 #[.pointer (some ⟨q, 0, none⟩)] w fun e w' =>
      e = .returned (.tuple #[.bool s.stepPut.1, .bool s.stepPut.2.1, .int .i64 s.stepPut.2.2.1]) ∧ QRep w' q c s.stepPut.2.2.2 ∧ Only [q, c] w w' := by
  refine calls_abs fun R hR => ?_
  obtain ⟨cap, h0, h1, h2, h3, h4, h5, h6, hf, hg⟩ := h.facts
  have hn := hk.n9
  have ht := hk.tl
  have hne := h.ne
  have hat := h.at s.tail ht
  have hcase : s.put = 0 ∨ s.put = 1 ∨ s.put = 2 ∨ s.put = 3 := by have := hk.pt; omega
  rcases hcase with hp | hp | hp | hp <;> (rw [hp] at h3; have HP := Lib.hid hp; clear hp)
  · go_enter Try.func15, Try.ntmps15
    go_wp2_with fail
    refine (none_rep _ _ _ _ h hk).mono ?_
    rintro e _ ⟨rfl, rfl⟩
    go_wp2_with fail
    go_ret3
    refine hR.out _ _ ?_
    simp only [QSt.stepPut, HP.out]
    exact ⟨rfl, h, Only.refl _ _⟩
  · cases hz : ((s.nx s.tail : Int) == (s.head : Int))
    · go_enter Try.func15, Try.ntmps15
      go_wp2_with fail
      refine (none_rep _ _ _ _ h hk).mono ?_
      rintro e _ ⟨rfl, rfl⟩
      go_wp2_with fail
      go_quiet ((go_at_call 43; exact quiet_exact (behind_rep _ _ _ _ (h.drewN _) hk _ ht)))
      go_wp2_with fail
      go_ret3
      refine hR.out _ _ ?_
      have hz' : ¬ s.nx s.tail = s.head := by intro e; rw [e] at hz; simp at hz
      simp only [QSt.stepPut, HP.out, hz']
      exact ⟨rfl, (h.drewN _).setPut 2, ((Only.refl _ _).drewN _).set (by simp) _⟩
    · go_enter Try.func15, Try.ntmps15
      go_wp2_with fail
      refine (none_rep _ _ _ _ h hk).mono ?_
      rintro e _ ⟨rfl, rfl⟩
      go_wp2_with fail
      go_quiet ((go_at_call 43; exact quiet_exact (behind_rep _ _ _ _ (h.drewN _) hk _ ht)))
      go_wp2_with fail
      go_ret3
      refine hR.out _ _ ?_
      have hz' : s.nx s.tail = s.head := Int.ofNat.inj (by simpa using hz)
      simp only [QSt.stepPut, HP.out, hz']
      exact ⟨rfl, (h.drewN _).setPut 0, ((Only.refl _ _).drewN _).set (by simp) _⟩
  · go_enter Try.func15, Try.ntmps15
    go_wp2_with fail
    refine (none_rep _ _ _ _ h hk).mono ?_
    rintro e _ ⟨rfl, rfl⟩
    go_wp2_with fail
    go_region
    go_wp2_with fail
    go_ret3
    refine hR.out _ _ ?_
    simp only [QSt.stepPut, HP.out]
    exact ⟨rfl, ((h.setAt _ _ ht).setPut 3).drew, (((Only.refl _ _).set (by simp) _).set (by simp) _).drew⟩
  · go_enter Try.func15, Try.ntmps15
    go_wp2_with fail
    refine (none_rep _ _ _ _ h hk).mono ?_
    rintro e _ ⟨rfl, rfl⟩
    go_wp2_with fail
    refine (behind_rep _ _ _ _ h hk _ ht).mono ?_
    rintro e _ ⟨rfl, rfl⟩
    go_wp2_with fail
    go_ret3
    refine hR.out _ _ ?_
    simp only [QSt.stepPut, HP.out]
    exact ⟨rfl, (h.setTail _).setPut 0, ((Only.refl _ _).set (by simp) _).set (by simp) _⟩

theorem stepTake_rep (w : World) (q c : Nat) (s : QSt) (h : QRep w q c s) (hk : s.ok) :
    Calls Try.prog 17 #[.pointer (some ⟨q, 0, none⟩)] w fun e w' =>
      e = .returned (.tuple #[.bool s.stepTake.1, .bool s.stepTake.2.1, .int .i64 s.stepTake.2.2.1, .int .i64 s.stepTake.2.2.2.1]) ∧ QRep w' q c s.stepTake.2.2.2.2 ∧ Only [q, c] w w' := by
  refine calls_abs fun R hR => ?_
  obtain ⟨cap, h0, h1, h2, h3, h4, h5, h6, hf, hg⟩ := h.facts
  have hn := hk.n9
  have ht := hk.hd
  have hne := h.ne
  have hat := h.at s.head ht
  have hcase : s.take = 0 ∨ s.take = 1 ∨ s.take = 2 ∨ s.take = 3 := by have := hk.tk; omega
  rcases hcase with hp | hp | hp | hp <;> (rw [hp] at h4; have HP := Lib.hid hp; clear hp)
  · go_enter Try.func17, Try.ntmps17
    go_wp2_with fail
    refine (none_rep _ _ _ _ h hk).mono ?_
    rintro e _ ⟨rfl, rfl⟩
    go_wp2_with fail
    refine bodyPost_ret (results_tmp4 rfl _ _ _) rfl ?_
    refine hR.out _ _ ?_
    simp only [QSt.stepTake, HP.out]
    exact ⟨rfl, h, Only.refl _ _⟩
  · cases hz : ((s.head : Int) == (s.tail : Int))
    · go_enter Try.func17, Try.ntmps17
      go_wp2_with fail
      refine (none_rep _ _ _ _ h hk).mono ?_
      rintro e _ ⟨rfl, rfl⟩
      go_wp2_with fail
      go_quiet (fail)
      go_wp2_with fail
      refine bodyPost_ret (results_tmp4 rfl _ _ _) rfl ?_
      refine hR.out _ _ ?_
      have hz' : ¬ s.head = s.tail := by intro e; rw [e] at hz; simp at hz
      simp only [QSt.stepTake, HP.out, hz']
      exact ⟨rfl, (h.drewN _).setTake 2, ((Only.refl _ _).drewN _).set (by simp) _⟩
    · go_enter Try.func17, Try.ntmps17
      go_wp2_with fail
      refine (none_rep _ _ _ _ h hk).mono ?_
      rintro e _ ⟨rfl, rfl⟩
      go_wp2_with fail
      go_quiet (fail)
      go_wp2_with fail
      refine bodyPost_ret (results_tmp4 rfl _ _ _) rfl ?_
      refine hR.out _ _ ?_
      have hz' : s.head = s.tail := Int.ofNat.inj (by simpa using hz)
      have e : s.stepTake = (true, false, 0, 0, { s with take := 0 }) := by unfold QSt.stepTake; rw [if_neg (by rw [HP.out]; omega), if_pos HP.out, if_pos hz']
      rw [e]
      exact ⟨rfl, (h.drewN _).setTake 0, ((Only.refl _ _).drewN _).set (by simp) _⟩
  · go_enter Try.func17, Try.ntmps17
    go_wp2_with fail
    refine (none_rep _ _ _ _ h hk).mono ?_
    rintro e _ ⟨rfl, rfl⟩
    go_wp2_with fail
    go_region
    go_wp2_with fail
    refine bodyPost_ret (results_tmp4 rfl _ _ _) rfl ?_
    refine hR.out _ _ ?_
    simp only [QSt.stepTake, HP.out]
    exact ⟨rfl, ((h.setTaken _).setTake 3).drew, (((Only.refl _ _).set (by simp) _).set (by simp) _).drew⟩
  · go_enter Try.func17, Try.ntmps17
    go_wp2_with fail
    refine (none_rep _ _ _ _ h hk).mono ?_
    rintro e _ ⟨rfl, rfl⟩
    go_wp2_with fail
    refine (behind_rep _ _ _ _ h hk _ ht).mono ?_
    rintro e _ ⟨rfl, rfl⟩
    go_wp2_with fail
    go_quiet (fail)
    go_wp2_with fail
    refine bodyPost_ret (results_tmp4 rfl _ _ _) rfl ?_
    refine hR.out _ _ ?_
    simp only [QSt.stepTake, HP.out]
    exact ⟨rfl, ((h.setHead _).setTake 0).drewN _, (((Only.refl _ _).set (by simp) _).set (by simp) _).drewN _⟩
end Go.Proofs.Ytemdkffkpdhciaa
