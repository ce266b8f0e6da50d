/- The reference's Put, Take and New; the two queues side by side; the law's own functions ints, word, do, alike, sane. -/
import Derived.Test.YtemdkffkpdhciaaQueueC
import Derived.Test.YtemdkffkpdhciaaRefQB
import Derived.Test.YtemdkffkpdhciaaQCpl
namespace Go.Proofs.Ytemdkffkpdhciaa
open Go.RowKit
set_option maxHeartbeats 400000

/-- The steps of a put that is under way, until it is over. -/
def RSt.loopPut : Nat → RSt → Bool × RSt
  | 0, s => (false, s)
  | k + 1, s => if s.stepPut.1 then (s.stepPut.2.1, s.stepPut.2.2.2) else RSt.loopPut k s.stepPut.2.2.2
def RSt.doPut (s : RSt) (n : Int) : Bool × Int × RSt :=
  if (s.beginPut n).1 = 0 then ((RSt.loopPut 3 (s.beginPut n).2).1, 0, (RSt.loopPut 3 (s.beginPut n).2).2) else (false, (s.beginPut n).1, (s.beginPut n).2)
def RSt.loopTake : Nat → RSt → Bool × Int × RSt
  | 0, s => (false, 0, s)
  | k + 1, s => if s.stepTake.1 then (s.stepTake.2.1, s.stepTake.2.2.1, s.stepTake.2.2.2.2) else RSt.loopTake k s.stepTake.2.2.2.2
def RSt.doTake (s : RSt) : Int × Bool × Int × RSt :=
  if s.beginTake.1 = 0 then ((RSt.loopTake 3 s.beginTake.2).2.1, (RSt.loopTake 3 s.beginTake.2).1, 0, (RSt.loopTake 3 s.beginTake.2).2.2) else (0, false, s.beginTake.1, s.beginTake.2)
theorem RSt.stepPut_moves {s : RSt} (h : s.ok) (h1 : 1 ≤ s.putS) (hd : s.stepPut.1 = false) : s.putS + 1 = s.stepPut.2.2.2.putS ∧ s.stepPut.2.2.2.putS ≤ 3 := by
  have := h.ps
  have hcase : s.putS = 1 ∨ s.putS = 2 ∨ s.putS = 3 := by omega
  rcases hcase with a1 | a1 | a1
  · by_cases a2 : s.over - s.taken = s.size
    · rw [RSt.stepPut_1a a1 a2] at hd; simp at hd
    · rw [RSt.stepPut_1b a1 a2]; simp [a1]
  · rw [RSt.stepPut_2 a1]; simp [a1]
  · rw [RSt.stepPut_3 a1] at hd; simp at hd
theorem RSt.stepTake_moves {s : RSt} (h : s.ok) (h1 : 1 ≤ s.takeS) (hd : s.stepTake.1 = false) : s.takeS + 1 = s.stepTake.2.2.2.2.takeS ∧ s.stepTake.2.2.2.2.takeS ≤ 3 := by
  have := h.ts
  have hcase : s.takeS = 1 ∨ s.takeS = 2 ∨ s.takeS = 3 := by omega
  rcases hcase with a1 | a1 | a1
  · by_cases a2 : s.over = s.taken
    · rw [RSt.stepTake_1a a1 a2] at hd; simp at hd
    · rw [RSt.stepTake_1b a1 a2]; simp [a1]
  · rw [RSt.stepTake_2 a1]; simp [a1]
  · rw [RSt.stepTake_3 a1] at hd; simp at hd

theorem Cpl.loopPut : ∀ (k : Nat) {s : QSt} {t : RSt}, Cpl s t → (RSt.loopPut k t).1 = (QSt.loopPut k s).1 ∧ Cpl (QSt.loopPut k s).2 (RSt.loopPut k t).2
  | 0, _, _, h => ⟨rfl, h⟩
  | k + 1, s, t, h => by
    obtain ⟨h1, h2, h3, h4⟩ := h.stepPut
    unfold RSt.loopPut QSt.loopPut
    rw [h1]
    cases s.stepPut.1
    · exact Cpl.loopPut k h4
    · exact ⟨h2, h4⟩
theorem Cpl.loopTake : ∀ (k : Nat) {s : QSt} {t : RSt}, Cpl s t → (RSt.loopTake k t).1 = (QSt.loopTake k s).1 ∧ (RSt.loopTake k t).2.1 = (QSt.loopTake k s).2.1 ∧ Cpl (QSt.loopTake k s).2.2 (RSt.loopTake k t).2.2
  | 0, _, _, h => ⟨rfl, rfl, h⟩
  | k + 1, s, t, h => by
    obtain ⟨h1, h2, h3, h4, h5⟩ := h.stepTake
    unfold RSt.loopTake QSt.loopTake
    rw [h1]
    cases s.stepTake.1
    · exact Cpl.loopTake k h5
    · exact ⟨h2, h3, h5⟩
theorem Cpl.doPut {s : QSt} {t : RSt} (h : Cpl s t) (n : Int) : (t.doPut n).1 = (s.doPut n).1 ∧ (t.doPut n).2.1 = (s.doPut n).2.1 ∧ Cpl (s.doPut n).2.2 (t.doPut n).2.2 := by
  obtain ⟨h1, h2⟩ := h.beginPut n
  obtain ⟨h3, h4⟩ := h2.loopPut 3
  unfold RSt.doPut QSt.doPut
  rw [h1]
  split
  · exact ⟨h3, rfl, h4⟩
  · exact ⟨rfl, rfl, h2⟩
theorem Cpl.doTake {s : QSt} {t : RSt} (h : Cpl s t) : t.doTake.1 = s.doTake.1 ∧ t.doTake.2.1 = s.doTake.2.1 ∧ t.doTake.2.2.1 = s.doTake.2.2.1 ∧ Cpl s.doTake.2.2.2 t.doTake.2.2.2 := by
  obtain ⟨h1, h2⟩ := h.beginTake
  obtain ⟨h3, h4, h5⟩ := h2.loopTake 3
  unfold RSt.doTake QSt.doTake
  rw [h1]
  split
  · exact ⟨h4, h3, rfl, h5⟩
  · exact ⟨rfl, rfl, rfl, h2⟩
theorem RSt.loopPut_len : ∀ (k : Nat) {t : RSt}, t.ok → (RSt.loopPut k t).2.words.length ≤ t.words.length
  | 0, _, _ => Nat.le_refl _
  | k + 1, t, h => by
    have h1 := h.stepPut
    unfold RSt.loopPut
    split
    · exact h1.2.2
    · exact Nat.le_trans (RSt.loopPut_len k h1.1) h1.2.2
theorem RSt.loopTake_len : ∀ (k : Nat) {t : RSt}, t.ok → (RSt.loopTake k t).2.2.words.length ≤ t.words.length
  | 0, _, _ => Nat.le_refl _
  | k + 1, t, h => by
    have h1 := h.stepTake
    unfold RSt.loopTake
    split
    · rw [h1.2.2]; exact Nat.le_refl _
    · exact Nat.le_trans (RSt.loopTake_len k h1.1) (by rw [h1.2.2]; exact Nat.le_refl _)
theorem RSt.doPut_len {t : RSt} (h : t.ok) (n : Int) : (t.doPut n).2.2.words.length ≤ t.words.length + 1 := by
  have h1 := h.beginPut n
  unfold RSt.doPut
  split
  · exact Nat.le_trans (RSt.loopPut_len 3 h1.1) h1.2.2
  · exact h1.2.2
theorem RSt.doTake_len {t : RSt} (h : t.ok) : t.doTake.2.2.2.words.length ≤ t.words.length := by
  have h1 := h.beginTake
  unfold RSt.doTake
  split
  · exact Nat.le_trans (RSt.loopTake_len 3 h1.1) (by rw [h1.2.2]; exact Nat.le_refl _)
  · rw [h1.2.2]; exact Nat.le_refl _

theorem refPut_rep (w : World) (p : Nat) (F : List Nat) (s : RSt) (h : RRep w p F s) (hk : s.ok) (hb : s.words.length < 549755813888) (n : Int) :
    Calls Try.prog 48 #[.pointer (some ⟨p, 0, none⟩), .int .i64 n] w fun e w' =>
      ∃ F', e = .returned (.tuple #[.bool (s.doPut n).1, .int .i64 (s.doPut n).2.1]) ∧ RRep w' p F' (s.doPut n).2.2 ∧ Only F w w' ∧ Within w F F' := by
  refine calls_abs fun R hR => ?_
  go_enter Try.func48, Try.ntmps48
  go_wp2_with fail
  refine (refBeginPut_rep _ _ _ _ h (by omega) n).mono ?_
  rintro e w1 ⟨F1, rfl, h1, ho, hin⟩
  have hbk := hk.beginPut n
  cases hz : ((s.beginPut n).1 != 0)
  · have HZ : Hid ((s.beginPut n).1 = 0) := by simpa [Hid] using hz
    have hk1 := hbk.1
    have hl1 : Hid ((s.beginPut n).2.words.length ≤ s.words.length + 1) := hbk.2.2
    have hp1 : Hid ((s.beginPut n).2.putS = 1) := by
      have := HZ.out
      unfold RSt.beginPut at this ⊢
      unfold Hid
      (repeat' split) <;> simp_all
    clear hbk
    generalize hs1 : (s.beginPut n).2 = s1 at *
    have HS := Lib.hid hs1
    clear hs1
    go_wp2_with fail
    go_loopw [7, 8, 9] (fun _ _ _ wr => ∃ s2, RRep wr p F1 s2 ∧ s2.ok ∧ s2.words.length < 1099511627776 ∧ 1 ≤ s2.putS ∧ Hid (RSt.loopPut (4 - s2.putS) s2 = RSt.loopPut 3 s1) ∧ Only F w wr) (fun _ _ _ wr => 4 - numAt wr p 4)
    case atStart => exact ⟨s1, h1, hk1, by have := hl1.out; omega, by rw [hp1.out]; omega, by rw [hp1.out]; rfl, ho⟩
    case round =>
      obtain ⟨s2, h2, hk2, hb2, hp2, hl2, ho2⟩ := hrel
      have hl3 : Hid (RSt.loopPut 3 s1 = if s2.stepPut.1 then (s2.stepPut.2.1, s2.stepPut.2.2.2) else RSt.loopPut (3 - s2.putS) s2.stepPut.2.2.2) := by
        have h3 := hk2.ps
        have := hl2.out
        rw [show 4 - s2.putS = (3 - s2.putS) + 1 by omega] at this
        exact this.symm
      go_wp2_with fail
      refine (refStepPut_rep _ _ _ _ h2 hk2 hb2).mono ?_
      rintro e w3 ⟨rfl, h3, ho3⟩
      have ho4 := ho2.trans ho3 hin
      have hks := hk2.stepPut
      cases hd : s2.stepPut.1
      · go_wp2_with fail
        have hm := RSt.stepPut_moves hk2 hp2 hd
        refine ⟨⟨s2.stepPut.2.2.2, h3, hks.1, by omega, by omega, ?_, ho4⟩, ?_⟩
        · have := hl3.out
          rw [hd] at this
          rw [show 4 - s2.stepPut.2.2.2.putS = 3 - s2.putS by omega]
          exact this.symm
        · obtain ⟨_, _, _, _, _, _, _, _, e3, _⟩ := h3.facts
          obtain ⟨_, _, _, _, _, _, _, _, e2, _⟩ := h2.facts
          rw [numAt_of e3, numAt_of e2]
          omega
      · go_wp2_with fail
        have e1 : s.doPut n = (s2.stepPut.2.1, 0, s2.stepPut.2.2.2) := by
          unfold RSt.doPut
          rw [if_pos HZ.out, HS.out, hl3.out, hd]
          rfl
        refine hR.out _ _ ⟨F1, ?_⟩
        rw [e1]
        exact ⟨rfl, h3, ho4, hin⟩
  · go_wp2_with fail
    have e1 : s.doPut n = (false, (s.beginPut n).1, (s.beginPut n).2) := by
      unfold RSt.doPut
      rw [if_neg (by simpa using hz)]
    refine hR.out _ _ ⟨F1, ?_⟩
    rw [e1]
    exact ⟨rfl, h1, ho, hin⟩

theorem refTake_rep (w : World) (p : Nat) (F : List Nat) (s : RSt) (h : RRep w p F s) (hk : s.ok) (hb : s.words.length < 549755813888) :
    Calls Try.prog 49 #[.pointer (some ⟨p, 0, none⟩)] w fun e w' =>
      e = .returned (.tuple #[.int .i64 s.doTake.1, .bool s.doTake.2.1, .int .i64 s.doTake.2.2.1]) ∧ RRep w' p F s.doTake.2.2.2 ∧ Only F w w' := by
  refine calls_abs fun R hR => ?_
  go_enter Try.func49, Try.ntmps49
  go_wp2_with fail
  refine (refBeginTake_rep _ _ _ _ h).mono ?_
  rintro e w1 ⟨rfl, h1, ho⟩
  have hbk := hk.beginTake
  cases hz : (s.beginTake.1 != 0)
  · have HZ : Hid (s.beginTake.1 = 0) := by simpa [Hid] using hz
    have hk1 := hbk.1
    have hl1 : Hid (s.beginTake.2.words.length ≤ s.words.length) := by rw [hbk.2.2]; exact Nat.le_refl _
    have hp1 : Hid (s.beginTake.2.takeS = 1) := by
      have := HZ.out
      unfold RSt.beginTake at this ⊢
      unfold Hid
      (repeat' split) <;> simp_all
    clear hbk
    generalize hs1 : s.beginTake.2 = s1 at *
    have HS := Lib.hid hs1
    clear hs1
    go_wp2_with fail
    go_loopw [7, 8, 9] (fun _ _ _ wr => ∃ s2, RRep wr p F s2 ∧ s2.ok ∧ s2.words.length < 1099511627776 ∧ 1 ≤ s2.takeS ∧ Hid (RSt.loopTake (4 - s2.takeS) s2 = RSt.loopTake 3 s1) ∧ Only F w wr) (fun _ _ _ wr => 4 - numAt wr p 5)
    case atStart => exact ⟨s1, h1, hk1, by have := hl1.out; omega, by rw [hp1.out]; omega, by rw [hp1.out]; rfl, ho⟩
    case round =>
      obtain ⟨s2, h2, hk2, hb2, hp2, hl2, ho2⟩ := hrel
      have hl3 : Hid (RSt.loopTake 3 s1 = if s2.stepTake.1 then (s2.stepTake.2.1, s2.stepTake.2.2.1, s2.stepTake.2.2.2.2) else RSt.loopTake (3 - s2.takeS) s2.stepTake.2.2.2.2) := by
        have h3 := hk2.ts
        have := hl2.out
        rw [show 4 - s2.takeS = (3 - s2.takeS) + 1 by omega] at this
        exact this.symm
      go_wp2_with fail
      refine (refStepTake_rep _ _ _ _ h2 hk2 hb2).mono ?_
      rintro e w3 ⟨rfl, h3, ho3⟩
      have ho4 := ho2.trans ho3 (fun x hx => .inl hx)
      have hks := hk2.stepTake
      have hkl : s2.stepTake.2.2.2.2.words.length ≤ s2.words.length := by rw [hks.2.2]; exact Nat.le_refl _
      have hk3 := hks.1
      clear hks
      cases hd : s2.stepTake.1
      · go_wp2_with fail
        have hm := RSt.stepTake_moves hk2 hp2 hd
        refine ⟨⟨s2.stepTake.2.2.2.2, h3, hk3, by omega, by omega, ?_, ho4⟩, ?_⟩
        · have := hl3.out
          rw [hd] at this
          rw [show 4 - s2.stepTake.2.2.2.2.takeS = 3 - s2.takeS by omega]
          exact this.symm
        · obtain ⟨_, _, _, _, _, _, _, _, _, e3, _⟩ := h3.facts
          obtain ⟨_, _, _, _, _, _, _, _, _, e2, _⟩ := h2.facts
          rw [numAt_of e3, numAt_of e2]
          omega
      · go_wp2_with fail
        try go_ret3
        have e1 : s.doTake = (s2.stepTake.2.2.1, s2.stepTake.2.1, 0, s2.stepTake.2.2.2.2) := by
          unfold RSt.doTake
          rw [if_pos HZ.out, HS.out, hl3.out, hd]
          rfl
        refine hR.out _ _ ?_
        rw [e1]
        exact ⟨rfl, h3, ho4⟩
  · go_wp2_with fail
    try go_ret3
    have e1 : s.doTake = (0, false, s.beginTake.1, s.beginTake.2) := by
      unfold RSt.doTake
      rw [if_neg (by simpa using hz)]
    refine hR.out _ _ ?_
    rw [e1]
    exact ⟨rfl, h1, ho⟩

theorem refNew_no (w : World) (n : Int) (hn : n < 1 ∨ 8 < n) :
    Calls Try.prog 11 #[.int .i64 n] w (Exact w (.tuple #[.pointer none, .int .i64 1])) := by
  refine calls_abs fun R hR => ?_
  rcases hn with hn | hn
  · go_enter Try.func11, Try.ntmps11
    go_wp2_with fail
    exact hR.out _ _ ⟨rfl, rfl⟩
  · have : 1 ≤ n := by omega
    go_enter Try.func11, Try.ntmps11
    go_wp2_with fail
    exact hR.out _ _ ⟨rfl, rfl⟩
def RSt.new (n : Nat) : RSt := { size := n, over := 0, taken := 0, words := [], putS := 0, takeS := 0 }
theorem refNew_yes (w : World) (n : Nat) (h1 : 1 ≤ n) (h2 : n ≤ 8) :
    Calls Try.prog 11 #[.int .i64 n] w fun e w' => ∃ p F, e = .returned (.tuple #[.pointer (some ⟨p, 0, none⟩), .int .i64 0]) ∧ RRep w' p F (RSt.new n) ∧ Only [] w w' ∧ (∀ x ∈ F, w.heap.size ≤ x) := by
  refine calls_abs fun R hR => ?_
  go_enter Try.func11, Try.ntmps11
  go_wp2_with fail
  refine hR.out _ _ ⟨w.heap.size, [w.heap.size], rfl, ⟨.slice none 0 0, Row.new w 74 ((RSt.new n).row (.slice none 0 0)), Ints.nil _ _, by simp [Value.ownBlock], rfl⟩, (Only.refl _ _).alloc _, by simp⟩
end Go.Proofs.Ytemdkffkpdhciaa
