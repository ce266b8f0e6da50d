/- Contracts of package queue's functions, more: loops, copies. -/
import Derived.Test.YtemdkffkpdhciaaQueue
namespace Go.Proofs.Ytemdkffkpdhciaa
open Go.RowKit
set_option maxHeartbeats 400000

theorem doPut_rep (w : World) (q c : Nat) (s : QSt) (h : QRep w q c s) (hk : s.ok) (n : Int) :
    Calls Try.prog 24 #[.pointer (some ⟨q, 0, none⟩), .int .i64 n] w fun e w' =>
      e = .returned (.tuple #[.bool (s.doPut n).1, .int .i64 (s.doPut n).2.1]) ∧ QRep w' q c (s.doPut n).2.2 ∧ Only [q, c] w w' := by
  refine calls_abs fun R hR => ?_
  go_enter Try.func24, Try.ntmps24
  go_wp2_with fail
  refine (beginPut_rep _ _ _ _ h hk n).mono ?_
  rintro e w1 ⟨rfl, h1, ho⟩
  cases hz : ((s.beginPut n).1 != 0)
  · have HZ : Hid ((s.beginPut n).1 = 0) := by simpa [Hid] using hz
    have hk1 := (hk.beginPut n).1
    have hp1 : Hid ((s.beginPut n).2.put = 1) := by
      have := HZ.out
      unfold QSt.beginPut at this ⊢
      unfold Hid
      (repeat' split) <;> simp_all
    generalize hs1 : (s.beginPut n).2 = s1 at *
    have HS := Lib.hid hs1
    clear hs1
    go_wp2_with fail
    go_loopw [7, 8, 9] (fun _ _ _ wr => ∃ s2, QRep wr q c s2 ∧ s2.ok ∧ 1 ≤ s2.put ∧ Hid (QSt.loopPut (4 - s2.put) s2 = QSt.loopPut 3 s1) ∧ Only [q, c] w wr) (fun _ _ _ wr => 4 - numAt wr q 3)
    case atStart => exact ⟨s1, h1, hk1, by rw [hp1.out]; omega, by rw [hp1.out]; rfl, ho.mono (by simp)⟩
    case round =>
      obtain ⟨s2, h2, hk2, hp2, hl2, ho2⟩ := hrel
      have hl3 : Hid (QSt.loopPut 3 s1 = if s2.stepPut.1 then (s2.stepPut.2.1, s2.stepPut.2.2.2) else QSt.loopPut (3 - s2.put) s2.stepPut.2.2.2) := by
        have h3 := hk2.pt
        have := hl2.out
        rw [show 4 - s2.put = (3 - s2.put) + 1 by omega] at this
        exact this.symm
      go_wp2_with fail
      refine (stepPut_rep _ _ _ _ h2 hk2).mono ?_
      rintro e w3 ⟨rfl, h3, ho3⟩
      have ho4 := ho2.trans ho3 (by simp)
      cases hd : s2.stepPut.1
      · go_wp2_with fail
        have hm := QSt.stepPut_moves hk2 hp2 hd
        refine ⟨⟨s2.stepPut.2.2.2, h3, hk2.stepPut.1, by omega, ?_, ho4⟩, ?_⟩
        · have := hl3.out
          rw [hd] at this
          rw [show 4 - s2.stepPut.2.2.2.put = 3 - s2.put by omega]
          exact this.symm
        · rw [numAt_of h3.facts.choose_spec.2.2.2.1, numAt_of h2.facts.choose_spec.2.2.2.1]
          omega
      · go_wp2_with fail
        refine hR.out _ _ ?_
        have e1 : s.doPut n = (s2.stepPut.2.1, 0, s2.stepPut.2.2.2) := by
          unfold QSt.doPut
          rw [if_pos HZ.out, HS.out, hl3.out, hd]
          rfl
        rw [e1]
        exact ⟨rfl, h3, ho4⟩
  · go_wp2_with fail
    refine hR.out _ _ ?_
    have e1 : s.doPut n = (false, (s.beginPut n).1, (s.beginPut n).2) := by
      unfold QSt.doPut
      rw [if_neg (by simpa using hz)]
    rw [e1]
    exact ⟨rfl, h1, ho.mono (by simp)⟩

theorem doTake_rep (w : World) (q c : Nat) (s : QSt) (h : QRep w q c s) (hk : s.ok) :
    Calls Try.prog 25 #[.pointer (some ⟨q, 0, none⟩)] w fun e w' =>
      e = .returned (.tuple #[.int .i64 s.doTake.1, .bool s.doTake.2.1, .int .i64 s.doTake.2.2.1]) ∧ QRep w' q c s.doTake.2.2.2 ∧ Only [q, c] w w' := by
  refine calls_abs fun R hR => ?_
  go_enter Try.func25, Try.ntmps25
  go_wp2_with fail
  refine (beginTake_rep _ _ _ _ h hk).mono ?_
  rintro e w1 ⟨rfl, h1, ho⟩
  cases hz : (s.beginTake.1 != 0)
  · have HZ : Hid (s.beginTake.1 = 0) := by simpa [Hid] using hz
    have hk1 := hk.beginTake.1
    have hp1 : Hid (s.beginTake.2.take = 1) := by
      have := HZ.out
      unfold QSt.beginTake at this ⊢
      unfold Hid
      (repeat' split) <;> simp_all
    generalize hs1 : s.beginTake.2 = s1 at *
    have HS := Lib.hid hs1
    clear hs1
    go_wp2_with fail
    go_loopw [7, 8, 9] (fun _ _ _ wr => ∃ s2, QRep wr q c s2 ∧ s2.ok ∧ 1 ≤ s2.take ∧ Hid (QSt.loopTake (4 - s2.take) s2 = QSt.loopTake 3 s1) ∧ Only [q, c] w wr) (fun _ _ _ wr => 4 - numAt wr q 4)
    case atStart => exact ⟨s1, h1, hk1, by rw [hp1.out]; omega, by rw [hp1.out]; rfl, ho.mono (by simp)⟩
    case round =>
      obtain ⟨s2, h2, hk2, hp2, hl2, ho2⟩ := hrel
      have hl3 : Hid (QSt.loopTake 3 s1 = if s2.stepTake.1 then (s2.stepTake.2.1, s2.stepTake.2.2.1, s2.stepTake.2.2.2.2) else QSt.loopTake (3 - s2.take) s2.stepTake.2.2.2.2) := by
        have h3 := hk2.tk
        have := hl2.out
        rw [show 4 - s2.take = (3 - s2.take) + 1 by omega] at this
        exact this.symm
      go_wp2_with fail
      refine (stepTake_rep _ _ _ _ h2 hk2).mono ?_
      rintro e w3 ⟨rfl, h3, ho3⟩
      have ho4 := ho2.trans ho3 (by simp)
      cases hd : s2.stepTake.1
      · go_wp2_with fail
        have hm := QSt.stepTake_moves hk2 hp2 hd
        refine ⟨⟨s2.stepTake.2.2.2.2, h3, hk2.stepTake.1, by omega, ?_, ho4⟩, ?_⟩
        · have := hl3.out
          rw [hd] at this
          rw [show 4 - s2.stepTake.2.2.2.2.take = 3 - s2.take by omega]
          exact this.symm
        · rw [numAt_of h3.facts.choose_spec.2.2.2.2.1, numAt_of h2.facts.choose_spec.2.2.2.2.1]
          omega
      · go_wp2_with fail
        try go_ret3
        refine hR.out _ _ ?_
        have e1 : s.doTake = (s2.stepTake.2.2.1, s2.stepTake.2.1, 0, s2.stepTake.2.2.2.2) := by
          unfold QSt.doTake
          rw [if_pos HZ.out, HS.out, hl3.out, hd]
          rfl
        rw [e1]
        exact ⟨rfl, h3, ho4⟩
  · go_wp2_with fail
    try go_ret3
    refine hR.out _ _ ?_
    have e1 : s.doTake = (0, false, s.beginTake.1, s.beginTake.2) := by
      unfold QSt.doTake
      rw [if_neg (by simpa using hz)]
    rw [e1]
    exact ⟨rfl, h1, ho.mono (by simp)⟩
end Go.Proofs.Ytemdkffkpdhciaa
