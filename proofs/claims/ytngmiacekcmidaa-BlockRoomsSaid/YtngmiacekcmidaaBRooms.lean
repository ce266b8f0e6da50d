/- The law BlockRooms, walked. -/
import Derived.Test.YtngmiacekcmidaaBStates
import Derived.Test.YtngmiacekcmidaaBPlain
namespace Go.Proofs.Ytngmiacekcmidaa
open Go.RowKit
set_option maxHeartbeats 6400000
set_option maxRecDepth 100000
set_option linter.unusedVariables false

theorem walk_BlockRooms (a0 : Int) (a1 : Option Addr) (len1 cap1 : Nat) (f1 : Nat → Nat → Int) (a2 : Int) (w : World) (w1 : Recs 3 w a1 len1 f1) :
    Calls Try.prog 5 #[.int .i64 a0, .slice a1 len1 cap1, .int .i64 a2] w fun e w' => e = .returned (.bool true) ∧ Below w.heap.size w w' := by
  refine calls_abs fun R hR => ?_
  rcases pages_cases a0 with hbad | ⟨n, rfl, hn1, hn24⟩
  · clear w1
    go_enter Try.func5, Try.ntmps5
    go_wp2_with fail
    refine (played_no w a0 hbad _).mono ?_
    rintro e _ ⟨rfl, rfl⟩
    go_wp2_with fail
    refine (sane_any _).mono ?_
    rintro e w4 ⟨rfl, o4⟩
    go_wp2_with fail
    exact hR.out _ _ ⟨rfl, o4.below (Nat.le_refl _) (by simp)⟩
  · go_enter Try.func5, Try.ntmps5
    go_wp2_with fail
    refine (played_yes w n hn1 hn24 a1 len1 cap1 f1 w1).mono ?_
    rintro e w2 ⟨p, b, q, k, c, l, P, rfl, hB, hPn, o2⟩
    have HB := Lib.hid hB
    have HO := Lib.hid o2
    have h24 : P.n ≤ 24 := hB.hp.n24
    clear hB o2 w1 hPn
    by_cases hcl : a2 < 0 ∨ 2 < a2
    · rcases hcl with h0 | h2
      · go_wp2_with fail
        refine (sane_any _).mono ?_
        rintro e w4 ⟨rfl, o4⟩
        go_wp2_with fail
        exact hR.out _ _ ⟨rfl, (HO.out.trans o4 (by simp)).below (Nat.le_refl _) (by simp)⟩
      · have h0 : ¬ a2 < 0 := by omega
        go_wp2_with fail
        refine (sane_any _).mono ?_
        rintro e w4 ⟨rfl, o4⟩
        go_wp2_with fail
        exact hR.out _ _ ⟨rfl, (HO.out.trans o4 (by simp)).below (Nat.le_refl _) (by simp)⟩
    · have h0 : ¬ a2 < 0 := by omega
      have h2 : ¬ 2 < a2 := by omega
      have hC : Hid (IsC a2) := by show a2 = 0 ∨ a2 = 1 ∨ a2 = 2; omega
      have hroom : P.room a2 = (((P.roomN a2 P.n : Nat) : Int), 0) := by unfold Pl.room; rw [if_neg hcl]
      have e1 := room_rep w2 p b P HB.out.hp a2
      rw [hroom] at e1
      have hle := Pl.room_le (P := P) hC.out h24
      obtain ⟨m, hm⟩ : ∃ m, m = P.roomN a2 P.n := ⟨_, rfl⟩
      have Hm := Lib.hid hm
      rw [← hm] at e1 hle
      clear hm hroom hcl
      have hgt : ¬ ((192 : Int) < (m : Int)) := by omega
      go_wp2_with fail
      refine e1.mono ?_
      rintro e w3 ⟨rfl, hd3⟩
      have HP3 : Hid (PRep w3 p b P) := (HB.out.only0 (hd3.only [])).hp
      have O3 := Lib.hid (HO.out.trans (hd3.only []) (by simp))
      have hge : Hid (w.heap.size ≤ b) := HB.out.ge.2.1
      clear hd3 e1 HB HO
      go_wp2_with fail
      go_loopw [11] (fun v wr => ∃ (i : Nat) (Q : Pl), v = .int .i64 i ∧ PRep wr p b Q ∧ i + Q.roomN a2 Q.n = m ∧ Only [] w wr) (fun v _ => m - (intOf v).toNat)
      case atStart => exact ⟨0, P, rfl, HP3.out, by rw [Hm.out]; omega, O3.out⟩
      case round =>
        clear HP3 O3 Hm
        obtain ⟨i, Q, rfl, hQ, hi, o⟩ := hrel
        have HQ := Lib.hid hQ
        have HO := Lib.hid o
        have HI := Lib.hid hi
        have e2 := alloc_rep wr p b Q hQ a2
        by_cases hlt : i < m
        · obtain ⟨z1, z2⟩ := Pl.room_alloc hQ.ok hC.out (by omega)
          have z3 := Pl.alloc_n hQ.ok a2
          rw [← z3] at z2
          rw [z1] at e2
          have Z := Lib.hid z2
          have Z3 := Lib.hid z3
          generalize (Q.alloc a2).1 = v1 at *
          generalize (Q.alloc a2).2.2 = Q2 at *
          clear z1 z2 z3 hQ hi o
          go_wp2_with fail
          refine e2.mono ?_
          rintro e w4 ⟨rfl, g4, o4⟩
          have HQ4 := Lib.hid g4
          have HO4 := Lib.hid (HO.out.trans o4 (fun x hx => .inr (by simp at hx; have := hge.out; omega)))
          clear g4 o4 e2
          go_wp2_with fail
          exact ⟨⟨i + 1, Q2, by go_num, HQ4.out, by have e3 := Z3.out; have z := Z.out; have hI := HI.out; rw [← e3] at hI; omega, HO4.out⟩, by simp [intOf]; omega⟩
        · have z1 := Pl.room_none hQ.ok hC.out (by omega)
          rw [z1] at e2
          generalize (Q.alloc a2).1 = v1 at *
          generalize (Q.alloc a2).2.2 = Q2 at *
          clear z1 hQ hi o
          go_wp2_with fail
          refine e2.mono ?_
          rintro e w4 ⟨rfl, g4, o4⟩
          have HO4 := Lib.hid (HO.out.trans o4 (fun x hx => .inr (by simp at hx; have := hge.out; omega)))
          clear g4 o4 e2
          go_wp2_with fail
          refine (sane_any _).mono ?_
          rintro e w5 ⟨rfl, o5⟩
          go_wp2_with fail
          exact hR.out _ _ ⟨rfl, (HO4.out.trans o5 (by simp)).below (Nat.le_refl _) (by simp)⟩
end Go.Proofs.Ytngmiacekcmidaa
