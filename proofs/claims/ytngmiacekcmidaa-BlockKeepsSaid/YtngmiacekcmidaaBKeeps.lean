/- The law BlockKeeps, walked. -/
import Derived.Test.YtngmiacekcmidaaBStates
import Derived.Test.YtngmiacekcmidaaBPlainF
namespace Go.Proofs.Ytngmiacekcmidaa
open Go.RowKit
set_option maxHeartbeats 12800000
set_option maxRecDepth 100000
set_option linter.unusedVariables false

theorem walk_BlockKeeps (a0 : Int) (a1 : Option Addr) (len1 cap1 : Nat) (f1 : Nat → Nat → Int) (a2 a3 : Int) (a4 : Option Addr) (len4 cap4 : Nat) (f4 : Nat → Nat → Int) (w : World) (w1 : Recs 3 w a1 len1 f1) (w4 : Recs 3 w a4 len4 f4) :
    Calls Try.prog 3 #[.int .i64 a0, .slice a1 len1 cap1, .int .i64 a2, .int .i64 a3, .slice a4 len4 cap4] w fun e w' => e = .returned (.bool true) ∧ Below w.heap.size w w' := by
  refine calls_abs fun R hR => ?_
  rcases pages_cases a0 with hbad | ⟨n, rfl, hn1, hn24⟩
  · clear w1 w4
    go_enter Try.func3, Try.ntmps3
    go_wp2_with fail
    refine (played_no w a0 hbad _).mono ?_
    rintro e _ ⟨rfl, rfl⟩
    go_wp2_with fail
    refine (sane_any _).mono ?_
    rintro e w4 ⟨rfl, o4⟩
    go_wp2_with fail
    exact hR.out _ _ ⟨rfl, o4.below (Nat.le_refl _) (by simp)⟩
  · have HW4 : Hid (Recs 3 w a4 len4 f4) := w4
    clear w4
    go_enter Try.func3, Try.ntmps3
    go_wp2_with fail
    refine (played_yes w n hn1 hn24 a1 len1 cap1 f1 w1).mono ?_
    rintro e w2 ⟨p, b, q, k, c, l, P, rfl, hB, hPn, o2⟩
    have HB := Lib.hid hB
    have HO := Lib.hid o2
    have h24 : P.n ≤ 24 := hB.hp.n24
    clear hB o2 w1 hPn
    by_cases hcl : a2 < 0 ∨ 2 < a2
    · rcases hcl with h0 | h2
      · go_wp2_with fail
        refine (sane_any _).mono ?_
        rintro e w4 ⟨rfl, o4⟩
        go_wp2_with fail
        exact hR.out _ _ ⟨rfl, (HO.out.trans o4 (by simp)).below (Nat.le_refl _) (by simp)⟩
      · have h0 : ¬ a2 < 0 := by omega
        go_wp2_with fail
        refine (sane_any _).mono ?_
        rintro e w4 ⟨rfl, o4⟩
        go_wp2_with fail
        exact hR.out _ _ ⟨rfl, (HO.out.trans o4 (by simp)).below (Nat.le_refl _) (by simp)⟩
    · have h0 : ¬ a2 < 0 := by omega
      have h2 : ¬ 2 < a2 := by omega
      have hC : Hid (IsC a2) := by show a2 = 0 ∨ a2 = 1 ∨ a2 = 2; omega
      have hge : Hid (w.heap.size ≤ b) := HB.out.ge.2.1
      clear hcl
      have e1 := alloc_rep w2 p b P HB.out.hp a2
      have e2 : Hid (∀ wx, RRep wx q k c l P → Calls Try.prog 15 #[.pointer (some ⟨q, 0, none⟩), .int .i64 a2] wx fun e w' => e = .returned (.tuple #[.int .i64 (P.alloc a2).1, .int .i64 (P.alloc a2).2.1]) ∧ RRep w' q k c l (P.alloc a2).2.2 ∧ Only [k, c, l] wx w') := fun wx hw => ralloc_rep wx q k c l P hw HB.out.hp.ok a2
      by_cases he : (P.alloc a2).2.1 = 0
      · obtain ⟨i, kb, hat, hH⟩ := Pl.alloc_holds HB.out.hp.ok hC.out he
        obtain ⟨z, hz⟩ : ∃ z, z = bsz a2 := ⟨_, rfl⟩
        have ec := Lib.hid (fun wx => cut_of wx a2 hC.out)
        have hz8 : 2 ≤ z ∧ z ≤ 8 := by have := hC.out.sz; omega
        obtain ⟨A, hA⟩ : ∃ A, A = 16 * i + kb * bsz a2 := ⟨_, rfl⟩
        obtain ⟨N, hN⟩ : ∃ N, N = a3.tmod 1000000 := ⟨_, rfl⟩
        have hNb : -1000000 < N ∧ N < 1000000 := by
          rw [hN]
          exact ⟨Int.lt_tmod_of_pos a3 (by decide), Int.tmod_lt_of_pos a3 (by decide)⟩
        rw [he, hat, ← hA] at e1
        have HA := Lib.hid hA
        have HZ := Lib.hid hz
        have HN := Lib.hid hN
        have HH := Lib.hid hH
        generalize (P.alloc a2).2.2 = Q0 at *
        clear e2 he hat hH hA hz hN
        go_wp2_with fail
        refine e1.mono ?_
        rintro e w3 ⟨rfl, g3, o3⟩
        have HO3 := Lib.hid (HO.out.trans o3 (fun x hx => .inr (by simp at hx; have := hge.out; omega)))
        have HP3 := Lib.hid g3
        clear g3 o3 e1 HO HB
        go_wp2_with fail
        refine (ec.out _).mono ?_
        rintro e _ ⟨rfl, rfl⟩
        rw [← HZ.out]
        go_wp2_with fail
        go_loopw [18] (fun v wr => ∃ (x : Nat) (Q : Pl) (vv : Nat → Int), v = .int .i64 x ∧ x ≤ z ∧ PRep wr p b Q ∧ Q.Holds a2 i kb vv ∧ (∀ y, y < x → vv y = N + (y : Int)) ∧ Only [] w wr) (fun v _ => z - (intOf v).toNat)
        case atStart => exact ⟨0, Q0, _, rfl, by omega, HP3.out, HH.out, fun y hy => by omega, HO3.out⟩
        case round =>
          clear HP3 HO3 HH
          obtain ⟨x, Q, vv, rfl, hx, hq, hh, hv, ho⟩ := hrel
          have HQ := Lib.hid hq
          have HH := Lib.hid hh
          have HVV := Lib.hid hv
          have HO := Lib.hid ho
          clear hq hh hv ho
          by_cases hlt : x < z
          · obtain ⟨p1, p2⟩ := HH.out.put hC.out (x := x) (by rw [← HZ.out]; exact hlt) (N + (x : Int))
            have hA9 : A < 384 := by
              have := HH.out.hi; have h1 := hC.out.blk HH.out.kb; have := HQ.out.n24; rw [HA.out]; have := hC.out.sz; omega
            rw [← HA.out] at p1 p2
            have e1 := setCell_rep wr p b Q HQ.out ((A + x : Nat) : Int) (N + (x : Int))
            rw [p1] at e1
            rw [Int.natCast_add] at e1
            have HQ2 : Hid ((Q.setCell ((A : Int) + (x : Int)) (N + (x : Int))).2.Holds a2 i kb (up vv x (N + (x : Int)))) := by rw [Int.natCast_add] at p2; exact p2
            generalize (Q.setCell ((A : Int) + (x : Int)) (N + (x : Int))).2 = Q2 at *
            clear p1 p2
            have hN9 : a3.tmod 1000000 = N := HN.out.symm
            go_wp2_with fail
            refine e1.mono ?_
            rintro e w5 ⟨rfl, g5, o5⟩
            have HO5 := Lib.hid (HO.out.trans o5 (fun x hx => .inr (by simp at hx; have := hge.out; omega)))
            have HP5 := Lib.hid g5
            clear g5 o5 e1
            go_wp2_with fail
            exact ⟨⟨x + 1, Q2, _, by go_num, by omega, HP5.out, HQ2.out, fun y hy => by
              by_cases hyx : y = x
              · subst hyx; exact up_same _ _ _
              · rw [up_other _ _ hyx]; exact HVV.out y (by omega), HO5.out⟩, by simp [intOf]; omega⟩
          · have hK0 : Hid (Kept Q a2 N A) := Kept.of HH.out HA.out (fun x hx => HVV.out x (by have := HZ.out; omega))
            clear HVV HH
            go_wp2_with fail
            go_loopw [13, 19, 21, 22, 23] (fun v13 v19 _ _ _ wr => ∃ (x A : Nat) (Q : Pl), v19 = .int .i64 x ∧ v13 = .int .i64 A ∧ x ≤ 200 ∧ x ≤ len4 ∧ PRep wr p b Q ∧ Kept Q a2 N A ∧ Only [] w wr) (fun _ v _ _ _ _ => 200 - (intOf v).toNat)
            case atStart => exact ⟨0, A, Q, rfl, rfl, by omega, by omega, HQ.out, hK0.out, HO.out⟩
            case round =>
              clear hK0 HQ HO HA
              obtain ⟨x, A, Q, rfl, rfl, hx2, hxl, hq, hk, ho⟩ := hrel
              have HQ := Lib.hid hq
              have HK := Lib.hid hk
              have HO := Lib.hid ho
              have hA9 : A < 384 := HK.out.lt hC.out HQ.out.n24
              clear hq hk
              by_cases hlt : x < len4
              · by_cases hlt2 : x < 200
                · rcases HW4.out.2 with h0 | ⟨bb, oo, rfl, hc⟩
                  · omega
                  have c0 := ho.cell (hc x hlt 0 (by omega)).1 (by simp)
                  have c1 := ho.cell (hc x hlt 1 (by omega)).1 (by simp)
                  have c2 := ho.cell (hc x hlt 2 (by omega)).1 (by simp)
                  rw [Nat.add_zero] at c0
                  rw [← Nat.add_assoc] at c1 c2
                  generalize f4 x 0 = d at *
                  generalize f4 x 1 = a at *
                  generalize f4 x 2 = bv at *
                  clear ho hc
                  have HQA : Hid (PRep (wr.alloc (.cells #[.int .i64 d, .int .i64 a, .int .i64 bv] 34)) p b Q) := HQ.out.only ((Only.refl [] wr).alloc _) (by simp) (by simp)
                  have HOA : Hid (Only [] w (wr.alloc (.cells #[.int .i64 d, .int .i64 a, .int .i64 bv] 34))) := HO.out.alloc _
                  clear HO
                  by_cases hd2 : d = 2
                  · subst hd2
                    by_cases haA : a = (A : Int)
                    · subst haA
                      go_wp2_with fail
                      exact ⟨⟨x + 1, A, Q, by go_num, rfl, by omega, by omega, HQA.out, HK.out, HOA.out⟩, by simp [intOf]; omega⟩
                    · have h2 : (a == (A : Int)) = false := by simpa using haA
                      have HK5 := Lib.hid (HK.out.do HQ.out.ok hC.out (d := 2) (a := a) (b := bv) (fun e => haA) (fun e => absurd e (by decide)) (by decide))
                      go_wp2_with fail
                      refine (do_rep _ p b Q HQA.out _ _ _).mono ?_
                      rintro e w5 ⟨rfl, g5, o5⟩
                      generalize (Q.do 2 a bv).2.2 = Q5 at *
                      have HQ5 := Lib.hid g5
                      have HO5 := Lib.hid (HOA.out.trans o5 (fun x hx => .inr (by simp at hx; have := hge.out; omega)))
                      clear g5 o5
                      go_wp2_with fail
                      exact ⟨⟨x + 1, A, Q5, by go_num, rfl, by omega, by omega, HQ5.out, HK5.out, HO5.out⟩, by simp [intOf]; omega⟩
                  · by_cases hd3 : d = 3
                    · subst hd3
                      by_cases hge3 : (A : Int) ≤ a
                      · by_cases hlt3 : a < (A : Int) + (z : Int)
                        · clear hd2
                          go_wp2_with fail
                          exact ⟨⟨x + 1, A, Q, by go_num, rfl, by omega, by omega, HQA.out, HK.out, HOA.out⟩, by simp [intOf]; omega⟩
                        · have h3 : ¬ a < (A : Int) + (z : Int) := hlt3
                          have HK5 := Lib.hid (HK.out.do HQ.out.ok hC.out (d := 3) (a := a) (b := bv) (fun e => absurd e (by decide)) (fun e => .inr (by have := HZ.out; omega)) (by decide))
                          go_wp2_with fail
                          refine (do_rep _ p b Q HQA.out _ _ _).mono ?_
                          rintro e w5 ⟨rfl, g5, o5⟩
                          generalize (Q.do 3 a bv).2.2 = Q5 at *
                          have HQ5 := Lib.hid g5
                          have HO5 := Lib.hid (HOA.out.trans o5 (fun x hx => .inr (by simp at hx; have := hge.out; omega)))
                          clear g5 o5
                          go_wp2_with fail
                          exact ⟨⟨x + 1, A, Q5, by go_num, rfl, by omega, by omega, HQ5.out, HK5.out, HO5.out⟩, by simp [intOf]; omega⟩
                      · clear hd2
                        have HK5 := Lib.hid (HK.out.do HQ.out.ok hC.out (d := 3) (a := a) (b := bv) (fun e => absurd e (by decide)) (fun e => .inl (by omega)) (by decide))
                        go_wp2_with fail
                        refine (do_rep _ p b Q HQA.out _ _ _).mono ?_
                        rintro e w5 ⟨rfl, g5, o5⟩
                        generalize (Q.do 3 a bv).2.2 = Q5 at *
                        have HQ5 := Lib.hid g5
                        have HO5 := Lib.hid (HOA.out.trans o5 (fun x hx => .inr (by simp at hx; have := hge.out; omega)))
                        clear g5 o5
                        go_wp2_with fail
                        exact ⟨⟨x + 1, A, Q5, by go_num, rfl, by omega, by omega, HQ5.out, HK5.out, HO5.out⟩, by simp [intOf]; omega⟩
                    · by_cases hd4 : d = 4
                      · subst hd4
                        clear hd2 hd3
                        have e1 := move_rep _ p b Q HQA.out
                        rcases HK.out.move HQ.out.ok hC.out with ⟨m1, m2, A', m3, m4⟩ | ⟨m1, m4⟩
                        · rw [m1, m2, m3] at e1
                          have HK5 := Lib.hid m4
                          have hA9' : A' < 384 := m4.lt hC.out (by rw [(HQ.out.ok.move).2]; exact HQ.out.n24)
                          generalize Q.move.2.2.2 = Q5 at *
                          clear m1 m2 m3 m4
                          go_wp2_with fail
                          refine e1.mono ?_
                          rintro e w5 ⟨rfl, g5, o5⟩
                          have HQ5 := Lib.hid g5
                          have HO5 := Lib.hid (HOA.out.trans o5 (fun x hx => .inr (by simp at hx; have := hge.out; omega)))
                          clear g5 o5
                          go_wp2_with fail
                          exact ⟨⟨x + 1, A', Q5, by go_num, rfl, by omega, by omega, HQ5.out, HK5.out, HO5.out⟩, by simp [intOf]; omega⟩
                        · have HK5 := Lib.hid m4
                          generalize Q.move.2.2.2 = Q5 at *
                          generalize Q.move.1 = v1 at *
                          generalize Q.move.2.1 = v2 at *
                          generalize Q.move.2.2.1 = v3 at *
                          clear m4
                          by_cases hv3 : v3 = 0
                          · have hv1 : ¬ v1 = (A : Int) := fun h => m1 ⟨hv3, h⟩
                            subst hv3
                            clear m1
                            go_wp2_with fail
                            refine e1.mono ?_
                            rintro e w5 ⟨rfl, g5, o5⟩
                            have HQ5 := Lib.hid g5
                            have HO5 := Lib.hid (HOA.out.trans o5 (fun x hx => .inr (by simp at hx; have := hge.out; omega)))
                            clear g5 o5
                            go_wp2_with fail
                            exact ⟨⟨x + 1, A, Q5, by go_num, rfl, by omega, by omega, HQ5.out, HK5.out, HO5.out⟩, by simp [intOf]; omega⟩
                          · clear m1
                            go_wp2_with fail
                            refine e1.mono ?_
                            rintro e w5 ⟨rfl, g5, o5⟩
                            have HQ5 := Lib.hid g5
                            have HO5 := Lib.hid (HOA.out.trans o5 (fun x hx => .inr (by simp at hx; have := hge.out; omega)))
                            clear g5 o5
                            go_wp2_with fail
                            exact ⟨⟨x + 1, A, Q5, by go_num, rfl, by omega, by omega, HQ5.out, HK5.out, HO5.out⟩, by simp [intOf]; omega⟩
                      · have b2 : (d == 2) = false := by simpa using hd2
                        have b3 : (d == 3) = false := by simpa using hd3
                        have HK5 := Lib.hid (HK.out.do HQ.out.ok hC.out (d := d) (a := a) (b := bv) (fun e => absurd e hd2) (fun e => absurd e hd3) hd4)
                        go_wp2_with fail
                        refine (do_rep _ p b Q HQA.out _ _ _).mono ?_
                        rintro e w5 ⟨rfl, g5, o5⟩
                        generalize (Q.do d a bv).2.2 = Q5 at *
                        have HQ5 := Lib.hid g5
                        have HO5 := Lib.hid (HOA.out.trans o5 (fun x hx => .inr (by simp at hx; have := hge.out; omega)))
                        clear g5 o5
                        go_wp2_with fail
                        exact ⟨⟨x + 1, A, Q5, by go_num, rfl, by omega, by omega, HQ5.out, HK5.out, HO5.out⟩, by simp [intOf]; omega⟩
                · clear ho
                  go_wp2_with fail
                  go_loopw [24, 25, 26, 27, 28] (fun v _ _ _ _ wr => ∃ y : Nat, v = .int .i64 y ∧ y ≤ z ∧ PRep wr p b Q ∧ Only [] w wr) (fun v _ _ _ _ _ => z - (intOf v).toNat)
                  case atStart => exact ⟨0, rfl, by omega, HQ.out, HO.out⟩
                  case round =>
                    clear HQ HO
                    obtain ⟨y, rfl, hy, hq, ho⟩ := hrel
                    have HQ := Lib.hid hq
                    have HO := Lib.hid ho
                    clear hq ho
                    by_cases hlt3 : y < z
                    · have ht := HK.out.tells hC.out (x := y) (by have := HZ.out; omega)
                      have e1 := cell_rep _ p b Q HQ.out ((A : Int) + (y : Int))
                      have e2 : Hid (∀ wx, PRep wx p b Q → Calls Try.prog 21 #[.pointer (some ⟨p, 0, none⟩), .int .i64 ((A : Int) + (y : Int))] wx fun e w' => e = .returned (.tuple #[.int .i64 (A : Int), .int .i64 0]) ∧ ∃ n, w' = wx.drewN n) := fun wx hw => by
                        have h1 := begin_rep wx p b Q hw ((A : Int) + (y : Int))
                        rw [ht.1] at h1
                        exact h1
                      rw [ht.2] at e1
                      have hN9 : a3.tmod 1000000 = N := HN.out.symm
                      clear ht
                      go_wp2_with fail
                      refine e1.mono ?_
                      rintro e w5 ⟨rfl, hd5⟩
                      have HQ5 := Lib.hid (HQ.out.drewTo hd5)
                      have HO5 := Lib.hid (HO.out.trans (Drew.only hd5 []) (by simp))
                      clear hd5
                      go_wp2_with fail
                      refine (e2.out _ HQ5.out).mono ?_
                      rintro e w6 ⟨rfl, hd6⟩
                      have HQ6 := Lib.hid (HQ5.out.drewTo hd6)
                      have HO6 := Lib.hid (HO5.out.trans (Drew.only hd6 []) (by simp))
                      clear hd6
                      go_wp2_with fail
                      exact ⟨⟨y + 1, by go_num, by omega, HQ6.out, HO6.out⟩, by simp [intOf]; omega⟩
                    · go_wp2_with fail
                      refine (sane_any _).mono ?_
                      rintro e w5 ⟨rfl, o5⟩
                      go_wp2_with fail
                      exact hR.out _ _ ⟨rfl, (HO.out.trans o5 (by simp)).below (Nat.le_refl _) (by simp)⟩
              · clear ho
                go_wp2_with fail
                go_loopw [24, 25, 26, 27, 28] (fun v _ _ _ _ wr => ∃ y : Nat, v = .int .i64 y ∧ y ≤ z ∧ PRep wr p b Q ∧ Only [] w wr) (fun v _ _ _ _ _ => z - (intOf v).toNat)
                case atStart => exact ⟨0, rfl, by omega, HQ.out, HO.out⟩
                case round =>
                  clear HQ HO
                  obtain ⟨y, rfl, hy, hq, ho⟩ := hrel
                  have HQ := Lib.hid hq
                  have HO := Lib.hid ho
                  clear hq ho
                  by_cases hlt3 : y < z
                  · have ht := HK.out.tells hC.out (x := y) (by have := HZ.out; omega)
                    have e1 := cell_rep _ p b Q HQ.out ((A : Int) + (y : Int))
                    have e2 : Hid (∀ wx, PRep wx p b Q → Calls Try.prog 21 #[.pointer (some ⟨p, 0, none⟩), .int .i64 ((A : Int) + (y : Int))] wx fun e w' => e = .returned (.tuple #[.int .i64 (A : Int), .int .i64 0]) ∧ ∃ n, w' = wx.drewN n) := fun wx hw => by
                      have h1 := begin_rep wx p b Q hw ((A : Int) + (y : Int))
                      rw [ht.1] at h1
                      exact h1
                    rw [ht.2] at e1
                    have hN9 : a3.tmod 1000000 = N := HN.out.symm
                    clear ht
                    go_wp2_with fail
                    refine e1.mono ?_
                    rintro e w5 ⟨rfl, hd5⟩
                    have HQ5 := Lib.hid (HQ.out.drewTo hd5)
                    have HO5 := Lib.hid (HO.out.trans (Drew.only hd5 []) (by simp))
                    clear hd5
                    go_wp2_with fail
                    refine (e2.out _ HQ5.out).mono ?_
                    rintro e w6 ⟨rfl, hd6⟩
                    have HQ6 := Lib.hid (HQ5.out.drewTo hd6)
                    have HO6 := Lib.hid (HO5.out.trans (Drew.only hd6 []) (by simp))
                    clear hd6
                    go_wp2_with fail
                    exact ⟨⟨y + 1, by go_num, by omega, HQ6.out, HO6.out⟩, by simp [intOf]; omega⟩
                  · go_wp2_with fail
                    refine (sane_any _).mono ?_
                    rintro e w5 ⟨rfl, o5⟩
                    go_wp2_with fail
                    exact hR.out _ _ ⟨rfl, (HO.out.trans o5 (by simp)).below (Nat.le_refl _) (by simp)⟩
      · generalize (P.alloc a2).1 = v1 at *
        generalize (P.alloc a2).2.1 = v2 at *
        generalize (P.alloc a2).2.2 = Q at *
        go_wp2_with fail
        refine e1.mono ?_
        rintro e w3 ⟨rfl, g3, o3⟩
        have r3 := HB.out.ref o3
        have O3 := Lib.hid (HB.out.grown rfl HO.out o3)
        clear g3 o3 e1
        go_wp2_with fail
        refine (e2.out _ r3).mono ?_
        rintro e w4 ⟨rfl, g4, o4⟩
        have O4 := Lib.hid (HB.out.grown2 rfl O3.out o4)
        clear g4 o4 r3
        go_wp2_with fail
        refine (sane_any _).mono ?_
        rintro e w5 ⟨rfl, o5⟩
        go_wp2_with fail
        exact hR.out _ _ ⟨rfl, (O4.out.trans o5 (by simp)).below (Nat.le_refl _) (by simp)⟩
end Go.Proofs.Ytngmiacekcmidaa
