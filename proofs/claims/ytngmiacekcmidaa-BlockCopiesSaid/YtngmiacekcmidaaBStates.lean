/- The laws BlockStates, BlockDoes, walked. -/
import Derived.Test.YtngmiacekcmidaaBLawC
namespace Go.Proofs.Ytngmiacekcmidaa
open Go.RowKit
set_option maxHeartbeats 6400000
set_option maxRecDepth 100000
set_option linter.unusedVariables false

theorem pages_cases (a : Int) : (a < 1 ∨ 24 < a) ∨ ∃ n : Nat, a = n ∧ 1 ≤ n ∧ n ≤ 24 := by
  by_cases h : a < 1 ∨ 24 < a
  · exact .inl h
  · exact .inr ⟨a.toNat, by omega, by omega, by omega⟩
theorem walk_BlockStates (a0 : Int) (a1 : Option Addr) (len1 cap1 : Nat) (f1 : Nat → Nat → Int) (a2 a3 : Int) (w : World) (w1 : Recs 3 w a1 len1 f1) :
    Calls Try.prog 8 #[.int .i64 a0, .slice a1 len1 cap1, .int .i64 a2, .int .i64 a3] w fun e w' => e = .returned (.bool true) ∧ Below w.heap.size w w' := by
  refine calls_abs fun R hR => ?_
  rcases pages_cases a0 with hbad | ⟨n, rfl, hn1, hn24⟩
  · clear w1
    go_enter Try.func8, Try.ntmps8
    go_wp2_with fail
    refine (played_no w a0 hbad _).mono ?_
    rintro e _ ⟨rfl, rfl⟩
    go_wp2_with fail
    refine (new_bad w a0 hbad).mono ?_
    rintro e _ ⟨rfl, rfl⟩
    go_wp2_with fail
    refine (rnew_bad w a0 hbad).mono ?_
    rintro e _ ⟨rfl, rfl⟩
    go_wp2_with fail
    refine (sane_any _).mono ?_
    rintro e w4 ⟨rfl, o4⟩
    go_wp2_with fail
    exact hR.out _ _ ⟨rfl, o4.below (Nat.le_refl _) (by simp)⟩
  · go_enter Try.func8, Try.ntmps8
    go_wp2_with fail
    refine (played_yes w n hn1 hn24 a1 len1 cap1 f1 w1).mono ?_
    rintro e w2 ⟨p, b, q, k, c, l, P, rfl, hB, hPn, o2⟩
    have H := Lib.hid hB
    have e1 := cell_rep w2 p b P hB.hp a2
    have e2 : Hid (∀ wx, BBoth wx w.heap.size p b q k c l P → Calls Try.prog 34 #[.pointer (some ⟨q, 0, none⟩), .int .i64 a2] wx (Exact wx (.tuple #[.int .i64 (P.cell a2).1, .int .i64 (P.cell a2).2]))) := fun wx hw => rcell_rep wx q k c l P hw.hq hw.hp.ok _
    have e3 : Hid (∀ wx, BBoth wx w.heap.size p b q k c l P → Calls Try.prog 21 #[.pointer (some ⟨p, 0, none⟩), .int .i64 a2] wx fun e w' => e = .returned (.tuple #[.int .i64 (P.begin a2).1, .int .i64 (P.begin a2).2]) ∧ Drew wx w') := fun wx hw => begin_rep wx p b P hw.hp _
    have e4 : Hid (∀ wx, BBoth wx w.heap.size p b q k c l P → Calls Try.prog 35 #[.pointer (some ⟨q, 0, none⟩), .int .i64 a2] wx (Exact wx (.tuple #[.int .i64 (P.begin a2).1, .int .i64 (P.begin a2).2]))) := fun wx hw => rbegin_rep wx q k c l P hw.hq hw.hp.ok _
    have e5 : Hid (∀ wx, BBoth wx w.heap.size p b q k c l P → Calls Try.prog 31 #[.pointer (some ⟨p, 0, none⟩), .int .i64 a3] wx (Exact wx (.tuple #[.int .i64 (P.class a3).1, .int .i64 (P.class a3).2]))) := fun wx hw => classOf_rep wx p b P hw.hp _
    have e6 : Hid (∀ wx, BBoth wx w.heap.size p b q k c l P → Calls Try.prog 36 #[.pointer (some ⟨q, 0, none⟩), .int .i64 a3] wx (Exact wx (.tuple #[.int .i64 (P.class a3).1, .int .i64 (P.class a3).2]))) := fun wx hw => rclass_rep wx q k c l P hw.hq _
    have e7 : Hid (∀ wx, BBoth wx w.heap.size p b q k c l P → Calls Try.prog 26 #[.pointer (some ⟨p, 0, none⟩), .int .i64 a3] wx (Exact wx (.tuple #[.int .i64 (P.used a3).1, .int .i64 (P.used a3).2]))) := fun wx hw => used_rep wx p b P hw.hp _
    have e8 : Hid (∀ wx, BBoth wx w.heap.size p b q k c l P → Calls Try.prog 37 #[.pointer (some ⟨q, 0, none⟩), .int .i64 a3] wx (Exact wx (.tuple #[.int .i64 (P.used a3).1, .int .i64 (P.used a3).2]))) := fun wx hw => rused_rep wx q k c l P hw.hq hw.hp.ok _
    have e9 : Hid (∀ wx, BBoth wx w.heap.size p b q k c l P → Calls Try.prog 25 #[.pointer (some ⟨p, 0, none⟩), .int .i64 a3] wx fun e w' => e = .returned (.tuple #[.int .i64 (P.room a3).1, .int .i64 (P.room a3).2]) ∧ Drew wx w') := fun wx hw => room_rep wx p b P hw.hp _
    have e10 : Hid (∀ wx, BBoth wx w.heap.size p b q k c l P → Calls Try.prog 38 #[.pointer (some ⟨q, 0, none⟩), .int .i64 a3] wx (Exact wx (.tuple #[.int .i64 (P.room a3).1, .int .i64 (P.room a3).2]))) := fun wx hw => rroom_rep wx q k c l P hw.hq hw.hp.ok _
    generalize (P.cell a2).1 = v1 at *
    generalize (P.cell a2).2 = v2 at *
    generalize (P.begin a2).1 = v3 at *
    generalize (P.begin a2).2 = v4 at *
    generalize (P.class a3).1 = v5 at *
    generalize (P.class a3).2 = v6 at *
    generalize (P.used a3).1 = v7 at *
    generalize (P.used a3).2 = v8 at *
    generalize (P.room a3).1 = v9 at *
    generalize (P.room a3).2 = v10 at *
    have O2 := Lib.hid o2
    clear hB hPn o2 w1
    go_wp2_with fail
    refine e1.mono ?_
    rintro e w3 ⟨rfl, hd3⟩
    have HB3 := Lib.hid (H.out.only0 (Drew.only hd3 []))
    have O3 := Lib.hid (O2.out.trans (Drew.only hd3 []) (by simp))
    clear hd3 e1
    go_wp2_with fail
    refine (e2.out _ HB3.out).mono ?_
    rintro e _ ⟨rfl, rfl⟩
    go_wp2_with fail
    refine (e3.out _ HB3.out).mono ?_
    rintro e w4 ⟨rfl, hd4⟩
    have HB4 := Lib.hid (HB3.out.only0 (hd4.only []))
    have O4 := Lib.hid (O3.out.trans (hd4.only []) (by simp))
    clear hd4
    go_wp2_with fail
    refine (e4.out _ HB4.out).mono ?_
    rintro e _ ⟨rfl, rfl⟩
    go_wp2_with fail
    refine (e5.out _ HB4.out).mono ?_
    rintro e _ ⟨rfl, rfl⟩
    go_wp2_with fail
    refine (e6.out _ HB4.out).mono ?_
    rintro e _ ⟨rfl, rfl⟩
    go_wp2_with fail
    refine (e7.out _ HB4.out).mono ?_
    rintro e _ ⟨rfl, rfl⟩
    go_wp2_with fail
    refine (e8.out _ HB4.out).mono ?_
    rintro e _ ⟨rfl, rfl⟩
    go_wp2_with fail
    refine (e9.out _ HB4.out).mono ?_
    rintro e w5 ⟨rfl, hd5⟩
    have HB5 := Lib.hid (HB4.out.only0 (hd5.only []))
    have O5 := Lib.hid (O4.out.trans (hd5.only []) (by simp))
    clear hd5
    go_wp2_with fail
    refine (e10.out _ HB5.out).mono ?_
    rintro e _ ⟨rfl, rfl⟩
    go_wp2_with fail
    refine (alike_of _ _ _ _ _ _ _ _ _ HB5.out).mono ?_
    rintro e w6 ⟨rfl, o6⟩
    have O6 := Lib.hid (O5.out.trans o6 (by simp))
    clear o6
    go_wp2_with fail
    refine (sane_any _).mono ?_
    rintro e w7 ⟨rfl, o7⟩
    go_wp2_with fail
    exact hR.out _ _ ⟨rfl, (O6.out.trans o7 (by simp)).below (Nat.le_refl _) (by simp)⟩

theorem walk_BlockDoes (a0 : Int) (a1 : Option Addr) (len1 cap1 : Nat) (f1 : Nat → Nat → Int) (a2 a3 a4 : Int) (w : World) (w1 : Recs 3 w a1 len1 f1) :
    Calls Try.prog 9 #[.int .i64 a0, .slice a1 len1 cap1, .int .i64 a2, .int .i64 a3, .int .i64 a4] w fun e w' => e = .returned (.bool true) ∧ Below w.heap.size w w' := by
  refine calls_abs fun R hR => ?_
  rcases pages_cases a0 with hbad | ⟨n, rfl, hn1, hn24⟩
  · clear w1
    go_enter Try.func9, Try.ntmps9
    go_wp2_with fail
    refine (played_no w a0 hbad _).mono ?_
    rintro e _ ⟨rfl, rfl⟩
    go_wp2_with fail
    refine (sane_any _).mono ?_
    rintro e w4 ⟨rfl, o4⟩
    go_wp2_with fail
    exact hR.out _ _ ⟨rfl, o4.below (Nat.le_refl _) (by simp)⟩
  · go_enter Try.func9, Try.ntmps9
    go_wp2_with fail
    refine (played_yes w n hn1 hn24 a1 len1 cap1 f1 w1).mono ?_
    rintro e w2 ⟨p, b, q, k, c, l, P, rfl, hB, hPn, o2⟩
    have HB := Lib.hid hB
    have HO := Lib.hid o2
    clear hB o2 w1 hPn
    -- SetCell
    have c1 := setCell_rep w2 p b P HB.out.hp a2 a3
    have d1 : Hid (∀ wx, RRep wx q k c l P → Calls Try.prog 40 #[.pointer (some ⟨q, 0, none⟩), .int .i64 a2, .int .i64 a3] wx fun e w' => e = .returned (.int .i64 (P.setCell a2 a3).1) ∧ RRep w' q k c l (P.setCell a2 a3).2 ∧ Only [k, c, l] wx w') := fun wx hw => rsetCell_rep wx q k c l P hw HB.out.hp.ok a2 a3
    generalize (P.setCell a2 a3).1 = v1 at *
    generalize (P.setCell a2 a3).2 = P1 at *
    go_wp2_with fail
    refine c1.mono ?_
    rintro e w3 ⟨rfl, g3, o3⟩
    have r3 := HB.out.ref o3
    have O3 := Lib.hid (HB.out.grown rfl HO.out o3)
    have G3 := Lib.hid g3
    clear g3 o3 c1
    go_wp2_with fail
    refine (d1.out _ r3).mono ?_
    rintro e w4 ⟨rfl, g4, o4⟩
    have HB4 := Lib.hid (HB.out.both G3.out g4 o4)
    have O4 := Lib.hid (HB.out.grown2 rfl O3.out o4)
    clear g4 o4 r3 G3
    -- Alloc
    have c1 := alloc_rep w4 p b P1 HB4.out.hp a4
    have d1 : Hid (∀ wx, RRep wx q k c l P1 → Calls Try.prog 15 #[.pointer (some ⟨q, 0, none⟩), .int .i64 a4] wx fun e w' => e = .returned (.tuple #[.int .i64 (P1.alloc a4).1, .int .i64 (P1.alloc a4).2.1]) ∧ RRep w' q k c l (P1.alloc a4).2.2 ∧ Only [k, c, l] wx w') := fun wx hw => ralloc_rep wx q k c l P1 hw HB4.out.hp.ok a4
    generalize (P1.alloc a4).1 = v2 at *
    generalize (P1.alloc a4).2.1 = v3 at *
    generalize (P1.alloc a4).2.2 = P2 at *
    go_wp2_with fail
    refine c1.mono ?_
    rintro e w5 ⟨rfl, g5, o5⟩
    have r5 := HB4.out.ref o5
    have O5 := Lib.hid (HB4.out.grown rfl O4.out o5)
    have G5 := Lib.hid g5
    clear g5 o5 c1
    go_wp2_with fail
    refine (d1.out _ r5).mono ?_
    rintro e w6 ⟨rfl, g6, o6⟩
    have HB6 := Lib.hid (HB4.out.both G5.out g6 o6)
    have O6 := Lib.hid (HB4.out.grown2 rfl O5.out o6)
    clear g6 o6 r5 G5
    go_wp2_with fail
    refine (alike_of _ _ _ _ _ _ _ _ _ HB6.out).mono ?_
    rintro e w7 ⟨rfl, o7⟩
    have HB7 := Lib.hid (HB6.out.only0 o7)
    have O7 := Lib.hid (O6.out.trans o7 (by simp))
    clear o7
    -- Move
    have c1 := move_rep w7 p b P2 HB7.out.hp
    have d1 : Hid (∀ wx, RRep wx q k c l P2 → Calls Try.prog 41 #[.pointer (some ⟨q, 0, none⟩)] wx fun e w' => e = .returned (.tuple #[.int .i64 P2.move.1, .int .i64 P2.move.2.1, .int .i64 P2.move.2.2.1]) ∧ RRep w' q k c l P2.move.2.2.2 ∧ Only [k, c, l] wx w') := fun wx hw => rmove_rep wx q k c l P2 hw HB7.out.hp.ok
    generalize P2.move.1 = v4 at *
    generalize P2.move.2.1 = v5 at *
    generalize P2.move.2.2.1 = v6 at *
    generalize P2.move.2.2.2 = P3 at *
    go_wp2_with fail
    refine c1.mono ?_
    rintro e w8 ⟨rfl, g8, o8⟩
    have r8 := HB7.out.ref o8
    have O8 := Lib.hid (HB7.out.grown rfl O7.out o8)
    have G8 := Lib.hid g8
    clear g8 o8 c1
    go_wp2_with fail
    refine (d1.out _ r8).mono ?_
    rintro e w9 ⟨rfl, g9, o9⟩
    have HB9 := Lib.hid (HB7.out.both G8.out g9 o9)
    have O9 := Lib.hid (HB7.out.grown2 rfl O8.out o9)
    clear g9 o9 r8 G8
    -- Free
    have c1 := free_rep w9 p b P3 HB9.out.hp a2
    have d1 : Hid (∀ wx, RRep wx q k c l P3 → Calls Try.prog 42 #[.pointer (some ⟨q, 0, none⟩), .int .i64 a2] wx fun e w' => e = .returned (.int .i64 (P3.free a2).1) ∧ RRep w' q k c l (P3.free a2).2 ∧ Only [k, c, l] wx w') := fun wx hw => rfree_rep wx q k c l P3 hw HB9.out.hp.ok a2
    generalize (P3.free a2).1 = v7 at *
    generalize (P3.free a2).2 = P4 at *
    go_wp2_with fail
    refine c1.mono ?_
    rintro e w10 ⟨rfl, g10, o10⟩
    have r10 := HB9.out.ref o10
    have O10 := Lib.hid (HB9.out.grown rfl O9.out o10)
    have G10 := Lib.hid g10
    clear g10 o10 c1
    go_wp2_with fail
    refine (d1.out _ r10).mono ?_
    rintro e w11 ⟨rfl, g11, o11⟩
    have HB11 := Lib.hid (HB9.out.both G10.out g11 o11)
    have O11 := Lib.hid (HB9.out.grown2 rfl O10.out o11)
    clear g11 o11 r10 G10
    go_wp2_with fail
    refine (alike_of _ _ _ _ _ _ _ _ _ HB11.out).mono ?_
    rintro e w12 ⟨rfl, o12⟩
    have O12 := Lib.hid (O11.out.trans o12 (by simp))
    clear o12
    go_wp2_with fail
    refine (sane_any _).mono ?_
    rintro e w13 ⟨rfl, o13⟩
    go_wp2_with fail
    exact hR.out _ _ ⟨rfl, (O12.out.trans o13 (by simp)).below (Nat.le_refl _) (by simp)⟩
end Go.Proofs.Ytngmiacekcmidaa
