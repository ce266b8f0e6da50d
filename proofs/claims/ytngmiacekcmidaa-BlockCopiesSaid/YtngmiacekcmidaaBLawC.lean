/- The laws' own functions over both pools: alike. -/
import Derived.Test.YtngmiacekcmidaaBLawB
namespace Go.Proofs.Ytngmiacekcmidaa
open Go.RowKit
set_option maxHeartbeats 6400000
set_option maxRecDepth 100000
set_option linter.unusedVariables false

theorem class_at {P : Pl} {i : Nat} (hi : i < P.n) : P.class (i : Int) = ((P.pg i).cls, 0) := by
  unfold Pl.class
  rw [if_neg (by omega)]
  simp
theorem alike_of (w : World) (base p b q k c l : Nat) (P : Pl) (h : BBoth w base p b q k c l P) :
    Calls Try.prog 39 #[.pointer (some ⟨p, 0, none⟩), .pointer (some ⟨q, 0, none⟩)] w fun e w' => e = .returned (.bool true) ∧ Only [] w w' := by
  refine calls_abs fun R hR => ?_
  have H := Lib.hid h
  have h24 := h.hp.n24
  obtain ⟨c1, c2, c3, z0, z1, z2, _⟩ := h.hq.facts
  clear h
  go_enter Try.func39, Try.ntmps39
  go_wp2_with fail
  go_loop [5] (fun v => ∃ i : Nat, i ≤ P.n ∧ v = .int .i64 i) (fun v => P.n - (intOf v).toNat)
  case atStart => exact ⟨0, by omega, rfl⟩
  case round =>
    obtain ⟨i, hi, rfl⟩ := hrel
    by_cases hlt : i < P.n
    · have hc := classOf_rep w p b P H.out.hp (i : Int)
      rw [class_at hlt] at hc
      have hkind := H.out.hq.kind i hlt
      go_wp2_with fail
      refine hc.mono ?_
      rintro e _ ⟨rfl, rfl⟩
      go_wp2_with fail
      go_round
      case rel => exact ⟨i + 1, by omega, by go_num⟩
      case measure => simp [intOf]; omega
    · have hi9 : i = P.n := by omega
      subst hi9
      go_wp2_with fail
      go_loopw [8] (fun v wr => ∃ x : Nat, x ≤ P.n * 16 ∧ v = .int .i64 x ∧ Drew w wr) (fun v _ => P.n * 16 - (intOf v).toNat)
      case atStart => exact ⟨0, by omega, rfl, Drew.refl _⟩
      case round =>
        clear z0 z1 z2 hlt
        obtain ⟨x, hx, rfl, hd⟩ := hrel
        have HB := Lib.hid (H.out.only0 (hd.only []))
        obtain ⟨c1', c2', c3', z0, z1, z2, _⟩ := HB.out.hq.facts
        by_cases hlt : x < P.n * 16
        · have e1 := cell_rep wr p b P HB.out.hp (x : Int)
          have e2 : Hid (∀ wx, BBoth wx base p b q k c l P → Calls Try.prog 34 #[.pointer (some ⟨q, 0, none⟩), .int .i64 (x : Int)] wx (Exact wx (.tuple #[.int .i64 (P.cell (x : Int)).1, .int .i64 (P.cell (x : Int)).2]))) := fun wx hw => rcell_rep wx q k c l P hw.hq hw.hp.ok _
          have e3 : Hid (∀ wx, BBoth wx base p b q k c l P → Calls Try.prog 21 #[.pointer (some ⟨p, 0, none⟩), .int .i64 (x : Int)] wx fun e w' => e = .returned (.tuple #[.int .i64 (P.begin (x : Int)).1, .int .i64 (P.begin (x : Int)).2]) ∧ Drew wx w') := fun wx hw => begin_rep wx p b P hw.hp _
          have e4 : Hid (∀ wx, BBoth wx base p b q k c l P → Calls Try.prog 35 #[.pointer (some ⟨q, 0, none⟩), .int .i64 (x : Int)] wx (Exact wx (.tuple #[.int .i64 (P.begin (x : Int)).1, .int .i64 (P.begin (x : Int)).2]))) := fun wx hw => rbegin_rep wx q k c l P hw.hq hw.hp.ok _
          generalize (P.cell (x : Int)).1 = v1 at *
          generalize (P.cell (x : Int)).2 = v2 at *
          generalize (P.begin (x : Int)).1 = v3 at *
          generalize (P.begin (x : Int)).2 = v4 at *
          have hd1 : Hid (Drew w wr) := hd
          clear hd
          go_wp2_with fail
          refine e1.mono ?_
          rintro e w2 ⟨rfl, hd2⟩
          have HD2 : Hid (Drew w w2) := hd1.out.trans hd2
          have HB2 := Lib.hid (H.out.only0 (HD2.out.only []))
          clear hd2
          go_wp2_with fail
          refine (e2.out _ HB2.out).mono ?_
          rintro e _ ⟨rfl, rfl⟩
          go_wp2_with fail
          refine (e3.out _ HB2.out).mono ?_
          rintro e w3 ⟨rfl, hd3⟩
          have HD3 : Hid (Drew w w3) := HD2.out.trans hd3
          have HB3 := Lib.hid (H.out.only0 (HD3.out.only []))
          clear hd3
          go_wp2_with fail
          refine (e4.out _ HB3.out).mono ?_
          rintro e _ ⟨rfl, rfl⟩
          go_wp2_with fail
          exact ⟨⟨x + 1, by omega, by go_num, HD3.out⟩, by simp [intOf]; omega⟩
        · have hd1 : Hid (Drew w wr) := hd
          clear hd
          obtain ⟨wo, rfl⟩ : ∃ wo : World, wo = wr := ⟨_, rfl⟩
          go_wp2_with fail
          go_loopw [17] (fun v wr => ∃ y : Nat, y ≤ 3 ∧ v = .int .i64 y ∧ Drew w wr) (fun v _ => 3 - (intOf v).toNat)
          case atStart => exact ⟨0, by omega, rfl, hd1.out⟩
          case round =>
            clear z0 z1 z2 HB hd1 hlt
            obtain ⟨y, hy, rfl, hd⟩ := hrel
            have HB := Lib.hid (H.out.only0 (hd.only []))
            have hd1 : Hid (Drew w wr) := hd
            clear hd
            by_cases hlt : y < 3
            · have e1 := used_rep wr p b P HB.out.hp (y : Int)
              have e2 := rused_rep wr q k c l P HB.out.hq HB.out.hp.ok (y : Int)
              have e3 := room_rep wr p b P HB.out.hp (y : Int)
              have e4 : Hid (∀ wx, BBoth wx base p b q k c l P → Calls Try.prog 38 #[.pointer (some ⟨q, 0, none⟩), .int .i64 (y : Int)] wx (Exact wx (.tuple #[.int .i64 (P.room (y : Int)).1, .int .i64 (P.room (y : Int)).2]))) := fun wx hw => rroom_rep wx q k c l P hw.hq hw.hp.ok _
              generalize (P.used (y : Int)).1 = v1 at *
              generalize (P.used (y : Int)).2 = v2 at *
              generalize (P.room (y : Int)).1 = v3 at *
              generalize (P.room (y : Int)).2 = v4 at *
              go_wp2_with fail
              refine e1.mono ?_
              rintro e _ ⟨rfl, rfl⟩
              go_wp2_with fail
              refine e2.mono ?_
              rintro e _ ⟨rfl, rfl⟩
              go_wp2_with fail
              refine e3.mono ?_
              rintro e w3 ⟨rfl, hd3⟩
              have HD3 : Hid (Drew w w3) := hd1.out.trans hd3
              have HB3 := Lib.hid (H.out.only0 (HD3.out.only []))
              clear hd3
              go_wp2_with fail
              refine (e4.out _ HB3.out).mono ?_
              rintro e _ ⟨rfl, rfl⟩
              go_wp2_with fail
              exact ⟨⟨y + 1, by omega, by go_num, HD3.out⟩, by simp [intOf]; omega⟩
            · have e1 := pages_rep wr p b P HB.out.hp
              have e2 := rpages_rep wr q k c l P HB.out.hq HB.out.hp.ok
              have e3 := moves_rep wr p b P HB.out.hp
              have e4 : Hid (∀ wx, BBoth wx base p b q k c l P → Calls Try.prog 67 #[.pointer (some ⟨q, 0, none⟩)] wx fun e w' => e = .returned (.int .i64 (P.moves : Int)) ∧ Only [] wx w') := fun wx hw => rmoves_rep wx q k c l P hw.hq hw.hp.ok
              generalize ((P.freeN P.n : Nat) : Int) = v1 at *
              generalize ((P.partN P.n : Nat) : Int) = v2 at *
              generalize ((P.fullN P.n : Nat) : Int) = v3 at *
              generalize ((P.moves : Nat) : Int) = v4 at *
              have hlt3 : ¬ y < 3 := hlt
              clear hlt
              go_wp2_with fail
              refine e1.mono ?_
              rintro e _ ⟨rfl, rfl⟩
              go_wp2_with fail
              refine e2.mono ?_
              rintro e _ ⟨rfl, rfl⟩
              go_wp2_with fail
              refine e3.mono ?_
              rintro e w4 ⟨rfl, o4⟩
              have HB4 := Lib.hid (HB.out.only0 o4)
              have O4 := Lib.hid ((hd1.out.only []).trans o4 (by simp))
              clear o4
              go_wp2_with fail
              refine (e4.out _ HB4.out).mono ?_
              rintro e w5 ⟨rfl, o5⟩
              go_wp2_with fail
              exact hR.out _ _ ⟨rfl, O4.out.trans o5 (by simp)⟩
end Go.Proofs.Ytngmiacekcmidaa
