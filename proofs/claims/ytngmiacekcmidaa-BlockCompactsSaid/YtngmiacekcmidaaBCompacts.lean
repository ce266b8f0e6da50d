/- The law BlockCompacts, walked. -/
import Derived.Test.YtngmiacekcmidaaBStates
import Derived.Test.YtngmiacekcmidaaBTotal
namespace Go.Proofs.Ytngmiacekcmidaa
open Go.RowKit
set_option maxHeartbeats 6400000
set_option maxRecDepth 100000
set_option linter.unusedVariables false

/-- The law's row of three numbers: those below y are set. -/
def Row3 (w : World) (u y : Nat) (U : Nat → Int) : Prop := ∃ T, Row w u T [.int .i64 (if 0 < y then U 0 else 0), .int .i64 (if 1 < y then U 1 else 0), .int .i64 (if 2 < y then U 2 else 0)]
theorem Row3.only {w w' : World} {u y : Nat} {U : Nat → Int} {F : List Nat} (h : Row3 w u y U) (o : Only F w w') (hu : u ∉ F) : Row3 w' u y U := by
  obtain ⟨T, h⟩ := h
  exact ⟨T, o.row h hu⟩
theorem Row3.set {w : World} {u y : Nat} {U : Nat → Int} (h : Row3 w u y U) (hy : y < 3) {x : Int} (hx : x = U y) : Row3 (w.setCell ⟨u, y, none⟩ (.int .i64 x)) u (y + 1) U := by
  obtain ⟨T, h⟩ := h
  subst hx
  refine ⟨T, ?_⟩
  have := h.set y (.int .i64 (U y))
  rcases (by omega : y = 0 ∨ y = 1 ∨ y = 2) with rfl | rfl | rfl <;> simpa using this
theorem Row3.cell {w : World} {u y : Nat} {U : Nat → Int} (h : Row3 w u y U) {k : Nat} (hk : k < 3) : w.cell? ⟨u, k, none⟩ = some (.int .i64 (if k < y then U k else 0)) := by
  obtain ⟨T, h⟩ := h
  rcases (by omega : k = 0 ∨ k = 1 ∨ k = 2) with rfl | rfl | rfl <;> exact h.cell _ rfl
theorem Row3.free {w : World} {u y : Nat} {U : Nat → Int} (h : Row3 w u y U) (i : Nat) : w.frozen? ⟨u, i, none⟩ = false := by
  obtain ⟨T, h⟩ := h
  exact h.free i
theorem Row3.new (w : World) (T : Nat) (U : Nat → Int) : Row3 (w.alloc (.cells #[.int .i64 0, .int .i64 0, .int .i64 0] T)) w.heap.size 0 U :=
  ⟨T, Row.new w T [.int .i64 0, .int .i64 0, .int .i64 0]⟩
theorem Pl.used_le8 {P : Pl} (c : Int) (h24 : P.n ≤ 24) : P.usedN c P.n ≤ 192 := by
  have h := sumN_le (f := P.usedF c) (k := P.n) (m := 8) (fun i _ => by
    unfold Pl.usedF
    split
    · exact cnt_le _ 8
    · omega)
  show sumN (P.usedF c) P.n ≤ 192
  omega
theorem Pl.moves_zero {P : Pl} (h : P.ok) (h0 : P.moves = 0) : P.pair = none := by
  cases hp : P.pair with
  | none => rfl
  | some x => obtain ⟨i, j⟩ := x; have := Pl.moves_some h hp; omega
theorem Pl.move_step {P : Pl} (h : P.ok) (h0 : 0 < P.moves) :
    P.move.2.2.1 = 0 ∧ P.move.2.2.2.n = P.n ∧ P.moves = P.move.2.2.2.moves + 1 ∧ (∀ c, IsC c → P.move.2.2.2.usedN c P.n = P.usedN c P.n) ∧ P.move.2.2.2.tot = P.tot := by
  cases hp : P.pair with
  | none => have := Pl.moves_none hp; omega
  | some x =>
    obtain ⟨i, j⟩ := x
    have hp2 := Pl.pair_some hp
    rw [Pl.move_some hp]
    exact ⟨rfl, (h.moved hp2).2, Pl.moves_some h hp, fun c hc => Pl.used_moved h hp2 c hc, Pl.tot_moved h hp2⟩
/-- On the way: the pool Q has come of P by some moves. -/
structure Mid (w wr : World) (p b u : Nat) (P Q : Pl) : Prop where
  rep : PRep wr p b Q
  n : Q.n = P.n
  used : ∀ c, IsC c → Q.usedN c Q.n = P.usedN c P.n
  tot : Q.tot = P.tot
  row : Row3 wr u 3 (fun k => (P.usedN k P.n : Nat))
  only : Only [] w wr
theorem Mid.to {w wr wx : World} {p b u : Nat} {P Q : Pl} (h : Mid w wr p b u P Q) (o : Only [] wr wx) : Mid w wx p b u P Q :=
  ⟨h.rep.only o (by simp) (by simp), h.n, h.used, h.tot, h.row.only o (by simp), h.only.trans o (by simp)⟩
theorem walk_BlockCompacts (a0 : Int) (a1 : Option Addr) (len1 cap1 : Nat) (f1 : Nat → Nat → Int) (w : World) (w1 : Recs 3 w a1 len1 f1) :
    Calls Try.prog 7 #[.int .i64 a0, .slice a1 len1 cap1] w fun e w' => e = .returned (.bool true) ∧ Below w.heap.size w w' := by
  refine calls_abs fun R hR => ?_
  rcases pages_cases a0 with hbad | ⟨n, rfl, hn1, hn24⟩
  · clear w1
    go_enter Try.func7, Try.ntmps7
    go_wp2_with fail
    refine (played_no w a0 hbad _).mono ?_
    rintro e _ ⟨rfl, rfl⟩
    go_wp2_with fail
    refine (sane_any _).mono ?_
    rintro e w4 ⟨rfl, o4⟩
    go_wp2_with fail
    exact hR.out _ _ ⟨rfl, o4.below (Nat.le_refl _) (by simp)⟩
  · go_enter Try.func7, Try.ntmps7
    go_wp2_with fail
    refine (played_yes w n hn1 hn24 a1 len1 cap1 f1 w1).mono ?_
    rintro e w2 ⟨p, b, q, k, c, l, P, rfl, hB, hPn, o2⟩
    have HB := Lib.hid hB
    have HO := Lib.hid o2
    have h24 : P.n ≤ 24 := hB.hp.n24
    have hml := P.moves_le
    have hge : Hid (w.heap.size ≤ b) := hB.ge.2.1
    clear hB o2 w1
    subst hPn
    obtain ⟨M, hM⟩ : ∃ M, M = P.moves := ⟨_, rfl⟩
    have em := moves_rep w2 p b P HB.out.hp
    rw [← hM] at em hml
    have HM := Lib.hid hM
    clear hM
    go_wp2_with fail
    refine em.mono ?_
    rintro e w3 ⟨rfl, o3⟩
    have HB3 := Lib.hid (HB.out.only0 o3)
    have HO3 := Lib.hid (HO.out.trans o3 (by simp))
    have hb3 : Hid (b < w3.heap.size) := HB3.out.lt.2.1
    have hw3 : Hid (w.heap.size ≤ w3.heap.size) := HO3.out.size
    clear o3 em HB HO
    go_wp2_with fail
    have HR0 : Hid (Row3 (w3.alloc (.cells #[.int .i64 0, .int .i64 0, .int .i64 0] 52)) w3.heap.size 0 (fun k => (P.usedN k P.n : Nat))) := Row3.new _ _ _
    have hne := Lib.hid HB3.out.lt
    have HA := Lib.hid (HB3.out.only0 ((Only.refl [] w3).alloc (.cells #[.int .i64 0, .int .i64 0, .int .i64 0] 52)))
    have HOA := Lib.hid (HO3.out.alloc (.cells #[.int .i64 0, .int .i64 0, .int .i64 0] 52))
    generalize hu : w3.heap.size = u at *
    go_loopw [9] (fun v wr => ∃ y : Nat, y ≤ 3 ∧ v = .int .i64 y ∧ BBoth wr w.heap.size p b q k c l P ∧ Row3 wr u y (fun k => (P.usedN k P.n : Nat)) ∧ Only [] w wr) (fun v _ => 3 - (intOf v).toNat)
    case atStart => exact ⟨0, by omega, rfl, HA.out, HR0.out, HOA.out⟩
    case round =>
      clear HB3 HO3 HR0 HA HOA
      obtain ⟨y, hy, rfl, hb, hr, ho⟩ := hrel
      have HB := Lib.hid hb
      have HR := Lib.hid hr
      have HO := Lib.hid ho
      clear hb hr ho
      by_cases hlt : y < 3
      · have e1 := used_rep wr p b P HB.out.hp (y : Int)
        rw [show P.used (y : Int) = (((P.usedN (y : Int) P.n : Nat) : Int), 0) by unfold Pl.used; rw [if_neg (by omega)]] at e1
        have HS := Lib.hid (HR.out.set hlt rfl)
        have z := HR.out.cell hlt
        have zf := HR.out.free y
        rw [if_neg (by omega)] at z
        generalize (P.usedN (y : Int) P.n : Nat) = U at *
        go_wp2_with fail
        refine e1.mono ?_
        rintro e _ ⟨rfl, rfl⟩
        go_wp2_with fail
        refine ⟨⟨y + 1, by omega, by go_num, HB.out.only ((Only.refl [u] wr).set (.inl (by simp)) _) ?_, HS.out, HO.out.set ?_ _⟩, by simp [intOf]; omega⟩
        · have := hne.out; intro x hx; simp at hx; subst hx; omega
        · right; have := hw3.out; simp; omega
      · have hy3 : y = 3 := by omega
        subst hy3
        have et := total_rep wr p b P HB.out.hp
        rw [Pl.totW_tot HB.out.hp.ok] at et
        obtain ⟨S, hS⟩ : ∃ S, S = wrap64 P.tot := ⟨_, rfl⟩
        rw [← hS] at et
        have HS := Lib.hid hS
        clear hS hlt
        obtain ⟨wo, rfl⟩ : ∃ wo : World, wo = wr := ⟨_, rfl⟩
        go_wp2_with fail
        refine et.mono ?_
        rintro e w5 ⟨rfl, hd5⟩
        have HP5 : Hid (PRep w5 p b P) := HB.out.hp.drewTo hd5
        have HR5 := Lib.hid (HR.out.only (hd5.only []) (by simp))
        have HO5 := Lib.hid (HO.out.trans (hd5.only []) (by simp))
        clear hd5 HB HR HO et
        go_wp2_with fail
        have HM5 : Hid (Mid w w5 p b u P P) := ⟨HP5.out, rfl, fun _ _ => rfl, rfl, HR5.out, HO5.out⟩
        have hub : Hid (u ≠ b) := by have := hne.out; show u ≠ b; omega
        clear HP5 HR5 HO5
        go_loopw [11] (fun v wr => ∃ (i : Nat) (Q : Pl), v = .int .i64 i ∧ Mid w wr p b u P Q ∧ i + Q.moves = M) (fun v _ => M - (intOf v).toNat)
        case atStart => exact ⟨0, P, rfl, HM5.out, by rw [HM.out]; omega⟩
        case round =>
          clear HM5
          obtain ⟨i, Q, rfl, hm, hi⟩ := hrel
          have HD := Lib.hid hm
          have HI := Lib.hid hi
          have e2 := move_rep wr p b Q hm.rep
          by_cases hlt : i < M
          · obtain ⟨z1, z2, z3, z4, z5⟩ := Pl.move_step hm.rep.ok (by omega)
            have h400 : ((i : Int) < 400) := by omega
            rw [z1] at e2
            have Z : Hid (Q.move.2.2.2.n = Q.n ∧ Q.moves = Q.move.2.2.2.moves + 1 ∧ (∀ c, IsC c → Q.move.2.2.2.usedN c Q.n = Q.usedN c Q.n) ∧ Q.move.2.2.2.tot = Q.tot) := ⟨z2, z3, z4, z5⟩
            generalize Q.move.1 = v1 at *
            generalize Q.move.2.1 = v2 at *
            generalize Q.move.2.2.2 = Q2 at *
            clear z1 z2 z3 z4 z5 hm hi
            go_wp2_with fail
            refine e2.mono ?_
            rintro e w6 ⟨rfl, g6, o6⟩
            have HD6 : Hid (Mid w w6 p b u P Q2) := by
              obtain ⟨z2, z3, z4, z5⟩ := Z.out
              exact ⟨g6, by rw [z2, HD.out.n], fun c hc => by rw [z2, z4 c hc, HD.out.used c hc], by rw [z5, HD.out.tot], HD.out.row.only o6 (by have := hub.out; simpa using this), HD.out.only.trans o6 (fun x hx => .inr (by simp at hx; have := hge.out; omega))⟩
            clear g6 o6 e2
            go_wp2_with fail
            exact ⟨⟨i + 1, Q2, by go_num, HD6.out, by have := Z.out.2.1; have := HI.out; omega⟩, by simp [intOf]; omega⟩
          · have hpn := Pl.moves_zero hm.rep.ok (by omega)
            have hiM : i = M := by omega
            rw [Pl.move_none hpn] at e2
            have HPN := Lib.hid hpn
            clear hpn hi hm
            subst hiM
            obtain ⟨wo, rfl⟩ : ∃ wo : World, wo = wr := ⟨_, rfl⟩
            go_wp2_with fail
            refine e2.mono ?_
            rintro e w6 ⟨rfl, g6, o6⟩
            have HD6 : Hid (Mid w w6 p b u P Q) := ⟨g6, HD.out.n, HD.out.used, HD.out.tot, HD.out.row.only o6 (by have := hub.out; simpa using this), HD.out.only.trans o6 (fun x hx => .inr (by simp at hx; have := hge.out; omega))⟩
            clear g6 o6 e2
            have e3 := moves_rep w6 p b Q HD6.out.rep
            rw [Pl.moves_none HPN.out] at e3
            have e4 : Hid (∀ wx, Mid w wx p b u P Q → Calls Try.prog 30 #[.pointer (some ⟨p, 0, none⟩), .int .i64 (P.n : Nat)] wx fun e w' => e = .returned (.int .i64 S) ∧ Drew wx w') := fun wx hx => by
              have h1 := total_rep wx p b Q hx.rep
              rw [Pl.totW_tot hx.rep.ok, hx.tot, hx.n, ← HS.out] at h1
              exact h1
            go_wp2_with fail
            refine e3.mono ?_
            rintro e w7 ⟨rfl, o7⟩
            have HD7 := Lib.hid (HD6.out.to o7)
            clear o7 HD6
            go_wp2_with fail
            refine (e4.out _ HD7.out).mono ?_
            rintro e w8 ⟨rfl, hd8⟩
            have HD8 := Lib.hid (HD7.out.to (hd8.only []))
            clear hd8 HD7 e4
            go_wp2_with fail
            have hQ24 : Hid (Q.n ≤ 24) := HD8.out.rep.n24
            have hQn := Lib.hid HD8.out.n
            have hQok := Lib.hid HD8.out.rep.ok
            go_loopw [18] (fun v wr => ∃ y : Nat, y ≤ 3 ∧ v = .int .i64 y ∧ Mid w wr p b u P Q) (fun v _ => 3 - (intOf v).toNat)
            case atStart => exact ⟨0, by omega, rfl, HD8.out⟩
            case round =>
              clear HD8 HD hlt
              obtain ⟨y, hy, rfl, hm⟩ := hrel
              have HD := Lib.hid hm
              clear hm
              obtain ⟨wo, rfl⟩ : ∃ wo : World, wo = wr := ⟨_, rfl⟩
              by_cases hlt : y < 3
              · have hC : Hid (IsC (y : Int)) := by show (y : Int) = 0 ∨ (y : Int) = 1 ∨ (y : Int) = 2; omega
                have ec := cut_of wo (y : Int) hC.out
                obtain ⟨z, hz⟩ : ∃ z, z = bsz (y : Int) := ⟨_, rfl⟩
                obtain ⟨t, ht⟩ : ∃ t, t = bpt (y : Int) := ⟨_, rfl⟩
                have hzt : z = 2 ∧ t = 8 ∨ z = 4 ∧ t = 4 ∨ z = 8 ∧ t = 2 := by rw [hz, ht]; exact hC.out.facts
                have hdiv : (16 : Int).tdiv (z : Int) = t := by rcases hzt with ⟨e1, e2⟩ | ⟨e1, e2⟩ | ⟨e1, e2⟩ <;> (rw [e1, e2]; rfl)
                have hz0 : ¬ (z : Int) = 0 := by omega
                have hwt : Hid (wrap64 (t : Int) = t) := by show wrap64 (t : Int) = t; unfold wrap64; omega
                rw [← hz] at ec
                have HT := Lib.hid ht
                have HZ := Lib.hid hzt
                clear hz ht hzt
                go_wp2_with fail
                refine ec.mono ?_
                rintro e _ ⟨rfl, rfl⟩
                go_wp2_with fail
                rw [hwt.out]
                clear hdiv hz0 ec
                go_loop [20, 21] (fun s v => ∃ k : Nat, k ≤ P.n ∧ v = .int .i64 k ∧ s = .int .i64 (sumN (Q.clsF (y : Int)) k : Nat)) (fun _ v => P.n - (intOf v).toNat)
                case atStart => exact ⟨0, by omega, rfl, rfl⟩
                case round =>
                  obtain ⟨k, hk, rfl, rfl⟩ := hrel
                  by_cases hlt2 : k < P.n
                  · have e1 := classOf_rep wo p b Q HD.out.rep (k : Int)
                    rw [class_at (by rw [hQn.out]; exact hlt2)] at e1
                    have hle := sumN_le (f := Q.clsF (y : Int)) (k := k) (m := 1) (fun i _ => by unfold Pl.clsF; split <;> omega)
                    by_cases hcy : (Q.pg k).cls = (y : Int)
                    · have hs : Hid (sumN (Q.clsF (y : Int)) (k + 1) = sumN (Q.clsF (y : Int)) k + 1) := by
                        show sumN (Q.clsF (y : Int)) k + Q.clsF (y : Int) k = _
                        unfold Pl.clsF; rw [if_pos hcy]
                      rw [hcy] at e1
                      generalize sumN (Q.clsF (y : Int)) k = s at *
                      clear hcy
                      go_wp2_with fail
                      refine e1.mono ?_
                      rintro e _ ⟨rfl, rfl⟩
                      go_wp2_with fail
                      go_round
                      case rel => exact ⟨k + 1, by omega, by go_num, by rw [hs.out]; go_num⟩
                      case measure => simp [intOf]; omega
                    · have hs : Hid (sumN (Q.clsF (y : Int)) (k + 1) = sumN (Q.clsF (y : Int)) k) := by
                        show sumN (Q.clsF (y : Int)) k + Q.clsF (y : Int) k = _
                        unfold Pl.clsF; rw [if_neg hcy]; rfl
                      generalize sumN (Q.clsF (y : Int)) k = s at *
                      generalize (Q.pg k).cls = x at *
                      go_wp2_with fail
                      refine e1.mono ?_
                      rintro e _ ⟨rfl, rfl⟩
                      go_wp2_with fail
                      go_round
                      case rel => exact ⟨k + 1, by omega, by go_num, by rw [hs.out]⟩
                      case measure => simp [intOf]; omega
                  · have hk9 : k = P.n := by omega
                    subst hk9
                    have e1 := used_rep wo p b Q HD.out.rep (y : Int)
                    rw [show Q.used (y : Int) = (((Q.usedN (y : Int) Q.n : Nat) : Int), 0) by unfold Pl.used; rw [if_neg (by omega)]] at e1
                    have hcp := Pl.compact hQok.out hC.out HPN.out
                    have h192 := Pl.used_le8 (P := Q) (y : Int) hQ24.out
                    have zc := HD.out.row.cell hlt
                    rw [if_pos hlt, ← HD.out.used _ hC.out] at zc
                    rw [hQn.out, ← HT.out] at hcp
                    rw [hQn.out] at zc e1 h192
                    generalize sumN (Q.clsF (y : Int)) P.n = X at *
                    generalize Q.usedN (y : Int) P.n = V at *
                    have hX : X ≤ 200 := by rw [hcp]; exact Nat.le_trans (Nat.div_le_self _ _) (by have := HZ.out; omega)
                    have hq : ((V : Int) + (t : Int) - 1).tdiv (t : Int) = (X : Int) := by
                      rw [show (V : Int) + (t : Int) - 1 = ((V + t - 1 : Nat) : Int) by have := HZ.out; omega, hcp]
                      rfl
                    have ht2 : 2 ≤ t ∧ t ≤ 8 := by have := HZ.out; omega
                    have hcp9 := Lib.hid hcp
                    clear hcp hlt2
                    go_wp2_with fail
                    refine e1.mono ?_
                    rintro e _ ⟨rfl, rfl⟩
                    go_wp2_with fail
                    exact ⟨⟨y + 1, by omega, by go_num, HD.out⟩, by simp [intOf]; omega⟩
              · go_wp2_with fail
                refine (sane_any _).mono ?_
                rintro e w9 ⟨rfl, o9⟩
                go_wp2_with fail
                exact hR.out _ _ ⟨rfl, (HD.out.only.trans o9 (by simp)).below (Nat.le_refl _) (by simp)⟩
end Go.Proofs.Ytngmiacekcmidaa
