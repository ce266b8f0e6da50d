/- The law QueueOrders, walked. -/
import Derived.Test.YtemdkffkpdhciaaOrdB
import Derived.Deep.DeepCutAuto
import Derived.Deep.CutBlock
import Derived.Deep.RegionWith
namespace Go.Proofs.Ytemdkffkpdhciaa
open Go.RowKit
open Go.ChangeShapes Go.WideShapes
set_option maxHeartbeats 12800000
set_option maxRecDepth 100000
set_option linter.unusedVariables false

theorem bools_at {w wr : World} {a : Option Addr} {len : Nat} {f : Nat → Bool} (h : Bools w a len f) (hb : Only [] w wr) {k : Nat} (hk : k < len) :
    ∃ b o, a = some ⟨b, o, none⟩ ∧ wr.cell? ⟨b, o + k, none⟩ = some (.bool (f k)) := by
  obtain ⟨_, h0 | ⟨b, o, rfl, hc⟩⟩ := h
  · omega
  exact ⟨b, o, rfl, hb.cell (hc k hk) (by simp)⟩
theorem nums_at' {w wr : World} {a : Option Addr} {len : Nat} {f : Nat → Int} (h : Nums w a len f) (hb : Only [] w wr) {k : Nat} (hk : k < len) :
    ∃ b o, a = some ⟨b, o, none⟩ ∧ wr.cell? ⟨b, o + k, none⟩ = some (.int .i64 (f k)) ∧ b < w.heap.size ∧ w.cell? ⟨b, o + k, none⟩ = some (.int .i64 (f k)) := by
  obtain ⟨_, h0 | ⟨b, o, rfl, hc⟩⟩ := h
  · omega
  exact ⟨b, o, rfl, hb.cell (hc k hk).1 (by simp), World.block_lt_of_cell? w _ (hc k hk).1, (hc k hk).1⟩

theorem Ints.cellAt {w : World} {base g m cap : Nat} {P : List Int} (h : Ints w base (.slice (some ⟨g, 0, none⟩) m cap) P) {k : Nat} (hk : k < P.length) : w.cell? ⟨g, k, none⟩ = some (.int .i64 (gI P k)) := by
  rcases h.form with ⟨h1, h2⟩ | ⟨g', cap', h1, _, _, hc, hat⟩
  · cases h1
  · cases h1; exact hat k hk
theorem ORel.drew {w wr : World} {q c sb wb : Nat} {v1 v2 : Value} {s : QSt} {s0 s1 : Nat} {w0 w1 : Bool} {P T : List Int} (h : ORel w wr q c sb wb v1 v2 s s0 s1 w0 w1 P T) : ORel w wr.drew q c sb wb v1 v2 s s0 s1 w0 w1 P T :=
  ⟨h.hq.drew, h.ok, h.hs.drew, h.hw.drew, h.fP.drew, h.fT.drew, h.ne, h.d1, h.d2, h.d12, h.b, h.o.drew⟩

def OAt (w wx : World) (m n k q c sb wb : Nat) (f : Nat → Int) (s11 s12 s13 : Value) : Prop :=
  ∃ (s : QSt) (t : RSt) (b s0 s1 : Nat) (w0 w1 : Bool) (P T : List Int), s13 = .int .i64 b ∧ b ≤ m ∧ OInv n k f s t b s0 s1 w0 w1 P T ∧ ORel w wx q c sb wb s11 s12 s s0 s1 w0 w1 P T

theorem walk_QueueOrders (a0 : Int) (a1 : Option Addr) (len1 cap1 : Nat) (f1 : Nat → Int) (a2 : Option Addr) (len2 cap2 : Nat) (f2 : Nat → Bool) (w : World) (w0 : (Lit.int .i64 a0).wf = true) (w1 : Nums w a1 len1 f1) (w2 : Bools w a2 len2 f2) :
    Calls Try.prog 3 #[.int .i64 a0, .slice a1 len1 cap1, .slice a2 len2 cap2] w fun e w' => e = .returned (.bool true) ∧ Below w.heap.size w w' := by
  refine calls_abs fun R hR => ?_
  have hm1 := w1.1
  have hm2 := w2.1
  have R1 := Lib.hid w1
  have R2 := Lib.hid w2
  clear w1 w2
  by_cases hs : a0 < 1 ∨ 8 < a0
  · go_enter Try.func3, Try.ntmps3
    go_wp2_with fail
    refine (new_no w a0 hs).mono ?_
    rintro e _ ⟨rfl, rfl⟩
    go_wp2_with fail
    refine (refNew_no w a0 hs).mono ?_
    rintro e _ ⟨rfl, rfl⟩
    go_wp2_with fail
    refine (sane_any _).mono ?_
    rintro e w1 ⟨rfl, o1⟩
    go_wp2_with fail
    exact hR.out _ _ ⟨rfl, o1.below (Nat.le_refl _) (by simp)⟩
  obtain ⟨n, rfl, hn1, hn8⟩ : ∃ n : Nat, a0 = n ∧ 1 ≤ n ∧ n ≤ 8 := ⟨a0.toNat, by omega, by omega, by omega⟩
  clear hs
  go_enter Try.func3, Try.ntmps3
  go_wp2_with fail
  refine (new_yes w n hn1 hn8).mono ?_
  rintro e w2 ⟨q, c, rfl, h2, o2, b2, b3⟩
  go_wp2_with fail
  refine (refNew_yes w2 n hn1 hn8).mono ?_
  rintro e w3 ⟨p, F, rfl, h3, o3, b4⟩
  have l2 := h2.lt
  have s2 := o2.size
  have s3 := o3.size
  have hq3 := h2.only o3 (by simp) (by simp)
  have o23 := o2.trans o3 (by simp)
  have hinit : Hid (OAt w ((w3.alloc (.cells #[.int .i64 0, .int .i64 0] 32)).alloc (.cells #[.bool false, .bool false] 33)) len1 n 0 q c w3.heap.size (w3.heap.size + 1) f1 (.slice none 0 0) (.slice none 0 0) (.int .i64 0)) := by
    refine ⟨QSt.new n, _, 0, 0, 0, false, false, [], [], rfl, Nat.zero_le _, OInv.new hn1 hn8, ?_⟩
    have oo : Only [] w3 ((w3.alloc (.cells #[.int .i64 0, .int .i64 0] 32)).alloc (.cells #[.bool false, .bool false] 33)) := ((Only.refl _ _).alloc _).alloc _
    refine ⟨hq3.only oo (by simp) (by simp), QSt.new_ok n hn1 hn8, (Row.new w3 32 [.int .i64 0, .int .i64 0]).alloc _, ?_, Ints.nil _ _, Ints.nil _ _, ⟨by omega, by omega, by omega, by omega, by omega⟩, by simp [Value.ownBlock], by simp [Value.ownBlock], by simp [Value.ownBlock], ⟨by omega, by omega, by omega, by omega⟩, o23.trans oo (by simp)⟩
    have := Row.new (w3.alloc (.cells #[.int .i64 0, .int .i64 0] 32)) 33 [.bool false, .bool false]
    simpa using this
  clear h2 h3 o2 o3 b2 b3 b4 l2 s2 s3 hq3 o23
  go_wp2_with fail
  generalize hsb : w3.heap.size = sb at *
  obtain ⟨wb, hwb⟩ : ∃ wb, wb = sb + 1 := ⟨_, rfl⟩
  rw [← hwb] at hinit ⊢
  clear hsb hwb
  go_loopw [11, 12, 13, 16] (fun s11 s12 s13 i wr => ∃ k : Nat, k ≤ len2 ∧ k ≤ 300 ∧ i = .int .i64 k ∧ OAt w wr len1 n k q c sb wb f1 s11 s12 s13) (fun _ _ _ i _ => 300 - (intOf i).toNat)
  case atStart => exact ⟨0, by omega, by omega, rfl, hinit.out⟩
  case round =>
    clear hinit
    obtain ⟨k, hk, hk3, rfl, s, t, b, s0, s1, w0, w1, P, T, rfl, hbm, hI0, hr⟩ := hrel
    have hI := Lib.hid hI0
    clear hI0
    obtain ⟨hbk, hs02, hs12, hPT, hPk⟩ : b ≤ k ∧ s0 ≤ 2 ∧ s1 ≤ 2 ∧ T.length ≤ P.length ∧ P.length ≤ k := ⟨hI.out.bk, hI.out.s02, hI.out.s12, hI.out.tells.2.2.1, hI.out.tells.2.2.2.1⟩
    by_cases hlt : k < len2 ∧ k < 300
    · obtain ⟨hlt1, hlt2⟩ := hlt
      obtain ⟨b2, o2, rfl, hc2⟩ := bools_at R2.out hr.o hlt1
      obtain ⟨p1, pc1, e1⟩ := hr.fP.len
      obtain ⟨p2, pc2, e2⟩ := hr.fT.len
      subst e1
      subst e2
      have HR := Lib.hid hr
      clear hr
      go_upto_if 62 with fail
      go_cut [11, 12, 13, 17, 18, 19, 20, 21, 22, 23] (fun s11 s12 s13 _ _ _ _ _ _ _ wx => Hid (OAt w wx len1 n (k + 1) q c sb wb f1 s11 s12 s13))
      case first => as_aux_lemma =>
        generalize f2 k = sc at hc2
        cases sc
        · have z0 : wr.cell? ⟨sb, 1, none⟩ = some (.int .i64 s1) := HR.out.hs.cell 1 rfl
          have zf : wr.frozen? ⟨sb, 1, none⟩ = false := HR.out.hs.free 1
          have yf : wr.frozen? ⟨wb, 1, none⟩ = false := HR.out.hw.free 1
          have y0 : wr.cell? ⟨wb, 1, none⟩ = some (.bool w1) := HR.out.hw.cell 1 rfl
          obtain rfl | rfl | rfl : s1 = 0 ∨ s1 = 1 ∨ s1 = 2 := by omega
          · by_cases hroom : T.length < P.length
            · obtain ⟨s', t', e, i'⟩ := hI.out.takeNew.2.1 hroom
              have hr1 := Lib.hid (HR.out.setW1 true)
              go_wp2_with fail
              have hcc := beginTake_rep _ q c s hr1.out.hq hr1.out.ok
              rw [hI.out.takeNew.1] at hcc
              refine hcc.mono ?_
              clear hcc
              rintro e w5 ⟨rfl, g5, o5⟩
              have hr5 := hr1.out.step g5 (hr1.out.ok.beginTake.1) (o5.mono (by simp))
              clear g5 o5 z0 zf yf y0
              have z0 : w5.cell? ⟨sb, 1, none⟩ = some (.int .i64 0) := hr5.hs.cell 1 rfl
              have zf : w5.frozen? ⟨sb, 1, none⟩ = false := hr5.hs.free 1
              have hr6 := Lib.hid ((hr5).setS1 1)
              go_wp2_with fail
              have hcc := stepTake_rep _ q c _ hr6.out.hq hr6.out.ok
              rw [e] at hcc
              dsimp only at hcc
              refine hcc.mono ?_
              clear hcc
              rintro e w7 ⟨rfl, g7, o7⟩
              have hr7 := Lib.hid (hr6.out.step g7 i'.cpl.sok o7)
              clear g7 o7 z0 zf
              have z0 : w7.cell? ⟨sb, 1, none⟩ = some (.int .i64 1) := hr7.out.hs.cell 1 rfl
              have zf : w7.frozen? ⟨sb, 1, none⟩ = false := hr7.out.hs.free 1
              have y0 : w7.cell? ⟨wb, 1, none⟩ = some (.bool true) := hr7.out.hw.cell 1 rfl
              have I' := Lib.hid i'
              clear i'
              go_wp2_with fail
              go_meet
              exact ⟨s', t', _, _, _, _, _, _, _, (by first | rfl | go_num), by omega, I'.out, hr7.out⟩
            · obtain ⟨s', t', e, i'⟩ := hI.out.takeNew.2.2 hroom
              have hr1 := Lib.hid (HR.out.setW1 false)
              go_wp2_with fail
              have hcc := beginTake_rep _ q c s hr1.out.hq hr1.out.ok
              rw [hI.out.takeNew.1] at hcc
              refine hcc.mono ?_
              clear hcc
              rintro e w5 ⟨rfl, g5, o5⟩
              have hr5 := hr1.out.step g5 (hr1.out.ok.beginTake.1) (o5.mono (by simp))
              clear g5 o5 z0 zf yf y0
              have z0 : w5.cell? ⟨sb, 1, none⟩ = some (.int .i64 0) := hr5.hs.cell 1 rfl
              have zf : w5.frozen? ⟨sb, 1, none⟩ = false := hr5.hs.free 1
              have hr6 := Lib.hid ((hr5).setS1 1)
              go_wp2_with fail
              have hcc := stepTake_rep _ q c _ hr6.out.hq hr6.out.ok
              rw [e] at hcc
              dsimp only at hcc
              refine hcc.mono ?_
              clear hcc
              rintro e w7 ⟨rfl, g7, o7⟩
              have hr7 := Lib.hid (hr6.out.step g7 i'.cpl.sok o7)
              clear g7 o7 z0 zf
              have z0 : w7.cell? ⟨sb, 1, none⟩ = some (.int .i64 1) := hr7.out.hs.cell 1 rfl
              have zf : w7.frozen? ⟨sb, 1, none⟩ = false := hr7.out.hs.free 1
              have y0 : w7.cell? ⟨wb, 1, none⟩ = some (.bool false) := hr7.out.hw.cell 1 rfl
              have I' := Lib.hid i'
              clear i'
              go_wp2_with fail
              go_meet
              exact ⟨s', t', _, _, _, _, _, _, _, (by first | rfl | go_num), by omega, I'.out, hr7.out.setS1 0⟩
          · obtain rfl : w1 = true := hI.out.hw1 (by omega)
            obtain ⟨s', t', e, i'⟩ := hI.out.takeOn1
            have hr6 := Lib.hid ((HR.out).setS1 2)
            go_wp2_with fail
            have hcc := stepTake_rep _ q c _ hr6.out.hq hr6.out.ok
            rw [e] at hcc
            dsimp only at hcc
            refine hcc.mono ?_
            clear hcc
            rintro e w7 ⟨rfl, g7, o7⟩
            have hr7 := Lib.hid (hr6.out.step g7 i'.cpl.sok o7)
            clear g7 o7 z0 zf
            have z0 : w7.cell? ⟨sb, 1, none⟩ = some (.int .i64 2) := hr7.out.hs.cell 1 rfl
            have zf : w7.frozen? ⟨sb, 1, none⟩ = false := hr7.out.hs.free 1
            have y0 : w7.cell? ⟨wb, 1, none⟩ = some (.bool true) := hr7.out.hw.cell 1 rfl
            have I' := Lib.hid i'
            clear i'
            go_wp2_with fail
            go_meet
            exact ⟨s', t', _, _, _, _, _, _, _, (by first | rfl | go_num), by omega, I'.out, hr7.out⟩
          · obtain rfl : w1 = true := hI.out.hw1 (by omega)
            obtain ⟨s', t', e, hTP, i'⟩ := hI.out.takeOn2
            obtain ⟨g, rfl⟩ : ∃ g, p1 = some ⟨g, 0, none⟩ := by
              rcases HR.out.fP.form with ⟨h1, h2⟩ | ⟨g, cap', h1, _⟩
              · rw [h2] at hTP; simp at hTP
              · cases h1; exact ⟨g, rfl⟩
            have hgs : sb ≠ g := by have := HR.out.d1 g rfl; omega
            have hr6 := Lib.hid ((HR.out).setS1 3)
            go_wp2_with fail
            have hcc := stepTake_rep _ q c _ hr6.out.hq hr6.out.ok
            rw [e] at hcc
            dsimp only at hcc
            refine hcc.mono ?_
            clear hcc
            rintro e w7 ⟨rfl, g7, o7⟩
            have hr7 := Lib.hid (hr6.out.step g7 i'.cpl.sok o7)
            clear g7 o7 z0 zf
            have z0 : w7.cell? ⟨sb, 1, none⟩ = some (.int .i64 3) := hr7.out.hs.cell 1 rfl
            have zf : w7.frozen? ⟨sb, 1, none⟩ = false := hr7.out.hs.free 1
            have y0 : w7.cell? ⟨wb, 1, none⟩ = some (.bool true) := hr7.out.hw.cell 1 rfl
            have I' := Lib.hid i'
            clear i'
            have hr8 := Lib.hid (hr7.out.setS1 0)
            have hc7 : w7.cell? ⟨g, T.length, none⟩ = some (.int .i64 (gI P T.length)) := hr7.out.fP.cellAt hTP
            have hc8 : (w7.setCell ⟨sb, 1, none⟩ (.int .i64 0)).cell? ⟨g, T.length, none⟩ = some (.int .i64 (gI P T.length)) := hr8.out.fP.cellAt hTP
            have f8 := hr8.out.fT
            have hTI : decide ((P.length : Int) ≤ (T.length : Int)) = false := by simp; omega
            go_wp2_with (at_builtin; refine append_int1 rfl _ _ rfl w.heap.size _ T rfl (f8.alloc _) _ (gI P T.length) rfl ?c1 ?c2 ?c3 ?c4)
            case c1 => have hh := (Row.new (w7.setCell ⟨sb, 1, none⟩ (.int .i64 0)) 3 [.int .i64 (gI P T.length)]).cell 0 rfl; first | exact hh | (rw [show w7.heap.size = (w7.setCell ⟨sb, 1, none⟩ (.int .i64 0)).heap.size by simp]; exact hh) | simpa using hh
            case c2 => simp; omega
            case c3 => have := hr8.out.o.size; simp at this ⊢; omega
            case c4 =>
              intro v' w9 f9 o9 b9
              have hr9 := Lib.hid (hr8.out.apT f9 o9 (by simpa using b9))
              clear f9 o9 b9 f8
              go_wp2_with fail
              go_meet
              exact ⟨s', t', _, _, _, _, _, _, _, (by first | rfl | go_num), hbm, I'.out, hr9.out⟩
        · have z0 : wr.cell? ⟨sb, 0, none⟩ = some (.int .i64 s0) := HR.out.hs.cell 0 rfl
          have zf : wr.frozen? ⟨sb, 0, none⟩ = false := HR.out.hs.free 0
          have yf : wr.frozen? ⟨wb, 0, none⟩ = false := HR.out.hw.free 0
          have y0 : wr.cell? ⟨wb, 0, none⟩ = some (.bool w0) := HR.out.hw.cell 0 rfl
          obtain rfl | rfl | rfl : s0 = 0 ∨ s0 = 1 ∨ s0 = 2 := by omega
          · by_cases hbl : b < len1
            · obtain ⟨b1, o1, rfl, hc1, hb1, hcw⟩ := nums_at' R1.out HR.out.o hbl
              cases hwd : isWordB (f1 b)
              · go_wp2_with fail
                refine (lawWord_any _ _).mono ?_
                rintro e _ ⟨rfl, rfl⟩
                go_wp2_with fail
                exact ⟨⟨k + 1, by omega, by omega, by go_num, s, t, b, 0, s1, w0, w1, P, T, rfl, hbm, hI.out.more, HR.out⟩, by simp [intOf]; omega⟩
              · have HWD := Lib.hid hwd
                by_cases hroom : P.length - T.length < n
                · obtain ⟨s', t', e, i'⟩ := (hI.out.putNew hwd).2.1 hroom
                  have hri : ((P.length : Int) - (T.length : Int) < (n : Int)) := by omega
                  have hnw : wb ≠ b1 := by have := HR.out.b; omega
                  have hc1' : (wr.setCell ⟨wb, 0, none⟩ (.bool true)).cell? ⟨b1, o1 + b, none⟩ = some (.int .i64 (f1 b)) := (show Only [wb] wr _ from (Only.refl _ _).set (by simp) _).cell hc1 (by simp; omega)
                  have hr1 := Lib.hid (HR.out.setW0 true)
                  go_wp2_with fail
                  refine (lawWord_any _ _).mono ?_
                  rintro e _ ⟨rfl, rfl⟩
                  rw [HWD.out]
                  clear hwd
                  go_wp2_with fail
                  have hcc := beginPut_rep _ q c s hr1.out.hq hr1.out.ok (f1 b)
                  rw [(hI.out.putNew HWD.out).1] at hcc
                  refine hcc.mono ?_
                  clear hcc
                  rintro e w5 ⟨rfl, g5, o5⟩
                  have hr5 := hr1.out.step g5 ((hr1.out.ok.beginPut _).1) (o5.mono (by simp))
                  clear g5 o5 z0 zf yf y0
                  have z0 : w5.cell? ⟨sb, 0, none⟩ = some (.int .i64 0) := hr5.hs.cell 0 rfl
                  have zf : w5.frozen? ⟨sb, 0, none⟩ = false := hr5.hs.free 0
                  have hr6 := Lib.hid ((hr5).setS0 1)
                  go_wp2_with fail
                  have hcc := stepPut_rep _ q c _ hr6.out.hq hr6.out.ok
                  rw [e] at hcc
                  dsimp only at hcc
                  refine hcc.mono ?_
                  clear hcc
                  rintro e w7 ⟨rfl, g7, o7⟩
                  have hr7 := Lib.hid (hr6.out.step g7 i'.cpl.sok o7)
                  clear g7 o7 z0 zf
                  have z0 : w7.cell? ⟨sb, 0, none⟩ = some (.int .i64 1) := hr7.out.hs.cell 0 rfl
                  have zf : w7.frozen? ⟨sb, 0, none⟩ = false := hr7.out.hs.free 0
                  have y0 : w7.cell? ⟨wb, 0, none⟩ = some (.bool true) := hr7.out.hw.cell 0 rfl
                  have I' := Lib.hid i'
                  clear i'
                  go_wp2_with fail
                  go_meet
                  exact ⟨s', t', _, _, _, _, _, _, _, (by first | rfl | go_num), by omega, I'.out, hr7.out⟩
                · obtain ⟨s', t', e, i'⟩ := (hI.out.putNew hwd).2.2 hroom
                  have hri : decide ((P.length : Int) - (T.length : Int) < (n : Int)) = false := by simp; omega
                  have hnw : wb ≠ b1 := by have := HR.out.b; omega
                  have hc1' : (wr.setCell ⟨wb, 0, none⟩ (.bool false)).cell? ⟨b1, o1 + b, none⟩ = some (.int .i64 (f1 b)) := (show Only [wb] wr _ from (Only.refl _ _).set (by simp) _).cell hc1 (by simp; omega)
                  have hr1 := Lib.hid (HR.out.setW0 false)
                  go_wp2_with fail
                  refine (lawWord_any _ _).mono ?_
                  rintro e _ ⟨rfl, rfl⟩
                  rw [HWD.out]
                  clear hwd
                  go_wp2_with fail
                  have hcc := beginPut_rep _ q c s hr1.out.hq hr1.out.ok (f1 b)
                  rw [(hI.out.putNew HWD.out).1] at hcc
                  refine hcc.mono ?_
                  clear hcc
                  rintro e w5 ⟨rfl, g5, o5⟩
                  have hr5 := hr1.out.step g5 ((hr1.out.ok.beginPut _).1) (o5.mono (by simp))
                  clear g5 o5 z0 zf yf y0
                  have z0 : w5.cell? ⟨sb, 0, none⟩ = some (.int .i64 0) := hr5.hs.cell 0 rfl
                  have zf : w5.frozen? ⟨sb, 0, none⟩ = false := hr5.hs.free 0
                  have hr6 := Lib.hid ((hr5).setS0 1)
                  go_wp2_with fail
                  have hcc := stepPut_rep _ q c _ hr6.out.hq hr6.out.ok
                  rw [e] at hcc
                  dsimp only at hcc
                  refine hcc.mono ?_
                  clear hcc
                  rintro e w7 ⟨rfl, g7, o7⟩
                  have hr7 := Lib.hid (hr6.out.step g7 i'.cpl.sok o7)
                  clear g7 o7 z0 zf
                  have z0 : w7.cell? ⟨sb, 0, none⟩ = some (.int .i64 1) := hr7.out.hs.cell 0 rfl
                  have zf : w7.frozen? ⟨sb, 0, none⟩ = false := hr7.out.hs.free 0
                  have y0 : w7.cell? ⟨wb, 0, none⟩ = some (.bool false) := hr7.out.hw.cell 0 rfl
                  have I' := Lib.hid i'
                  clear i'
                  go_wp2_with fail
                  go_meet
                  exact ⟨s', t', _, _, _, _, _, _, _, (by first | rfl | go_num), by omega, I'.out, hr7.out.setS0 0⟩
            · go_wp2_with fail
              exact ⟨⟨k + 1, by omega, by omega, by go_num, s, t, b, 0, s1, w0, w1, P, T, rfl, hbm, hI.out.more, HR.out⟩, by simp [intOf]; omega⟩
          · obtain rfl : w0 = true := hI.out.hw0 (by omega)
            obtain ⟨s', t', e, i'⟩ := hI.out.putOn1
            have hr6 := Lib.hid ((HR.out).setS0 2)
            go_wp2_with fail
            have hcc := stepPut_rep _ q c _ hr6.out.hq hr6.out.ok
            rw [e] at hcc
            dsimp only at hcc
            refine hcc.mono ?_
            clear hcc
            rintro e w7 ⟨rfl, g7, o7⟩
            have hr7 := Lib.hid (hr6.out.step g7 i'.cpl.sok o7)
            clear g7 o7 z0 zf
            have z0 : w7.cell? ⟨sb, 0, none⟩ = some (.int .i64 2) := hr7.out.hs.cell 0 rfl
            have zf : w7.frozen? ⟨sb, 0, none⟩ = false := hr7.out.hs.free 0
            have y0 : w7.cell? ⟨wb, 0, none⟩ = some (.bool true) := hr7.out.hw.cell 0 rfl
            have I' := Lib.hid i'
            clear i'
            go_wp2_with fail
            go_meet
            exact ⟨s', t', _, _, _, _, _, _, _, (by first | rfl | go_num), by omega, I'.out, hr7.out⟩
          · obtain rfl : w0 = true := hI.out.hw0 (by omega)
            obtain ⟨s', t', e, i'⟩ := hI.out.putOn2
            obtain ⟨b', rfl⟩ : ∃ b', b = b' + 1 := ⟨b - 1, by have := (hI.out.last (by omega)).1; omega⟩
            have hbl : b' < len1 := by omega
            obtain ⟨b1, o1, rfl, hc1, hb1, hcw⟩ := nums_at' R1.out HR.out.o hbl
            have hnb : sb ≠ b1 := by have := HR.out.b; omega
            have hr6 := Lib.hid ((HR.out).setS0 3)
            go_wp2_with fail
            have hcc := stepPut_rep _ q c _ hr6.out.hq hr6.out.ok
            rw [e] at hcc
            dsimp only at hcc
            refine hcc.mono ?_
            clear hcc
            rintro e w7 ⟨rfl, g7, o7⟩
            have hr7 := Lib.hid (hr6.out.step g7 i'.cpl.sok o7)
            clear g7 o7 z0 zf
            have z0 : w7.cell? ⟨sb, 0, none⟩ = some (.int .i64 3) := hr7.out.hs.cell 0 rfl
            have zf : w7.frozen? ⟨sb, 0, none⟩ = false := hr7.out.hs.free 0
            have y0 : w7.cell? ⟨wb, 0, none⟩ = some (.bool true) := hr7.out.hw.cell 0 rfl
            have I' := Lib.hid i'
            clear i'
            have hr8 := Lib.hid (hr7.out.setS0 0)
            have hc7 : w7.cell? ⟨b1, o1 + b', none⟩ = some (.int .i64 (f1 b')) := hr7.out.o.cell hcw (by simp)
            have hc8 : (w7.setCell ⟨sb, 0, none⟩ (.int .i64 0)).cell? ⟨b1, o1 + b', none⟩ = some (.int .i64 (f1 b')) := hr8.out.o.cell hcw (by simp)
            have f8 := hr8.out.fP
            go_wp2_with (at_builtin; refine append_int1 rfl _ _ rfl w.heap.size _ P rfl (f8.alloc _) _ (f1 b') rfl ?c1 ?c2 ?c3 ?c4)
            case c1 => have hh := (Row.new (w7.setCell ⟨sb, 0, none⟩ (.int .i64 0)) 3 [.int .i64 (f1 b')]).cell 0 rfl; first | exact hh | (rw [show w7.heap.size = (w7.setCell ⟨sb, 0, none⟩ (.int .i64 0)).heap.size by simp]; exact hh) | simpa using hh
            case c2 => simp; omega
            case c3 => have := hr8.out.o.size; simp at this ⊢; omega
            case c4 =>
              intro v' w9 f9 o9 b9
              have hr9 := Lib.hid (hr8.out.apP f9 o9 (by simpa using b9))
              clear f9 o9 b9 f8
              go_wp2_with fail
              go_meet
              exact ⟨s', t', _, _, _, _, _, _, _, (by first | rfl | go_num), hbm, I'.out, hr9.out⟩
      case rest => as_aux_lemma =>
        clear HR hI hc2 hbk hs02 hs12 hPT hPk hbm
        obtain ⟨s', t', b', s0', s1', w0', w1', P', T', rfl, hbm', hI0', hr'⟩ := hcut.out
        clear hcut
        have hI' := Lib.hid hI0'
        have HR := Lib.hid hr'
        obtain ⟨hit, hln, hPT, hPk, hl8⟩ := hI0'.tells
        have HIT := Lib.hid hit
        have hln' : decide ((n : Int) < (s'.len : Int)) = false := by simp; omega
        have hbk' : b' ≤ k + 1 := hI0'.bk
        clear hI0' hit
        obtain ⟨p2', pc2', e2'⟩ := hr'.fT.len
        rcases hr'.fP.form with ⟨e1', e3⟩ | ⟨g, cp, e1', _, _, hcp, _⟩
        · subst e1' e2'
          have hT0 : T'.length = 0 := by rw [e3] at hPT; simpa using hPT
          obtain rfl : T' = [] := List.eq_nil_of_length_eq_zero hT0
          subst e3
          have HPD : ∀ wx, Ints wx w.heap.size (.slice none 0 0) [] → Read wx (.slice none 0 0) (([] : List Int).drop ([] : List Int).length) := by
            intro wx _
            exact .inr ⟨none, 0, rfl, rfl⟩
          clear hr' hT0
          go_wp2_with fail
          go_region_with (first
            | (go_at_call 19; refine (items_rep _ q c s' HR.out.drew.hq HR.out.ok).mono ?_; rintro e w5 ⟨v5, rfl, i5, o5⟩; rw [HIT.out] at i5; have I5 := Lib.hid i5; have HR5 := Lib.hid (HR.out.drew.only o5); clear i5 o5)
            | (go_at_call 18; refine (ints_eq _ _ _ (([] : List Int).drop ([] : List Int).length) I5.out.read (HPD _ HR5.out.fP) (by rw [List.length_drop]; omega)).mono ?_; rintro e _ ⟨rfl, n5, rfl⟩)
            | (go_at_call 20; refine (len_rep _ q c s' (HR5.out.drewN _).hq HR.out.ok).mono ?_; rintro e w6 ⟨rfl, o6⟩; have HR6 := Lib.hid ((HR5.out.drewN _).only o6); clear o6))
          all_goals
            go_wp2_with fail
            exact ⟨⟨k + 1, by omega, by omega, by go_num, s', t', b', s0', s1', w0', w1', [], [], rfl, hbm', hI'.out, HR6.out⟩, by simp [intOf]; omega⟩
        · by_cases hcc : T'.length = cp
          · subst hcc
            subst e1' e2'
            have hPl : Hid (P'.length = T'.length) := by show _ = _; omega
            have HPD : ∀ wx, Ints wx w.heap.size (.slice (some ⟨g, 0, none⟩) P'.length T'.length) P' → Read wx (.slice (some ⟨g, 0, none⟩) 0 0) (P'.drop T'.length) := by
              intro wx hx
              exact .inr ⟨_, _, rfl, by rw [← hPl.out, List.drop_length]⟩
            clear hr'
            go_wp2_with fail
            go_region_with (first
              | (go_at_call 19; refine (items_rep _ q c s' HR.out.drew.hq HR.out.ok).mono ?_; rintro e w5 ⟨v5, rfl, i5, o5⟩; rw [HIT.out] at i5; have I5 := Lib.hid i5; have HR5 := Lib.hid (HR.out.drew.only o5); clear i5 o5)
              | (go_at_call 18; refine (ints_eq _ _ _ (P'.drop T'.length) I5.out.read (HPD _ HR5.out.fP) (by rw [List.length_drop]; omega)).mono ?_; rintro e _ ⟨rfl, n5, rfl⟩)
              | (go_at_call 20; refine (len_rep _ q c s' (HR5.out.drewN _).hq HR.out.ok).mono ?_; rintro e w6 ⟨rfl, o6⟩; have HR6 := Lib.hid ((HR5.out.drewN _).only o6); clear o6))
            all_goals
              go_wp2_with fail
              exact ⟨⟨k + 1, by omega, by omega, by go_num, s', t', b', s0', s1', w0', w1', P', T', rfl, hbm', hI'.out, HR6.out⟩, by simp [intOf]; omega⟩
          · subst e1' e2'
            have HPD : ∀ wx, Ints wx w.heap.size (.slice (some ⟨g, 0, none⟩) P'.length cp) P' → Read wx (.slice (some ⟨g, T'.length, none⟩) (P'.length - T'.length) (cp - T'.length)) (P'.drop T'.length) := by
              intro wx hx
              exact hx.dropRead hPT rfl (.inr rfl)
            clear hr'
            go_wp2_with fail
            go_region_with (first
              | (go_at_call 19; refine (items_rep _ q c s' HR.out.drew.hq HR.out.ok).mono ?_; rintro e w5 ⟨v5, rfl, i5, o5⟩; rw [HIT.out] at i5; have I5 := Lib.hid i5; have HR5 := Lib.hid (HR.out.drew.only o5); clear i5 o5)
              | (go_at_call 18; refine (ints_eq _ _ _ (P'.drop T'.length) I5.out.read (HPD _ HR5.out.fP) (by rw [List.length_drop]; omega)).mono ?_; rintro e _ ⟨rfl, n5, rfl⟩)
              | (go_at_call 20; refine (len_rep _ q c s' (HR5.out.drewN _).hq HR.out.ok).mono ?_; rintro e w6 ⟨rfl, o6⟩; have HR6 := Lib.hid ((HR5.out.drewN _).only o6); clear o6))
            all_goals
              go_wp2_with fail
              exact ⟨⟨k + 1, by omega, by omega, by go_num, s', t', b', s0', s1', w0', w1', P', T', rfl, hbm', hI'.out, HR6.out⟩, by simp [intOf]; omega⟩
    · have HR := Lib.hid hr
      clear hr
      by_cases hl1 : k < len2
      · have hl2 : ¬ k < 300 := by omega
        go_wp2_with fail
        refine (sane_any _).mono ?_
        rintro e w1 ⟨rfl, o1⟩
        go_wp2_with fail
        exact hR.out _ _ ⟨rfl, (HR.out.o.trans o1 (by simp)).below (Nat.le_refl _) (by simp)⟩
      go_wp2_with fail
      refine (sane_any _).mono ?_
      rintro e w1 ⟨rfl, o1⟩
      go_wp2_with fail
      exact hR.out _ _ ⟨rfl, (HR.out.o.trans o1 (by simp)).below (Nat.le_refl _) (by simp)⟩
end Go.Proofs.Ytemdkffkpdhciaa
