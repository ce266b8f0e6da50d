/- The law QueueLogs, walked. -/
import Derived.Test.YtemdkffkpdhciaaLogC
import Derived.Test.YtemdkffkpdhciaaQSteps
import Derived.Deep.DeepCutAuto
import Derived.Deep.CutBlock
namespace Go.Proofs.Ytemdkffkpdhciaa
open Go.RowKit
set_option maxHeartbeats 800000
set_option maxRecDepth 100000
set_option linter.unusedVariables false

/-- The two logs hold the same. -/
structure LCpl (s : LSt) (t : RLog) : Prop where
  sok : s.ok
  tok : t.ok
  kept : s.kept = t.words.drop t.gone
  room : s.room = t.size
  lost : s.lost + t.drained = t.gone

/-- The error of Add. -/
def addE (n : Int) : Int := if isWordB n then 0 else 1
theorem LSt.add_1 (s : LSt) (n : Int) : (s.add n).1 = addE n := by unfold LSt.add addE; split <;> rfl
theorem RLog.add_1 (s : RLog) (n : Int) : (s.add n).1 = addE n := by unfold RLog.add addE; split <;> rfl

theorem LCpl.add {s : LSt} {t : RLog} (h : LCpl s t) (hb : t.words.length < 1000000) (n : Int) : LCpl (s.add n).2 (t.add n).2 ∧ (t.add n).2.words.length ≤ t.words.length + 1 ∧ (s.add n).2.room = s.room ∧
    (s.add n).2.kept.length + (s.add n).2.lost = s.kept.length + s.lost + (if isWordB n then 1 else 0) := by
  obtain ⟨⟨r1, r16, kl, lo⟩, ⟨s1, s16, dg, gl, wl⟩, kept, room, lost⟩ := h
  have hlen : s.kept.length = t.words.length - t.gone := by rw [kept, List.length_drop]
  cases hw : isWordB n
  · rw [LSt.add_bad hw, RLog.add_bad hw]
    exact ⟨⟨⟨r1, r16, kl, lo⟩, ⟨s1, s16, dg, gl, wl⟩, kept, room, lost⟩, Nat.le_succ _, rfl, by simp⟩
  · by_cases hf : s.kept.length = s.room
    · rw [LSt.add_full hw hf, RLog.add_full hw (by omega)]
      refine ⟨⟨⟨r1, r16, by simp; omega, by simp; omega⟩, ⟨s1, s16, by simp; omega, by simp; omega, by simp; omega⟩, ?_, room, by simp; omega⟩, by simp, rfl, by simp; omega⟩
      show s.kept.tail ++ [n] = (t.words ++ [n]).drop (t.gone + 1)
      rw [List.drop_append_of_le_length (by omega), kept, List.tail_drop]
    · rw [LSt.add_more hw hf, RLog.add_more hw (by omega)]
      refine ⟨⟨⟨r1, r16, by simp; omega, lo⟩, ⟨s1, s16, dg, by simp; omega, by simp; omega⟩, ?_, room, lost⟩, by simp, rfl, by simp; omega⟩
      show s.kept ++ [n] = (t.words ++ [n]).drop t.gone
      rw [List.drop_append_of_le_length (by omega), kept]

/-- A log of the program and one of the reference that hold the same; all their blocks lie from B on. -/
structure LBoth (w : World) (B l : Nat) (G : List Nat) (p : Nat) (F : List Nat) (s : LSt) (t : RLog) : Prop where
  hl : ORep w 81 l G s.row s.kept
  hp : ORep w 83 p F t.row t.words
  cpl : LCpl s t
  d : ∀ x ∈ G, x ∉ F
  bG : ∀ x ∈ G, B ≤ x
  bF : ∀ x ∈ F, B ≤ x
theorem LBoth.drewN {w : World} {B l p : Nat} {G F : List Nat} {s : LSt} {t : RLog} (h : LBoth w B l G p F s t) (n : Nat) : LBoth (w.drewN n) B l G p F s t := ⟨h.hl.drewN n, h.hp.drewN n, h.cpl, h.d, h.bG, h.bF⟩
theorem LBoth.only {w w' : World} {B l p : Nat} {G F : List Nat} {s : LSt} {t : RLog} (h : LBoth w B l G p F s t) (o : Only [] w w') : LBoth w' B l G p F s t := ⟨h.hl.only o (by simp), h.hp.only o (by simp), h.cpl, h.d, h.bG, h.bF⟩
/-- A step at the one, then one at the other. -/
theorem LBoth.steps {w w1 w2 : World} {B l p : Nat} {G G' F F' : List Nat} {s s' : LSt} {t t' : RLog} (h : LBoth w B l G p F s t) (hB : B ≤ w.heap.size)
    (h1 : ORep w1 81 l G' s'.row s'.kept) (o1 : Only G w w1) (i1 : Within w G G') (h2 : ORep w2 83 p F' t'.row t'.words) (o2 : Only F w1 w2) (i2 : Within w1 F F') (hc : LCpl s' t') :
    LBoth w2 B l G' p F' s' t' ∧ Below B w w2 := by
  have hs := o1.size
  have hGF : ∀ x ∈ G', x ∉ F := by
    intro x hx hm
    rcases i1 x hx with h3 | h3
    · exact h.d x h3 hm
    · have := h.hp.lt x hm; omega
  refine ⟨⟨h1.only o2 hGF, h2, hc, ?_, ?_, ?_⟩, (o1.below hB h.bG).trans (o2.below (by omega) h.bF)⟩
  · intro x hx hm
    rcases i2 x hm with h3 | h3
    · exact hGF x hx h3
    · have := h1.lt x hx; omega
  · intro x hx
    rcases i1 x hx with h3 | h3
    · exact h.bG x h3
    · omega
  · intro x hx
    rcases i2 x hx with h3 | h3
    · exact h.bF x h3
    · omega
theorem LBoth.ref {w w1 : World} {B l p : Nat} {G F : List Nat} {s : LSt} {t : RLog} (h : LBoth w B l G p F s t) (o : Only G w w1) : ORep w1 83 p F t.row t.words :=
  h.hp.only o (fun x hx hm => h.d x hm hx)

theorem nums_at {w wr : World} {a : Option Addr} {len : Nat} {f : Nat → Int} (h : Nums w a len f) (hb : Below w.heap.size w wr) {k : Nat} (hk : k < len) :
    ∃ b o, a = some ⟨b, o, none⟩ ∧ wr.cell? ⟨b, o + k, none⟩ = some (.int .i64 (f k)) ∧ b < w.heap.size := by
  obtain ⟨_, h0 | ⟨b, o, rfl, hc⟩⟩ := h
  · omega
  have hc0 := (hc k hk).1
  have hbw : b < w.heap.size := World.block_lt_of_cell? w _ hc0
  rw [← hb.cell (p := ⟨b, o + k, none⟩) hbw] at hc0
  exact ⟨b, o, rfl, hc0, hbw⟩

theorem log_cases (size : Int) : (∃ n : Nat, size = n ∧ 1 ≤ n ∧ n ≤ 16) ∨ size < 1 ∨ 16 < size := by
  by_cases h : 1 ≤ size ∧ size ≤ 16
  · exact .inl ⟨size.toNat, by omega, by omega, by omega⟩
  · exact .inr (by omega)

/-- What the head of the loop knows. -/
def LHead (w wr : World) (n k : Nat) (l : Nat) (p : Nat) (L D : Nat) : Prop :=
  ∃ G F s t, LBoth wr w.heap.size l G p F s t ∧ Below w.heap.size w wr ∧ t.words.length ≤ k ∧ t.drained ≤ t.words.length ∧ s.room = n ∧ L = s.kept.length + s.lost + D ∧ L ≤ k

theorem walk_QueueLogs (a0 : Int) (a1 : Option Addr) (len1 cap1 : Nat) (f1 : Nat → Int) (a2 : Option Addr) (len2 cap2 : Nat) (f2 : Nat → Int) (w : World)
    (w0 : (Lit.int .i64 a0).wf = true) (w1 : Nums w a1 len1 f1) (w2 : Nums w a2 len2 f2) :
    Calls Try.prog 8 #[.int .i64 a0, .slice a1 len1 cap1, .slice a2 len2 cap2] w fun e w' => e = .returned (.bool true) ∧ Below w.heap.size w w' := by
  refine calls_abs fun R hR => ?_
  have hw0 := wf_bounds w0
  have hl1 := w1.1
  have hl2 := w2.1
  have R1 := Lib.hid w1
  have R2 := Lib.hid w2
  clear w0 w1 w2
  rcases log_cases a0 with ⟨n, rfl, hn1, hn8⟩ | hbad
  · go_enter Try.func8, Try.ntmps8
    go_wp2_with fail
    refine (logNew_yes w n hn1 hn8).mono ?_
    rintro e w2 ⟨l, G, rfl, h2, o2, b2⟩
    go_wp2_with fail
    refine (refLogNew_yes w2 n hn1 hn8).mono ?_
    rintro e w3 ⟨p, F, rfl, h3, o3, b3⟩
    have hhead : LHead w w3 n 0 l p 0 0 := by
      have s2 := o2.size
      refine ⟨G, F, ⟨[], n, 0⟩, ⟨n, 0, 0, []⟩, ⟨h2.only o3 (by simp), h3, ⟨⟨hn1, hn8, by simp, by simp⟩, ⟨hn1, hn8, by simp, by simp, by simp⟩, rfl, rfl, rfl⟩, ?_, b2, ?_⟩, (o2.below (Nat.le_refl _) (by simp)).trans (o3.below s2 (by simp)), by simp, by simp, rfl, by simp, by simp⟩
      · intro x hx hm
        have := h2.lt x hx
        have := b3 x hm
        omega
      · intro x hx
        have := b3 x hx
        omega
    clear h2 h3 o2 o3 b2 b3
    go_wp2_with fail
    go_loopw [11, 12, 13] (fun lg dr i wr => ∃ k L D : Nat, k ≤ len1 ∧ k ≤ 300 ∧ i = .int .i64 k ∧ lg = .int .i64 L ∧ dr = .int .i64 D ∧ LHead w wr n k l p L D) (fun _ _ i _ => 300 - (intOf i).toNat)
    case atStart => exact ⟨0, 0, 0, by omega, by omega, rfl, rfl, rfl, hhead⟩
    case round =>
      clear hhead
      obtain ⟨k, L, D, hk, hk3, rfl, rfl, rfl, hh⟩ := hrel
      have HH := Lib.hid hh
      have hbel : Below w.heap.size w wr := by obtain ⟨_, _, _, _, _, h, _⟩ := hh; exact h
      have hLk : L ≤ k ∧ D ≤ L := by obtain ⟨_, _, _, _, _, _, _, _, _, h1, h2⟩ := hh; omega
      clear hh
      by_cases hlt : k < len1 ∧ k < 300
      · obtain ⟨hlt1, hlt2⟩ := hlt
        obtain ⟨b, o, rfl, hc0, hbw⟩ := nums_at R1.out hbel hlt1
        obtain ⟨G, F, s, t, hb, _, hwk, hdw, hrm, hL, _⟩ := HH.out
        have HF : Hid (t.words.length ≤ k ∧ t.drained ≤ t.words.length ∧ s.room = n ∧ L = s.kept.length + s.lost + D) := ⟨hwk, hdw, hrm, hL⟩
        clear hwk hdw hrm hL HH
        have HADD := Lib.hid (hb.cpl.add (by have := HF.out.1; omega) (f1 k))
        go_wp2_with fail
        refine (logAdd_rep _ _ _ _ hb.hl hb.cpl.sok (f1 k)).mono ?_
        rintro e w2 ⟨G2, rfl, g2, o2, i2⟩
        have hc1 : w2.cell? ⟨b, o + k, none⟩ = some (.int .i64 (f1 k)) := o2.cell hc0 (fun hm => by have := hb.bG b hm; omega)
        rw [LSt.add_1]
        go_wp2_with fail
        have hcc := refLogAdd_rep w2 p F t (hb.ref o2) hb.cpl.tok (by have := HF.out.1; omega) (f1 k)
        rw [RLog.add_1] at hcc
        refine hcc.mono ?_
        rintro e w3 ⟨F3, rfl, g3, o3, i3⟩
        clear hcc
        obtain ⟨hb3, hbel3'⟩ := hb.steps hbel.size g2 o2 i2 g3 o3 i3 HADD.out.1
        have hbel3 := hbel.trans hbel3'
        obtain ⟨L1, hL1⟩ : ∃ L1, L1 = L + (if isWordB (f1 k) then 1 else 0) := ⟨_, rfl⟩
        have hLk1 : L1 ≤ k + 1 := by rw [hL1]; split <;> omega
        have hh1 : LHead w w3 n (k + 1) l p L1 D := by
          obtain ⟨h1, h2, h3, h4⟩ := HADD.out
          obtain ⟨f1, f2, f3, f4⟩ := HF.out
          refine ⟨G2, F3, _, _, hb3, hbel3, by omega, by have h5 := h1.tok.dg; have h6 := h1.tok.gl; omega, by rw [h3, f3], by rw [hL1]; omega, by rw [hL1]; split <;> omega⟩
        have HL1 := Lib.hid hL1
        clear hL1 g2 o2 i2 g3 o3 i3 hbel3' hc0 hc1 hb hbel HADD HF hb3 hbel3
        go_upto_if 68 with fail
        go_cut [11] (fun lg wx => lg = .int .i64 L1 ∧ wx = w3)
        case first =>
          cases hw : isWordB (f1 k)
          · have e1 : (addE (f1 k) == 0) = false := by simp [addE, hw]
            go_wp2_with fail
            go_meet
            have := HL1.out
            rw [hw] at this
            exact ⟨by rw [this]; rfl, rfl⟩
          · have e1 : (addE (f1 k) == 0) = true := by simp [addE, hw]
            go_wp2_with fail
            go_meet
            have := HL1.out
            rw [hw] at this
            exact ⟨by rw [this]; go_num, rfl⟩
        case rest =>
          obtain ⟨rfl, rfl⟩ := hcut
          have hbel3 : Below w.heap.size w wc := by obtain ⟨_, _, _, _, _, h, _⟩ := hh1; exact h
          have HH1 := Lib.hid hh1
          clear hh1 HL1
          go_upto_region 18 with fail
          go_cut [81] (fun x wx => ∃ X : Bool, x = .bool X ∧ wx = wc)
          case first =>
            by_cases hd : k < len2
            · obtain ⟨b2, o2, rfl, hc2, hbw2⟩ := nums_at R2.out hbel3 hd
              go_wp2_with fail
              go_meet
              exact ⟨_, rfl, rfl⟩
            · go_wp2_with fail
              go_meet
              exact ⟨_, rfl, rfl⟩
          case rest =>
            obtain ⟨X, rfl, rfl⟩ := hcut
            go_upto_if 81 with fail
            go_cut [12, 16, 17] (fun dr _ _ wx => ∃ D1 : Nat, dr = .int .i64 D1 ∧ LHead w wx n (k + 1) l p L1 D1)
            case first =>
              cases X
              · go_wp2_with fail
                go_meet
                exact ⟨D, rfl, HH1.out⟩
              · obtain ⟨G2, F3, s3, t3, hb3, _, hwk, hdw, hrm, hL, hLL⟩ := HH1.out
                have HF : Hid (t3.words.length ≤ k + 1 ∧ t3.drained ≤ t3.words.length ∧ s3.room = n ∧ L1 = s3.kept.length + s3.lost + D) := ⟨hwk, hdw, hrm, hL⟩
                clear hwk hdw hrm hL HH1
                have hkl3 := hb3.cpl.sok.kl
                have hr16 := hb3.cpl.sok.r16
                go_wp2_with fail
                refine (logDrain_rep _ _ _ _ hb3.hl hb3.cpl.sok).mono ?_
                rintro e w7 ⟨v7, G7, rfl, i7, g7, o7, q7⟩
                obtain ⟨a7, c7, hf7⟩ := i7.len
                have I7 := Lib.hid i7
                have h7r := hb3.ref o7
                have hd7 : Hid (∀ kk, v7.ownBlock = some kk → wc.heap.size ≤ kk) := fun kk hkk => (i7.own kk hkk).1
                clear i7
                subst hf7
                go_wp2_with fail
                have hcc := refLogDrain_rep w7 p _ _ h7r hb3.cpl.tok (by have := HF.out; omega)
                rw [← hb3.cpl.kept] at hcc
                refine hcc.mono ?_
                rintro e w8 ⟨v8, rfl, i8, g8, o8⟩
                clear hcc
                have hlen7 : s3.kept.length = t3.words.length - t3.gone := by rw [hb3.cpl.kept, List.length_drop]
                have hcp : LCpl { s3 with kept := [] } { t3 with drained := t3.drained + (t3.words.length - t3.gone), gone := t3.words.length } := by
                  obtain ⟨⟨r1, r16, kl, lo⟩, ⟨s1, s16, dg, gl, wl⟩, kept, room, lost⟩ := hb3.cpl
                  exact ⟨⟨r1, r16, by simp, lo⟩, ⟨s1, s16, by simp; omega, by simp, wl⟩, by simp, room, by simp; omega⟩
                obtain ⟨hb4, hbel4'⟩ := hb3.steps hbel3.size g7 o7 q7 g8 o8 (Within.refl _ _) hcp
                have hbel4 := hbel3.trans hbel4'
                have hbel5 : ∀ n8, Below w.heap.size w (w8.drewN n8) := fun n8 => hbel4.trans (((Only.refl [] _).drewN _).below hbel4.size (by simp))
                have hh4 : ∀ n8, LHead w (w8.drewN n8) n (k + 1) l p L1 (D + s3.kept.length) := by
                  intro n8
                  obtain ⟨f1, f2, f3, f4⟩ := HF.out
                  have hdg := hb3.cpl.tok.dg
                  have hgl := hb3.cpl.tok.gl
                  exact ⟨G7, F3, _, _, hb4.drewN n8, hbel5 n8, f1, by simp; omega, f3, by simp; omega, hLL⟩
                have i7' := I7.out.only o8 (fun kk hkk hm => by have := hd7.out kk hkk; have := hb3.hp.lt kk hm; omega)
                have HH4 := Lib.hid hh4
                have HI7 := Lib.hid i7'
                have HI8 := Lib.hid i8
                clear hb3 h7r g7 o7 q7 g8 o8 i8 i7' hbel4' hcp hb4 hbel4 hbel5 hh4 hlen7 hd7 HF I7
                go_wp2_with fail
                refine (ints_eq w8 _ _ _ HI7.out.read HI8.out.read (by omega)).mono ?_
                rintro e _ ⟨rfl, n8, rfl⟩
                go_wp2_with fail
                go_meet
                exact ⟨D + s3.kept.length, by go_num, HH4.out n8⟩
            case rest =>
              obtain ⟨D1, rfl, hh2⟩ := hcut
              obtain ⟨G4, F4, s4, t4, hb4, hbel4, hwk, hdw, hrm, hL, hLL⟩ := hh2
              have HF : Hid (t4.words.length ≤ k + 1 ∧ t4.drained ≤ t4.words.length ∧ s4.room = n ∧ L1 = s4.kept.length + s4.lost + D1) := ⟨hwk, hdw, hrm, hL⟩
              have hD1 : D1 ≤ L1 := by omega
              clear hwk hdw hrm hL HH1 hbel3
              have hkl4 := hb4.cpl.sok.kl
              have hr16 := hb4.cpl.sok.r16
              go_wp2_with fail
              refine (logLast_rep _ _ _ _ hb4.hl hb4.cpl.sok).mono ?_
              rintro e w5 ⟨v5, rfl, i5, o5⟩
              have hb5 := hb4.only o5
              have hbel5 := hbel4.trans (o5.below hbel4.size (by simp))
              obtain ⟨a5, c5, hf5⟩ := i5.len
              have I5 := Lib.hid i5
              clear i5 o5 hb4 hbel4
              subst hf5
              go_wp2_with fail
              have hcc := refLogLast_rep w5 p _ _ hb5.hp hb5.cpl.tok
              rw [← hb5.cpl.kept] at hcc
              refine hcc.mono ?_
              rintro e w6 ⟨v6, rfl, i6, o6⟩
              clear hcc
              have hb6 := hb5.only o6
              have hbel6 := hbel5.trans (o6.below hbel5.size (by simp))
              have I6 := Lib.hid (And.intro (I5.out.only o6 (by simp)).read i6.read)
              clear i6 o6 hb5 hbel5 I5
              go_wp2_with fail
              refine (ints_eq w6 _ _ _ I6.out.1 I6.out.2 (by omega)).mono ?_
              rintro e _ ⟨rfl, n6, rfl⟩
              clear I6
              go_wp2_with fail
              refine (logLost_rep _ _ _ _ (hb6.drewN _).hl hb6.cpl.sok).mono ?_
              rintro e _ ⟨rfl, rfl⟩
              go_wp2_with fail
              have hcc := refLogLost_rep (w6.drewN n6) p _ _ (hb6.drewN _).hp hb6.cpl.tok
              rw [show ((t4.gone : Int) - t4.drained) = (s4.lost : Int) from by have := hb6.cpl.lost; omega] at hcc
              refine hcc.mono ?_
              rintro e _ ⟨rfl, n7, rfl⟩
              clear hcc
              go_wp2_with fail
              refine (logLost_rep _ _ _ _ (hb6.drewN _).hl hb6.cpl.sok).mono ?_
              rintro e _ ⟨rfl, rfl⟩
              have hsum : ((s4.kept.length : Int) + (s4.lost : Int) + (D1 : Int) != (L1 : Int)) = false := by have := HF.out; simp; omega
              have hkl : s4.kept.length ≤ n := by have := HF.out; omega
              have hlo : s4.lost ≤ 1000 := by have := HF.out; omega
              have hbel7 : Below w.heap.size w (w6.drewN (n6 + n7)) := hbel6.trans (((Only.refl [] _).drewN _).below hbel6.size (by simp))
              have hh7 : LHead w (w6.drewN (n6 + n7)) n (k + 1) l p L1 D1 := by
                obtain ⟨f1, f2, f3, f4⟩ := HF.out
                exact ⟨G4, F4, s4, t4, hb6.drewN _, hbel7, f1, f2, f3, f4, hLL⟩
              clear hb6 hbel6 hbel7
              go_wp2_with fail
              go_roundw
              case rel =>
                exact ⟨k + 1, L1, D1, by omega, by omega, by go_num, rfl, rfl, hh7⟩
              case measure => simp [intOf]; omega
      · by_cases hk1 : k < len1
        · have hk2 : ¬ k < 300 := by omega
          clear hlt
          go_wp2_with fail
          refine (sane_any _).mono ?_
          rintro e w4 ⟨rfl, o4⟩
          go_wp2_with fail
          exact hR.out _ _ ⟨rfl, hbel.trans (o4.below hbel.size (by simp))⟩
        · clear hlt
          go_wp2_with fail
          refine (sane_any _).mono ?_
          rintro e w4 ⟨rfl, o4⟩
          go_wp2_with fail
          exact hR.out _ _ ⟨rfl, hbel.trans (o4.below hbel.size (by simp))⟩
  · go_enter Try.func8, Try.ntmps8
    go_wp2_with fail
    refine (logNew_no w a0 hbad).mono ?_
    rintro e _ ⟨rfl, rfl⟩
    go_wp2_with fail
    refine (refLogNew_no w a0 hbad).mono ?_
    rintro e _ ⟨rfl, rfl⟩
    go_wp2_with fail
    refine (sane_any _).mono ?_
    rintro e w4 ⟨rfl, o4⟩
    go_wp2_with fail
    exact hR.out _ _ ⟨rfl, o4.below (Nat.le_refl _) (by simp)⟩
end Go.Proofs.Ytemdkffkpdhciaa
