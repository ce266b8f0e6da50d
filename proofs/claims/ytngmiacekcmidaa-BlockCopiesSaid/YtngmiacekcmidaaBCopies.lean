/- The law BlockCopies, walked. -/
import Derived.Test.YtngmiacekcmidaaBStates
import Derived.Test.YtngmiacekcmidaaBPlainG
namespace Go.Proofs.Ytngmiacekcmidaa
open Go.RowKit
set_option maxHeartbeats 6400000
set_option maxRecDepth 100000
set_option linter.unusedVariables false

/-- Two pairs of pools, apart from each other. -/
structure Apart (w : World) (base p b q k c l : Nat) (P : Pl) (p' b' q' k' c' l' : Nat) (P' : Pl) : Prop where
  h1 : BBoth w base p b q k c l P
  h2 : BBoth w base p' b' q' k' c' l' P'
  d : ∀ x ∈ [p, b, q, k, c, l], ∀ y ∈ [p', b', q', k', c', l'], x ≠ y
theorem Apart.turn {w w1 w2 : World} {base p b q k c l : Nat} {P Q : Pl} {p' b' q' k' c' l' : Nat} {P' : Pl} (h : Apart w base p b q k c l P p' b' q' k' c' l' P')
    (g1 : PRep w1 p b Q) (o1 : Only [b] w w1) (g2 : RRep w2 q k c l Q) (o2 : Only [k, c, l] w1 w2) : Apart w2 base p b q k c l Q p' b' q' k' c' l' P' :=
  ⟨h.h1.both g1 g2 o2, (h.h2.only o1 (fun x hx => by
      simp at hx; subst hx
      exact ⟨h.d x (by simp) _ (by simp), h.d x (by simp) _ (by simp), h.d x (by simp) _ (by simp), h.d x (by simp) _ (by simp), h.d x (by simp) _ (by simp), h.d x (by simp) _ (by simp)⟩)).only o2 (fun x hx => by
      have hx2 : x ∈ [p, b, q, k, c, l] := by simp at hx ⊢; omega
      exact ⟨h.d x hx2 _ (by simp), h.d x hx2 _ (by simp), h.d x hx2 _ (by simp), h.d x hx2 _ (by simp), h.d x hx2 _ (by simp), h.d x hx2 _ (by simp)⟩), h.d⟩
theorem Apart.swap {w : World} {base p b q k c l : Nat} {P : Pl} {p' b' q' k' c' l' : Nat} {P' : Pl} (h : Apart w base p b q k c l P p' b' q' k' c' l' P') : Apart w base p' b' q' k' c' l' P' p b q k c l P :=
  ⟨h.h2, h.h1, fun x hx y hy => (h.d y hy x hx).symm⟩
theorem Apart.only0 {w w' : World} {base p b q k c l : Nat} {P : Pl} {p' b' q' k' c' l' : Nat} {P' : Pl} (h : Apart w base p b q k c l P p' b' q' k' c' l' P') (o : Only [] w w') : Apart w' base p b q k c l P p' b' q' k' c' l' P' :=
  ⟨h.h1.only0 o, h.h2.only0 o, h.d⟩
theorem DeedsAt.both {w w1 w2 : World} {base : Nat} {v : Value} {f : Nat → Nat → Int} {n b k c l : Nat} (h : DeedsAt w base v f n) (o1 : Only [b] w w1) (o2 : Only [k, c, l] w1 w2) (hb : b < base ∧ k < base ∧ c < base ∧ l < base) : DeedsAt w2 base v f n :=
  (h.only o1 (fun x hx => .inl (by simp at hx; omega))).only o2 (fun x hx => .inl (by simp at hx; omega))

theorem walk_BlockCopies (a0 : Int) (a1 : Option Addr) (len1 cap1 : Nat) (f1 : Nat → Nat → Int) (a2 : Option Addr) (len2 cap2 : Nat) (f2 : Nat → Nat → Int) (a3 : Option Addr) (len3 cap3 : Nat) (f3 : Nat → Nat → Int) (w : World) (w1 : Recs 3 w a1 len1 f1) (w2 : Recs 3 w a2 len2 f2) (w3 : Recs 3 w a3 len3 f3) :
    Calls Try.prog 10 #[.int .i64 a0, .slice a1 len1 cap1, .slice a2 len2 cap2, .slice a3 len3 cap3] w fun e w' => e = .returned (.bool true) ∧ Below w.heap.size w w' := by
  refine calls_abs fun R hR => ?_
  rcases pages_cases a0 with hbad | ⟨n, rfl, hn1, hn24⟩
  · clear w1 w2 w3
    go_enter Try.func10, Try.ntmps10
    go_wp2_with fail
    refine (played_no w a0 hbad _).mono ?_
    rintro e _ ⟨rfl, rfl⟩
    go_wp2_with fail
    refine (sane_any _).mono ?_
    rintro e w4 ⟨rfl, o4⟩
    go_wp2_with fail
    exact hR.out _ _ ⟨rfl, o4.below (Nat.le_refl _) (by simp)⟩
  · go_enter Try.func10, Try.ntmps10
    have W1 := w1
    have HW2 := Lib.hid w2
    have HW3 := Lib.hid w3
    clear w1 w2 w3
    go_wp2_with fail
    refine (played_yes w n hn1 hn24 a1 len1 cap1 f1 W1).mono ?_
    rintro e wa ⟨p, b, q, k, c, l, P, rfl, hB, hPn, o2⟩
    clear W1
    go_wp2_with fail
    refine (copy_rep wa p b P hB.hp).mono ?_
    rintro e wb ⟨p', b', rfl, hp', o3, gp, gb⟩
    have r3 := hB.hq.only o3 (by simp) (by simp) (by simp) (by simp)
    go_wp2_with fail
    refine (rcopy_rep wb q k c l P r3).mono ?_
    rintro e wc ⟨q', k', c', l', rfl, hq', o4, gq, gk, gc, gl⟩
    have hA : Hid (Apart wc w.heap.size p b q k c l P p' b' q' k' c' l' P) := by
      have lt1 := hB.lt
      obtain ⟨_, _, _, _, x1, x2⟩ := hp'.facts
      have s2 := o2.size
      have s3 := o3.size
      refine ⟨hB.only0 (o3.trans o4 (by simp)), ⟨hp'.only o4 (by simp) (by simp), hq', by omega, by omega⟩, fun x hx y hy => ?_⟩
      simp at hx hy
      omega
    have HAO : Hid (Only [] w wc) := (o2.trans o3 (by simp)).trans o4 (by simp)
    have HAN : Hid (P.n = n) := hPn
    clear hB o2 hp' o3 gp gb r3 hq' o4 gq gk gc gl hPn
    go_wp2_with fail
    refine (same_rep wc p b P hA.out.h1.hp p' b' P hA.out.h2.hp rfl).mono ?_
    rintro e wd ⟨rfl, hdd⟩
    rw [Pl.same_refl hA.out.h1.hp.ok]
    have HA2 := Lib.hid (hA.out.only0 (Drew.only hdd []))
    have HA2O := Lib.hid (HAO.out.trans (Drew.only hdd []) (by simp))
    clear hdd
    go_wp2_with fail
    refine (same_rep wd p' b' P HA2.out.h2.hp p b P HA2.out.h1.hp rfl).mono ?_
    rintro e we ⟨rfl, hdd⟩
    rw [Pl.same_refl hA.out.h1.hp.ok]
    have HA := Lib.hid (HA2.out.only0 (Drew.only hdd []))
    have HA3O := Lib.hid (HA2O.out.trans (Drew.only hdd []) (by simp))
    clear hdd HA2 HA2O HAO hA
    have LTA := And.intro HA.out.h1.lt HA.out.h2.lt
    go_wp2_with fail
    have hr2 : Recs 3 we a2 len2 f2 := by
      refine ⟨HW2.out.1, ?_⟩
      rcases HW2.out.2 with h0 | ⟨bb, oo, e1, hc⟩
      · exact .inl h0
      · exact .inr ⟨bb, oo, e1, fun i hi j hj => ⟨HA3O.out.cell (hc i hi j hj).1 (by simp), (hc i hi j hj).2⟩⟩
    refine (converted_of we a2 len2 cap2 f2 hr2).mono ?_
    rintro e w9 ⟨v, rfl, hd, o9⟩
    clear hr2
    obtain ⟨base, hbase⟩ : ∃ base, base = we.heap.size := ⟨_, rfl⟩
    have HLT : Hid ((p < base ∧ b < base ∧ q < base ∧ k < base ∧ c < base ∧ l < base) ∧ (p' < base ∧ b' < base ∧ q' < base ∧ k' < base ∧ c' < base ∧ l' < base)) := by
      show _ ∧ _; rw [hbase]; exact ⟨LTA.1, LTA.2⟩
    rw [← hbase] at hd
    have HD := Lib.hid hd
    have hlen2 : ∃ av cv, v = .slice av (min len2 200) cv := by
      rcases hd with ⟨e1, e2⟩ | ⟨g, cp, e1, _⟩
      · exact ⟨none, 0, by rw [e2, e1]⟩
      · exact ⟨_, cp, e1⟩
    obtain ⟨av, cv, rfl⟩ := hlen2
    obtain ⟨m, hm⟩ : ∃ m, m = min len2 200 := ⟨_, rfl⟩
    rw [← hm] at HD ⊢
    have hm2 : m ≤ len2 := by omega
    have hm3 : m ≤ 200 := by omega
    have hl63 := HW2.out.1
    clear hd hm hbase
    have HX := Lib.hid (HA.out.only0 o9)
    have HXO := Lib.hid (HA3O.out.trans o9 (by simp))
    have HXN := HAN
    clear o9 HA HA3O
    go_wp2_with fail
    go_loopw [14] (fun i wr => ∃ (x : Nat) (Q : Pl), x ≤ m ∧ i = .int .i64 x ∧ Apart wr w.heap.size p b q k c l Q p' b' q' k' c' l' P ∧ Q.n = n ∧ DeedsAt wr base (.slice av m cv) f2 m ∧ Only [] w wr) (fun i _ => m - (intOf i).toNat)
    case atStart => exact ⟨0, P, by omega, rfl, HX.out, HXN.out, HD.out, HXO.out⟩
    case round =>
      clear HX HXO HD
      obtain ⟨x, Q, hx, rfl, hB, hPn, hD, hO⟩ := hrel
      have HB := Lib.hid hB
      have HPN := Lib.hid hPn
      have HO := Lib.hid hO
      have HDD := Lib.hid hD
      by_cases hlt : x < m
      · rcases hD with ⟨h0, _⟩ | ⟨g, cp, hv, hg, hcell⟩
        · omega
        simp only [Value.slice.injEq] at hv
        obtain ⟨rfl, _, rfl⟩ := hv
        have k0 := hcell x hlt 0 (by omega)
        have k1 := hcell x hlt 1 (by omega)
        have k2 := hcell x hlt 2 (by omega)
        rw [Nat.add_zero] at k0
        have HC := Lib.hid hcell
        rcases HW2.out.2 with h0 | ⟨bb, oo, rfl, hc⟩
        · omega
        have c0 := HO.out.cell (hc x (by omega) 0 (by omega)).1 (by simp)
        have c1 := HO.out.cell (hc x (by omega) 1 (by omega)).1 (by simp)
        have c2 := HO.out.cell (hc x (by omega) 2 (by omega)).1 (by simp)
        rw [Nat.add_zero] at c0
        rw [← Nat.add_assoc] at c1 c2
        have hxl : x < len2 := by omega
        have hc1 := do_rep wr p b Q HB.out.h1.hp (f2 x 0) (f2 x 1) (f2 x 2)
        obtain ⟨P', hP'⟩ : ∃ P', P' = Q.do (f2 x 0) (f2 x 1) (f2 x 2) := ⟨_, rfl⟩
        have hc2 : Hid (∀ w4, RRep w4 q k c l Q → Calls Try.prog 46 #[.pointer (some ⟨q, 0, none⟩), .agg #[.int .i64 (f2 x 0), .int .i64 (f2 x 1), .int .i64 (f2 x 2)]] w4 (RDoPost w4 q k c l P')) := fun w4 h4 => by rw [hP']; exact rdo_rep w4 q k c l Q h4 HB.out.h1.hp.ok _ _ _
        have hn' : Hid (P'.2.2.n = n) := by show _ = _; rw [hP', (HB.out.h1.hp.ok.do _ _ _).2]; exact hPn
        rw [← hP'] at hc1
        clear hc hB hO hcell hP' hPn
        go_wp2_with fail
        refine hc1.mono ?_
        rintro e w14 ⟨rfl, g4, o4⟩
        have r4 := HB.out.h1.ref o4
        have hc2 := hc2.out w14 r4
        have O4 := Lib.hid o4
        have G4 := Lib.hid g4
        have hbg : ∀ y, w14.cell? ⟨g, y, none⟩ = wr.cell? ⟨g, y, none⟩ := by
          intro y
          simp only [World.cell?]
          have hgl : g < wr.heap.size := World.block_lt_of_cell? wr _ k0
          rw [o4.block g hgl (by simp; have := HLT.out; omega)]
        rw [← hbg] at k0 k1 k2
        clear c0 c1 c2 r4 o4 g4 hbg
        go_wp2_with fail
        refine hc2.mono ?_
        rintro e w15 ⟨rfl, g5, o5⟩
        have B5 := Lib.hid (HB.out.turn G4.out O4.out g5 o5)
        have O5 := Lib.hid (HB.out.h1.grown2 rfl (HB.out.h1.grown rfl HO.out O4.out) o5)
        have D5 := Lib.hid (HDD.out.both O4.out o5 (by have := HLT.out; omega))
        clear k0 k1 k2 o5 g5 hc1 hc2
        go_wp2_with fail
        exact ⟨⟨x + 1, P'.2.2, by omega, by go_num, B5.out, hn'.out, D5.out, O5.out⟩, by simp [intOf]; omega⟩
      · clear hB hO hD hPn HDD
        clear hx
        obtain ⟨wo, rfl⟩ : ∃ wo : World, wo = wr := ⟨_, rfl⟩
        go_wp2_with fail
        have HBO := HO
        have LTA := And.intro HB.out.h1.lt HB.out.h2.lt
        clear HO
        have hr2 : Recs 3 wo a3 len3 f3 := by
          refine ⟨HW3.out.1, ?_⟩
          rcases HW3.out.2 with h0 | ⟨bb, oo, e1, hc⟩
          · exact .inl h0
          · exact .inr ⟨bb, oo, e1, fun i hi j hj => ⟨HBO.out.cell (hc i hi j hj).1 (by simp), (hc i hi j hj).2⟩⟩
        refine (converted_of wo a3 len3 cap3 f3 hr2).mono ?_
        rintro e w9 ⟨v, rfl, hd, o9⟩
        clear hr2
        obtain ⟨base9, hbase9⟩ : ∃ base9, base9 = wo.heap.size := ⟨_, rfl⟩
        have HLT : Hid ((p < base9 ∧ b < base9 ∧ q < base9 ∧ k < base9 ∧ c < base9 ∧ l < base9) ∧ (p' < base9 ∧ b' < base9 ∧ q' < base9 ∧ k' < base9 ∧ c' < base9 ∧ l' < base9)) := by
          show _ ∧ _; rw [hbase9]; exact ⟨LTA.1, LTA.2⟩
        rw [← hbase9] at hd
        have HD := Lib.hid hd
        have hlen2 : ∃ av9 cv9, v = .slice av9 (min len3 200) cv9 := by
          rcases hd with ⟨e1, e2⟩ | ⟨g, cp, e1, _⟩
          · exact ⟨none, 0, by rw [e2, e1]⟩
          · exact ⟨_, cp, e1⟩
        obtain ⟨av9, cv9, rfl⟩ := hlen2
        obtain ⟨m9, hm⟩ : ∃ m9, m9 = min len3 200 := ⟨_, rfl⟩
        rw [← hm] at HD ⊢
        have hm2 : m9 ≤ len3 := by omega
        have hm3 : m9 ≤ 200 := by omega
        have hl63 := HW3.out.1
        clear hd hm hbase9
        have HX := Lib.hid (HB.out.swap.only0 o9)
        have HXO := Lib.hid (HBO.out.trans o9 (by simp))
        have HXN := HAN
        have HQN := HPN
        clear o9 HB HBO HPN
        go_wp2_with fail
        go_loopw [16] (fun i wr => ∃ (x : Nat) (Q2 : Pl), x ≤ m9 ∧ i = .int .i64 x ∧ Apart wr w.heap.size p' b' q' k' c' l' Q2 p b q k c l Q ∧ Q2.n = n ∧ DeedsAt wr base9 (.slice av9 m9 cv9) f3 m9 ∧ Only [] w wr) (fun i _ => m9 - (intOf i).toNat)
        case atStart => exact ⟨0, P, by omega, rfl, HX.out, HXN.out, HD.out, HXO.out⟩
        case round =>
          clear HX HXO HD
          obtain ⟨x, Q2, hx, rfl, hB, hPn, hD, hO⟩ := hrel
          have HB := Lib.hid hB
          have HPN := Lib.hid hPn
          have HO := Lib.hid hO
          have HDD := Lib.hid hD
          by_cases hlt : x < m9
          · rcases hD with ⟨h0, _⟩ | ⟨g, cp, hv, hg, hcell⟩
            · omega
            simp only [Value.slice.injEq] at hv
            obtain ⟨rfl, _, rfl⟩ := hv
            have k0 := hcell x hlt 0 (by omega)
            have k1 := hcell x hlt 1 (by omega)
            have k2 := hcell x hlt 2 (by omega)
            rw [Nat.add_zero] at k0
            have HC := Lib.hid hcell
            rcases HW3.out.2 with h0 | ⟨bb, oo, rfl, hc⟩
            · omega
            have c0 := HO.out.cell (hc x (by omega) 0 (by omega)).1 (by simp)
            have c1 := HO.out.cell (hc x (by omega) 1 (by omega)).1 (by simp)
            have c2 := HO.out.cell (hc x (by omega) 2 (by omega)).1 (by simp)
            rw [Nat.add_zero] at c0
            rw [← Nat.add_assoc] at c1 c2
            have hxl : x < len3 := by omega
            have hc1 := do_rep wr p' b' Q2 HB.out.h1.hp (f3 x 0) (f3 x 1) (f3 x 2)
            obtain ⟨P', hP'⟩ : ∃ P', P' = Q2.do (f3 x 0) (f3 x 1) (f3 x 2) := ⟨_, rfl⟩
            have hc2 : Hid (∀ w4, RRep w4 q' k' c' l' Q2 → Calls Try.prog 46 #[.pointer (some ⟨q', 0, none⟩), .agg #[.int .i64 (f3 x 0), .int .i64 (f3 x 1), .int .i64 (f3 x 2)]] w4 (RDoPost w4 q' k' c' l' P')) := fun w4 h4 => by rw [hP']; exact rdo_rep w4 q' k' c' l' Q2 h4 HB.out.h1.hp.ok _ _ _
            have hn' : Hid (P'.2.2.n = n) := by show _ = _; rw [hP', (HB.out.h1.hp.ok.do _ _ _).2]; exact hPn
            rw [← hP'] at hc1
            clear hc hB hO hcell hP' hPn
            go_wp2_with fail
            refine hc1.mono ?_
            rintro e w14 ⟨rfl, g4, o4⟩
            have r4 := HB.out.h1.ref o4
            have hc2 := hc2.out w14 r4
            have O4 := Lib.hid o4
            have G4 := Lib.hid g4
            have hbg : ∀ y, w14.cell? ⟨g, y, none⟩ = wr.cell? ⟨g, y, none⟩ := by
              intro y
              simp only [World.cell?]
              have hgl : g < wr.heap.size := World.block_lt_of_cell? wr _ k0
              rw [o4.block g hgl (by simp; have := HLT.out; omega)]
            rw [← hbg] at k0 k1 k2
            clear c0 c1 c2 r4 o4 g4 hbg
            go_wp2_with fail
            refine hc2.mono ?_
            rintro e w15 ⟨rfl, g5, o5⟩
            have B5 := Lib.hid (HB.out.turn G4.out O4.out g5 o5)
            have O5 := Lib.hid (HB.out.h1.grown2 rfl (HB.out.h1.grown rfl HO.out O4.out) o5)
            have D5 := Lib.hid (HDD.out.both O4.out o5 (by have := HLT.out; omega))
            clear k0 k1 k2 o5 g5 hc1 hc2
            go_wp2_with fail
            exact ⟨⟨x + 1, P'.2.2, by omega, by go_num, B5.out, hn'.out, D5.out, O5.out⟩, by simp [intOf]; omega⟩
          · clear hB hO hD hPn HDD
            clear hx
            obtain ⟨wo2, rfl⟩ : ∃ wo2 : World, wo2 = wr := ⟨_, rfl⟩
            go_wp2_with fail
            have hok1 := HB.out.h1.hp.ok
            have hok2 := HB.out.h2.hp.ok
            have hnn : Q2.n = Q.n := HPN.out.trans HQN.out.symm
            have E1 : Hid (Q.rsame Q2 = Q.same Q2) := Pl.same_rsame hok2 hok1 hnn
            have E2 : Hid (Q2.same Q = Q.same Q2) := (Pl.same_comm hok2 hok1 hnn).symm
            have HNN := Lib.hid hnn
            have S1 := fun wx (hx : PRep wx p b Q) (hy : PRep wx p' b' Q2) => same_rep wx p b Q hx p' b' Q2 hy HNN.out
            have S2 := fun wx (hx : PRep wx p b Q) (hy : PRep wx p' b' Q2) => same_rep wx p' b' Q2 hy p b Q hx HNN.out.symm
            have S3 := fun wx (hx : RRep wx q k c l Q) (hy : RRep wx q' k' c' l' Q2) => rsame_rep wx q k c l Q hx q' k' c' l' Q2 hy HNN.out hok2 hok1
            rw [E2.out] at S2
            rw [E1.out] at S3
            generalize Q.same Q2 = eb at *
            have HS1 := Lib.hid S1
            have HS2 := Lib.hid S2
            have HS3 := Lib.hid S3
            clear S1 S2 S3 E1 E2 hok1 hok2 hnn
            refine (alike_of _ _ _ _ _ _ _ _ _ HB.out.h2).mono ?_
            rintro e w20 ⟨rfl, o20⟩
            have B20 := Lib.hid (HB.out.only0 o20)
            have O20 := Lib.hid (HO.out.trans o20 (by simp))
            clear o20 HB HO
            go_wp2_with fail
            refine (alike_of _ _ _ _ _ _ _ _ _ B20.out.h1).mono ?_
            rintro e w21 ⟨rfl, o21⟩
            have B21 := Lib.hid (B20.out.only0 o21)
            have O21 := Lib.hid (O20.out.trans o21 (by simp))
            clear o21 B20 O20
            go_wp2_with fail
            refine (HS1.out _ B21.out.h2.hp B21.out.h1.hp).mono ?_
            rintro e w22 ⟨rfl, o22⟩
            have B22 := Lib.hid (B21.out.only0 (Drew.only o22 []))
            have O22 := Lib.hid (O21.out.trans (Drew.only o22 []) (by simp))
            clear o22 B21 O21
            go_wp2_with fail
            refine (HS3.out _ B22.out.h2.hq B22.out.h1.hq).mono ?_
            rintro e w23 ⟨rfl, o23⟩
            have B23 := Lib.hid (B22.out.only0 (Drew.only o23 []))
            have O23 := Lib.hid (O22.out.trans (Drew.only o23 []) (by simp))
            clear o23 B22 O22
            go_wp2_with fail
            refine (HS2.out _ B23.out.h2.hp B23.out.h1.hp).mono ?_
            rintro e w24 ⟨rfl, o24⟩
            have B24 := Lib.hid (B23.out.only0 (Drew.only o24 []))
            have O24 := Lib.hid (O23.out.trans (Drew.only o24 []) (by simp))
            clear o24 B23 O23
            go_wp2_with fail
            refine (HS3.out _ B24.out.h2.hq B24.out.h1.hq).mono ?_
            rintro e w25 ⟨rfl, o25⟩
            have O25 := Lib.hid (O24.out.trans (Drew.only o25 []) (by simp))
            clear o25 B24 O24
            go_wp2_with fail
            refine (sane_any _).mono ?_
            rintro e w26 ⟨rfl, o26⟩
            go_wp2_with fail
            exact hR.out _ _ ⟨rfl, (O25.out.trans o26 (by simp)).below (Nat.le_refl _) (by simp)⟩
end Go.Proofs.Ytngmiacekcmidaa
