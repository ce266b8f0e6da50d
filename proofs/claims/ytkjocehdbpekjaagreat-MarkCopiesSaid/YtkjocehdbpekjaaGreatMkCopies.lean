/- Law MarkCopies: the walk. -/
import Derived.Test.YtkjocehdbpekjaaGreatMkPlays
import Derived.Test.YtkjocehdbpekjaaGreatMkCopy
namespace Go.Proofs.YtkjocehdbpekjaaGreat
open Go.RowKit Go.Maps
set_option maxHeartbeats 12800000
set_option maxRecDepth 100000
set_option linter.unusedVariables false
/-- Both sides, and the copies of both. -/
def FC (hb q p r hb2 q2 p2 r2 : Nat) (m x : Mk) : List Asn := [PH hb m.M, GH q m.M, MkA p hb m.col m.list, GkA r q m.col m.list, PH hb2 x.M, MkA p2 hb2 x.col x.list, GH q2 x.M, GkA r2 q2 x.col x.list]
theorem FC.four1 {hb q p r hb2 q2 p2 r2 : Nat} {m x : Mk} : Four (FC hb q p r hb2 q2 p2 r2 m x) 0 2 1 3 := ⟨⟨by simp [FC], by simp [FC], by decide⟩, ⟨by simp [FC], by simp [FC], by decide⟩, by decide, by decide, by decide, by decide⟩
theorem FC.four2 {hb q p r hb2 q2 p2 r2 : Nat} {m x : Mk} : Four (FC hb q p r hb2 q2 p2 r2 m x) 4 5 6 7 := ⟨⟨by simp [FC], by simp [FC], by decide⟩, ⟨by simp [FC], by simp [FC], by decide⟩, by decide, by decide, by decide, by decide⟩
theorem walk_copA (pages : Int) (b : Option Addr) (n cap : Nat) (f : Nat → Nat → Int) (a2 : Option Addr) (n2 cap2 : Nat) (f2 : Nat → Int) (b3 : Option Addr) (n3 cap3 : Nat) (f3 : Nat → Nat → Int) (b4 : Option Addr) (n4 cap4 : Nat) (f4 : Nat → Nat → Int) (w : World) (hn3 : n3 ≤ 80) (wp : (Lit.int .i64 pages).wf = true) (hd : Recs 4 w b n f) (h2 : Nums w a2 n2 f2) (h3 : Recs 4 w b3 n3 f3) (h4 : Recs 4 w b4 n4 f4) :
    Calls Tryz.prog 10 #[.int .i64 pages, .slice b n cap, .slice a2 n2 cap2, .slice b3 n3 cap3, .slice b4 n4 cap4] w fun e w' => e = .returned (.bool true) ∧ Below w.heap.size w w' := by
  refine calls_abs fun R hR => ?_
  by_cases hbig : 300 < n2
  · have hb1 : (300 : Int) < n2 := by omega
    have c4 := msane_any w
    clear hd h2 h3 h4
    go_enter Tryz.func10, Tryz.ntmps10
    go_wp2_with fail
    refine c4.mono ?_
    rintro e w4 ⟨rfl, ho⟩
    have HE : Hid (Below w.heap.size w w4) := ho.bel
    clear ho c4
    go_wp2_with fail
    exact hR.out _ _ ⟨rfl, HE.out⟩
  · have hb1 : ¬ (300 : Int) < n2 := by omega
    have c := mbegun_any w pages b n cap f hd a2 n2 cap2 f2 h2 (by omega)
    have HD3 := Lib.hid h3
    have HD4 := Lib.hid h4
    generalize listF n2 f2 = rts at *
    clear hd h2 h3 h4
    go_enter Tryz.func10, Tryz.ntmps10
    go_wp2_with fail
    refine c.mono ?_
    rintro e w2 (⟨rfl, ho⟩ | ⟨hb, q, p, r, M, rfl, hM, hbad, hf⟩)
    · have HO := Lib.hid ho
      have c4 := msane_any w2
      clear c ho
      go_wp2_with fail
      refine c4.mono ?_
      rintro e w4 ⟨rfl, ho⟩
      have HE : Hid (Below w.heap.size w w4) := bel3 HO.out ho
      clear ho c4
      go_wp2_with fail
      exact hR.out _ _ ⟨rfl, HE.out⟩
    · have hok : ((Mk.start M).shades rts).Ok := Mk.Ok.shades _ _ (Mk.Ok.start hM)
      generalize (Mk.start M).shades rts = m0 at *
      have HOK := Lib.hid hok
      have HT : Hid (Two2 (FB hb q p r m0) 0 2) := ⟨by show 0 < 4; decide, by show 2 < 4; decide, by decide⟩
      have HF : Hid (Fam w w2 (ML (FB hb q p r m0) 0 2 hb p m0)) := hf
      have HM0 := Lib.hid hok
      have cx := mcopy_rep w2 HT.out HF.out hok
      clear c hf hok hbad hM
      go_wp2_with fail
      refine cx.mono ?_
      rintro e w3 ⟨hb2, p2, rfl, g3⟩
      have HF3 : Hid (Fam w w3 (RL [PH hb m0.M, GH q m0.M, MkA p hb m0.col m0.list, GkA r q m0.col m0.list, PH hb2 m0.M, MkA p2 hb2 m0.col m0.list] 1 3 q r m0)) := g3
      have cy := gmcopy_rep w3 (⟨by simp, by simp, by decide⟩ : Two2 [PH hb m0.M, GH q m0.M, MkA p hb m0.col m0.list, GkA r q m0.col m0.list, PH hb2 m0.M, MkA p2 hb2 m0.col m0.list] 1 3) HF3.out HM0.out
      clear cx g3 HF
      go_wp2_with fail
      refine cy.mono ?_
      rintro e w4 ⟨q2, r2, rfl, g4⟩
      have HF4 : Hid (Fam w w4 (FC hb q p r hb2 q2 p2 r2 m0 m0)) := g4
      clear cy g4 HF3
      have hfx : Fam w w4 (DD (FC hb q p r hb2 q2 p2 r2 m0 m0) 4 5 6 7 hb2 p2 q2 r2 m0 m0) := HF4.out
      have ca := malike_any FC.four2 hfx HM0.out
      clear hfx
      go_wp2_with fail
      refine ca.mono ?_
      rintro e w5 ⟨rfl, ho⟩
      have HF5 := Lib.hid (HF4.out.only0 ho)
      clear ca ho HF4
      have hx5 : Fam w w5 (ML (FC hb q p r hb2 q2 p2 r2 m0 m0) 4 5 hb2 p2 m0) := HF5.out
      have hm5 : Fam w w5 (ML (FC hb q p r hb2 q2 p2 r2 m0 m0) 0 2 hb p m0) := HF5.out
      have ch1 := mheap_rep w5 FC.four2.a hx5
      have ch2 := mheap_rep w5 FC.four1.a hm5
      obtain ⟨hk1, L1, X1, hp1⟩ := ML.ph FC.four2.a hx5
      obtain ⟨hk2, L2, X2, hp2⟩ := ML.ph FC.four1.a hm5
      have cal := alike_rep w5 hp1 hk1 hp2 hk2
      clear hx5 hm5 hk1 hk2 hp1 hp2
      go_wp2_with fail
      refine ch1.mono ?_
      rintro e _ ⟨rfl, rfl⟩
      go_wp2_with fail
      refine ch2.mono ?_
      rintro e _ ⟨rfl, rfl⟩
      go_wp2_with fail
      refine cal.mono ?_
      rintro e w6 ⟨rb, rfl, hrb, ho⟩
      obtain rfl : rb = true := hrb.2 (Hp.Like.refl m0.M).alike
      have HF0 := Lib.hid (HF5.out.only0 ho)
      have HX0 := HM0
      clear cal ch1 ch2 hrb ho HF5 HT
      go_wp2_with fail
      go_loopw [16] (fun iv wr => ∃ (k : Nat) (m x : Mk), k ≤ n3 ∧ k ≤ 80 ∧ iv = .int .i64 k ∧ Fam w wr (FC hb q p r hb2 q2 p2 r2 m x) ∧ Hid (m.Ok) ∧ Hid (x.Ok)) (fun iv _ => n3 - (intOf iv).toNat)
      case atStart => exact ⟨0, m0, m0, by omega, by omega, rfl, HF0.out, HM0, HX0⟩
      case round =>
        clear HF0 HM0 HX0
        obtain ⟨k, m, x, hk, hk80, rfl, hF, HM, HX⟩ := hrel
        have HF := Lib.hid hF
        clear hF
        by_cases hlt0 : k < n3
        · have hlt : k < n3 := by omega
          have hl8 : k < 80 := by omega
          have hlt1 : (k : Int) < n3 := by omega
          have hk0 : (0 : Int) ≤ k := by omega
          have hl81 : (k : Int) < 80 := by omega
          rcases HD3.out.2 with h0 | ⟨bb, oo, rfl, hc⟩
          · omega
          have c0 := HF.out.cell (hc k (by omega) 0 (by omega)).1
          have c1 := HF.out.cell (hc k (by omega) 1 (by omega)).1
          have c2 := HF.out.cell (hc k (by omega) 2 (by omega)).1
          have c3 := HF.out.cell (hc k (by omega) 3 (by omega)).1
          rw [Nat.add_zero] at c0
          rw [← Nat.add_assoc] at c1 c2 c3
          have wa := (hc k (by omega) 1 (by omega)).2
          have wb := (hc k (by omega) 2 (by omega)).2
          have wc := (hc k (by omega) 3 (by omega)).2
          have hfd : Fam w wr (DD (FC hb q p r hb2 q2 p2 r2 m x) 0 2 1 3 hb p q r m m) := HF.out
          have cd := mdo_any FC.four1 hfd HM.out (f3 k 0) (f3 k 1) (f3 k 2) (f3 k 3) wa wb wc
          generalize f3 k 0 = d0 at *
          generalize f3 k 1 = d1 at *
          generalize f3 k 2 = d2 at *
          generalize f3 k 3 = d3 at *
          clear hc wa wb wc hfd
          go_wp2_with fail
          refine cd.mono ?_
          rintro e w4 ⟨rfl, m', hm', g4⟩
          have HM' := Lib.hid hm'
          have HFN : Hid (Fam w w4 (FC hb q p r hb2 q2 p2 r2 m' x)) := g4
          clear cd g4 hm' c0 c1 c2 c3
          go_wp2_with fail
          exact ⟨⟨k + 1, m', x, by omega, by omega, by go_num, HFN.out, HM', HX⟩, by simp [intOf]; omega⟩
        · have h3a : ¬ (k : Int) < n3 := by omega
          have hfx : Fam w wr (DD (FC hb q p r hb2 q2 p2 r2 m x) 4 5 6 7 hb2 p2 q2 r2 x x) := HF.out
          have ca := malike_any FC.four2 hfx HX.out
          clear hfx
          go_wp2_with fail
          refine ca.mono ?_
          rintro e w5 ⟨rfl, ho⟩
          have HF1 := Lib.hid (HF.out.only0 ho)
          have HM1 := HM
          have HX1 := HX
          clear ca ho HF HM HX
          go_wp2_with fail
          go_loopw [17] (fun iv wr => ∃ (k : Nat) (m x : Mk), k ≤ n4 ∧ k ≤ 80 ∧ iv = .int .i64 k ∧ Fam w wr (FC hb q p r hb2 q2 p2 r2 m x) ∧ Hid (m.Ok) ∧ Hid (x.Ok)) (fun iv _ => n4 - (intOf iv).toNat)
          case atStart => exact ⟨0, m, x, by omega, by omega, rfl, HF1.out, HM1, HX1⟩
          case round =>
            clear HF1 HM1 HX1
            obtain ⟨k, m, x, hk, hk80, rfl, hF, HM, HX⟩ := hrel
            have HF := Lib.hid hF
            clear hF
            by_cases hlt : k < n4 ∧ k < 80
            · obtain ⟨hlt, hl8⟩ := hlt
              have hlt1 : (k : Int) < n4 := by omega
              have hk0 : (0 : Int) ≤ k := by omega
              have hl81 : (k : Int) < 80 := by omega
              rcases HD4.out.2 with h0 | ⟨bb, oo, rfl, hc⟩
              · omega
              have c0 := HF.out.cell (hc k (by omega) 0 (by omega)).1
              have c1 := HF.out.cell (hc k (by omega) 1 (by omega)).1
              have c2 := HF.out.cell (hc k (by omega) 2 (by omega)).1
              have c3 := HF.out.cell (hc k (by omega) 3 (by omega)).1
              rw [Nat.add_zero] at c0
              rw [← Nat.add_assoc] at c1 c2 c3
              have wa := (hc k (by omega) 1 (by omega)).2
              have wb := (hc k (by omega) 2 (by omega)).2
              have wc := (hc k (by omega) 3 (by omega)).2
              have hfd : Fam w wr (DD (FC hb q p r hb2 q2 p2 r2 m x) 4 5 6 7 hb2 p2 q2 r2 x x) := HF.out
              have cd := mdo_any FC.four2 hfd HX.out (f4 k 0) (f4 k 1) (f4 k 2) (f4 k 3) wa wb wc
              generalize f4 k 0 = d0 at *
              generalize f4 k 1 = d1 at *
              generalize f4 k 2 = d2 at *
              generalize f4 k 3 = d3 at *
              clear hc wa wb wc hfd
              go_wp2_with fail
              refine cd.mono ?_
              rintro e w4 ⟨rfl, m', hm', g4⟩
              have HM' := Lib.hid hm'
              have HFN : Hid (Fam w w4 (FC hb q p r hb2 q2 p2 r2 m m')) := g4
              clear cd g4 hm' c0 c1 c2 c3
              go_wp2_with fail
              exact ⟨⟨k + 1, m, m', by omega, by omega, by go_num, HFN.out, HM, HM'⟩, by simp [intOf]; omega⟩
            · have hf1 : Fam w wr (DD (FC hb q p r hb2 q2 p2 r2 m x) 0 2 1 3 hb p q r m m) := HF.out
              have ca1 := malike_any FC.four1 hf1 HM.out
              have HC2 : Hid (∀ wx, Only [] wr wx → Calls Tryz.prog 52 #[.pointer (some ⟨p2, 0, none⟩), .pointer (some ⟨r2, 0, none⟩)] wx (fun e w' => e = .returned (.bool true) ∧ Only [] wx w')) := fun wx ho => by
                have h7 : Fam w wx (DD (FC hb q p r hb2 q2 p2 r2 m x) 4 5 6 7 hb2 p2 q2 r2 x x) := HF.out.only0 ho
                exact malike_any FC.four2 h7 HX.out
              have HO := Lib.hid HF.out.only
              clear hf1
              have hcs4 : (k : Int) < n4 ∧ ¬ (k : Int) < 80 ∨ ¬ (k : Int) < n4 := by omega
              rcases hcs4 with ⟨h1, h2⟩ | h1
              · go_wp2_with fail
                refine ca1.mono ?_
                rintro e w7 ⟨rfl, ho⟩
                have HO7 := Lib.hid ho
                have ca2 := HC2.out w7 ho
                clear ca1 ho
                go_wp2_with fail
                refine ca2.mono ?_
                rintro e w8 ⟨rfl, ho⟩
                have HO8 : Hid (Only [] w w8) := (HO.out.trans HO7.out (by simp)).trans ho (by simp)
                have cs := msane_any w8
                clear ca2 ho
                go_wp2_with fail
                refine cs.mono ?_
                rintro e w9 ⟨rfl, ho⟩
                have HE : Hid (Below w.heap.size w w9) := bel3 HO8.out ho
                clear ho cs
                go_wp2_with fail
                exact hR.out _ _ ⟨rfl, HE.out⟩
              · go_wp2_with fail
                refine ca1.mono ?_
                rintro e w7 ⟨rfl, ho⟩
                have HO7 := Lib.hid ho
                have ca2 := HC2.out w7 ho
                clear ca1 ho
                go_wp2_with fail
                refine ca2.mono ?_
                rintro e w8 ⟨rfl, ho⟩
                have HO8 : Hid (Only [] w w8) := (HO.out.trans HO7.out (by simp)).trans ho (by simp)
                have cs := msane_any w8
                clear ca2 ho
                go_wp2_with fail
                refine cs.mono ?_
                rintro e w9 ⟨rfl, ho⟩
                have HE : Hid (Below w.heap.size w w9) := bel3 HO8.out ho
                clear ho cs
                go_wp2_with fail
                exact hR.out _ _ ⟨rfl, HE.out⟩
theorem walk_copB (pages : Int) (b : Option Addr) (n cap : Nat) (f : Nat → Nat → Int) (a2 : Option Addr) (n2 cap2 : Nat) (f2 : Nat → Int) (b3 : Option Addr) (n3 cap3 : Nat) (f3 : Nat → Nat → Int) (b4 : Option Addr) (n4 cap4 : Nat) (f4 : Nat → Nat → Int) (w : World) (hn3 : 80 < n3) (wp : (Lit.int .i64 pages).wf = true) (hd : Recs 4 w b n f) (h2 : Nums w a2 n2 f2) (h3 : Recs 4 w b3 n3 f3) (h4 : Recs 4 w b4 n4 f4) :
    Calls Tryz.prog 10 #[.int .i64 pages, .slice b n cap, .slice a2 n2 cap2, .slice b3 n3 cap3, .slice b4 n4 cap4] w fun e w' => e = .returned (.bool true) ∧ Below w.heap.size w w' := by
  refine calls_abs fun R hR => ?_
  by_cases hbig : 300 < n2
  · have hb1 : (300 : Int) < n2 := by omega
    have c4 := msane_any w
    clear hd h2 h3 h4
    go_enter Tryz.func10, Tryz.ntmps10
    go_wp2_with fail
    refine c4.mono ?_
    rintro e w4 ⟨rfl, ho⟩
    have HE : Hid (Below w.heap.size w w4) := ho.bel
    clear ho c4
    go_wp2_with fail
    exact hR.out _ _ ⟨rfl, HE.out⟩
  · have hb1 : ¬ (300 : Int) < n2 := by omega
    have c := mbegun_any w pages b n cap f hd a2 n2 cap2 f2 h2 (by omega)
    have HD3 := Lib.hid h3
    have HD4 := Lib.hid h4
    generalize listF n2 f2 = rts at *
    clear hd h2 h3 h4
    go_enter Tryz.func10, Tryz.ntmps10
    go_wp2_with fail
    refine c.mono ?_
    rintro e w2 (⟨rfl, ho⟩ | ⟨hb, q, p, r, M, rfl, hM, hbad, hf⟩)
    · have HO := Lib.hid ho
      have c4 := msane_any w2
      clear c ho
      go_wp2_with fail
      refine c4.mono ?_
      rintro e w4 ⟨rfl, ho⟩
      have HE : Hid (Below w.heap.size w w4) := bel3 HO.out ho
      clear ho c4
      go_wp2_with fail
      exact hR.out _ _ ⟨rfl, HE.out⟩
    · have hok : ((Mk.start M).shades rts).Ok := Mk.Ok.shades _ _ (Mk.Ok.start hM)
      generalize (Mk.start M).shades rts = m0 at *
      have HOK := Lib.hid hok
      have HT : Hid (Two2 (FB hb q p r m0) 0 2) := ⟨by show 0 < 4; decide, by show 2 < 4; decide, by decide⟩
      have HF : Hid (Fam w w2 (ML (FB hb q p r m0) 0 2 hb p m0)) := hf
      have HM0 := Lib.hid hok
      have cx := mcopy_rep w2 HT.out HF.out hok
      clear c hf hok hbad hM
      go_wp2_with fail
      refine cx.mono ?_
      rintro e w3 ⟨hb2, p2, rfl, g3⟩
      have HF3 : Hid (Fam w w3 (RL [PH hb m0.M, GH q m0.M, MkA p hb m0.col m0.list, GkA r q m0.col m0.list, PH hb2 m0.M, MkA p2 hb2 m0.col m0.list] 1 3 q r m0)) := g3
      have cy := gmcopy_rep w3 (⟨by simp, by simp, by decide⟩ : Two2 [PH hb m0.M, GH q m0.M, MkA p hb m0.col m0.list, GkA r q m0.col m0.list, PH hb2 m0.M, MkA p2 hb2 m0.col m0.list] 1 3) HF3.out HM0.out
      clear cx g3 HF
      go_wp2_with fail
      refine cy.mono ?_
      rintro e w4 ⟨q2, r2, rfl, g4⟩
      have HF4 : Hid (Fam w w4 (FC hb q p r hb2 q2 p2 r2 m0 m0)) := g4
      clear cy g4 HF3
      have hfx : Fam w w4 (DD (FC hb q p r hb2 q2 p2 r2 m0 m0) 4 5 6 7 hb2 p2 q2 r2 m0 m0) := HF4.out
      have ca := malike_any FC.four2 hfx HM0.out
      clear hfx
      go_wp2_with fail
      refine ca.mono ?_
      rintro e w5 ⟨rfl, ho⟩
      have HF5 := Lib.hid (HF4.out.only0 ho)
      clear ca ho HF4
      have hx5 : Fam w w5 (ML (FC hb q p r hb2 q2 p2 r2 m0 m0) 4 5 hb2 p2 m0) := HF5.out
      have hm5 : Fam w w5 (ML (FC hb q p r hb2 q2 p2 r2 m0 m0) 0 2 hb p m0) := HF5.out
      have ch1 := mheap_rep w5 FC.four2.a hx5
      have ch2 := mheap_rep w5 FC.four1.a hm5
      obtain ⟨hk1, L1, X1, hp1⟩ := ML.ph FC.four2.a hx5
      obtain ⟨hk2, L2, X2, hp2⟩ := ML.ph FC.four1.a hm5
      have cal := alike_rep w5 hp1 hk1 hp2 hk2
      clear hx5 hm5 hk1 hk2 hp1 hp2
      go_wp2_with fail
      refine ch1.mono ?_
      rintro e _ ⟨rfl, rfl⟩
      go_wp2_with fail
      refine ch2.mono ?_
      rintro e _ ⟨rfl, rfl⟩
      go_wp2_with fail
      refine cal.mono ?_
      rintro e w6 ⟨rb, rfl, hrb, ho⟩
      obtain rfl : rb = true := hrb.2 (Hp.Like.refl m0.M).alike
      have HF0 := Lib.hid (HF5.out.only0 ho)
      have HX0 := HM0
      clear cal ch1 ch2 hrb ho HF5 HT
      go_wp2_with fail
      go_loopw [16] (fun iv wr => ∃ (k : Nat) (m x : Mk), k ≤ n3 ∧ k ≤ 80 ∧ iv = .int .i64 k ∧ Fam w wr (FC hb q p r hb2 q2 p2 r2 m x) ∧ Hid (m.Ok) ∧ Hid (x.Ok)) (fun iv _ => n3 - (intOf iv).toNat)
      case atStart => exact ⟨0, m0, m0, by omega, by omega, rfl, HF0.out, HM0, HX0⟩
      case round =>
        clear HF0 HM0 HX0
        obtain ⟨k, m, x, hk, hk80, rfl, hF, HM, HX⟩ := hrel
        have HF := Lib.hid hF
        clear hF
        by_cases hlt0 : k < 80
        · have hlt : k < n3 := by omega
          have hl8 : k < 80 := by omega
          have hlt1 : (k : Int) < n3 := by omega
          have hk0 : (0 : Int) ≤ k := by omega
          have hl81 : (k : Int) < 80 := by omega
          rcases HD3.out.2 with h0 | ⟨bb, oo, rfl, hc⟩
          · omega
          have c0 := HF.out.cell (hc k (by omega) 0 (by omega)).1
          have c1 := HF.out.cell (hc k (by omega) 1 (by omega)).1
          have c2 := HF.out.cell (hc k (by omega) 2 (by omega)).1
          have c3 := HF.out.cell (hc k (by omega) 3 (by omega)).1
          rw [Nat.add_zero] at c0
          rw [← Nat.add_assoc] at c1 c2 c3
          have wa := (hc k (by omega) 1 (by omega)).2
          have wb := (hc k (by omega) 2 (by omega)).2
          have wc := (hc k (by omega) 3 (by omega)).2
          have hfd : Fam w wr (DD (FC hb q p r hb2 q2 p2 r2 m x) 0 2 1 3 hb p q r m m) := HF.out
          have cd := mdo_any FC.four1 hfd HM.out (f3 k 0) (f3 k 1) (f3 k 2) (f3 k 3) wa wb wc
          generalize f3 k 0 = d0 at *
          generalize f3 k 1 = d1 at *
          generalize f3 k 2 = d2 at *
          generalize f3 k 3 = d3 at *
          clear hc wa wb wc hfd
          go_wp2_with fail
          refine cd.mono ?_
          rintro e w4 ⟨rfl, m', hm', g4⟩
          have HM' := Lib.hid hm'
          have HFN : Hid (Fam w w4 (FC hb q p r hb2 q2 p2 r2 m' x)) := g4
          clear cd g4 hm' c0 c1 c2 c3
          go_wp2_with fail
          exact ⟨⟨k + 1, m', x, by omega, by omega, by go_num, HFN.out, HM', HX⟩, by simp [intOf]; omega⟩
        · have h3a : (k : Int) < n3 := by omega
          have h3b : ¬ (k : Int) < 80 := by omega
          have hfx : Fam w wr (DD (FC hb q p r hb2 q2 p2 r2 m x) 4 5 6 7 hb2 p2 q2 r2 x x) := HF.out
          have ca := malike_any FC.four2 hfx HX.out
          clear hfx
          go_wp2_with fail
          refine ca.mono ?_
          rintro e w5 ⟨rfl, ho⟩
          have HF1 := Lib.hid (HF.out.only0 ho)
          have HM1 := HM
          have HX1 := HX
          clear ca ho HF HM HX
          go_wp2_with fail
          go_loopw [17] (fun iv wr => ∃ (k : Nat) (m x : Mk), k ≤ n4 ∧ k ≤ 80 ∧ iv = .int .i64 k ∧ Fam w wr (FC hb q p r hb2 q2 p2 r2 m x) ∧ Hid (m.Ok) ∧ Hid (x.Ok)) (fun iv _ => n4 - (intOf iv).toNat)
          case atStart => exact ⟨0, m, x, by omega, by omega, rfl, HF1.out, HM1, HX1⟩
          case round =>
            clear HF1 HM1 HX1
            obtain ⟨k, m, x, hk, hk80, rfl, hF, HM, HX⟩ := hrel
            have HF := Lib.hid hF
            clear hF
            by_cases hlt : k < n4 ∧ k < 80
            · obtain ⟨hlt, hl8⟩ := hlt
              have hlt1 : (k : Int) < n4 := by omega
              have hk0 : (0 : Int) ≤ k := by omega
              have hl81 : (k : Int) < 80 := by omega
              rcases HD4.out.2 with h0 | ⟨bb, oo, rfl, hc⟩
              · omega
              have c0 := HF.out.cell (hc k (by omega) 0 (by omega)).1
              have c1 := HF.out.cell (hc k (by omega) 1 (by omega)).1
              have c2 := HF.out.cell (hc k (by omega) 2 (by omega)).1
              have c3 := HF.out.cell (hc k (by omega) 3 (by omega)).1
              rw [Nat.add_zero] at c0
              rw [← Nat.add_assoc] at c1 c2 c3
              have wa := (hc k (by omega) 1 (by omega)).2
              have wb := (hc k (by omega) 2 (by omega)).2
              have wc := (hc k (by omega) 3 (by omega)).2
              have hfd : Fam w wr (DD (FC hb q p r hb2 q2 p2 r2 m x) 4 5 6 7 hb2 p2 q2 r2 x x) := HF.out
              have cd := mdo_any FC.four2 hfd HX.out (f4 k 0) (f4 k 1) (f4 k 2) (f4 k 3) wa wb wc
              generalize f4 k 0 = d0 at *
              generalize f4 k 1 = d1 at *
              generalize f4 k 2 = d2 at *
              generalize f4 k 3 = d3 at *
              clear hc wa wb wc hfd
              go_wp2_with fail
              refine cd.mono ?_
              rintro e w4 ⟨rfl, m', hm', g4⟩
              have HM' := Lib.hid hm'
              have HFN : Hid (Fam w w4 (FC hb q p r hb2 q2 p2 r2 m m')) := g4
              clear cd g4 hm' c0 c1 c2 c3
              go_wp2_with fail
              exact ⟨⟨k + 1, m, m', by omega, by omega, by go_num, HFN.out, HM, HM'⟩, by simp [intOf]; omega⟩
            · have hf1 : Fam w wr (DD (FC hb q p r hb2 q2 p2 r2 m x) 0 2 1 3 hb p q r m m) := HF.out
              have ca1 := malike_any FC.four1 hf1 HM.out
              have HC2 : Hid (∀ wx, Only [] wr wx → Calls Tryz.prog 52 #[.pointer (some ⟨p2, 0, none⟩), .pointer (some ⟨r2, 0, none⟩)] wx (fun e w' => e = .returned (.bool true) ∧ Only [] wx w')) := fun wx ho => by
                have h7 : Fam w wx (DD (FC hb q p r hb2 q2 p2 r2 m x) 4 5 6 7 hb2 p2 q2 r2 x x) := HF.out.only0 ho
                exact malike_any FC.four2 h7 HX.out
              have HO := Lib.hid HF.out.only
              clear hf1
              have hcs4 : (k : Int) < n4 ∧ ¬ (k : Int) < 80 ∨ ¬ (k : Int) < n4 := by omega
              rcases hcs4 with ⟨h1, h2⟩ | h1
              · go_wp2_with fail
                refine ca1.mono ?_
                rintro e w7 ⟨rfl, ho⟩
                have HO7 := Lib.hid ho
                have ca2 := HC2.out w7 ho
                clear ca1 ho
                go_wp2_with fail
                refine ca2.mono ?_
                rintro e w8 ⟨rfl, ho⟩
                have HO8 : Hid (Only [] w w8) := (HO.out.trans HO7.out (by simp)).trans ho (by simp)
                have cs := msane_any w8
                clear ca2 ho
                go_wp2_with fail
                refine cs.mono ?_
                rintro e w9 ⟨rfl, ho⟩
                have HE : Hid (Below w.heap.size w w9) := bel3 HO8.out ho
                clear ho cs
                go_wp2_with fail
                exact hR.out _ _ ⟨rfl, HE.out⟩
              · go_wp2_with fail
                refine ca1.mono ?_
                rintro e w7 ⟨rfl, ho⟩
                have HO7 := Lib.hid ho
                have ca2 := HC2.out w7 ho
                clear ca1 ho
                go_wp2_with fail
                refine ca2.mono ?_
                rintro e w8 ⟨rfl, ho⟩
                have HO8 : Hid (Only [] w w8) := (HO.out.trans HO7.out (by simp)).trans ho (by simp)
                have cs := msane_any w8
                clear ca2 ho
                go_wp2_with fail
                refine cs.mono ?_
                rintro e w9 ⟨rfl, ho⟩
                have HE : Hid (Below w.heap.size w w9) := bel3 HO8.out ho
                clear ho cs
                go_wp2_with fail
                exact hR.out _ _ ⟨rfl, HE.out⟩
theorem walk_MarkCopies (pages : Int) (b : Option Addr) (n cap : Nat) (f : Nat → Nat → Int) (a2 : Option Addr) (n2 cap2 : Nat) (f2 : Nat → Int) (b3 : Option Addr) (n3 cap3 : Nat) (f3 : Nat → Nat → Int) (b4 : Option Addr) (n4 cap4 : Nat) (f4 : Nat → Nat → Int) (w : World) (wp : (Lit.int .i64 pages).wf = true) (hd : Recs 4 w b n f) (h2 : Nums w a2 n2 f2) (h3 : Recs 4 w b3 n3 f3) (h4 : Recs 4 w b4 n4 f4) :
    Calls Tryz.prog 10 #[.int .i64 pages, .slice b n cap, .slice a2 n2 cap2, .slice b3 n3 cap3, .slice b4 n4 cap4] w fun e w' => e = .returned (.bool true) ∧ Below w.heap.size w w' := by
  by_cases h : n3 ≤ 80
  · exact walk_copA pages b n cap f a2 n2 cap2 f2 b3 n3 cap3 f3 b4 n4 cap4 f4 w h wp hd h2 h3 h4
  · exact walk_copB pages b n cap f a2 n2 cap2 f2 b3 n3 cap3 f3 b4 n4 cap4 f4 w (by omega) wp hd h2 h3 h4
end Go.Proofs.YtkjocehdbpekjaaGreat
