/- Law MarkPlays: alike; the walk. -/
import Derived.Test.YtkjocehdbpekjaaGreatMkDo
namespace Go.Proofs.YtkjocehdbpekjaaGreat
open Go.RowKit Go.Maps
set_option maxHeartbeats 12800000
set_option maxRecDepth 100000
set_option linter.unusedVariables false
theorem Four.of4 {A B C D : Asn} : Four [A, B, C, D] 0 2 1 3 := ⟨⟨by simp, by simp, by decide⟩, ⟨by simp, by simp, by decide⟩, by decide, by decide, by decide, by decide⟩
section
variable {l : List Asn} {i j i2 j2 hb p q r : Nat} {m : Mk} {w0 w : World}
theorem malike_any (h4 : Four l i j i2 j2) (hf : Fam w0 w (DD l i j i2 j2 hb p q r m m)) (hm : m.Ok) :
    Calls Tryz.prog 52 #[.pointer (some ⟨p, 0, none⟩), .pointer (some ⟨r, 0, none⟩)] w (fun e w' => e = .returned (.bool true) ∧ Only [] w w') := by
  refine calls_abs fun R hR => ?_
  have HF := Lib.hid hf
  have HFR : Hid (∀ wx, Only [] w wx → Fam w0 wx (RL (ML l i j hb p m) i2 j2 q r m)) := fun wx ho => by rw [← h4.comm]; exact HF.out.only0 ho
  have HFP : Hid (∀ wx, Only [] w wx → Fam w0 wx (DD l i j i2 j2 hb p q r m m)) := fun wx ho => HF.out.only0 ho
  have H4 := Lib.hid h4
  have HM := Lib.hid hm
  have hlen := hm.len
  have HLE := Lib.hid hlen
  have hwl : m.white.length ≤ 192 := by
    have h1 := List.length_filter_le (fun x => decide (m.col x = 0)) m.M.handles
    have h2 : m.M.handles.length ≤ 192 := Hp.handlesN_len m.M 192
    unfold Mk.white; omega
  have HWL := Lib.hid hwl
  have c1 := mgray_rep w h4.tp hf (by omega)
  clear hf h4 hm hlen hwl
  go_enter Tryz.func52, Tryz.ntmps52
  go_wp2_with fail
  refine c1.mono ?_
  rintro e w1 ⟨v1, rfl, hi1, ho1⟩
  have HI1 : Hid (Ints w1 0 v1 m.list) := hi1.base (Nat.zero_le _)
  have HO1 := Lib.hid ho1
  have c2 := ggray_rep w1 H4.out.tr (HFR.out w1 ho1) (by have := HLE.out; omega)
  clear c1 hi1 ho1
  go_wp2_with fail
  refine c2.mono ?_
  rintro e w2 ⟨v2, rfl, hi2, ho2⟩
  have HO2 : Hid (Only [] w w2) := HO1.out.trans ho2 (by simp)
  have c3 := mints_same w2 v1 v2 m.list (HI1.out.only ho2 (by simp)).read hi2.read (by have := HLE.out; omega)
  clear c2 hi2 ho2 HI1
  go_wp2_with fail
  refine c3.mono ?_
  rintro e w3 ⟨rfl, hd⟩
  have HO3 : Hid (Only [] w w3) := HO2.out.trans (hd.only []) (by simp)
  have c4 := mwhite_rep w3 H4.out.tp (HFP.out w3 HO3.out)
  clear c3 hd HO2 HO1
  go_wp2_with fail
  refine c4.mono ?_
  rintro e w4 ⟨v3, rfl, hi4, ho4⟩
  have HI4 : Hid (Ints w4 0 v3 m.white) := hi4.base (Nat.zero_le _)
  have HO4 : Hid (Only [] w w4) := HO3.out.trans ho4 (by simp)
  have c5 := gwhite_rep w4 H4.out.tr (HFR.out w4 HO4.out)
  clear c4 hi4 ho4 HO3
  go_wp2_with fail
  refine c5.mono ?_
  rintro e w5 ⟨v4, rfl, hi5, ho5⟩
  have HO5 : Hid (Only [] w w5) := HO4.out.trans ho5 (by simp)
  have c6 := mints_same w5 v3 v4 m.white (HI4.out.only ho5 (by simp)).read hi5.read (by have := HWL.out; omega)
  clear c5 hi5 ho5 HI4 HO4
  go_wp2_with fail
  refine c6.mono ?_
  rintro e w6 ⟨rfl, hd⟩
  have HO6 : Hid (Only [] w w6) := HO5.out.trans (hd.only []) (by simp)
  have c7 := mdone_rep w6 H4.out.tp (HFP.out w6 HO6.out)
  have c8 := gdone_rep w6 H4.out.tr (HFR.out w6 HO6.out)
  clear c6 hd HO5
  generalize decide (m.list = []) = db at *
  go_wp2_with fail
  refine c7.mono ?_
  rintro e _ ⟨rfl, rfl⟩
  go_wp2_with fail
  refine c8.mono ?_
  rintro e _ ⟨rfl, rfl⟩
  clear c7 c8
  go_wp2_with fail
  go_loopw [5] (fun iv wr => ∃ k : Nat, k ≤ 32 ∧ iv = .int .i64 ((k : Int) - 1) ∧ Only [] w wr) (fun iv _ => 32 - (intOf iv + 1).toNat)
  case atStart => exact ⟨0, by omega, rfl, HO6.out⟩
  case round =>
    clear HO6
    obtain ⟨k, hk, rfl, ho⟩ := hrel
    have HO := Lib.hid ho
    clear ho
    by_cases hlt : k < 32
    · have hlt1 : (k : Int) - 1 ≤ 30 := by omega
      have hwx : wfI ((k : Int) - 1) := wfI_mk (by omega)
      have c1 := mcolor_rep wr H4.out.tp (HFP.out wr HO.out) ((k : Int) - 1) hwx
      have HC2 : Hid (∀ n, Calls Tryz.prog 114 #[.pointer (some ⟨r, 0, none⟩), .int .i64 ((k : Int) - 1)] (wr.drewN n) (fun e w' => e = .returned (.tuple #[.int .i64 (m.color ((k : Int) - 1)).1, .int .i64 (m.color ((k : Int) - 1)).2]) ∧ Only [] (wr.drewN n) w')) := fun n => gcolor_rep _ H4.out.tr (HFR.out _ (HO.out.drewN n)) _
      generalize m.color ((k : Int) - 1) = cc at *
      obtain ⟨q1, q2⟩ := cc
      clear hwx
      go_wp2_with fail
      refine c1.mono ?_
      rintro e _ ⟨rfl, n, rfl⟩
      have c2 := HC2.out n
      have HOD : Hid (Only [] w (wr.drewN n)) := HO.out.drewN n
      clear c1 HC2 HO
      generalize wr.drewN n = w7 at *
      go_wp2_with fail
      refine c2.mono ?_
      rintro e w8 ⟨rfl, ho⟩
      have HO8 : Hid (Only [] w w8) := HOD.out.trans ho (by simp)
      clear c2 ho
      go_wp2_with fail
      exact ⟨⟨k + 1, by omega, by go_num, HO8.out⟩, by simp [intOf]; omega⟩
    · obtain rfl : k = 32 := by omega
      go_wp2_with fail
      exact hR.out _ _ ⟨rfl, HO.out⟩
end
theorem walk_MarkPlays (pages : Int) (b : Option Addr) (n cap : Nat) (f : Nat → Nat → Int) (a2 : Option Addr) (n2 cap2 : Nat) (f2 : Nat → Int) (b3 : Option Addr) (n3 cap3 : Nat) (f3 : Nat → Nat → Int) (w : World) (wp : (Lit.int .i64 pages).wf = true) (hd : Recs 4 w b n f) (h2 : Nums w a2 n2 f2) (h3 : Recs 4 w b3 n3 f3) :
    Calls Tryz.prog 9 #[.int .i64 pages, .slice b n cap, .slice a2 n2 cap2, .slice b3 n3 cap3] w fun e w' => e = .returned (.bool true) ∧ Below w.heap.size w w' := by
  refine calls_abs fun R hR => ?_
  by_cases hbig : 300 < n2
  · have hb1 : (300 : Int) < n2 := by omega
    have c4 := msane_any w
    clear hd h2 h3
    go_enter Tryz.func9, Tryz.ntmps9
    go_wp2_with fail
    refine c4.mono ?_
    rintro e w4 ⟨rfl, ho⟩
    have HE : Hid (Below w.heap.size w w4) := ho.bel
    clear ho c4
    go_wp2_with fail
    exact hR.out _ _ ⟨rfl, HE.out⟩
  · have hb1 : ¬ (300 : Int) < n2 := by omega
    have c := mbegun_any w pages b n cap f hd a2 n2 cap2 f2 h2 (by omega)
    have HD := Lib.hid h3
    generalize listF n2 f2 = rts at *
    clear hd h2 h3
    go_enter Tryz.func9, Tryz.ntmps9
    go_wp2_with fail
    refine c.mono ?_
    rintro e w2 (⟨rfl, ho⟩ | ⟨hb, q, p, r, M, rfl, hM, hbad, hf⟩)
    · have HO := Lib.hid ho
      have c4 := msane_any w2
      clear c ho
      go_wp2_with fail
      refine c4.mono ?_
      rintro e w4 ⟨rfl, ho⟩
      have HE : Hid (Below w.heap.size w w4) := bel3 HO.out ho
      clear ho c4
      go_wp2_with fail
      exact hR.out _ _ ⟨rfl, HE.out⟩
    · have hok : ((Mk.start M).shades rts).Ok := Mk.Ok.shades _ _ (Mk.Ok.start hM)
      generalize (Mk.start M).shades rts = m0 at *
      have HOK := Lib.hid hok
      have HF : Hid (Fam w w2 (DD (FB hb q p r m0) 0 2 1 3 hb p q r m0 m0)) := hf
      have H4 : Hid (Four (FB hb q p r m0) 0 2 1 3) := Four.of4
      have ca := malike_any H4.out HF.out hok
      clear c hf hok hbad hM
      go_wp2_with fail
      refine ca.mono ?_
      rintro e w3 ⟨rfl, ho⟩
      have HF3 := Lib.hid (HF.out.only0 ho)
      clear ca ho HF
      go_wp2_with fail
      go_loopw [12] (fun iv wr => ∃ (x : Nat) (m : Mk), x ≤ n3 ∧ x ≤ 80 ∧ iv = .int .i64 x ∧ Fam w wr (DD (FB hb q p r m0) 0 2 1 3 hb p q r m m) ∧ Hid (m.Ok)) (fun iv _ => n3 - (intOf iv).toNat)
      case atStart => exact ⟨0, m0, by omega, by omega, rfl, HF3.out, HOK⟩
      case round =>
        clear HF3 HOK
        obtain ⟨x, m, hx, hx80, rfl, hF, HM⟩ := hrel
        have HF := Lib.hid hF
        clear hF
        by_cases hlt : x < n3 ∧ x < 80
        · obtain ⟨hlt, hl8⟩ := hlt
          have hlt1 : (x : Int) < n3 := by omega
          have hx0 : (0 : Int) ≤ x := by omega
          have hl81 : (x : Int) < 80 := by omega
          rcases HD.out.2 with h0 | ⟨bb, oo, rfl, hc⟩
          · omega
          have c0 := HF.out.cell (hc x (by omega) 0 (by omega)).1
          have c1 := HF.out.cell (hc x (by omega) 1 (by omega)).1
          have c2 := HF.out.cell (hc x (by omega) 2 (by omega)).1
          have c3 := HF.out.cell (hc x (by omega) 3 (by omega)).1
          rw [Nat.add_zero] at c0
          rw [← Nat.add_assoc] at c1 c2 c3
          have wa := (hc x (by omega) 1 (by omega)).2
          have wb := (hc x (by omega) 2 (by omega)).2
          have wc := (hc x (by omega) 3 (by omega)).2
          have cd := mdo_any H4.out HF.out HM.out (f3 x 0) (f3 x 1) (f3 x 2) (f3 x 3) wa wb wc
          generalize f3 x 0 = d0 at *
          generalize f3 x 1 = d1 at *
          generalize f3 x 2 = d2 at *
          generalize f3 x 3 = d3 at *
          clear hc wa wb wc
          go_wp2_with fail
          refine cd.mono ?_
          rintro e w4 ⟨rfl, m', hm', f4⟩
          have HM' := Lib.hid hm'
          have HF4 := Lib.hid f4
          have ca := malike_any H4.out f4 hm'
          clear cd f4 hm' c0 c1 c2 c3
          go_wp2_with fail
          refine ca.mono ?_
          rintro e w5 ⟨rfl, ho⟩
          have HF5 := Lib.hid (HF4.out.only0 ho)
          clear ca ho HF4
          go_wp2_with fail
          exact ⟨⟨x + 1, m', by omega, by omega, by go_num, HF5.out, HM'⟩, by simp [intOf]; omega⟩
        · have HO := Lib.hid HF.out.only
          have cs := msane_any wr
          have hcs : (x : Int) < n3 ∧ ¬ (x : Int) < 80 ∨ ¬ (x : Int) < n3 := by omega
          rcases hcs with ⟨h1, h2⟩ | h1
          · go_wp2_with fail
            refine cs.mono ?_
            rintro e w4 ⟨rfl, ho⟩
            have HE : Hid (Below w.heap.size w w4) := bel3 HO.out ho
            clear ho cs
            go_wp2_with fail
            exact hR.out _ _ ⟨rfl, HE.out⟩
          · go_wp2_with fail
            refine cs.mono ?_
            rintro e w4 ⟨rfl, ho⟩
            have HE : Hid (Below w.heap.size w w4) := bel3 HO.out ho
            clear ho cs
            go_wp2_with fail
            exact hR.out _ _ ⟨rfl, HE.out⟩
end Go.Proofs.YtkjocehdbpekjaaGreat
