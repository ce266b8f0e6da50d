/- Law MarkSteps: the walk. -/
import Derived.Test.YtkjocehdbpekjaaGreatMkPlays
namespace Go.Proofs.YtkjocehdbpekjaaGreat
open Go.RowKit Go.Maps
set_option maxHeartbeats 12800000
set_option maxRecDepth 100000
set_option linter.unusedVariables false
/-- The colors of the first handles. -/
def colsL (col : Int → Int) (l : List Int) : List Int := l.map col
theorem colsL_succ {col : Int → Int} {l : List Int} {k : Nat} (hk : k < l.length) : colsL col (l.take (k + 1)) = colsL col (l.take k) ++ [col (gI l k)] := by
  unfold colsL
  rw [List.take_succ_eq_append_getElem hk, List.map_append]
  have : gI l k = l[k] := by unfold gI; rw [List.getElem?_eq_getElem hk]; rfl
  rw [this]; rfl
theorem colsL_len (col : Int → Int) (l : List Int) : (colsL col l).length = l.length := by unfold colsL; simp
theorem colsL_at {col : Int → Int} {l : List Int} {k : Nat} (hk : k < l.length) : gI (colsL col l) k = col (gI l k) := by
  unfold colsL gI
  rw [List.getElem?_map, List.getElem?_eq_getElem hk]; rfl
/-- What a step does to a color. -/
theorem step_seen {m : Mk} (h : m.Ok) (x : Int) : (m.step.2.1 ≠ 0 ∧ m.step.2.2.col x = m.col x) ∨ (m.step.2.1 = 0 ∧ x = m.step.1 ∧ m.col x = 1 ∧ m.step.2.2.col x = 2) ∨ (m.step.2.1 = 0 ∧ x ≠ m.step.1 ∧ (m.step.2.2.col x = m.col x ∨ m.col x = 0 ∧ m.step.2.2.col x = 1)) := by
  unfold Mk.step
  cases e : m.list with
  | nil => exact .inl ⟨by show (3 : Int) ≠ 0; decide, rfl⟩
  | cons h0 t =>
    right
    show ((0 : Int) = 0 ∧ x = h0 ∧ m.col x = 1 ∧ (m.stepAt h0).col x = 2) ∨ ((0 : Int) = 0 ∧ x ≠ h0 ∧ ((m.stepAt h0).col x = m.col x ∨ m.col x = 0 ∧ (m.stepAt h0).col x = 1))
    rcases Mk.step_col h e x with ⟨h1, h2⟩ | ⟨h1, h2⟩ | ⟨h1, h2, h3, _⟩
    · exact .inl ⟨rfl, h2, by rw [h2]; exact (h.gr h0).1 (by rw [e]; simp), h1⟩
    · exact .inr ⟨rfl, h1, .inl h2⟩
    · exact .inr ⟨rfl, h1, .inr ⟨h2, h3⟩⟩
theorem walk_MarkSteps (pages : Int) (b : Option Addr) (n cap : Nat) (f : Nat → Nat → Int) (a2 : Option Addr) (n2 cap2 : Nat) (f2 : Nat → Int) (b3 : Option Addr) (n3 cap3 : Nat) (f3 : Nat → Nat → Int) (w : World) (wp : (Lit.int .i64 pages).wf = true) (hd : Recs 4 w b n f) (h2 : Nums w a2 n2 f2) (h3 : Recs 4 w b3 n3 f3) :
    Calls Tryz.prog 7 #[.int .i64 pages, .slice b n cap, .slice a2 n2 cap2, .slice b3 n3 cap3] w fun e w' => e = .returned (.bool true) ∧ Below w.heap.size w w' := by
  refine calls_abs fun R hR => ?_
  by_cases hbig : 300 < n2
  · have hb1 : (300 : Int) < n2 := by omega
    have c4 := msane_any w
    clear hd h2 h3
    go_enter Tryz.func7, Tryz.ntmps7
    go_wp2_with fail
    refine c4.mono ?_
    rintro e w4 ⟨rfl, ho⟩
    have HE : Hid (Below w.heap.size w w4) := ho.bel
    clear ho c4
    go_wp2_with fail
    exact hR.out _ _ ⟨rfl, HE.out⟩
  · have hb1 : ¬ (300 : Int) < n2 := by omega
    have c := mbegun_any w pages b n cap f hd a2 n2 cap2 f2 h2 (by omega)
    have HD := Lib.hid h3
    generalize listF n2 f2 = rts at *
    clear hd h2 h3
    go_enter Tryz.func7, Tryz.ntmps7
    go_wp2_with fail
    refine c.mono ?_
    rintro e w2 (⟨rfl, ho⟩ | ⟨hb, q, p, r, M, rfl, hM, hbad, hf⟩)
    · have HO := Lib.hid ho
      have c4 := msane_any w2
      clear c ho
      go_wp2_with fail
      refine c4.mono ?_
      rintro e w4 ⟨rfl, ho⟩
      have HE : Hid (Below w.heap.size w w4) := bel3 HO.out ho
      clear ho c4
      go_wp2_with fail
      exact hR.out _ _ ⟨rfl, HE.out⟩
    · have hok : ((Mk.start M).shades rts).Ok := Mk.Ok.shades _ _ (Mk.Ok.start hM)
      generalize (Mk.start M).shades rts = m0 at *
      have HOK := Lib.hid hok
      have HF : Hid (Fam w w2 (DD (FB hb q p r m0) 0 2 1 3 hb p q r m0 m0)) := hf
      have H4 : Hid (Four (FB hb q p r m0) 0 2 1 3) := Four.of4
      clear c hf hok hbad hM
      go_wp2_with fail
      go_loopw [12] (fun iv wr => ∃ (x : Nat) (m : Mk), x ≤ n3 ∧ x ≤ 80 ∧ iv = .int .i64 x ∧ Fam w wr (DD (FB hb q p r m0) 0 2 1 3 hb p q r m m) ∧ Hid (m.Ok)) (fun iv _ => n3 - (intOf iv).toNat)
      case atStart => exact ⟨0, m0, by omega, by omega, rfl, HF.out, HOK⟩
      case round =>
        clear HF HOK
        obtain ⟨x, m, hx, hx80, rfl, hF, HM⟩ := hrel
        have HF := Lib.hid hF
        clear hF
        by_cases hlt : x < n3 ∧ x < 80
        · obtain ⟨hlt, hl8⟩ := hlt
          have hlt1 : (x : Int) < n3 := by omega
          have hx0 : (0 : Int) ≤ x := by omega
          have hl81 : (x : Int) < 80 := by omega
          rcases HD.out.2 with h0 | ⟨bb, oo, rfl, hc⟩
          · omega
          have c0 := HF.out.cell (hc x (by omega) 0 (by omega)).1
          have c1 := HF.out.cell (hc x (by omega) 1 (by omega)).1
          have c2 := HF.out.cell (hc x (by omega) 2 (by omega)).1
          have c3 := HF.out.cell (hc x (by omega) 3 (by omega)).1
          rw [Nat.add_zero] at c0
          rw [← Nat.add_assoc] at c1 c2 c3
          have wa := (hc x (by omega) 1 (by omega)).2
          have wb := (hc x (by omega) 2 (by omega)).2
          have wc := (hc x (by omega) 3 (by omega)).2
          have cd := mdo_any H4.out HF.out HM.out (f3 x 0) (f3 x 1) (f3 x 2) (f3 x 3) wa wb wc
          generalize f3 x 0 = d0 at *
          generalize f3 x 1 = d1 at *
          generalize f3 x 2 = d2 at *
          generalize f3 x 3 = d3 at *
          clear hc wa wb wc
          by_cases hd3 : d0 = 3
          · subst hd3
            clear cd
            have ch := mheap_rep wr H4.out.tp HF.out
            obtain ⟨hk, L, X, hp⟩ := ML.ph H4.out.tp HF.out
            have cl := handles_rep wr hp hk
            have HK := Lib.hid hk
            clear hk hp
            go_wp2_with fail
            refine ch.mono ?_
            rintro e _ ⟨rfl, rfl⟩
            go_wp2_with fail
            refine cl.mono ?_
            rintro e w5 ⟨va, rfl, hi, ho⟩
            have HF5 : Hid (Fam w w5 (DD (FB hb q p r m0 ++ [IntsA va m.M.handles]) 0 2 1 3 hb p q r m m)) := by
              show Fam _ _ _
              rw [DD.app H4.out]
              exact HF.out.addInts ho hi
            obtain ⟨la, lc, rfl⟩ := hi.len
            have H5 := Lib.hid (H4.out.app (IntsA (.slice la m.M.handles.length lc) m.M.handles))
            have hlen : m.M.handles.length ≤ 192 := Hp.handlesN_len m.M 192
            obtain ⟨ln, hln⟩ : ∃ z, z = m.M.handles.length := ⟨_, rfl⟩
            have HLN := Lib.hid hln
            rw [← hln] at HF5 H5 hlen ⊢
            clear ch cl hi ho HF hln c0 c1 c2 c3
            go_wp2_with fail
            go_loopw [14, 15] (fun vv iv wr => ∃ k : Nat, k ≤ ln ∧ iv = .int .i64 k ∧ Ints wr w5.heap.size vv (colsL m.col (m.M.handles.take k)) ∧ Only [] w5 wr) (fun _ iv _ => ln - (intOf iv).toNat)
            case atStart => exact ⟨0, by omega, rfl, Ints.nil _ _, Only.refl _ _⟩
            case round =>
              obtain ⟨k, hk, rfl, hi, ho⟩ := hrel
              have HI := Lib.hid hi
              have HO := Lib.hid ho
              obtain ⟨ya, yc, hyv⟩ := hi.len
              have hyl : (colsL m.col (m.M.handles.take k)).length = k := by rw [colsL_len, List.length_take]; have := HLN.out; omega
              rw [hyl] at hyv
              subst hyv
              have HYL := Lib.hid hyl
              clear hi ho hyl
              by_cases hkl : k < ln
              · have hkl1 : (k : Int) < ln := by omega
                have hk0 : (0 : Int) ≤ k := by omega
                have hkh : k < m.M.handles.length := by rw [← HLN.out]; exact hkl
                obtain ⟨g, rfl, hc⟩ := icell ((HF5.out.only0 HO.out).ints 4 rfl) hkh
                have hus := Hp.handle_some (M := m.M) hkh
                have cc := mcolor_rep wr H5.out.tp (HF5.out.only0 HO.out) (gI m.M.handles k) (HK.out.wfH hus)
                have hcol : m.color (gI m.M.handles k) = (m.col (gI m.M.handles k), 0) := by unfold Mk.color; rw [if_pos hus]
                rw [hcol] at cc
                have HCS : Hid (colsL m.col (m.M.handles.take (k + 1)) = colsL m.col (m.M.handles.take k) ++ [m.col (gI m.M.handles k)]) := colsL_succ hkh
                clear hus hcol hkh
                generalize m.col (gI m.M.handles k) = cv at *
                generalize gI m.M.handles k = z at *
                go_wp2_with fail
                refine cc.mono ?_
                rintro e _ ⟨rfl, nd, rfl⟩
                have HID : Hid (Ints (wr.drewN nd) w5.heap.size (.slice ya k yc) (colsL m.col (m.M.handles.take k))) := HI.out
                have HOD : Hid (Only [] w5 (wr.drewN nd)) := HO.out.drewN nd
                clear cc hc HI HO
                generalize wr.drewN nd = w7 at *
                go_wp2_with (at_builtin; refine append_int1 rfl _ _ rfl w5.heap.size _ _ rfl (HID.out.alloc (.cells #[.int .i64 cv] 3)) w7.heap.size cv rfl ?c1 ?c2 ?c3 ?c4)
                case c1 => exact (Row.new w7 _ [_]).cell 0 rfl
                case c2 => have := HYL.out; omega
                case c3 => have := HOD.out.size; simp; omega
                case c4 =>
                  intro v' w8 hi2 ho2 hb2
                  have HO4 : Hid (Only [] w5 w8) := own_past HOD.out HID.out ho2
                  have HI4 : Hid (Ints w8 w5.heap.size v' (colsL m.col (m.M.handles.take (k + 1)))) := by show Ints _ _ _ _; rw [HCS.out]; exact hi2
                  clear hi2 ho2 hb2
                  go_wp2_with fail
                  exact ⟨⟨k + 1, by omega, by go_num, HI4.out, HO4.out⟩, by simp [intOf]; omega⟩
              · obtain rfl : k = ln := by omega
                have hkl1 : ¬ (k : Int) < (k : Int) := by omega
                have HI2 : Hid (Ints wr w5.heap.size (.slice ya k yc) (colsL m.col m.M.handles)) := by
                  have h7 := HI.out
                  rw [List.take_of_length_le (by have := HLN.out; omega)] at h7
                  exact h7
                have HF6 : Hid (Fam w wr (DD ((FB hb q p r m0 ++ [IntsA (.slice la k lc) m.M.handles]) ++ [IntsA (.slice ya k yc) (colsL m.col m.M.handles)]) 0 2 1 3 hb p q r m m)) := by
                  show Fam _ _ _
                  rw [DD.app H5.out]
                  exact HF5.out.addInts HO.out HI2.out
                have H6 := Lib.hid (H5.out.app (IntsA (.slice ya k yc) (colsL m.col m.M.handles)))
                have cs := mstep_rep wr H6.out.tp HF6.out HM.out
                have HG : Hid (∀ wx, Fam w wx (DD ((FB hb q p r m0 ++ [IntsA (.slice la k lc) m.M.handles]) ++ [IntsA (.slice ya k yc) (colsL m.col m.M.handles)]) 0 2 1 3 hb p q r m.step.2.2 m) → Calls Tryz.prog 45 #[.pointer (some ⟨r, 0, none⟩)] wx (fun e w' => ∃ a b, e = .returned (.tuple #[.int .i64 a, .int .i64 b]) ∧ Fam w w' (DD ((FB hb q p r m0 ++ [IntsA (.slice la k lc) m.M.handles]) ++ [IntsA (.slice ya k yc) (colsL m.col m.M.handles)]) 0 2 1 3 hb p q r m.step.2.2 m.step.2.2))) := fun wx hx => by
                  rw [H6.out.comm] at hx ⊢
                  exact (gstep_rep wx H6.out.tr hx HM.out).mono (fun e w' ⟨x1, x2⟩ => ⟨_, _, x1, x2⟩)
                have HSEEN := Lib.hid (fun z => step_seen HM.out z)
                have HOK2 : Hid (m.step.2.2.Ok) := HM.out.step
                have HMM : Hid (m.step.2.2.M = m.M) := Mk.step_M
                generalize m.step = st at *
                obtain ⟨sh, se, s⟩ := st
                clear HI HI2 HF5
                go_wp2_with fail
                refine cs.mono ?_
                rintro e w7 ⟨rfl, f7⟩
                have cg := HG.out w7 f7
                clear cs f7 HG HF6
                go_wp2_with fail
                refine cg.mono ?_
                rintro e w8 ⟨ga, gb, rfl, f8⟩
                have HF8 : Hid (Fam w w8 (DD ((FB hb q p r m0 ++ [IntsA (.slice la k lc) m.M.handles]) ++ [IntsA (.slice ya k yc) (colsL m.col m.M.handles)]) 0 2 1 3 hb p q r s s)) := f8
                clear cg f8
                go_wp2_with fail
                go_loopw [20] (fun iv wr => ∃ j : Nat, j ≤ k ∧ iv = .int .i64 j ∧ Only [] w8 wr) (fun iv _ => k - (intOf iv).toNat)
                case atStart => exact ⟨0, by omega, rfl, Only.refl _ _⟩
                case round =>
                  obtain ⟨j, hj, rfl, ho⟩ := hrel
                  have HO8 := Lib.hid ho
                  clear ho
                  by_cases hjl : j < k
                  · have hjl1 : (j : Int) < k := by omega
                    have hj0 : (0 : Int) ≤ j := by omega
                    have hjh : j < m.M.handles.length := by rw [← HLN.out]; exact hjl
                    obtain ⟨g, rfl, hc⟩ := icell ((HF8.out.only0 HO8.out).ints 4 rfl) hjh
                    obtain ⟨g2, rfl, hc2⟩ := icell ((HF8.out.only0 HO8.out).ints 5 rfl) (j := j) (by rw [colsL_len]; exact hjh)
                    rw [colsL_at hjh] at hc2
                    have hus := Hp.handle_some (M := m.M) hjh
                    have cc := mcolor_rep wr H6.out.tp (HF8.out.only0 HO8.out) (gI m.M.handles j) (HK.out.wfH hus)
                    have hcol : s.color (gI m.M.handles j) = (s.col (gI m.M.handles j), 0) := by unfold Mk.color; rw [if_pos (by rw [show s.M = m.M from HMM.out]; exact hus)]
                    rw [hcol] at cc
                    have hseen := HSEEN.out (gI m.M.handles j)
                    have HCX : Hid (∀ n, (wr.drewN n).cell? ⟨g, j, none⟩ = some (.int .i64 (gI m.M.handles j))) := fun n => hc
                    have HCY : Hid (∀ n, (wr.drewN n).cell? ⟨g2, j, none⟩ = some (.int .i64 (m.col (gI m.M.handles j)))) := fun n => hc2
                    have HOD : Hid (∀ n, Only [] w8 (wr.drewN n)) := fun n => HO8.out.drewN n
                    replace hseen : (se ≠ 0 ∧ s.col (gI m.M.handles j) = m.col (gI m.M.handles j)) ∨ (se = 0 ∧ gI m.M.handles j = sh ∧ m.col (gI m.M.handles j) = 1 ∧ s.col (gI m.M.handles j) = 2) ∨ (se = 0 ∧ gI m.M.handles j ≠ sh ∧ (s.col (gI m.M.handles j) = m.col (gI m.M.handles j) ∨ m.col (gI m.M.handles j) = 0 ∧ s.col (gI m.M.handles j) = 1)) := hseen
                    clear hus hcol hjh
                    generalize s.col (gI m.M.handles j) = cn at *
                    generalize m.col (gI m.M.handles j) = co at *
                    generalize gI m.M.handles j = z at *
                    clear hc2
                    go_wp2_with fail
                    refine cc.mono ?_
                    rintro e _ ⟨rfl, nd, rfl⟩
                    have k1 := HCX.out nd
                    have k2 := HCY.out nd
                    have HOE := Lib.hid (HOD.out nd)
                    clear cc hc HCX HCY HOD HO8
                    generalize wr.drewN nd = w9 at *
                    rcases hseen with ⟨h1, h2⟩ | ⟨h1, h2, h3, h4⟩ | ⟨h1, h2, h3 | ⟨h3, h4⟩⟩
                    · have h1b : (se == 0) = false := by simpa using h1
                      subst h2
                      clear h1
                      go_wp2_with fail
                      exact ⟨⟨j + 1, by omega, by go_num, HOE.out⟩, by simp [intOf]; omega⟩
                    · subst h1 h2 h3 h4
                      go_wp2_with fail
                      exact ⟨⟨j + 1, by omega, by go_num, HOE.out⟩, by simp [intOf]; omega⟩
                    · have h2b : (z == sh) = false := by simpa using h2
                      subst h1 h3
                      clear h2
                      go_wp2_with fail
                      exact ⟨⟨j + 1, by omega, by go_num, HOE.out⟩, by simp [intOf]; omega⟩
                    · have h2b : (z == sh) = false := by simpa using h2
                      subst h1 h3 h4
                      clear h2
                      go_wp2_with fail
                      exact ⟨⟨j + 1, by omega, by go_num, HOE.out⟩, by simp [intOf]; omega⟩
                  · obtain rfl : j = k := by omega
                    have hjl1 : ¬ (j : Int) < (j : Int) := by omega
                    have HFE := Lib.hid (DD.pop H4.out (DD.pop H5.out (HF8.out.only0 HO8.out)))
                    go_wp2_with fail
                    exact ⟨⟨x + 1, s, by omega, by omega, by go_num, HFE.out, HOK2⟩, by simp [intOf]; omega⟩
          · have hdb : (d0 != 3) = true := by simpa using hd3
            go_wp2_with fail
            refine cd.mono ?_
            rintro e w4 ⟨rfl, m', hm', f4⟩
            have HM' := Lib.hid hm'
            have HF4 := Lib.hid f4
            clear cd f4 hm' c0 c1 c2 c3
            go_wp2_with fail
            exact ⟨⟨x + 1, m', by omega, by omega, by go_num, HF4.out, HM'⟩, by simp [intOf]; omega⟩
        · have HRS := Lib.hid (Mk.runs_spec HM.out).1
          have hrl := Mk.runs_le HM.out
          have ch := mheap_rep wr H4.out.tp HF.out
          obtain ⟨hk, L, X, hp⟩ := ML.ph H4.out.tp HF.out
          have cl := handles_rep wr hp hk
          clear hk hp
          have hcs : (x : Int) < n3 ∧ ¬ (x : Int) < 80 ∨ ¬ (x : Int) < n3 := by omega
          rcases hcs with ⟨h1, h2⟩ | h1
          · go_wp2_with fail
            refine ch.mono ?_
            rintro e _ ⟨rfl, rfl⟩
            go_wp2_with fail
            refine cl.mono ?_
            rintro e w5 ⟨va, rfl, hi, ho⟩
            have HF5 := Lib.hid (HF.out.only0 ho)
            obtain ⟨la, lc, rfl⟩ := hi.len
            have cr := mrun_rep w5 H4.out.tp HF5.out HM.out
            have hrl1 : (m.runs : Int) ≤ (m.M.handles.length : Int) := by omega
            clear ch cl hi ho HF
            generalize m.M.handles.length = ln at *
            generalize m.runs = rn at *
            go_wp2_with fail
            refine cr.mono ?_
            rintro e w6 ⟨rfl, f6⟩
            have cd := mdone_rep w6 H4.out.tp f6
            rw [decide_eq_true HRS.out] at cd
            have HO := Lib.hid f6.only
            have cs := msane_any w6
            clear cr f6 HF5
            go_wp2_with fail
            refine cd.mono ?_
            rintro e _ ⟨rfl, rfl⟩
            go_wp2_with fail
            refine cs.mono ?_
            rintro e w7 ⟨rfl, ho⟩
            have HE : Hid (Below w.heap.size w w7) := bel3 HO.out ho
            clear ho cs
            go_wp2_with fail
            exact hR.out _ _ ⟨rfl, HE.out⟩
          · go_wp2_with fail
            refine ch.mono ?_
            rintro e _ ⟨rfl, rfl⟩
            go_wp2_with fail
            refine cl.mono ?_
            rintro e w5 ⟨va, rfl, hi, ho⟩
            have HF5 := Lib.hid (HF.out.only0 ho)
            obtain ⟨la, lc, rfl⟩ := hi.len
            have cr := mrun_rep w5 H4.out.tp HF5.out HM.out
            have hrl1 : (m.runs : Int) ≤ (m.M.handles.length : Int) := by omega
            clear ch cl hi ho HF
            generalize m.M.handles.length = ln at *
            generalize m.runs = rn at *
            go_wp2_with fail
            refine cr.mono ?_
            rintro e w6 ⟨rfl, f6⟩
            have cd := mdone_rep w6 H4.out.tp f6
            rw [decide_eq_true HRS.out] at cd
            have HO := Lib.hid f6.only
            have cs := msane_any w6
            clear cr f6 HF5
            go_wp2_with fail
            refine cd.mono ?_
            rintro e _ ⟨rfl, rfl⟩
            go_wp2_with fail
            refine cs.mono ?_
            rintro e w7 ⟨rfl, ho⟩
            have HE : Hid (Below w.heap.size w w7) := bel3 HO.out ho
            clear ho cs
            go_wp2_with fail
            exact hR.out _ _ ⟨rfl, HE.out⟩
end Go.Proofs.YtkjocehdbpekjaaGreat
