/- Law ObjectSwept: the walk (under way). -/
import Derived.Test.YtcdeikbehpepjaaGreatSweptB
namespace Go.Proofs.YtcdeikbehpepjaaGreat
open Go.RowKit Go.Maps
set_option maxHeartbeats 12800000
set_option maxRecDepth 100000
set_option linter.unusedVariables false
theorem walk_ObjectSwept (pages : Int) (b : Option Addr) (n cap : Nat) (f : Nat → OpR) (a2 : Option Addr) (n2 cap2 : Nat) (f2 : Nat → Int) (w : World) (wp : (Lit.int .i64 pages).wf = true) (hd : Ops w b n f) (h2 : Nums w a2 n2 f2) :
    Calls Tryz.prog 5 #[.int .i64 pages, .slice b n cap, .slice a2 n2 cap2] w fun e w' => e = .returned (.bool true) ∧ Below w.heap.size w w' := by
  refine calls_abs fun R hR => ?_
  have c := oplay_any w pages b n cap f hd
  have HRD : Hid (Read w (.slice a2 n2 cap2) (listF n2 f2)) := numsRead h2
  have HLN : Hid ((listF n2 f2).length = n2) := by show _ = _; simp [listF]
  obtain ⟨C, hC, hmk'⟩ := mk_bools 193 (by omega)
  have hmk : ∀ wx : World, (Instr.makeSlice 37 (.int .i64 193) (.int .i64 193)).run Tryz.prog wx = .ok (.slice (some ⟨wx.heap.size, 0, none⟩) 193 193) (wx.alloc (.cells C 4)) := hmk'
  have HC := Lib.hid hC
  clear hd wp h2 hC hmk'
  go_enter Tryz.func5, Tryz.ntmps5
  go_wp2_with fail
  refine c.mono ?_
  rintro e w2 ⟨vp, vq, rfl, hpl⟩
  clear c
  generalize listF n2 f2 = rts at *
  have HO0 : Hid (Only [] w w2) := hpl.only
  by_cases hbig : 1000 < n2
  · have hb1 : (1000 : Int) < n2 := by omega
    have c4 := osane_any w2
    clear hpl
    go_wp2_with fail
    refine c4.mono ?_
    rintro e w4 ⟨rfl, ho⟩
    have HE : Hid (Below w.heap.size w w4) := bel3 HO0.out ho
    clear ho c4
    go_wp2_with fail
    exact hR.out _ _ ⟨rfl, HE.out⟩
  · have hb1 : ¬ (1000 : Int) < n2 := by omega
    rcases hpl with ⟨rfl, rfl, hF⟩ | ⟨p, q, M, rfl, rfl, hF⟩
    · have c2 := greach_nil w2 (.slice a2 n2 cap2)
      clear hF
      go_wp2_with fail
      refine c2.mono ?_
      rintro e _ ⟨rfl, rfl⟩
      have c4 := osane_any w2
      clear c2
      go_wp2_with fail
      refine c4.mono ?_
      rintro e w4 ⟨rfl, ho⟩
      have HE : Hid (Below w.heap.size w w4) := bel3 HO0.out ho
      clear ho c4
      go_wp2_with fail
      exact hR.out _ _ ⟨rfl, HE.out⟩
    · obtain ⟨hk, L, X, hp⟩ := hF.ph 0 rfl
      obtain ⟨_, L2, X2, hq⟩ := hF.gh 1 rfl
      have HK := Lib.hid hk
      have HKF := Lib.hid (hF.phF 0 rfl)
      have HF := Lib.hid hF
      have hn2 : n2 ≤ 1000 := by omega
      have c2 := greach_rep w2 hq hk a2 n2 cap2 rts HLN.out (HRD.out.only HO0.out (by simp)) hn2
      clear hp hq hk hF
      by_cases hbad : M.badRoot rts
      · have e : M.reach rts = ([], 3) := by unfold Hp.reach; rw [if_pos hbad]
        rw [e] at c2
        clear e hbad
        go_wp2_with fail
        refine c2.mono ?_
        rintro e w3 ⟨v1, rfl, hi, ho⟩
        have HO3 : Hid (Only [] w w3) := HO0.out.trans ho (by simp)
        have c4 := osane_any w3
        clear hi ho c2
        go_wp2_with fail
        refine c4.mono ?_
        rintro e w4 ⟨rfl, ho⟩
        have HE : Hid (Below w.heap.size w w4) := bel3 HO3.out ho
        clear ho c4
        go_wp2_with fail
        exact hR.out _ _ ⟨rfl, HE.out⟩
      · have e : M.reach rts = (M.reachL rts, 0) := by unfold Hp.reach; rw [if_neg hbad]
        rw [e] at c2
        have HNB := Lib.hid hbad
        clear e hbad
        go_wp2_with fail
        refine c2.mono ?_
        rintro e w3 ⟨v1, rfl, hi, ho⟩
        obtain ⟨kp, hkp⟩ : ∃ z, z = M.reachL rts := ⟨_, rfl⟩
        have HKP := Lib.hid hkp
        replace hi : Ints w3 w2.heap.size v1 (M.reachL rts) := hi
        rw [← hkp] at hi
        obtain ⟨ka, kc, rfl⟩ := hi.len
        have HF3 : Hid (Fam w w3 [PH p M, GH q M, IntsA (.slice ka kp.length kc) kp]) := HF.out.addInts ho hi
        have hk192 : kp.length ≤ 192 := by rw [hkp]; exact Hp.reachL_len M rts
        have HIN : Hid (∀ j, j < kp.length → M.Rch rts (gI kp j) ∧ 1 ≤ gI kp j ∧ gI kp j ≤ 192) := fun j hj => by
          have h7 : gI kp j ∈ M.reachL rts := by rw [← hkp]; exact mem_gI.2 ⟨j, hj, rfl⟩
          have h8 := (HK.out.mem_reach HNB.out).1 h7
          exact ⟨h8, (h8.some HK.out HNB.out).2⟩
        have HRow : Hid (Row (w3.alloc (.cells C 4)) w3.heap.size 4 ((List.replicate 193 false).map Value.bool)) := by
          show Row _ _ _ _
          rw [← HC.out]
          exact Row.new w3 4 C.toList
        have HKC : Hid (∀ wx, Only [w3.heap.size] (w3.alloc (.cells C 4)) wx → ∀ i, i < kp.length → ∃ g, ka = some ⟨g, 0, none⟩ ∧ wx.cell? ⟨g, i, none⟩ = some (.int .i64 (gI kp i))) := fun wx hwx i hlt => by
          rcases hi.form with ⟨_, e⟩ | ⟨g, cap, e, hg, hg2, _, hc⟩
          · rw [e] at hlt; simp at hlt
          · cases e; exact ⟨g, rfl, hwx.cell (((Only.refl [] w3).alloc _).cellN (hc i hlt)) (by simp; omega)⟩
        obtain ⟨kn, hkn⟩ : ∃ z, z = kp.length := ⟨_, rfl⟩
        have HKN := Lib.hid hkn
        rw [← hkn] at hk192 HF3 ⊢
        have HSGL : Hid (w3.heap.size < (w3.alloc (.cells C 4)).heap.size) := by show _ < _; simp
        have HOA : Hid (Only [] w3 (w3.alloc (.cells C 4))) := (Only.refl [] w3).alloc _
        clear hi ho hkp hkn HF c2
        go_wp2_with fail
        obtain ⟨sg, hsg⟩ : ∃ z, z = w3.heap.size := ⟨_, rfl⟩
        have HSE := Lib.hid hsg
        rw [← hsg] at HRow HKC HSGL ⊢
        generalize w3.alloc (.cells C 4) = w4 at *
        clear hmk HC hsg
        go_loopw [13] (fun iv wr => ∃ (i : Nat) (bits : List Bool), i ≤ kn ∧ iv = .int .i64 i ∧ LiveB kp bits i ∧ Row wr sg 4 (bits.map Value.bool) ∧ Only [sg] w4 wr) (fun iv _ => kn - (intOf iv).toNat)
        case atStart => exact ⟨0, _, by omega, rfl, LiveB.start, HRow.out, Only.refl _ _⟩
        case round =>
          clear HRow
          obtain ⟨i, bits, hi, rfl, hlv, hrow, ho⟩ := hrel
          have HLV := Lib.hid hlv
          have HRW := Lib.hid hrow
          have HO := Lib.hid ho
          clear hlv hrow ho
          by_cases hlt : i < kn
          · have hlt1 : (i : Int) < kn := by omega
            have hi0 : (0 : Int) ≤ i := by omega
            obtain ⟨g, rfl, hc⟩ := HKC.out wr HO.out i (by rw [← HKN.out]; exact hlt)
            obtain ⟨_, hy1, hy2⟩ := HIN.out i (by rw [← HKN.out]; exact hlt)
            obtain ⟨y, hy⟩ : ∃ y : Nat, gI kp i = y := ⟨(gI kp i).toNat, by omega⟩
            rw [hy] at hc hy1 hy2
            have hy3 : (y : Int) < 193 := by omega
            have hy4 : (0 : Int) ≤ y := by omega
            have hy6 : y < 193 := by omega
            have z := HRW.out.cell y (bits_cell (by rw [HLV.out.len]; exact hy6))
            have zf := HRW.out.free y
            have HLN2 := Lib.hid (HLV.out.step hy hy6)
            have HRN : Hid (Row (wr.setCell ⟨sg, y, none⟩ (.bool true)) sg 4 ((bits.set y true).map Value.bool)) := by
              show Row _ _ _ _
              rw [List.map_set]
              exact HRW.out.set y _
            have HON : Hid (Only [sg] w4 (wr.setCell ⟨sg, y, none⟩ (.bool true))) := HO.out.set (.inl (by simp)) _
            clear hy HLV HRW HO
            go_wp2_with fail
            exact ⟨⟨i + 1, _, by omega, by go_num, HLN2.out, HRN.out, HON.out⟩, by simp [intOf]; omega⟩
          · obtain rfl : i = kn := by omega
            have hlt1 : ¬ (i : Int) < (i : Int) := by omega
            have HLV2 : Hid (∀ y : Nat, y < 193 → (gB bits y = true ↔ M.Rch rts (y : Int))) := fun y hy => by
              have h7 := HLV.out
              rw [HKN.out] at h7
              exact h7.rch HK.out HNB.out HKP.out hy
            have HBL : Hid (bits.length = 193) := HLV.out.len
            have HF4 : Hid (Fam w wr [PH p M, GH q M, IntsA (.slice ka i kc) kp, RowA sg 4 (bits.map Value.bool)]) := HF3.out.add ⟨HOA.out.trans HO.out (fun x hx => .inr (by simp at hx; subst hx; rw [HSE.out]; exact Nat.le_refl _)), fun k => k = sg, ⟨HRW.out, fun k => Iff.rfl⟩, fun k hk => by rw [hk, HSE.out]; exact Nat.le_refl _⟩
            obtain ⟨_, LG, XG, hg⟩ := HF4.out.gh 1 rfl
            have c1 := ghandles_rep wr hg HK.out
            clear hg HLV HRW HO HF3 HOA HSGL HKC
            go_wp2_with fail
            refine c1.mono ?_
            rintro e w5 ⟨lv, rfl, hlv, ho⟩
            obtain ⟨la, lc, rfl⟩ := hlv.len
            have HF5 : Hid (Fam w w5 (FL p M q M (.slice ka i kc) kp sg bits (.slice la M.handles.length lc))) := HF4.out.addInts ho hlv
            obtain ⟨ln, hln⟩ : ∃ z, z = M.handles.length := ⟨_, rfl⟩
            have HLN2 := Lib.hid hln
            have hln192 : ln ≤ 192 := by rw [hln]; exact Hp.handlesN_le M 192
            rw [← hln] at HF5 ⊢
            have HB0 : Hid (Bared M M (M.Rch rts) (upTo M 0)) := (Bared.start HKF.out).weak (fun k h => absurd h upTo_zero)
            clear hlv ho hln c1 HF4
            go_wp2_with fail
            go_loopw [15] (fun iv wr => ∃ (j : Nat) (N : Hp), j ≤ ln ∧ iv = .int .i64 j ∧ Fam w wr (FL p N q M (.slice ka i kc) kp sg bits (.slice la ln lc)) ∧ Hid (Bared M N (M.Rch rts) (upTo M j))) (fun iv _ => ln - (intOf iv).toNat)
            case atStart => exact ⟨0, M, by omega, rfl, HF5.out, HB0⟩
            case round =>
              clear HF5 HB0
              obtain ⟨j, N, hj, rfl, hF, HB⟩ := hrel
              have HF := Lib.hid hF
              clear hF
              by_cases hjl : j < ln
              · have hjl1 : (j : Int) < ln := by omega
                have hj0 : (0 : Int) ≤ j := by omega
                have hjh : j < M.handles.length := by rw [← HLN2.out]; exact hjl
                obtain ⟨g, rfl, hc⟩ := FL.hcell HF.out hjh
                have hx := Hp.handle_some (M := M) hjh
                obtain ⟨o, hob⟩ := Option.isSome_iff_exists.1 hx
                have HOB := Lib.hid hob
                obtain ⟨y, hy⟩ : ∃ y : Nat, gI M.handles j = y := ⟨(gI M.handles j).toNat, by have := HK.out.hr _ o hob; omega⟩
                have HY := Lib.hid hy
                have hyr := HK.out.hr _ o hob
                rw [hy] at hc hyr hob
                have hy193 : (y : Int) < 193 := by omega
                have hy0 : (0 : Int) ≤ y := by omega
                have hyn : y < 193 := by omega
                have HWY : Hid (wfI (y : Int)) := wfI_mk (by omega)
                have HBS : Hid (BarS M N (M.Rch rts) j (y : Int) 0 o.slots.length) := BarS.start HB.out hob
                have ct := FL.gtype HF.out hob
                have hn48 : o.slots.length ≤ 48 := (HK.out.th _ o hob).le
                clear hx hob HB hyr
                go_wp2_with fail
                refine ct.mono ?_
                rintro e w6 ⟨rfl, ho⟩
                have HF6 := Lib.hid (HF.out.only0 ho)
                obtain ⟨n, hn⟩ : ∃ z, z = o.slots.length := ⟨_, rfl⟩
                rw [← hn] at hn48 HBS ⊢
                clear ct ho HF hc hn
                go_wp2_with fail
                go_loopw [20] (fun iv wr => ∃ (s : Nat) (N : Hp), s ≤ n ∧ iv = .int .i64 s ∧ Fam w wr (FL p N q M (.slice ka i kc) kp sg bits (.slice (some ⟨g, 0, none⟩) ln lc)) ∧ Hid (BarS M N (M.Rch rts) j (y : Int) s n)) (fun iv _ => n - (intOf iv).toNat)
                case atStart => exact ⟨0, N, by omega, rfl, HF6.out, HBS⟩
                case round =>
                  clear HF6 HBS
                  obtain ⟨s, N, hs, rfl, hF, HB⟩ := hrel
                  have HF := Lib.hid hF
                  clear hF
                  obtain ⟨g2, hg2, hc⟩ := FL.hcell HF.out hjh
                  cases hg2
                  rw [HY.out] at hc
                  have hbit := FL.bit HF.out (y := y) (by rw [HBL.out]; exact hyn)
                  have hlv := HLV2.out y hyn
                  by_cases hsn : s < n
                  · have hsn1 : (s : Int) < n := by omega
                    have hs0 : (0 : Int) ≤ s := by omega
                    cases hb : gB bits y with
                    | true =>
                      rw [hb] at hbit hlv
                      have HBN : Hid (Bared M N (M.Rch rts) (upTo M (j + 1))) := HB.out.done HY.out.symm (.inl (hlv.1 rfl))
                      clear hlv HB
                      go_wp2_with fail
                      exact ⟨⟨j + 1, N, by omega, by go_num, HF.out, HBN⟩, by simp [intOf]; omega⟩
                    | false =>
                      rw [hb] at hbit hlv
                      obtain ⟨he, hbs⟩ := HB.out.step hsn (fun x => by have := hlv.2 x; cases this)
                      have HBN := Lib.hid hbs
                      have c2 := FL.pset HF.out HWY.out he
                      clear hlv HB he hbs
                      go_wp2_with fail
                      refine c2.mono ?_
                      rintro e w7 ⟨rfl, hf⟩
                      have HF7 := Lib.hid hf
                      clear c2 hf HF hc hbit
                      go_wp2_with fail
                      exact ⟨⟨s + 1, _, by omega, by go_num, HF7.out, HBN⟩, by simp [intOf]; omega⟩
                  · obtain rfl : s = n := by omega
                    have hsn1 : ¬ (s : Int) < (s : Int) := by omega
                    have HBN : Hid (Bared M N (M.Rch rts) (upTo M (j + 1))) := HB.out.done HY.out.symm (.inr rfl)
                    clear hlv HB
                    go_wp2_with fail
                    exact ⟨⟨j + 1, N, by omega, by go_num, HF.out, HBN⟩, by simp [intOf]; omega⟩
              · obtain rfl : j = ln := by omega
                have hjl1 : ¬ (j : Int) < (j : Int) := by omega
                have hz : Bare0 M N (M.Rch rts) := by
                  have h7 := HB.out
                  rw [HLN2.out] at h7
                  exact h7.all HK.out
                have HZ := Lib.hid hz
                have HG0 := Lib.hid (gone_start hz)
                clear hz HB
                go_wp2_with fail
                go_loopw [21] (fun iv wr => ∃ (k : Nat) (N1 : Hp), k ≤ j ∧ iv = .int .i64 k ∧ Fam w wr (FL p N1 q M (.slice ka i kc) kp sg bits (.slice la j lc)) ∧ Hid (Gone N N1 (M.Rch rts) (upTo M k))) (fun iv _ => j - (intOf iv).toNat)
                case atStart => exact ⟨0, N, by omega, rfl, HF.out, HG0⟩
                case round =>
                  clear HF HG0
                  obtain ⟨k, N1, hk, rfl, hF, HG⟩ := hrel
                  have HF := Lib.hid hF
                  clear hF
                  by_cases hkl : k < j
                  · have hkl1 : (k : Int) < j := by omega
                    have hk0 : (0 : Int) ≤ k := by omega
                    have hkh : k < M.handles.length := by rw [← HLN2.out]; exact hkl
                    obtain ⟨g, rfl, hc⟩ := FL.hcell HF.out hkh
                    obtain ⟨o, hob⟩ := Option.isSome_iff_exists.1 (Hp.handle_some (M := M) hkh)
                    obtain ⟨y, hy⟩ : ∃ y : Nat, gI M.handles k = y := ⟨(gI M.handles k).toNat, by have := HK.out.hr _ o hob; omega⟩
                    have hyr := HK.out.hr _ o hob
                    rw [hy] at hc hyr
                    have hy193 : (y : Int) < 193 := by omega
                    have hy0 : (0 : Int) ≤ y := by omega
                    have hyn : y < 193 := by omega
                    have HWY : Hid (wfI (y : Int)) := wfI_mk (by omega)
                    have hbit := FL.bit HF.out (y := y) (by rw [HBL.out]; exact hyn)
                    have hlv := HLV2.out y hyn
                    cases hb : gB bits y with
                    | true =>
                      rw [hb] at hbit hlv
                      have HGN : Hid (Gone N N1 (M.Rch rts) (upTo M (k + 1))) := gone_skip HG.out (by rw [hy]; exact hlv.1 rfl)
                      clear hlv HG hob hyr hy
                      go_wp2_with fail
                      exact ⟨⟨k + 1, N1, by omega, by go_num, HF.out, HGN⟩, by simp [intOf]; omega⟩
                    | false =>
                      rw [hb] at hbit hlv
                      have h7 := gone_step HZ.out HG.out hkh (by rw [hy]; exact fun x => by have := hlv.2 x; cases this)
                      rw [hy] at h7
                      obtain ⟨he, hgs⟩ := h7
                      have HGN := Lib.hid hgs
                      have c2 := FL.prel HF.out HWY.out he
                      clear hlv HG he hgs hob hyr hy
                      go_wp2_with fail
                      refine c2.mono ?_
                      rintro e w7 ⟨rfl, hf⟩
                      have HF7 := Lib.hid hf
                      clear c2 hf HF hc hbit
                      go_wp2_with fail
                      exact ⟨⟨k + 1, _, by omega, by go_num, HF7.out, HGN⟩, by simp [intOf]; omega⟩
                  · obtain rfl : k = j := by omega
                    have hkl1 : ¬ (k : Int) < (k : Int) := by omega
                    obtain ⟨hk1, hk2, hk3⟩ : N1.OkF ∧ N1.handles = M.reachL rts ∧ ∀ k, M.Rch rts k → N1.ob k = M.ob k := by
                      have h7 := HG.out
                      rw [HLN2.out] at h7
                      exact gone_all HK.out HNB.out HZ.out h7
                    rw [← HKP.out] at hk2
                    have HF1 := Lib.hid hk1
                    have HH1 := Lib.hid hk2
                    have HS1 : Hid (∀ j, j < i → N1.ob (gI kp j) = M.ob (gI kp j)) := fun j hj => hk3 _ (HIN.out j (by rw [← HKN.out]; exact hj)).1
                    have HO7 : Hid (Only [] w wr) := HF.out.only
                    clear hk1 hk2 hk3 HG HZ
                    go_wp2_with fail
                    go_loopw [22, 23] (fun nv iv w' => ∃ a : Nat, a ≤ i ∧ nv = .int .i64 ((sumN (fun j => bLen (M.ob (gI kp j))) a : Nat) : Int) ∧ iv = .int .i64 a ∧ Fam w w' (FL p N1 q M (.slice ka i kc) kp sg bits (.slice la k lc))) (fun nv iv _ => i - (intOf iv).toNat)
                    case atStart => exact ⟨0, by omega, rfl, rfl, HF.out⟩
                    case round =>
                      clear HF
                      obtain ⟨a, ha, rfl, rfl, hF⟩ := hrel
                      have HF := Lib.hid hF
                      clear hF
                      have hN7 : sumN (fun j => bLen (M.ob (gI kp j))) a ≤ 7 * a := sumN_le fun j _ => bLen_le7 HK.out _
                      by_cases hal : a < i
                      · have hal1 : (a : Int) < i := by omega
                        have ha0 : (0 : Int) ≤ a := by omega
                        have hak : a < kp.length := by rw [← HKN.out]; exact hal
                        obtain ⟨g, rfl, hc⟩ := FL.kcell HF.out hak
                        obtain ⟨hr1, hr2, hr3⟩ := HIN.out a hak
                        obtain ⟨o, hob⟩ := Option.isSome_iff_exists.1 (hr1.some HK.out HNB.out).1
                        have hob1 := (HS1.out a hal).trans hob
                        have hsuc : sumN (fun j => bLen (M.ob (gI kp j))) (a + 1) = sumN (fun j => bLen (M.ob (gI kp j))) a + o.blocks.length := by
                          show sumN (fun j => bLen (M.ob (gI kp j))) a + bLen (M.ob (gI kp a)) = _
                          rw [hob]; rfl
                        have HSUC := Lib.hid hsuc
                        obtain ⟨x, hxe⟩ : ∃ z, z = gI kp a := ⟨_, rfl⟩
                        have HXE := Lib.hid hxe
                        rw [← hxe] at hc hob hob1 hr2 hr3
                        have HWX : Hid (wfI x) := wfI_mk (by omega)
                        have HOB := Lib.hid hob
                        have HOB1 := Lib.hid hob1
                        have hb7 : o.blocks.length ≤ 7 := (HK.out.blen hob).2.1
                        have hn48 : o.slots.length ≤ 48 := (HK.out.th _ o hob).le
                        have cb := FL.gblocks HF.out hob
                        obtain ⟨S, hS⟩ : ∃ z, z = sumN (fun j => bLen (M.ob (gI kp j))) a := ⟨_, rfl⟩
                        have HS := Lib.hid hS
                        rw [← hS] at hN7 ⊢
                        obtain ⟨bl, hbl⟩ : ∃ z, z = o.blocks.length := ⟨_, rfl⟩
                        have HBLL := Lib.hid hbl
                        obtain ⟨n, hn⟩ : ∃ z, z = o.slots.length := ⟨_, rfl⟩
                        have HN := Lib.hid hn
                        rw [← hbl] at cb hb7
                        rw [← hn] at hn48
                        clear hr1 hob hob1 hsuc hxe hS hbl hn
                        go_wp2_with fail
                        refine cb.mono ?_
                        rintro e w6 ⟨ba, bc, rfl, ho⟩
                        have HF6 := Lib.hid (HF.out.only0 ho)
                        obtain ⟨g2, hg2, hc⟩ := FL.kcell HF6.out hak
                        cases hg2
                        rw [← HXE.out] at hc
                        have ct := FL.gtype HF6.out HOB.out
                        rw [← HN.out] at ct
                        clear cb ho HF
                        go_wp2_with fail
                        refine ct.mono ?_
                        rintro e w7 ⟨rfl, ho⟩
                        have HF7 := Lib.hid (HF6.out.only0 ho)
                        clear ct ho HF6 hc
                        go_wp2_with fail
                        go_loopw [30] (fun iv w' => ∃ s : Nat, s ≤ n ∧ iv = .int .i64 s ∧ Fam w w' (FL p N1 q M (.slice (some ⟨g, 0, none⟩) i kc) kp sg bits (.slice la k lc))) (fun iv _ => n - (intOf iv).toNat)
                        case atStart => exact ⟨0, by omega, rfl, HF7.out⟩
                        case round =>
                          clear HF7
                          obtain ⟨s, hs, rfl, hF⟩ := hrel
                          have HF := Lib.hid hF
                          clear hF
                          by_cases hsn : s < n
                          · have hsn1 : (s : Int) < n := by omega
                            have hs0 : (0 : Int) ≤ s := by omega
                            obtain ⟨g2, hg2, hc⟩ := FL.kcell HF.out hak
                            cases hg2
                            rw [← HXE.out] at hc
                            have c1 := FL.pget HF.out HWX.out HOB1.out (s := s) (by rw [← HN.out]; exact hsn)
                            go_wp2_with fail
                            refine c1.mono ?_
                            rintro e w8 ⟨rfl, ho⟩
                            have HF8 := Lib.hid (HF.out.only0 ho)
                            obtain ⟨g2, hg2, hc⟩ := FL.kcell HF8.out hak
                            cases hg2
                            rw [← HXE.out] at hc
                            have c2 := FL.gget HF8.out HOB.out (s := s) (by rw [← HN.out]; exact hsn)
                            clear c1 ho HF
                            go_wp2_with fail
                            refine c2.mono ?_
                            rintro e w9 ⟨rfl, ho⟩
                            have HF9 := Lib.hid (HF8.out.only0 ho)
                            clear c2 ho HF8 hc
                            go_wp2_with fail
                            exact ⟨⟨s + 1, by omega, by go_num, HF9.out⟩, by simp [intOf]; omega⟩
                          · obtain rfl : s = n := by omega
                            have hsn1 : ¬ (s : Int) < (s : Int) := by omega
                            go_wp2_with fail
                            refine ⟨⟨a + 1, by omega, ?_, by go_num, HF.out⟩, by simp [intOf]; omega⟩
                            rw [HSUC.out, ← HS.out, ← HBLL.out]
                            go_num
                      · obtain rfl : a = i := by omega
                        have hal1 : ¬ (a : Int) < (a : Int) := by omega
                        have HU : Hid (sumN (fun c : Nat => N1.P.usedN (c : Int) N1.P.n) 3 = sumN (fun j => bLen (M.ob (gI kp j))) a) := by
                          have h7 := used_final HF1.out HH1.out (fun j hj => HS1.out j (by rw [HKN.out]; exact hj))
                          rw [← HKN.out] at h7
                          exact h7
                        have HU8 : Hid (∀ c, N1.P.usedN c N1.P.n ≤ 192) := fun c => by have := usedN_le N1.P c N1.P.n; have := HF1.out.ok.n24; omega
                        generalize sumN (fun j => bLen (M.ob (gI kp j))) a = S at *
                        go_wp2_with fail
                        go_loopw [35, 36] (fun sv cv w' => ∃ y : Nat, y ≤ 3 ∧ sv = .int .i64 ((sumN (fun c : Nat => N1.P.usedN (c : Int) N1.P.n) y : Nat) : Int) ∧ cv = .int .i64 y ∧ Fam w w' (FL p N1 q M (.slice ka a kc) kp sg bits (.slice la k lc))) (fun sv cv _ => 3 - (intOf cv).toNat)
                        case atStart => exact ⟨0, by omega, rfl, rfl, HF.out⟩
                        case round =>
                          clear HF
                          obtain ⟨y, hy, rfl, rfl, hF⟩ := hrel
                          have HF := Lib.hid hF
                          clear hF
                          obtain ⟨_, LP, XP, hp⟩ := HF.out.ph 0 rfl
                          have HP := Lib.hid hp
                          clear hp
                          by_cases hy3 : y < 3
                          · have hy1 : (y : Int) < 3 := by omega
                            have hsum := sumN_le (f := fun c : Nat => N1.P.usedN (c : Int) N1.P.n) (k := y) (m := 192) (fun c _ => HU8.out c)
                            have hS1 : Hid (sumN (fun c : Nat => N1.P.usedN (c : Int) N1.P.n) (y + 1) = sumN (fun c : Nat => N1.P.usedN (c : Int) N1.P.n) y + N1.P.usedN (y : Int) N1.P.n) := Lib.hid rfl
                            have hu8 := HU8.out (y : Int)
                            have HUS : Hid (∀ wx p1 b1, PRep wx p1 b1 N1.P → Calls Tryz.prog 18 #[.pointer (some ⟨p1, 0, none⟩), .int .i64 (y : Int)] wx (Exact wx (.tuple #[.int .i64 ((N1.P.usedN (y : Int) N1.P.n : Nat) : Int), .int .i64 0]))) := fun wx p1 b1 h1 => by
                              have h2 := used_rep wx p1 b1 N1.P h1 (y : Int)
                              rw [show N1.P.used (y : Int) = (((N1.P.usedN (y : Int) N1.P.n : Nat) : Int), 0) by unfold Pl.used; rw [if_neg (by omega)]] at h2
                              exact h2
                            have c1 := hpool_rep wr HP.out
                            generalize sumN (fun c : Nat => N1.P.usedN (c : Int) N1.P.n) y = s at *
                            generalize N1.P.usedN (y : Int) N1.P.n = U at *
                            go_wp2_with fail
                            refine c1.mono ?_
                            rintro e w6 ⟨p1, b1, rfl, hp1, ho6, _, _⟩
                            have HF6 := Lib.hid (HF.out.only0 ho6)
                            have c2 := HUS.out w6 p1 b1 hp1
                            clear c1 hp1 ho6 HUS HF
                            go_wp2_with fail
                            refine c2.mono ?_
                            rintro e _ ⟨rfl, rfl⟩
                            clear c2
                            go_wp2_with fail
                            refine ⟨⟨y + 1, by omega, ?_, by go_num, HF6.out⟩, by simp [intOf]; omega⟩
                            rw [hS1.out]
                            go_num
                          · obtain rfl : y = 3 := by omega
                            rw [HU.out]
                            clear HU8
                            have c1 := handles_rep wr HP.out HF1.out.ok
                            rw [HH1.out] at c1
                            go_wp2_with fail
                            refine c1.mono ?_
                            rintro e w6 ⟨v2, rfl, hi2, ho⟩
                            have HF6 := Lib.hid (HF.out.only0 ho)
                            have c2 := ints_same w6 v2 (.slice ka a kc) kp hi2.read (HF6.out.ints 2 rfl).read (by rw [← HKN.out]; omega)
                            clear c1 hi2 ho HF
                            go_wp2_with fail
                            refine c2.mono ?_
                            rintro e w7 ⟨rfl, hdr⟩
                            have HO7 : Hid (Only [] w w7) := (HF6.out.only0 (hdr.only [])).only
                            have c4 := osane_any w7
                            clear c2 hdr
                            go_wp2_with fail
                            refine c4.mono ?_
                            rintro e w9 ⟨rfl, ho⟩
                            have HE : Hid (Below w.heap.size w w9) := bel3 HO7.out ho
                            clear ho c4
                            go_wp2_with fail
                            exact hR.out _ _ ⟨rfl, HE.out⟩
end Go.Proofs.YtcdeikbehpepjaaGreat
