/- Law ObjectBlocks: the walk. -/
import Derived.Test.YtcdeikbehpepjaaGreatOSeen
namespace Go.Proofs.YtcdeikbehpepjaaGreat
open Go.RowKit Go.Maps
set_option maxHeartbeats 12800000
set_option maxRecDepth 100000
set_option linter.unusedVariables false
theorem walk_ObjectBlocks (pages : Int) (b : Option Addr) (n cap : Nat) (f : Nat → OpR) (w : World) (wp : (Lit.int .i64 pages).wf = true) (hd : Ops w b n f) :
    Calls Tryz.prog 4 #[.int .i64 pages, .slice b n cap] w fun e w' => e = .returned (.bool true) ∧ Below w.heap.size w w' := by
  refine calls_abs fun R hR => ?_
  have c := oplay_any w pages b n cap f hd
  obtain ⟨C, hC, hmk'⟩ := mk_bools 384 (by omega)
  have hmk : ∀ wx : World, (Instr.makeSlice 37 (.int .i64 384) (.int .i64 384)).run Tryz.prog wx = .ok (.slice (some ⟨wx.heap.size, 0, none⟩) 384 384) (wx.alloc (.cells C 4)) := hmk'
  have HC := Lib.hid hC
  clear hd wp hC hmk'
  go_enter Tryz.func4, Tryz.ntmps4
  go_wp2_with fail
  refine c.mono ?_
  rintro e w2 ⟨vp, vq, rfl, hpl⟩
  clear c
  rcases hpl with ⟨rfl, rfl, hF⟩ | ⟨p, q, M, rfl, rfl, hF⟩
  · have HO : Hid (Only [] w w2) := hF.only
    clear hF
    have c4 := osane_any w2
    go_wp2_with fail
    refine c4.mono ?_
    rintro e w4 ⟨rfl, ho⟩
    have HE : Hid (Below w.heap.size w w4) := bel3 HO.out ho
    clear ho c4
    go_wp2_with fail
    exact hR.out _ _ ⟨rfl, HE.out⟩
  · obtain ⟨_, L, X, hp⟩ := hF.ph 0 rfl
    have HKF := Lib.hid (hF.phF 0 rfl)
    have HK : Hid M.Ok := HKF.out.ok
    have HP := Lib.hid hp
    have HO : Hid (Only [] w w2) := hF.only
    clear hF hp
    have ho : Only [] w2 (w2.alloc (.cells C 4)) := (Only.refl [] w2).alloc _
    have HR3 : Hid (Row (w2.alloc (.cells C 4)) w2.heap.size 4 ((List.replicate 384 false).map Value.bool)) := by
      show Row _ _ _ _
      rw [← HC.out]
      exact Row.new w2 4 C.toList
    have HP3 := Lib.hid (HP.out.only0 ho)
    have HO3 : Hid (Only [] w (w2.alloc (.cells C 4))) := HO.out.trans ho (by simp)
    have HSG : Hid (L w2.heap.size = none ∧ w.heap.size ≤ w2.heap.size) := ⟨by
      cases e : L w2.heap.size with
      | none => rfl
      | some ℓ => exact absurd (HP.out.lt _ (by rw [e]; simp)) (by omega), HO.out.size⟩
    clear ho HP HO
    have c1 := handles_rep (w2.alloc (.cells C 4)) HP3.out HK.out
    go_wp2_with fail
    generalize w2.alloc (.cells C 4) = w3 at *
    generalize w2.heap.size = sg at *
    clear hmk HC
    refine c1.mono ?_
    rintro e w4 ⟨lv, rfl, hlv, ho⟩
    obtain ⟨la, lc, rfl⟩ := hlv.len
    have HR4 := Lib.hid (ho.row HR3.out (by simp))
    have HP4 := Lib.hid (HP3.out.only0 ho)
    have HO4 : Hid (Only [] w w4) := HO3.out.trans ho (by simp)
    have hsl := HR3.out.lt
    have hlen : M.handles.length ≤ 192 := Hp.handlesN_le M 192
    have HCELL : Hid (∀ wx, Only [sg] w4 wx → ∀ j, j < M.handles.length → ∃ g, la = some ⟨g, 0, none⟩ ∧ wx.cell? ⟨g, j, none⟩ = some (.int .i64 (gI M.handles j))) := fun wx hwx j hj => by
      rcases hlv.form with ⟨_, e⟩ | ⟨g, cap, e, hg, _, _, hc⟩
      · rw [e] at hj; simp at hj
      · cases e; exact ⟨g, rfl, hwx.cell (hc j hj) (by simp; omega)⟩
    have HPX : Hid (∀ wx, Only [sg] w4 wx → HRep wx L p M X) := fun wx hwx => HP4.out.only (hwx.toP (S := fun k => k = sg) (fun x hx => .inl (by simpa using hx))) (fun k hk => by rw [hk]; exact HSG.out.1)
    have HRX : Hid (sg < w4.heap.size) := HR4.out.lt
    obtain ⟨ln, hln⟩ : ∃ z, z = M.handles.length := ⟨_, rfl⟩
    have HLN := Lib.hid hln
    rw [← hln] at hlen ⊢
    clear hlv ho c1 HR3 HP3 HO3 HP4 hsl hln
    go_wp2_with fail
    go_loopw [9, 11] (fun nv iv wr => ∃ (i : Nat) (bits : List Bool), i ≤ ln ∧ nv = .int .i64 ((sumN (fun j => bLen (M.ob (gI M.handles j))) i : Nat) : Int) ∧ iv = .int .i64 i ∧ SeenB M i ⟨0, 0, [], [], []⟩ 0 bits ∧ Row wr sg 4 (bits.map Value.bool) ∧ Only [sg] w4 wr) (fun nv iv _ => ln - (intOf iv).toNat)
    case atStart => exact ⟨0, _, by omega, rfl, rfl, SeenB.zero, HR4.out, Only.refl _ _⟩
    case round =>
      clear HR4
      obtain ⟨i, bits, hi, rfl, rfl, hsb, hrow, ho⟩ := hrel
      have HO := Lib.hid ho
      have HSB := Lib.hid hsb
      have HRW := Lib.hid hrow
      have hN7 : sumN (fun j => bLen (M.ob (gI M.handles j))) i ≤ 7 * i := sumN_le fun j _ => bLen_le7 HK.out _
      clear ho hsb hrow
      by_cases hlt : i < ln
      · have hlt1 : (i : Int) < ln := by omega
        have hi0 : (0 : Int) ≤ i := by omega
        obtain ⟨g, rfl, hc⟩ := HCELL.out wr HO.out i (by have := HLN.out; omega)
        have hx := Hp.handle_some (M := M) (i := i) (by have := HLN.out; omega)
        obtain ⟨o, hob⟩ := Option.isSome_iff_exists.1 hx
        have HOB := Lib.hid hob
        have HSUC : Hid (sumN (fun j => bLen (M.ob (gI M.handles j))) (i + 1) = sumN (fun j => bLen (M.ob (gI M.handles j))) i + o.blocks.length) := by
          show sumN (fun j => bLen (M.ob (gI M.handles j))) i + bLen (M.ob (gI M.handles i)) = _
          rw [hob]; rfl
        have cb := blocks_rep wr (HPX.out wr HO.out) HK.out (gI M.handles i) (HK.out.wfH hx)
        rw [blocks_some hob] at cb
        obtain ⟨x, hxe⟩ : ∃ z, z = gI M.handles i := ⟨_, rfl⟩
        have HXE := Lib.hid hxe
        rw [← hxe] at hc cb
        have hbl := HK.out.blen hob
        obtain ⟨N0, hN0⟩ : ∃ z, z = sumN (fun j => bLen (M.ob (gI M.handles j))) i := ⟨_, rfl⟩
        have HN0 := Lib.hid hN0
        rw [← hN0] at hN7 ⊢
        obtain ⟨bl, hbe⟩ : ∃ z, z = o.blocks.length := ⟨_, rfl⟩
        have HBE := Lib.hid hbe
        rw [← hbe] at hbl
        obtain ⟨hb1, hb7, _, _⟩ := hbl
        clear hx hob hxe hN0
        go_wp2_with fail
        refine cb.mono ?_
        rintro e w5 ⟨bv, rfl, hbi, ho⟩
        obtain ⟨ba, bc, rfl⟩ := hbi.len
        replace hbi : Ints w5 wr.heap.size (.slice ba o.blocks.length bc) o.blocks := hbi
        rw [← hbe] at hbi ⊢
        have HO5 : Hid (Only [sg] w4 w5) := HO.out.trans ho (by simp)
        have HRW5 := Lib.hid (ho.row HRW.out (by simp))
        have hsgl := HRW.out.lt
        have HBC : Hid (∀ wx, Only [sg] w5 wx → ∀ k, k < bl → ∃ g, ba = some ⟨g, 0, none⟩ ∧ wx.cell? ⟨g, k, none⟩ = some (.int .i64 (gI o.blocks k))) := fun wx hwx k hk => by
          rcases hbi.form with ⟨e7, e⟩ | ⟨g, cap, e, hg, _, _, hcc⟩
          · rw [e] at hbe; simp at hbe; omega
          · cases e; exact ⟨g, rfl, hwx.cell (hcc k (by omega)) (by simp; omega)⟩
        have hb0 : ¬ (bl : Int) = 0 := by omega
        have hb00 : ((bl : Int) == 0) = false := by simpa using hb0
        clear hbi ho hbe cb HO HRW hc hsgl
        have HSB0 : Hid (SeenB M i o 0 bits) := HSB.out.turn
        clear HSB
        go_wp2_with fail
        go_loopw [9, 14] (fun nv kv wr => ∃ (k : Nat) (bits : List Bool), k ≤ bl ∧ nv = .int .i64 ((N0 + k : Nat) : Int) ∧ kv = .int .i64 k ∧ SeenB M i o k bits ∧ Row wr sg 4 (bits.map Value.bool) ∧ Only [sg] w5 wr) (fun nv kv _ => bl - (intOf kv).toNat)
        case atStart => exact ⟨0, bits, by omega, rfl, rfl, HSB0.out, HRW5.out, Only.refl _ _⟩
        case round =>
          clear HSB0 HRW5
          obtain ⟨k, bits2, hk, rfl, rfl, hsb, hrow, ho⟩ := hrel
          have HW := Lib.hid ho
          have HSB := Lib.hid hsb
          have HRW := Lib.hid hrow
          clear hsb hrow ho
          by_cases hkl : k < bl
          · have hkl1 : (k : Int) < bl := by omega
            have hk0 : (0 : Int) ≤ k := by omega
            have hob : M.ob (gI M.handles i) = some o := HOB.out
            have hrg := HK.out.blkRange hob (m := k) (by rw [← HBE.out]; exact hkl)
            obtain ⟨a, ha⟩ : ∃ a : Nat, gI o.blocks k = a := ⟨(gI o.blocks k).toNat, by omega⟩
            have ha3 : a < 384 := by omega
            have ha1 : (a : Int) < 384 := by omega
            have ha0 : (0 : Int) ≤ a := by omega
            have hno := HSB.out.no HK.out (by have := HLN.out; omega) hob (by rw [← HBE.out]; exact hkl) ha3 ha
            have z := HRW.out.cell a (bits_cell (by rw [HSB.out.1]; exact ha3))
            rw [hno] at z
            have zf := HRW.out.free a
            obtain ⟨g2, rfl, hc⟩ := HBC.out wr HW.out k hkl
            rw [ha] at hc
            have HSN : Hid (SeenB M i o (k + 1) (bits2.set a true)) := HSB.out.step ha3 ha
            have HRN : Hid (Row (wr.setCell ⟨sg, a, none⟩ (.bool true)) sg 4 ((bits2.set a true).map Value.bool)) := by
              show Row _ _ _ _
              rw [List.map_set]
              exact HRW.out.set a _
            have HWN : Hid (Only [sg] w5 (wr.setCell ⟨sg, a, none⟩ (.bool true))) := HW.out.set (.inl (by simp)) _
            have hcN := (HBC.out _ HWN.out k hkl)
            obtain ⟨g3, hg3, hcN⟩ := hcN
            cases hg3
            rw [ha] at hcN
            have HBG : Hid (∀ wx p1 b1, PRep wx p1 b1 M.P → Calls Tryz.prog 16 #[.pointer (some ⟨p1, 0, none⟩), .int .i64 (a : Int)] wx fun e w' => e = .returned (.tuple #[.int .i64 (a : Int), .int .i64 0]) ∧ ∃ n, w' = wx.drewN n) := fun wx p1 b1 h1 => by
              have h2 := begin_rep wx p1 b1 M.P h1 (a : Int)
              have h3 : M.P.begin (a : Int) = ((a : Int), 0) := by
                rw [← ha]
                exact (HK.out.bk _ o hob k (by rw [← HBE.out]; exact hkl)).begin (HK.out.isC hob (by rw [← HBE.out]; exact hkl))
              rw [h3] at h2
              exact h2
            clear hob hrg ha hno HSB HRW HW
            go_upto_region 22 with fail
            have HPL := Lib.hid (hpool_rep (wr.setCell ⟨sg, a, none⟩ (.bool true)).drew (HPX.out _ (HO5.out.trans (HWN.out.drewN 1) (fun x hx => .inl hx))))
            clear z zf hc
            go_region_held3 (fun w' => w'.cell? ⟨g2, k, none⟩ = some (.int .i64 a))
              (first | (exact hcN) | (exact ho6.cell hcN (by simp)))
              (first
                | (go_at_call 12; refine HPL.out.mono ?_; rintro e w6 ⟨p1, b1, rfl, hp1, ho6, _, _⟩)
                | (go_at_call 16; refine (HBG.out w6 p1 b1 hp1).mono ?_; rintro e _ ⟨rfl, m1, rfl⟩))
            have HW8 : Hid (Only [sg] w5 (w6.drewN m1)) := (HWN.out.drewN 1).trans (ho6.drewN m1) (by simp)
            have HR8 : Hid (Row (w6.drewN m1) sg 4 ((bits2.set a true).map Value.bool)) := (ho6.drewN m1).row HRN.out (by simp)
            have hc8 : (w6.drewN m1).cell? ⟨g2, k, none⟩ = some (.int .i64 a) := (ho6.drewN m1).cell hcN (by simp)
            clear hp1 ho6 HPL HBG HWN HRN hcN
            generalize w6.drewN m1 = w8 at *
            have hNk : Hid (N0 + k + 1 = N0 + (k + 1)) := by show _ = _; omega
            go_wp2_with fail
            exact ⟨⟨k + 1, bits2.set a true, by omega, by go_num, by go_num, HSN.out, HR8.out, HW8.out⟩, by simp [intOf]; omega⟩
          · obtain rfl : k = bl := by omega
            have hkl1 : ¬ (k : Int) < (k : Int) := by omega
            have hob : M.ob (gI M.handles i) = some o := HOB.out
            obtain ⟨g2, rfl, hc0⟩ := HBC.out wr HW.out 0 (by omega)
            obtain ⟨a0, ha0⟩ : ∃ z, z = gI o.blocks 0 := ⟨_, rfl⟩
            rw [← ha0] at hc0
            have HCL : Hid (∀ wx p1 b1, PRep wx p1 b1 M.P → Calls Tryz.prog 17 #[.pointer (some ⟨p1, 0, none⟩), .int .i64 a0] wx fun e w' => e = .returned (.tuple #[.int .i64 x, .int .i64 0]) ∧ ∃ n, w' = wx.drewN n) := fun wx p1 b1 h1 => by
              have h2 := cell_rep wx p1 b1 M.P h1 a0
              rw [ha0, HK.out.headCell hob, ← HXE.out, ← ha0] at h2
              exact h2
            have HPL := Lib.hid (hpool_rep wr.drew (HPX.out _ (HO5.out.trans (HW.out.drewN 1) (fun x hx => .inl hx))))
            have HSN : Hid (SeenB M (i + 1) ⟨0, 0, [], [], []⟩ 0 bits2) := by
              have := HSB.out
              rw [HBE.out] at this
              exact this.next hob
            have hk7 : k ≤ 7 := hb7
            have hk01 : (0 : Int) < (k : Int) := by omega
            have hk02 : 0 < k := by omega
            have hk03 : ¬ k = 0 := by omega
            clear hob HSB ha0
            go_upto_region 25 with fail
            go_region_held3 (fun w' => w'.cell? ⟨g2, 0, none⟩ = some (.int .i64 a0))
              (first | (exact hc0) | (exact ho6.cell hc0 (by simp)))
              (first
                | (go_at_call 12; refine HPL.out.mono ?_; rintro e w6 ⟨p1, b1, rfl, hp1, ho6, _, _⟩)
                | (go_at_call 17; refine (HCL.out w6 p1 b1 hp1).mono ?_; rintro e _ ⟨rfl, m1, rfl⟩))
            have HW8 : Hid (Only [sg] w4 (w6.drewN m1)) := (HO5.out.trans (HW.out.drewN 1) (fun x hx => .inl hx)).trans (ho6.drewN m1) (by simp)
            have HR8 : Hid (Row (w6.drewN m1) sg 4 (bits2.map Value.bool)) := (ho6.drewN m1).row HRW.out (by simp)
            obtain ⟨g4, hg4, hc8⟩ := HCELL.out _ HW8.out i (by have := HLN.out; omega)
            cases hg4
            rw [← HXE.out] at hc8
            clear hp1 ho6 HPL HCL hc0 HRW HW
            generalize w6.drewN m1 = w8 at *
            go_wp2_with fail
            refine ⟨⟨i + 1, bits2, by omega, ?_, by go_num, HSN.out, HR8.out, HW8.out⟩, by simp [intOf]; omega⟩
            rw [HSUC.out, ← HN0.out, ← HBE.out]
            go_num
      · obtain rfl : i = ln := by omega
        have hlt1 : ¬ (i : Int) < (i : Int) := by omega
        have HU : Hid (sumN (fun c : Nat => M.P.usedN (c : Int) M.P.n) 3 = sumN (fun j => bLen (M.ob (gI M.handles j))) i) := by
          have := used_handles HKF.out
          rw [← HLN.out] at this
          exact this
        have HU8 : Hid (∀ c, M.P.usedN c M.P.n ≤ 192) := fun c => by have := usedN_le M.P c M.P.n; have := HK.out.n24; omega
        generalize sumN (fun j => bLen (M.ob (gI M.handles j))) i = S at *
        have HW := HO
        clear HO HSB HRW
        go_wp2_with fail
        go_loopw [19, 20] (fun sv cv wr => ∃ y : Nat, y ≤ 3 ∧ sv = .int .i64 ((sumN (fun c : Nat => M.P.usedN (c : Int) M.P.n) y : Nat) : Int) ∧ cv = .int .i64 y ∧ Only [sg] w4 wr) (fun sv cv _ => 3 - (intOf cv).toNat)
        case atStart => exact ⟨0, by omega, rfl, rfl, HW.out⟩
        case round =>
          clear HW
          obtain ⟨y, hy, rfl, rfl, ho⟩ := hrel
          have HW := Lib.hid ho
          clear ho
          by_cases hy3 : y < 3
          · have hy1 : (y : Int) < 3 := by omega
            have hsum := sumN_le (f := fun c : Nat => M.P.usedN (c : Int) M.P.n) (k := y) (m := 192) (fun c _ => HU8.out c)
            have hS1 : Hid (sumN (fun c : Nat => M.P.usedN (c : Int) M.P.n) (y + 1) = sumN (fun c : Nat => M.P.usedN (c : Int) M.P.n) y + M.P.usedN (y : Int) M.P.n) := Lib.hid rfl
            have hu8 := HU8.out (y : Int)
            have HUS : Hid (∀ wx p1 b1, PRep wx p1 b1 M.P → Calls Tryz.prog 18 #[.pointer (some ⟨p1, 0, none⟩), .int .i64 (y : Int)] wx (Exact wx (.tuple #[.int .i64 ((M.P.usedN (y : Int) M.P.n : Nat) : Int), .int .i64 0]))) := fun wx p1 b1 h1 => by
              have h2 := used_rep wx p1 b1 M.P h1 (y : Int)
              rw [show M.P.used (y : Int) = (((M.P.usedN (y : Int) M.P.n : Nat) : Int), 0) by unfold Pl.used; rw [if_neg (by omega)]] at h2
              exact h2
            have c1 := hpool_rep wr (HPX.out _ HW.out)
            generalize sumN (fun c : Nat => M.P.usedN (c : Int) M.P.n) y = s at *
            generalize M.P.usedN (y : Int) M.P.n = U at *
            go_wp2_with fail
            refine c1.mono ?_
            rintro e w6 ⟨p1, b1, rfl, hp1, ho6, _, _⟩
            have HW6 : Hid (Only [sg] w4 w6) := HW.out.trans ho6 (by simp)
            have c2 := HUS.out w6 p1 b1 hp1
            clear c1 hp1 ho6 HUS HW
            go_wp2_with fail
            refine c2.mono ?_
            rintro e _ ⟨rfl, rfl⟩
            clear c2
            go_wp2_with fail
            refine ⟨⟨y + 1, by omega, ?_, by go_num, HW6.out⟩, by simp [intOf]; omega⟩
            rw [hS1.out]
            go_num
          · obtain rfl : y = 3 := by omega
            rw [HU.out]
            have c4 := osane_any wr
            clear HU8
            go_wp2_with fail
            refine c4.mono ?_
            rintro e w9 ⟨rfl, ho⟩
            have HE : Hid (Below w.heap.size w w9) := ((HO4.out.trans HW.out (fun x hx => .inr (by simp at hx; subst hx; exact HSG.out.2))).trans ho (by simp)).bel
            clear ho c4
            go_wp2_with fail
            exact hR.out _ _ ⟨rfl, HE.out⟩
end Go.Proofs.YtcdeikbehpepjaaGreat
