/- Lemmas of this claim. -/
import Derived.Test.YthflghdaejbdkaaKTbDo
import Derived.Test.YthflghdaejbdkaaKTbArgs
namespace Go.Proofs.Ythflghdaejbdkaa
open Go.RowKit Go.Maps
set_option maxHeartbeats 12800000
set_option maxRecDepth 100000
set_option linter.unusedVariables false
theorem Fam.base {w0 w w' : World} {l : List Asn} (h : Fam w w' l) (ho : Only [] w0 w) : Fam w0 w' l := by
  obtain ⟨h0, S, a, b, c⟩ := h
  exact ⟨ho.trans h0 (by simp), S, a, b, fun i hi k hk => Nat.le_trans ho.size (c i hi k hk)⟩
theorem barg_row2 {w : World} {b T : Nat} {x y : Bool} (h : Row w b T [.bool x, .bool y]) : BArg w (.slice (some ⟨b, 0, none⟩) 2 2) [x, y] := .inr ⟨⟨b, 0, none⟩, 2, rfl, fun i hi => by
  match i, hi with
  | 0, _ => exact h.cell 0 rfl
  | 1, _ => exact h.cell 1 rfl⟩
def L6 (ws : Nat) (v1 v2 : Value) (tb ub bo hb q : Nat) (M1 M2 : Hp) : List Asn :=
  [RowA ws 25 [v1, v2], TbA tb Tb.new 0, TrA ub Tb.new, RowA bo 38 [.pointer (some ⟨hb, 0, none⟩), .pointer (some ⟨q, 0, none⟩), .pointer none, .pointer none, .pointer (some ⟨tb, 0, none⟩), .pointer (some ⟨ub, 0, none⟩)], PH hb M1, GH q M2]
theorem L6.marked {w0 w : World} {ws tb ub bo hb q p r : Nat} {v1 v2 : Value} {M : Hp} {m : Mk} (hM : m.M = M) (hf : Fam w0 w (markedL (L6 ws v1 v2 tb ub bo hb q M M) 3 bo hb q p r tb ub m)) : Fam w0 w (G7 bo hb q p r tb ub m m Tb.new Tb.new []) := by
  subst hM
  refine hf.sel (fun i => match i with | 0 => 4 | 1 => 5 | 2 => 6 | 3 => 7 | 4 => 1 | 5 => 2 | _ => 3) (fun i A h => ?_) (fun i j hi hj hij => ?_)
  · match i, h with
    | 0, h => exact h
    | 1, h => exact h
    | 2, h => exact h
    | 3, h => exact h
    | 4, h => exact h
    | 5, h => exact h
    | 6, h => exact h
    | i + 7, h => simp [G7] at h
  · have e7 : (G7 bo hb q p r tb ub m m Tb.new Tb.new []).length = 7 := rfl
    rw [e7] at hi hj
    match i, j, hi, hj, hij with
    | 0, 0, _, _, h => exact absurd rfl h
    | 1, 1, _, _, h => exact absurd rfl h
    | 2, 2, _, _, h => exact absurd rfl h
    | 3, 3, _, _, h => exact absurd rfl h
    | 4, 4, _, _, h => exact absurd rfl h
    | 5, 5, _, _, h => exact absurd rfl h
    | 6, 6, _, _, h => exact absurd rfl h
    | 0, 1, _, _, _ => simp
    | 0, 2, _, _, _ => simp
    | 0, 3, _, _, _ => simp
    | 0, 4, _, _, _ => simp
    | 0, 5, _, _, _ => simp
    | 0, 6, _, _, _ => simp
    | 1, 0, _, _, _ => simp
    | 1, 2, _, _, _ => simp
    | 1, 3, _, _, _ => simp
    | 1, 4, _, _, _ => simp
    | 1, 5, _, _, _ => simp
    | 1, 6, _, _, _ => simp
    | 2, 0, _, _, _ => simp
    | 2, 1, _, _, _ => simp
    | 2, 3, _, _, _ => simp
    | 2, 4, _, _, _ => simp
    | 2, 5, _, _, _ => simp
    | 2, 6, _, _, _ => simp
    | 3, 0, _, _, _ => simp
    | 3, 1, _, _, _ => simp
    | 3, 2, _, _, _ => simp
    | 3, 4, _, _, _ => simp
    | 3, 5, _, _, _ => simp
    | 3, 6, _, _, _ => simp
    | 4, 0, _, _, _ => simp
    | 4, 1, _, _, _ => simp
    | 4, 2, _, _, _ => simp
    | 4, 3, _, _, _ => simp
    | 4, 5, _, _, _ => simp
    | 4, 6, _, _, _ => simp
    | 5, 0, _, _, _ => simp
    | 5, 1, _, _, _ => simp
    | 5, 2, _, _, _ => simp
    | 5, 3, _, _, _ => simp
    | 5, 4, _, _, _ => simp
    | 5, 6, _, _, _ => simp
    | 6, 0, _, _, _ => simp
    | 6, 1, _, _, _ => simp
    | 6, 2, _, _, _ => simp
    | 6, 3, _, _, _ => simp
    | 6, 4, _, _, _ => simp
    | 6, 5, _, _, _ => simp
    | i + 7, _, hi, _, _ => omega
    | _, j + 7, _, hj, _ => omega
theorem lbegin_any (w : World) (la : Option Addr) (ln lc : Nat) (f : Nat → Nat → Int) (hl : Recs 2 w la ln f) (ra : Option Addr) (rn rc : Nat) (rts : List Int) (hrl : rts.length = rn) (hrc : rn ≤ rc) (hrw : ∀ z ∈ rts, wfI z) (hrd : Read w (.slice ra rn rc) rts) :
    Calls Try.prog 4 #[.agg #[.slice la ln lc, .slice ra rn rc]] w (fun e w' => ∃ bo hb q p r tb ub M, e = .returned (.tuple #[.pointer (some ⟨bo, 0, none⟩), .bool true]) ∧ M.OkF ∧ Fam w w' (G7 bo hb q p r tb ub (Mk.new M rts) (Mk.new M rts) Tb.new Tb.new [])) := by
  refine calls_abs fun R hR => ?_
  have HL := Lib.hid hl
  have HRL := Lib.hid hrl
  have HRC := Lib.hid hrc
  have HRW := Lib.hid hrw
  have HRD := Lib.hid hrd
  have HF1 : Hid (Fam w (w.alloc (.cells #[.slice la ln lc, .slice ra rn rc] 25)) [RowA w.heap.size 25 [.slice la ln lc, .slice ra rn rc]]) := (Fam.nil w).addRow 25 [.slice la ln lc, .slice ra rn rc]
  have c1 := tnew_any (w.alloc (.cells #[.slice la ln lc, .slice ra rn rc] 25))
  clear hl hrl hrc hrw hrd
  go_enter Try.func4, Try.ntmps4
  go_wp2_with fail
  generalize w.alloc (.cells #[.slice la ln lc, .slice ra rn rc] 25) = w1 at *
  generalize w.heap.size = ws at *
  refine c1.mono ?_
  rintro e _ ⟨rfl, rfl⟩
  have HF2 : Hid (Fam w _ ([RowA ws 25 [.slice la ln lc, .slice ra rn rc]] ++ [TbA w1.heap.size Tb.new 0])) := HF1.out.add (tb_born w1)
  clear c1 HF1
  generalize w1.alloc _ = w2 at *
  generalize w1.heap.size = tb at *
  have c2 := rtnew_any w2
  go_wp2_with fail
  refine c2.mono ?_
  rintro e _ ⟨rfl, rfl⟩
  have HF3 : Hid (Fam w _ ([RowA ws 25 [.slice la ln lc, .slice ra rn rc]] ++ [TbA tb Tb.new 0] ++ [TrA w2.heap.size Tb.new])) := HF2.out.add (tr_born w2)
  clear c2 HF2
  generalize w2.alloc _ = w3 at *
  generalize w2.heap.size = ub at *
  have HF4 := Lib.hid (HF3.out.addRow 38 [.pointer none, .pointer none, .pointer none, .pointer none, .pointer (some ⟨tb, 0, none⟩), .pointer (some ⟨ub, 0, none⟩)])
  have c3 : Calls Try.prog 18 #[.int .i64 24] (w3.alloc (.cells #[.pointer none, .pointer none, .pointer none, .pointer none, .pointer (some ⟨tb, 0, none⟩), .pointer (some ⟨ub, 0, none⟩)] 38)) _ := hnew_good _ 24 (by decide) (by decide)
  clear HF3
  go_wp2_with fail
  have HF5 : Hid (Fam w (w3.alloc (.cells #[.pointer none, .pointer none, .pointer none, .pointer none, .pointer (some ⟨tb, 0, none⟩), .pointer (some ⟨ub, 0, none⟩)] 38)) [RowA ws 25 [.slice la ln lc, .slice ra rn rc], TbA tb Tb.new 0, TrA ub Tb.new, RowA w3.heap.size 38 [.pointer none, .pointer none, .pointer none, .pointer none, .pointer (some ⟨tb, 0, none⟩), .pointer (some ⟨ub, 0, none⟩)]]) := HF4.out
  clear HF4
  generalize w3.alloc _ = w4 at *
  generalize w3.heap.size = bo at *
  refine c3.mono ?_
  rintro e w5 ⟨hb, L, X, rfl, hp, hL, ho⟩
  have hf6 := (HF5.out.add (pborn hp (Hp.OkF.new (n := 24) (by decide) (by decide)) hL ho))
  have hr6 := hf6.row 3 rfl
  have z0 := hr6.cell 0 rfl
  have zf0 := hr6.free 0
  have HF6 := Lib.hid (hf6.setRow 3 rfl 0 (.pointer (some ⟨hb, 0, none⟩)))
  clear c3 hp hL ho hf6 hr6 HF5
  go_wp2_with fail
  generalize w5.setCell _ _ = w6 at *
  have c4 : Calls Try.prog 19 #[.int .i64 24] w6 _ := gnew_good w6 24 (by decide) (by decide)
  go_wp2_with fail
  refine c4.mono ?_
  rintro e w7 ⟨q, L, X, rfl, hp, hL, ho⟩
  have hf8 := (HF6.out.add (gborn hp (Hp.Ok.new (n := 24) (by decide) (by decide)) hL ho))
  have hr8 := hf8.row 3 rfl
  have z1 := hr8.cell 1 rfl
  have zf1 := hr8.free 1
  have HF8 : Hid (Fam w (w7.setCell ⟨bo, 1, none⟩ (.pointer (some ⟨q, 0, none⟩))) (L6 ws (.slice la ln lc) (.slice ra rn rc) tb ub bo hb q (Hp.new 24) (Hp.new 24))) := hf8.setRow 3 rfl 1 (.pointer (some ⟨q, 0, none⟩))
  have z4 := (HF8.out.row 3 rfl).cell 4 rfl
  clear c4 hp hL ho hf8 hr8 HF6 z0 zf0
  go_wp2_with fail
  generalize w7.setCell _ _ = w8 at *
  clear z1 zf1 z4
  generalize Hp.new 24 = M0 at *
  go_loopw [7] (fun iv wr => ∃ (k : Nat) (M : Hp), k ≤ 12 ∧ k ≤ ln ∧ iv = .int .i64 k ∧ Fam w wr (L6 ws (.slice la ln lc) (.slice ra rn rc) tb ub bo hb q M M)) (fun iv _ => 12 - (intOf iv).toNat)
  case atStart => exact ⟨0, M0, by omega, by omega, rfl, HF8.out⟩
  case round =>
    clear HF8
    obtain ⟨k, M, hk12, hkl, rfl, hf⟩ := hrel
    have HF := Lib.hid hf
    have s0 := (hf.row 0 rfl).cell 0 rfl
    clear hf
    by_cases hlt : k < ln ∧ k < 12
    · as_aux_lemma =>
      obtain ⟨hlt1, hlt2⟩ := hlt
      have hl1 : (k : Int) < (ln : Int) := by omega
      have hl2 : (k : Int) < 12 := by omega
      have b0 := (HF.out.row 3 rfl).cell 0 rfl
      have b0a : (wr.alloc (.cells #[.bool true, .bool true] 4)).cell? ⟨bo, 0, none⟩ = some (.pointer (some ⟨hb, 0, none⟩)) := ((HF.out.alloc (.cells #[.bool true, .bool true] 4)).row 3 rfl).cell 0 rfl
      have c1 := (HF.out.alloc (.cells #[.bool true, .bool true] 4)).pstep 4 rfl (M' := (M.newObject 0 [true, true]).2.2) (fun hk => hk.newObject 0 [true, true]) (fun L X hr hk => newObject_rep _ hr hk 0 (.slice (some ⟨wr.heap.size, 0, none⟩) 2 2) [true, true] (barg_row2 (Row.new wr 4 [.bool true, .bool true])) (by decide))
      have HG : Hid (∀ wx, Fam w wx (L6 ws (.slice la ln lc) (.slice ra rn rc) tb ub bo hb q (M.newObject 0 [true, true]).2.2 M) → Calls Try.prog 21 #[.pointer (some ⟨q, 0, none⟩), .int .i64 0, .slice (some ⟨wx.heap.size, 0, none⟩) 2 2] (wx.alloc (.cells #[.bool true, .bool true] 4)) (fun e w' => e = .returned (.tuple #[.int .i64 (M.newObject 0 [true, true]).1, .int .i64 (M.newObject 0 [true, true]).2.1]) ∧ Fam w w' (L6 ws (.slice la ln lc) (.slice ra rn rc) tb ub bo hb q (M.newObject 0 [true, true]).2.2 (M.newObject 0 [true, true]).2.2))) := fun wx h =>
        (h.alloc (.cells #[.bool true, .bool true] 4)).gstep 5 rfl (M' := (M.newObject 0 [true, true]).2.2) (fun hk => hk.newObject 0 [true, true]) (fun L X hr hk => gnewObject_rep _ hr hk 0 (.slice (some ⟨wx.heap.size, 0, none⟩) 2 2) [true, true] (barg_row2 (Row.new wx 4 [.bool true, .bool true])) (by decide))
      clear HF
      generalize M.newObject 0 [true, true] = rr at *
      obtain ⟨r1, r2, M2⟩ := rr
      go_wp2_with fail
      refine c1.mono ?_
      rintro e w3 ⟨rfl, f3⟩
      have f3' : Fam w w3 (L6 ws (.slice la ln lc) (.slice ra rn rc) tb ub bo hb q M2 M) := f3
      have c2 := HG.out w3 f3'
      have b1 := (f3'.row 3 rfl).cell 1 rfl
      have b1a : (w3.alloc (.cells #[.bool true, .bool true] 4)).cell? ⟨bo, 1, none⟩ = some (.pointer (some ⟨q, 0, none⟩)) := ((f3'.alloc (.cells #[.bool true, .bool true] 4)).row 3 rfl).cell 1 rfl
      clear c1 f3 f3' HG b0 b0a s0
      go_wp2_with fail
      refine c2.mono ?_
      rintro e w4 ⟨rfl, f4⟩
      have HF4 := Lib.hid f4
      clear c2 f4 b1 b1a
      go_wp2_with fail
      exact ⟨⟨k + 1, M2, by omega, by omega, by go_num, HF4.out⟩, by simp [intOf]; omega⟩
    · as_aux_lemma =>
      have hsplit : (¬ (k : Int) < (ln : Int)) ∨ ((k : Int) < (ln : Int) ∧ ¬ (k : Int) < 12) := by omega
      clear hlt
      rcases hsplit with h1 | ⟨h1, h2⟩
      all_goals (
        go_wp2_with fail
        obtain ⟨wo, rfl⟩ : ∃ wo : World, wo = wr := ⟨_, rfl⟩
        clear h1 hk12 hkl
        go_loopw [12] (fun iv wr => ∃ (i : Nat) (M : Hp), i ≤ 12 ∧ i ≤ ln ∧ iv = .int .i64 i ∧ Fam w wr (L6 ws (.slice la ln lc) (.slice ra rn rc) tb ub bo hb q M M)) (fun iv _ => 12 - (intOf iv).toNat)
        case atStart => exact ⟨0, M, by omega, by omega, rfl, HF.out⟩
        case round => as_aux_lemma =>
          clear HF s0
          obtain ⟨i, M, hi12, hil, rfl, hf⟩ := hrel
          have HF := Lib.hid hf
          have s0 := (hf.row 0 rfl).cell 0 rfl
          clear hf
          by_cases hlt : i < ln ∧ i < 12
          · as_aux_lemma =>
            obtain ⟨hlt1, hlt2⟩ := hlt
            have hl1 : (i : Int) < (ln : Int) := by omega
            have hl2 : (i : Int) < 12 := by omega
            have hi0 : (0 : Int) ≤ (i : Int) := by omega
            rcases HL.out.2 with h0 | ⟨lb, lo, rfl, hcell⟩
            · omega
            have HCE : Hid (∀ k, k < 2 → w.cell? ⟨lb, lo + i * 2 + k, none⟩ = some (.int .i64 (f i k)) ∧ wfI (f i k)) := fun k hk => by
              have := hcell i (by omega) k hk
              rw [← Nat.add_assoc] at this
              exact this
            clear hcell
            go_wp2_with fail
            obtain ⟨wo, rfl⟩ : ∃ wo : World, wo = wr := ⟨_, rfl⟩
            go_loopw [13] (fun iv wr => ∃ (k : Nat) (M : Hp), k ≤ 2 ∧ iv = .int .i64 k ∧ Fam w wr (L6 ws (.slice (some ⟨lb, lo, none⟩) ln lc) (.slice ra rn rc) tb ub bo hb q M M)) (fun iv _ => 2 - (intOf iv).toNat)
            case atStart => exact ⟨0, M, by omega, rfl, HF.out⟩
            case round =>
              clear HF s0
              obtain ⟨k, M, hk2, rfl, hf⟩ := hrel
              have HF := Lib.hid hf
              have s0 := (hf.row 0 rfl).cell 0 rfl
              clear hf
              by_cases hk : k < 2
              · as_aux_lemma =>
                have hk1 : (k : Int) < 2 := by omega
                have hk0 : (0 : Int) ≤ (k : Int) := by omega
                obtain ⟨hce, hwf⟩ := HCE.out k hk
                have HC0 := Lib.hid hce
                have HWF := Lib.hid hwf
                have hc1 := HF.out.cell hce
                have b0 := (HF.out.row 3 rfl).cell 0 rfl
                have b1 := (HF.out.row 3 rfl).cell 1 rfl
                have hwr : IntKind.i64.wrap ((i : Int) + 1) = (i : Int) + 1 := IntWalk.i64_in _ (by omega)
                have HP : Hid (Calls Try.prog 22 #[.pointer (some ⟨hb, 0, none⟩), .int .i64 ((i : Int) + 1), .int .i64 (k : Int), .int .i64 (f i k)] wr.drew (fun e w' => e = .returned (.int .i64 (M.set ((i : Int) + 1) k (f i k)).1) ∧ Fam w w' (L6 ws (.slice (some ⟨lb, lo, none⟩) ln lc) (.slice ra rn rc) tb ub bo hb q (M.set ((i : Int) + 1) k (f i k)).2 M))) :=
                  HF.out.drew.pstep 4 rfl (M' := (M.set ((i : Int) + 1) k (f i k)).2) (fun hk => hk.set _ _ _) (fun L X hr hk => set_rep _ hr hk _ _ _ (wfI_mk (by omega)) HWF.out)
                have HG : Hid (∀ wx, Fam w wx (L6 ws (.slice (some ⟨lb, lo, none⟩) ln lc) (.slice ra rn rc) tb ub bo hb q (M.set ((i : Int) + 1) k (f i k)).2 M) → Calls Try.prog 23 #[.pointer (some ⟨q, 0, none⟩), .int .i64 ((i : Int) + 1), .int .i64 (k : Int), .int .i64 (f i k)] wx (fun e w' => e = .returned (.int .i64 (M.set ((i : Int) + 1) k (f i k)).1) ∧ Fam w w' (L6 ws (.slice (some ⟨lb, lo, none⟩) ln lc) (.slice ra rn rc) tb ub bo hb q (M.set ((i : Int) + 1) k (f i k)).2 (M.set ((i : Int) + 1) k (f i k)).2))) := fun wx h =>
                  h.gstep 5 rfl (M' := (M.set ((i : Int) + 1) k (f i k)).2) (fun hk => hk.set _ _ _) (fun L X hr hk => gset_rep _ hr hk _ _ _)
                clear HF hce hwf
                generalize M.set ((i : Int) + 1) k (f i k) = rr at *
                obtain ⟨r1, M2⟩ := rr
                generalize f i k = fv at *
                go_wp2_with fail
                go_region_held3 (fun w' => w'.cell? ⟨bo, 0, none⟩ = some (.pointer (some ⟨hb, 0, none⟩)) ∧ w'.cell? ⟨bo, 1, none⟩ = some (.pointer (some ⟨q, 0, none⟩)) ∧ w'.cell? ⟨ws, 0, none⟩ = some (.slice (some ⟨lb, lo, none⟩) ln lc) ∧ w'.cell? ⟨lb, lo + i * 2 + k, none⟩ = some (.int .i64 fv))
                  (first | (exact ⟨b0, b1, s0, hc1⟩) | (exact ⟨(f4.row 3 rfl).cell 0 rfl, (f4.row 3 rfl).cell 1 rfl, (f4.row 0 rfl).cell 0 rfl, f4.cell HC0.out⟩) | (exact ⟨(f3.row 3 rfl).cell 0 rfl, (f3.row 3 rfl).cell 1 rfl, (f3.row 0 rfl).cell 0 rfl, f3.cell HC0.out⟩))
                  (first | (go_at_call 22; refine HP.out.mono ?_; rintro e w3 ⟨rfl, f3⟩) | (go_at_call 23; refine (HG.out _ f3).mono ?_; rintro e w4 ⟨rfl, f4⟩))
                have HF4 := Lib.hid f4
                clear f4 HP HG hwr b0 b1 s0 hc1
                go_wp2_with fail
                exact ⟨⟨k + 1, M2, by omega, by go_num, HF4.out⟩, by simp [intOf]; omega⟩
              · obtain rfl : k = 2 := by omega
                go_wp2_with fail
                exact ⟨⟨i + 1, M, by omega, by omega, by go_num, HF.out⟩, by simp [intOf]; omega⟩
          · as_aux_lemma =>
            have cm := lmark_any wr (i := 4) (i2 := 5) (kb := 3) HF.out rfl rfl rfl (by decide) (by decide) (by decide) ra rn rc rts HRL.out HRC.out HRW.out (fun w' l' h1 h2 => HRD.out.only h1.only (by simp))
            have s1 := (HF.out.row 0 rfl).cell 1 rfl
            have HKF := Lib.hid (HF.out.phF 4 rfl)
            have hsplit : (¬ (i : Int) < (ln : Int)) ∨ ((i : Int) < (ln : Int) ∧ ¬ (i : Int) < 12) := by omega
            clear HF hlt
            rcases hsplit with h1 | ⟨h1, h2⟩
            all_goals (
              go_wp2_with fail
              refine cm.mono ?_
              rintro e w9 ⟨rfl, p, r, f9⟩
              have HF9 := Lib.hid (L6.marked (Mk.new_M _ _) f9)
              clear cm f9 s1
              go_wp2_with fail
              exact hR.out _ _ ⟨bo, hb, q, p, r, tb, ub, M, rfl, HKF.out, HF9.out⟩))
end Go.Proofs.Ythflghdaejbdkaa
