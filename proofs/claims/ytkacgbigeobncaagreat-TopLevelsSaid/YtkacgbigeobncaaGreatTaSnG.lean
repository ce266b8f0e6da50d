/- Lemmas of this claim. -/
import Derived.Test.YtkacgbigeobncaaGreatTaSnE
namespace Go.Proofs.YtkacgbigeobncaaGreat
open Go.RowKit Go.Maps
set_option maxHeartbeats 6400000
set_option maxRecDepth 100000
set_option linter.unusedVariables false
set_option linter.unusedSimpArgs false
theorem step_call {ops : Array Oper} {o : Oper} {ac : Act} {wl : World} {K : Act → World → Prop} {Q : Exit → Act → World → Prop} {E : Prop} (hgd : o.guard = none) (f : FuncId) (xs : Array Operand) (tys : Array TypeId)
    (ho : o.op = .call { callee := .value (.func f), args := xs, argTypes := tys }) (args : List Value) (ha : xs.toList.map ac.eval = args) (he : ∀ args w, (callFunc f args).run Tryz.prog w = .ok (.enter f args) w)
    {Post : Ending → World → Prop} (hc : Calls Tryz.prog f args.toArray wl Post) (h : ∀ e w', Post e w' → ∃ v, e = .returned v ∧ K (ac.put o.dst v) w') :
    if Region.wanted o (yielded ops ac.tmps) = true then Oper.wp Tryz.prog o ac wl K Q else E := by
  rw [if_pos (by simp [Region.wanted, hgd])]
  unfold Oper.wp
  have hr : (execOp ac.eval o).run Tryz.prog wl = .ok (.enter f args.toArray) wl := by
    unfold execOp
    simp only [ho, resolve, Act.eval, Deferred.ofValue, invoke, Sem.run_bind, Sem.run_pure, Result.andThen_ok, Array.append_empty, Array.empty_append]
    rw [← ha, show xs.map ac.eval = (xs.toList.map ac.eval).toArray from by rw [← List.map_toArray]]
    exact he _ _
  rw [hr]
  refine hc.mono fun e w' hp => ?_
  obtain ⟨v, rfl, hk⟩ := h e w' hp
  exact hk
theorem infoPlace : (Tryz.prog.info? 140).map (fun i => (i.zero, i.size, i.bytes)) = some (some (.agg #[.int .i64 0, .int .i64 0, .int .i64 0]), 3, 24) := by kernel_rfl
theorem places_hello (w : World) (bm cm bc cc : Nat) (h : CM w bm cm bc cc) : Calls Tryz.prog 37 #[.slice (some ⟨bc, 0, none⟩) 2 cc] w fun e w' => ∃ a n c, e = .returned (.slice a n c) ∧ Only [] w w' := by
  refine calls_abs fun R hR => ?_
  have HC := Lib.hid h.c
  have hcc := h.c2
  have HCC := Lib.hid hcc
  obtain ⟨i0, hi0, hz0, hz1, hz2⟩ := info_parts infoPlace
  have hmk : ∀ wx : World, ∃ C, (Instr.makeSlice 107 (.int .i64 2) (.int .i64 2)).run Tryz.prog wx = .ok (.slice (some ⟨wx.heap.size, 0, none⟩) 2 2) (wx.alloc (.cells C 140)) := fun wx =>
    ⟨_, run_makeSlice (P := Tryz.prog) (w := wx) 107 140 i0 _ Tryz.underlying107 hi0 hz0 .i64 .i64 2 2 (by omega) (by omega) (by rw [hz1]; omega) (by rw [hz2]; omega) (by omega)⟩
  obtain ⟨C, hmw⟩ := hmk w
  have c3 := fun w => opens_any w 1
  have c4 := fun w => opens_any w 27
  clear h hmk hi0 hz0 hz1 hz2
  go_enter Tryz.func37, Tryz.ntmps37
  go_wp2_with fail
  go_loopw [11] (fun i wr => ∃ k : Int, i = .int .i64 k ∧ (k = 0 ∨ k = 1 ∨ k = 2) ∧ Only [] w wr) (fun i _ => (2 - intOf i).toNat)
  case atStart => exact ⟨0, rfl, .inl rfl, (Only.refl _ _).alloc _⟩
  case round =>
    obtain ⟨k, rfl, hk, ho⟩ := hrel
    clear hmw
    have hC := HC.out.only0 ho
    have HO := Lib.hid ho
    have c0 := hC.at_ 0 _ rfl
    have c1 := hC.at_ 1 _ rfl
    have c2 := hC.at_ 2 _ rfl
    have c5 := hC.at_ 3 _ rfl
    have c6 := hC.at_ 4 _ rfl
    have c7 := hC.at_ 5 _ rfl
    clear hC ho
    obtain rfl | rfl | rfl := hk
    · have co := c3
      rw [show opens 1 = false from rfl] at co
      clear c5 c6 c7 c3 c4
      go_wp2_with fail
      refine (co _).mono ?_
      rintro e w3 ⟨rfl, e3⟩
      subst e3
      clear co
      go_wp2_with fail
      go_roundw
      case rel => exact ⟨1, rfl, .inr (.inl rfl), HO.out.alloc _⟩
      case measure => simp only [intOf]; decide
    · have co := c4
      rw [show opens 27 = false from rfl] at co
      clear c0 c1 c2 c3 c4
      go_wp2_with fail
      refine (co _).mono ?_
      rintro e w3 ⟨rfl, e3⟩
      subst e3
      clear co
      go_wp2_with fail
      go_roundw
      case rel => exact ⟨2, rfl, .inr (.inr rfl), HO.out.alloc _⟩
      case measure => simp only [intOf]; decide
    · clear c0 c1 c2 c3 c4 c5 c6 c7
      go_wp2_with fail
      exact hR.out _ _ ⟨_, _, _, rfl, HO.out⟩
def hX (bm cm bc cc : Nat) : MX := ⟨.slice none 0 0, .slice none 0 0, .slice (some ⟨bm, 0, none⟩) 1 cm, [], [⟨⟨⟨#[]⟩, -1, [], [], ⟨0, 0⟩, helloC⟩, .slice none 0 0, .slice none 0 0, .slice (some ⟨bc, 0, none⟩) 2 cc⟩]⟩
theorem CM.modA {w : World} {bm cm bc cc : Nat} (h : CM w bm cm bc cc) : ModA w (hX bm cm bc cc) helloM := by
  refine ⟨rfl, rfl, Rd.nil, Rd.nil, .inl ⟨bm, 0, cm, rfl, h.c1, fun i x hx r y hy => ?_⟩, (fun x hx => by cases hx), fun x hx => ?_⟩
  · cases i with
    | zero =>
      simp only [hX, List.getElem?_cons_zero, Option.some.injEq] at hx
      subst hx
      simpa using h.m.at_ r y hy
    | succ i => simp [hX] at hx
  · simp only [hX, List.mem_singleton] at hx
    subst hx
    exact ⟨Rd.nil, Rd.nil, h.rdC⟩
def wR (pl c jb td hp sc : Value) (bm cm : Nat) (L : List Value) : List Value := .slice none 0 0 :: .slice none 0 0 :: .slice (some ⟨bm, 0, none⟩) 1 cm :: .int .i64 0 :: pl :: c :: .slice none 0 0 :: jb :: td :: hp :: sc :: .int .i64 1001 :: L
def WS (w : World) (bw bm cm bc cc : Nat) (jb td : Value) : Prop := CM w bm cm bc cc ∧ bw ≠ bm ∧ bw ≠ bc ∧ ∃ pl cp hp sc L, L.length = 12 ∧ Row w bw 103 (wR pl (.pointer (some cp)) jb td hp sc bm cm L)
theorem twelve {L : List Value} (h : L.length = 12) : ∃ v0 v1 v2 v3 v4 v5 v6 v7 v8 v9 v10 v11, L = [v0, v1, v2, v3, v4, v5, v6, v7, v8, v9, v10, v11] := by
  match L, h with
  | [v0, v1, v2, v3, v4, v5, v6, v7, v8, v9, v10, v11], _ => exact ⟨_, _, _, _, _, _, _, _, _, _, _, _, rfl⟩
theorem tyPl : TyZ 96 107 1 (.slice none 0 0) 24 := ⟨Tryz.underlying96, by kernel_rfl, rfl, by decide⟩
theorem wnew_hello (w : World) (bm0 bc0 : Nat) (h : CM w bm0 1 bc0 2) : Calls Tryz.prog 23 #[.agg #[.slice none 0 0, .slice none 0 0, .slice (some ⟨bm0, 0, none⟩) 1 1, .int .i64 0], .int .i64 1, .int .i64 0] w
    fun e w' => ∃ bw bm cm bc cc, e = .returned (.tuple #[.pointer (some ⟨bw, 0, none⟩), .int .i64 0]) ∧ WS w' bw bm cm bc cc (.slice none 0 0) (.slice none 0 0) ∧ w.heap.size ≤ bw ∧ Only [] w w' := by
  refine calls_abs fun R hR => ?_
  have H := Lib.hid h
  have HO1 := Lib.hid ((Only.refl [] w).alloc (.cells #[.slice none 0 0, .slice none 0 0, .slice (some ⟨bm0, 0, none⟩) 1 1, .int .i64 0] 74))
  have HB1 := Lib.hid (Row.new w 74 [.slice none 0 0, .slice none 0 0, .slice (some ⟨bm0, 0, none⟩) 1 1, .int .i64 0])
  have cy := fun w => cycleNew10 w
  have CV := Lib.hid (show ∀ wx, Only [] w wx → Calls Tryz.prog 34 #[.agg #[.slice none 0 0, .slice none 0 0, .slice (some ⟨bm0, 0, none⟩) 1 1, .int .i64 0]] wx (Ret wx (.tuple #[.int .i64 0, .int .i64 0, .int .i64 0])) from fun wx ho => vmodule_hello wx (hX bm0 1 bc0 2) (h.only ho (by simp) (by simp)).modA)
  have CC := Lib.hid (show ∀ wx, Only [] w wx → Calls Tryz.prog 35 _ wx _ from fun wx ho => clone_hello wx bm0 bc0 (h.only ho (by simp) (by simp)))
  have hmm := @run_makeMap Tryz.prog
  clear h
  go_enter Tryz.func23, Tryz.ntmps23
  go_wp2_with fail
  refine (cy _).mono ?_
  rintro e w2 ⟨cp, rfl, ho⟩
  have HO2 := Lib.hid (HO1.out.trans ho (by simp))
  have hb := ho.row HB1.out (by simp)
  have HB2 := Lib.hid hb
  have e0 := hb.cell 0 rfl
  have e1 := hb.cell 1 rfl
  have e2 := hb.cell 2 rfl
  have e3 := hb.cell 3 rfl
  have cv := CV.out w2 HO2.out
  clear cy ho hb
  go_wp2_with fail
  refine cv.mono ?_
  rintro e w3 ⟨rfl, ho⟩
  have HO3 := Lib.hid (HO2.out.trans ho (by simp))
  have hb := ho.row HB2.out (by simp)
  have HB3 := Lib.hid hb
  replace e0 := hb.cell 0 rfl
  replace e1 := hb.cell 1 rfl
  replace e2 := hb.cell 2 rfl
  replace e3 := hb.cell 3 rfl
  have cc := CC.out w3 HO3.out
  clear cv ho hb
  go_wp2_with fail
  refine cc.mono ?_
  rintro e w4 ⟨bm, cm, bc, ccp, rfl, hC, hg1, hg2, ho⟩
  have HO4 := Lib.hid (HO3.out.trans ho (by simp))
  have HB4 := Lib.hid (ho.row HB3.out (by simp))
  have HC4 := Lib.hid hC
  clear cc ho hC hg1 hg2 e0 e1 e2 e3
  go_wp2_with fail
  obtain ⟨bw, hbw⟩ : ∃ z, z = w4.heap.size + 2 := ⟨_, rfl⟩
  have HBW := Lib.hid hbw
  rw [← hbw]
  clear hmm
  go_loopw [43] (fun i wr => ∃ k : Int, i = .int .i64 k ∧ (0 ≤ k ∧ k ≤ 6) ∧ ∃ L, L.length = 12 ∧ Row wr bw 103 (wR (.slice none 0 0) (.pointer (some cp)) (.slice none 0 0) (.slice none 0 0) (.map (some w4.heap.size)) (.map (some (w4.heap.size + 1))) bm cm L) ∧ Only [] w4 wr) (fun i _ => (6 - intOf i).toNat)
  case atStart =>
    have h0 := Row.new ((w4.alloc (.map #[] 0)).alloc (.map #[] 0)) 103 (wR (.slice none 0 0) (.pointer (some cp)) (.slice none 0 0) (.slice none 0 0) (.map (some w4.heap.size)) (.map (some (w4.heap.size + 1))) bm cm (List.replicate 12 (.int .i64 0)))
    rw [World.size_alloc, World.size_alloc, ← hbw] at h0
    exact ⟨0, rfl, by decide, _, rfl, h0, (((Only.refl [] w4).alloc _).alloc _).alloc _⟩
  case round =>
    obtain ⟨k, rfl, hk, L, hL, hw, ho⟩ := hrel
    clear hbw
    obtain ⟨v0, v1, v2, v3, v4, v5, v6, v7, v8, v9, v10, v11, rfl⟩ := twelve hL
    have HW := Lib.hid hw
    have HO := Lib.hid ho
    have e12 := hw.cell 12 rfl
    have e14 := hw.cell 14 rfl
    have e16 := hw.cell 16 rfl
    have e18 := hw.cell 18 rfl
    have e20 := hw.cell 20 rfl
    have e22 := hw.cell 22 rfl
    have f12 := hw.free 12
    have f14 := hw.free 14
    have f16 := hw.free 16
    have f18 := hw.free 18
    have f20 := hw.free 20
    have f22 := hw.free 22
    have hb := ho.row HB4.out (by simp)
    have e1 := hb.cell 1 rfl
    have e2 := hb.cell 2 rfl
    have HB := Lib.hid hb
    clear hw ho hL hb
    obtain rfl | rfl | rfl | rfl | rfl | rfl | rfl : k = 0 ∨ k = 1 ∨ k = 2 ∨ k = 3 ∨ k = 4 ∨ k = 5 ∨ k = 6 := by omega
    · clear e1 e2
      go_wp2_with fail
      go_roundw
      case rel => exact ⟨1, rfl, by decide, _, rfl, HW.out.set 12 _, HO.out.set (p := ⟨bw, 12, none⟩) (.inr (show w4.heap.size ≤ bw by have := HBW.out; omega)) _⟩
      case measure => simp only [intOf]; decide
    · clear e1 e2
      go_wp2_with fail
      go_roundw
      case rel => exact ⟨2, rfl, by decide, _, rfl, HW.out.set 14 _, HO.out.set (p := ⟨bw, 14, none⟩) (.inr (show w4.heap.size ≤ bw by have := HBW.out; omega)) _⟩
      case measure => simp only [intOf]; decide
    · clear e1 e2
      go_wp2_with fail
      go_roundw
      case rel => exact ⟨3, rfl, by decide, _, rfl, HW.out.set 16 _, HO.out.set (p := ⟨bw, 16, none⟩) (.inr (show w4.heap.size ≤ bw by have := HBW.out; omega)) _⟩
      case measure => simp only [intOf]; decide
    · clear e1 e2
      go_wp2_with fail
      go_roundw
      case rel => exact ⟨4, rfl, by decide, _, rfl, HW.out.set 18 _, HO.out.set (p := ⟨bw, 18, none⟩) (.inr (show w4.heap.size ≤ bw by have := HBW.out; omega)) _⟩
      case measure => simp only [intOf]; decide
    · clear e1 e2
      go_wp2_with fail
      go_roundw
      case rel => exact ⟨5, rfl, by decide, _, rfl, HW.out.set 20 _, HO.out.set (p := ⟨bw, 20, none⟩) (.inr (show w4.heap.size ≤ bw by have := HBW.out; omega)) _⟩
      case measure => simp only [intOf]; decide
    · clear e1 e2
      go_wp2_with fail
      go_roundw
      case rel => exact ⟨6, rfl, by decide, _, rfl, HW.out.set 22 _, HO.out.set (p := ⟨bw, 22, none⟩) (.inr (show w4.heap.size ≤ bw by have := HBW.out; omega)) _⟩
      case measure => simp only [intOf]; decide
    · clear e12 e14 e16 e18 e20 e22 f12 f14 f16 f18 f20 f22
      go_wp2_with fail
      go_loopw [56] (fun i wq => i = .int .i64 0 ∧ wq = wr) (fun _ _ => 0)
      case atStart => exact ⟨rfl, rfl⟩
      case round =>
        obtain ⟨rfl, e5⟩ := hrel
        subst e5
        go_wp2_with fail
        go_loopw [76] (fun i wq => ∃ k : Int, i = .int .i64 k ∧ ((k = 0 ∧ wq = wr) ∨ (k = 1 ∧ ∃ pl, Row wq bw 103 (wR pl (.pointer (some cp)) (.slice none 0 0) (.slice none 0 0) (.map (some w4.heap.size)) (.map (some (w4.heap.size + 1))) bm cm [v0, v1, v2, v3, v4, v5, v6, v7, v8, v9, v10, v11]) ∧ Only [] w4 wq))) (fun i _ => (1 - intOf i).toNat)
        case atStart => exact ⟨0, rfl, .inl ⟨rfl, rfl⟩⟩
        case round =>
          obtain ⟨k, rfl, ⟨rfl, e3⟩ | ⟨rfl, pl, hw, ho⟩⟩ := hrel
          · subst e3
            have hm := H.out.m.only0 (HO4.out.trans HO.out (by simp))
            have m6 := hm.at_ 6 _ rfl
            have x4 := HW.out.cell 4 rfl
            have g4 := HW.out.free 4
            have CP := Lib.hid (fun wx (ho : Only [] w wx) => places_hello wx bm0 1 bc0 2 (H.out.only ho (by simp) (by simp)))
            clear hm
            go_upto_region 19 with fail
            go_region_law (first
              | (refine step_call (by rfl) 37 _ _ (by rfl) [.slice (some ⟨bc0, 0, none⟩) 2 2] (by rfl) (enters_of Tryz.func37 (by kernel_rfl) rfl) (CP.out _ (HO4.out.trans HO.out.drew (by simp))) ?_; rintro e w5 ⟨pa, pn, pc, rfl, ho5⟩; refine ⟨_, rfl, ?_⟩; have x4 := (ho5.row HW.out.drew (by simp)).cell 4 rfl; have g4 := (ho5.row HW.out.drew (by simp)).free 4; have x4b : ∀ o : Obj, (w5.alloc o).cell? ⟨bw, 4, none⟩ = some (.slice none 0 0) := fun o => ((ho5.row HW.out.drew (by simp)).alloc o).cell 4 rfl; have HO5 := Lib.hid ho5; clear ho5)
              | (refine step_own tyPl rowSV (by rfl) (.tmp 83) (.tmp 91) (by rfl) 0 _ [] (by rfl) Own.nil _ [(⟨pa, pn, pc⟩ : SV)] (by rfl) (rd_one rowSV _ 107 ⟨pa, pn, pc⟩) (by simp) (by simp) (by omega) ?_; intro v7 w7 hv7 ho7 hb7; obtain ⟨a7, c7, rfl⟩ := hv7.len; have hr7 := ho7.row ((HO5.out.row HW.out.drew (by simp)).alloc _) (by simp [Value.ownBlock]); have x4 := hr7.cell 4 rfl; have g4 := hr7.free 4; have HR7 := Lib.hid hr7; have HO7 := Lib.hid (((HO5.out).alloc (.cells (SV.row ⟨pa, pn, pc⟩).toArray 107)).trans ho7 (by simp [Value.ownBlock])); clear hv7 ho7 hb7 hr7))
            all_goals
              go_wp2_with fail
              go_roundw
              case rel => exact ⟨1, rfl, .inr ⟨rfl, _, HR7.out.set 4 _, (HO.out.drew.trans HO7.out (by simp)).set (p := ⟨bw, 4, none⟩) (.inr (show w4.heap.size ≤ bw by have := HBW.out; omega)) _⟩⟩
              case measure => simp only [intOf]; decide
          · have HW7 := Lib.hid hw
            have HO7 := Lib.hid ho
            clear hw ho e1 e2
            go_wp2_with fail
            have hCM := HC4.out.only HO7.out (by simp) (by simp)
            have h1 := HC4.out.m.lt
            have h2 := HC4.out.c.lt
            have h3 := HBW.out
            exact hR.out _ _ ⟨bw, bm, cm, bc, ccp, rfl, ⟨hCM, by omega, by omega, pl, cp, _, _, _, rfl, HW7.out⟩, by have := HO4.out.size; omega, HO4.out.trans HO7.out (by simp)⟩
end Go.Proofs.YtkacgbigeobncaaGreat
