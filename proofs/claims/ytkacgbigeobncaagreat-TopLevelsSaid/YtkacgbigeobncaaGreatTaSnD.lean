/- Lemmas of this claim. -/
import Derived.Test.YtkacgbigeobncaaGreatTaSnC
import Derived.Test.YtkacgbigeobncaaGreatTaSRep
namespace Go.Proofs.YtkacgbigeobncaaGreat
open Go.RowKit Go.Maps
set_option maxHeartbeats 6400000
set_option maxRecDepth 100000
set_option linter.unusedVariables false
set_option linter.unusedSimpArgs false
theorem vmodule_hello (w : World) (X : MX) (h : ModA w X helloM) : Calls Tryz.prog 34 #[modV X helloM] w (Ret w (.tuple #[.int .i64 0, .int .i64 0, .int .i64 0])) := by
  refine calls_abs fun R hR => ?_
  obtain ⟨b, o, c, pv, lv, cv, hvm, -, -, -, -⟩ := h.meAt (k := 0) (by decide)
  obtain ⟨vc, vs, vm, cx, mx⟩ := X
  simp only at hvm
  subst hvm
  have HO1 := Lib.hid ((Only.refl [] w).alloc (.cells #[vc, vs, .slice (some ⟨b, o, none⟩) 1 c, .int .i64 0] 74))
  have HB1 := Lib.hid (Row.new w 74 [vc, vs, .slice (some ⟨b, o, none⟩) 1 c, .int .i64 0])
  have cc := modCheck_any _ _ helloM (h.only HO1.out)
  rw [hello_valid] at cc
  have cm := fun wx (ho : Only [] w wx) => method_hello wx _ (h.only ho)
  clear h
  unfold modV at cc cm ⊢
  dsimp only at cc cm ⊢
  change Calls _ _ #[.agg #[vc, vs, .slice (some ⟨b, o, none⟩) 1 c, .int .i64 0]] w R
  go_enter Tryz.func34, Tryz.ntmps34
  go_wp2_with fail
  refine cc.mono ?_
  rintro e w2 ⟨rfl, ho2⟩
  have HO2 := Lib.hid (HO1.out.trans ho2 (by simp))
  have hb2 := ho2.row HB1.out (by simp)
  have HB2 := Lib.hid hb2
  have e2 := hb2.cell 2 rfl
  clear cc ho2 hb2
  go_wp2_with fail
  go_loopw [15] (fun i wr => ∃ k : Int, i = .int .i64 k ∧ (k = 0 ∨ k = 1) ∧ Only [] w wr ∧ Row wr w.heap.size 74 [vc, vs, .slice (some ⟨b, o, none⟩) 1 c, .int .i64 0]) (fun i _ => (1 - intOf i).toNat)
  case atStart => exact ⟨0, rfl, .inl rfl, HO2.out, HB2.out⟩
  case round =>
    obtain ⟨k, rfl, hk, ho, hb⟩ := hrel
    clear e2
    obtain rfl | rfl := hk
    · have cm1 := cm wr ho
      have HO := Lib.hid ho
      have HB := Lib.hid hb
      have e0 := hb.cell 0 rfl
      have e1 := hb.cell 1 rfl
      have e2 := hb.cell 2 rfl
      have e3 := hb.cell 3 rfl
      clear cm ho hb
      go_wp2_with fail
      refine cm1.mono ?_
      rintro e w3 ⟨v, rfl, ho3⟩
      have HO3 := Lib.hid (HO.out.trans ho3 (by simp))
      have HB3 := Lib.hid (ho3.row HB.out (by simp))
      clear cm1 ho3 e0 e1 e2 e3
      go_wp2_with fail
      go_roundw
      case rel => exact ⟨1, rfl, .inr rfl, HO3.out, HB3.out⟩
      case measure => simp only [intOf]; decide
    · have HO := Lib.hid ho
      clear cm ho hb
      go_wp2_with fail
      refine bodyPost_ret (results_tmp3 rfl _ _ _) rfl ?_
      exact hR.out _ _ ⟨rfl, HO.out⟩
theorem index0 (w : World) (f : Value) : Calls Tryz.prog 27 #[.slice none 0 0, f] w (Exact w (.int .i64 (-1))) := by
  refine calls_abs fun R hR => ?_
  go_enter Tryz.func27, Tryz.ntmps27
  go_wp2_with fail
  go_loopw [8] (fun i wr => i = .int .i64 0 ∧ wr = w) (fun _ _ => 0)
  case atStart => exact ⟨rfl, rfl⟩
  case round =>
    obtain ⟨rfl, rfl⟩ := hrel
    go_wp2_with fail
    exact hR.out _ _ ⟨rfl, rfl⟩
theorem contains0 (w : World) (f : Value) : Calls Tryz.prog 11 #[.slice none 0 0, f] w (Exact w (.bool false)) := by
  refine calls_abs fun R hR => ?_
  have ci := index0 w f
  go_enter Tryz.func11, Tryz.ntmps11
  go_wp2_with fail
  refine ci.mono ?_
  rintro e w2 ⟨rfl, e2⟩
  subst e2
  clear ci
  go_wp2_with fail
  exact hR.out _ _ ⟨rfl, rfl⟩
theorem indexT0 (w : World) (f : Value) : Calls Tryz.prog 61 #[.slice none 0 0, f] w (Exact w (.int .i64 (-1))) := by
  refine calls_abs fun R hR => ?_
  go_enter Tryz.func61, Tryz.ntmps61
  go_wp2_with fail
  go_loopw [8] (fun i wr => i = .int .i64 0 ∧ wr = w) (fun _ _ => 0)
  case atStart => exact ⟨rfl, rfl⟩
  case round =>
    obtain ⟨rfl, rfl⟩ := hrel
    go_wp2_with fail
    exact hR.out _ _ ⟨rfl, rfl⟩
theorem containsT0 (w : World) (f : Value) : Calls Tryz.prog 41 #[.slice none 0 0, f] w (Exact w (.bool false)) := by
  refine calls_abs fun R hR => ?_
  have ci := indexT0 w f
  go_enter Tryz.func41, Tryz.ntmps41
  go_wp2_with fail
  refine ci.mono ?_
  rintro e w2 ⟨rfl, e2⟩
  subst e2
  clear ci
  go_wp2_with fail
  exact hR.out _ _ ⟨rfl, rfl⟩
theorem refsNew_any (w : World) : Calls Tryz.prog 51 #[] w fun e w' => ∃ p, e = .returned (.pointer (some p)) ∧ Only [] w w' := by
  refine calls_abs fun R hR => ?_
  go_enter Tryz.func51, Tryz.ntmps51
  go_wp2_with fail
  exact hR.out _ _ ⟨_, rfl, (Only.refl _ _).alloc _⟩
def pgZ : Value := .agg ((Value.int .i64 0 :: List.replicate 8 (Value.bool false)) ++ List.replicate 16 (Value.int .i64 0)).toArray
theorem infoPg : (Tryz.prog.info? 208).map (fun i => (i.zero, i.size, i.bytes)) = some (some pgZ, 25, 144) := by kernel_rfl
theorem mkPage1 : ∃ C : List Value, (∃ v, C[0]? = some v) ∧ ∀ wx : World, (Instr.makeSlice 202 (.int .i64 1) (.int .i64 1)).run Tryz.prog wx = .ok (.slice (some ⟨wx.heap.size, 0, none⟩) 1 1) (wx.alloc (.cells C.toArray 208)) := by
  obtain ⟨i0, hi0, hz0, hz1, hz2⟩ := info_parts infoPg
  refine ⟨(madeCells pgZ.cells (1 * 25)).toList, ⟨.int .i64 0, by kernel_rfl⟩, fun wx => ?_⟩
  have := run_makeSlice (P := Tryz.prog) (w := wx) 202 208 i0 _ Tryz.underlying202 hi0 hz0 .i64 .i64 1 1 (by omega) (by omega) (by rw [hz1]; omega) (by rw [hz2]; omega) (by omega)
  rw [hz1] at this
  exact this
theorem blockNew1 (w : World) : Calls Tryz.prog 70 #[.int .i64 1] w fun e w' => ∃ p, e = .returned (.tuple #[.pointer (some p), .int .i64 0]) ∧ Only [] w w' := by
  refine calls_abs fun R hR => ?_
  obtain ⟨C, ⟨v0, hv0⟩, hmk⟩ := mkPage1
  go_enter Tryz.func70, Tryz.ntmps70
  go_wp2_with fail
  go_loopw [21] (fun i wr => ∃ k : Int, i = .int .i64 k ∧ (k = 0 ∨ k = 1) ∧ Only [] w wr ∧ wr.cell? ⟨w.heap.size + 1, 0, none⟩ = some (.slice (some ⟨w.heap.size, 0, none⟩) 1 1) ∧ (wr.cell? ⟨w.heap.size, 0, none⟩).isSome = true ∧ wr.frozen? ⟨w.heap.size, 0, none⟩ = false) (fun i _ => (1 - intOf i).toNat)
  case atStart =>
    have h1 := (Row.new w 208 C).alloc (.cells #[.slice (some ⟨w.heap.size, 0, none⟩) 1 1] 204)
    have h2 := Row.new (w.alloc (.cells C.toArray 208)) 204 [.slice (some ⟨w.heap.size, 0, none⟩) 1 1]
    rw [World.size_alloc] at h2
    exact ⟨0, rfl, .inl rfl, ((Only.refl _ _).alloc _).alloc _, h2.cell 0 rfl, by rw [h1.cell 0 hv0]; rfl, h1.free 0⟩
  case round =>
    obtain ⟨k, rfl, hk, ho, hp, hc, hf⟩ := hrel
    obtain rfl | rfl := hk
    · have HO := Lib.hid ho
      have HP := Lib.hid hp
      have HC := Lib.hid hc
      have HF := Lib.hid hf
      obtain ⟨v1, hv1⟩ := Option.isSome_iff_exists.1 hc
      clear ho hc
      go_wp2_with fail
      go_roundw
      case rel =>
        refine ⟨1, rfl, .inr rfl, HO.out.set (.inr (Nat.le_refl _)) _, ?_, ?_, ?_⟩
        · rw [World.cell?_setCell_other _ _ _ _ (by simp)]; exact HP.out
        · rw [World.cell?_setCell_same' _ _ _ HC.out]; rfl
        · rw [World.frozen?_setCell]; exact HF.out
      case measure => simp only [intOf]; decide
    · have HO := Lib.hid ho
      clear ho
      go_wp2_with fail
      exact hR.out _ _ ⟨_, rfl, HO.out⟩
theorem MapAt.only0 {w w' : World} {mb n : Nat} {f : Int → Option Nat} (h : MapAt w mb n f) (ho : Only [] w w') : MapAt w' mb n f := by
  obtain ⟨D, hD, hf⟩ := h
  have hlt := hD.lt
  obtain ⟨es, clock, hb, r⟩ := hD
  exact ⟨D, ⟨es, clock, (ho.block mb hlt (by simp)).trans hb, r⟩, hf⟩
theorem zeroOT (w : World) : (zeroValue 209).run Tryz.prog w = .ok (.pointer none) w := by kernel_rfl
theorem noThing {w : World} {mb n : Nat} (h : MapAt w mb n (fun _ => none)) {k : Int} (hk : wfI k) : (Instr.lookup 160 (.map (some mb)) (.int .i64 k) false).run Tryz.prog w = .ok (.pointer none) w := by
  obtain ⟨D, hD, hf⟩ := h
  obtain ⟨v, ps, hrun, hv⟩ := hD.lookup keyedI Tryz.underlying160 (zeroOT w) (zd := .nil) (zp := []) rfl (keyI hk)
  obtain ⟨o, rfl, hy⟩ := ptrElem_inv hv
  rw [hrun]
  obtain ⟨h1, h2⟩ := hf k hk
  have h3 := Maps.atKey_of_not_has h1 (.nil : DataW Unit)
  rw [h3] at hy
  have : datP o = datP none := (congrArg Prod.fst hy).symm
  rw [datP_inj this]
  rfl
def HeapE (w : World) (hb : Nat) : Prop := ∃ pb mb, Row w hb 162 [.pointer (some pb), .map (some mb)] ∧ MapAt w mb 0 (fun _ => none)
theorem HeapE.only {w w' : World} {hb : Nat} (h : HeapE w hb) (ho : Only [] w w') : HeapE w' hb := by
  obtain ⟨pb, mb, h1, h2⟩ := h
  exact ⟨pb, mb, ho.row h1 (by simp), h2.only0 ho⟩
theorem objNew1 (w : World) : Calls Tryz.prog 49 #[.int .i64 1] w fun e w' => ∃ hb, e = .returned (.tuple #[.pointer (some ⟨hb, 0, none⟩), .int .i64 0]) ∧ HeapE w' hb ∧ Only [] w w' := by
  refine calls_abs fun R hR => ?_
  have cb := blockNew1 w
  have hmm := @run_makeMap Tryz.prog
  go_enter Tryz.func49, Tryz.ntmps49
  go_wp2_with fail
  refine cb.mono ?_
  rintro e w2 ⟨p, rfl, ho⟩
  have HO := Lib.hid ho
  clear cb ho
  go_wp2_with fail
  have h1 := Row.new (w2.alloc (.map #[] 0)) 162 [.pointer (some p), .map (some w2.heap.size)]
  have h2 := (MapAt.made w2).only0 ((Only.refl [] _).alloc (.cells #[.pointer (some p), .map (some w2.heap.size)] 162))
  rw [World.size_alloc] at h1
  exact hR.out _ _ ⟨_, rfl, ⟨p, w2.heap.size, h1, h2⟩, (HO.out.alloc _).alloc _⟩
theorem objNone (w : World) (hb : Nat) (h : HeapE w hb) : Calls Tryz.prog 146 #[.pointer (some ⟨hb, 0, none⟩)] w (Exact w (.bool false)) := by
  refine calls_abs fun R hR => ?_
  obtain ⟨pb, mb, h1, -⟩ := h
  have c0 := h1.cell 0 rfl
  clear h1
  go_enter Tryz.func146, Tryz.ntmps146
  go_wp2_with fail
  exact hR.out _ _ ⟨rfl, rfl⟩
theorem objFind0 (w : World) (hb : Nat) (h : HeapE w hb) : Calls Tryz.prog 97 #[.pointer (some ⟨hb, 0, none⟩), .int .i64 0] w (Exact w (.tuple #[.pointer none, .int .i64 3])) := by
  refine calls_abs fun R hR => ?_
  have cn := objNone w hb h
  obtain ⟨pb, mb, h1, h2⟩ := h
  have c1 := h1.cell 1 rfl
  have hl := noThing h2 (k := 0) (by decide)
  clear h1 h2
  go_enter Tryz.func97, Tryz.ntmps97
  go_wp2_with fail
  refine cn.mono ?_
  rintro e w2 ⟨rfl, e2⟩
  subst e2
  clear cn
  go_wp2_with fail
  exact hR.out _ _ ⟨rfl, rfl⟩
theorem objType0 (w : World) (hb : Nat) (h : HeapE w hb) : Calls Tryz.prog 71 #[.pointer (some ⟨hb, 0, none⟩), .int .i64 0] w (Exact w (.tuple #[.int .i64 0, .int .i64 0, .int .i64 0, .int .i64 3])) := by
  refine calls_abs fun R hR => ?_
  have cf := objFind0 w hb h
  clear h
  go_enter Tryz.func71, Tryz.ntmps71
  go_wp2_with fail
  refine cf.mono ?_
  rintro e w2 ⟨rfl, e2⟩
  subst e2
  clear cf
  go_wp2_with fail
  refine bodyPost_ret (results_tmp4 rfl _ _ _) rfl ?_
  exact hR.out _ _ ⟨rfl, rfl⟩
theorem each0 (w : World) (f : Value) : Calls Tryz.prog 74 #[.slice none 0 0, f] w (Exact w (.tuple #[])) := by
  refine calls_abs fun R hR => ?_
  go_enter Tryz.func74, Tryz.ntmps74
  go_wp2_with fail
  go_loopw [8] (fun i wr => i = .int .i64 0 ∧ wr = w) (fun _ _ => 0)
  case atStart => exact ⟨rfl, rfl⟩
  case round =>
    obtain ⟨rfl, rfl⟩ := hrel
    go_wp2_with fail
    go_end0
    exact hR.out _ _ ⟨rfl, rfl⟩
theorem markBegin0 (w : World) (hb : Nat) (h : HeapE w hb) : Calls Tryz.prog 50 #[.pointer (some ⟨hb, 0, none⟩), .slice none 0 0] w fun e w' => ∃ p, e = .returned (.tuple #[.pointer (some p), .int .i64 0]) ∧ Only [] w w' := by
  refine calls_abs fun R hR => ?_
  have ho1 := (Only.refl [] w).alloc (.cells #[.pointer (some ⟨hb, 0, none⟩)] 117)
  have ct := objType0 _ hb (h.only ho1)
  have cc := fun w f => contains0 w f
  have ce := fun w f => each0 w f
  have hmm := @run_makeMap Tryz.prog
  have HO1 := Lib.hid ho1
  clear h ho1
  go_enter Tryz.func50, Tryz.ntmps50
  go_wp2_with fail
  refine ct.mono ?_
  rintro e w2 ⟨rfl, e2⟩
  subst e2
  clear ct
  go_wp2_with fail
  refine (cc _ _).mono ?_
  rintro e w2 ⟨rfl, e2⟩
  subst e2
  clear cc
  go_wp2_with fail
  refine (ce _ _).mono ?_
  rintro e w2 ⟨rfl, e2⟩
  subst e2
  clear ce
  go_wp2_with fail
  exact hR.out _ _ ⟨_, rfl, (HO1.out.alloc _).alloc _⟩
theorem cycleNew10 (w : World) : Calls Tryz.prog 33 #[.int .i64 1, .int .i64 0] w fun e w' => ∃ p, e = .returned (.tuple #[.pointer (some p), .int .i64 0]) ∧ Only [] w w' := by
  refine calls_abs fun R hR => ?_
  have co := objNew1 w
  have cm := fun w hb h => markBegin0 w hb h
  have cr := fun w => refsNew_any w
  go_enter Tryz.func33, Tryz.ntmps33
  go_wp2_with fail
  refine co.mono ?_
  rintro e w2 ⟨hb, rfl, hh, ho⟩
  have cm2 := cm w2 hb hh
  have HO := Lib.hid ho
  clear co cm hh ho
  go_wp2_with fail
  refine cm2.mono ?_
  rintro e w3 ⟨p, rfl, ho⟩
  have HO3 := Lib.hid (HO.out.trans ho (by simp))
  clear cm2 ho
  go_wp2_with fail
  refine (cr _).mono ?_
  rintro e w4 ⟨q, rfl, ho⟩
  have HO4 := Lib.hid (HO3.out.trans ho (by simp))
  clear cr ho
  go_wp2_with fail
  exact hR.out _ _ ⟨_, rfl, HO4.out.alloc _⟩
end Go.Proofs.YtkacgbigeobncaaGreat
