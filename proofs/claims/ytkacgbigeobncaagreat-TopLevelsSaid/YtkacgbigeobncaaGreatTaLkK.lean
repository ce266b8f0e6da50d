/- Lemmas of this claim. -/
import Derived.Test.YtkacgbigeobncaaGreatTaLkJ
namespace Go.Proofs.YtkacgbigeobncaaGreat
open Go.RowKit Go.Maps
set_option maxHeartbeats 6400000
set_option maxRecDepth 100000
set_option linter.unusedVariables false
set_option linter.unusedSimpArgs false
theorem Mod.classOk_head {M : Mod} {k : Nat} (h : M.classOk k = true) : -1 ≤ (M.cl k).super ∧ (M.cl k).super < k ∧ ((M.cl k).meths.length : Int) = M.sel := by
  unfold Mod.classOk Mod.headOk at h
  simp only [Bool.and_eq_true, Bool.not_eq_true', Bool.or_eq_false_iff, decide_eq_true_eq, decide_eq_false_iff_not] at h
  obtain ⟨⟨⟨⟨h1, h2⟩, h3⟩, _⟩, _⟩ := h
  exact ⟨by omega, by omega, h3⟩
theorem Mod.classOk_row {M : Mod} {k s : Nat} (h : M.classOk k = true) (hs : s < (M.cl k).meths.length) : -1 ≤ gI (M.cl k).meths s ∧ gI (M.cl k).meths s < M.methods.length := by
  unfold Mod.classOk at h
  simp only [Bool.and_eq_true, List.all_eq_true, List.mem_range] at h
  have h1 := h.1.2 s hs
  unfold Mod.rowOk at h1
  simp only [Bool.and_eq_true, Bool.not_eq_true', Bool.or_eq_false_iff, decide_eq_false_iff_not] at h1
  obtain ⟨⟨⟨h2, h3⟩, _⟩, _⟩ := h1
  exact ⟨by omega, by omega⟩
theorem Mod.methodOk_params {M : Mod} {k : Nat} (h : M.methodOk k = true) : (M.me k).params.length ≤ 1000000 := by
  unfold Mod.methodOk Mod.areTypes at h
  simp only [Bool.and_eq_true, decide_eq_true_eq] at h
  have := h.1.1.1.1.2.1
  omega
theorem modValid_any (w : World) (X : MX) (M : Mod) (h : ModA w X M) : Calls Tryz.prog 76 #[modV X M] w (Ret w (.bool M.valid)) := by
  refine calls_abs fun R hR => ?_
  obtain ⟨vc, vs, vm, cx, mx⟩ := X
  have H : Hid (∀ x w', x = M.valid → Only [] w w' → R (.returned (.bool x)) w') := fun x w' hx ho => hR.out _ _ ⟨by rw [hx], ho⟩
  have HM := Lib.hid h
  have HVD := Lib.hid (show M.valid = (decide (M.classes.length ≤ 10) && decide (M.methods.length ≤ 16) && decide (0 ≤ M.sel) && decide (M.sel ≤ 16) && M.areTypes M.statics 10 &&
    ((List.range M.methods.length).all fun k => decide (-1 ≤ (M.me k).cls) && decide ((M.me k).cls < M.classes.length)) &&
    ((List.range M.classes.length).all fun k => M.classOk k) && ((List.range M.methods.length).all fun k => M.methodOk k) && ((List.range M.sel.toNat).all fun s => M.alike s)) from rfl)
  obtain ⟨va9, vb9, vc9, vd9, ve9, vf9, l1, l2, l3⟩ := h.lens
  dsimp only at l1 l2 l3
  subst l1 l2 l3
  have hch := ChkAt.new w ⟨.slice va9 M.classes.length vb9, .slice vc9 M.statics.length vd9, .slice ve9 M.methods.length vf9, cx, mx⟩ M
  have HO1 := Lib.hid (((Only.refl [] w).alloc (.cells #[.slice va9 M.classes.length vb9, .slice vc9 M.statics.length vd9, .slice ve9 M.methods.length vf9, .int .i64 M.sel] 177)).alloc (.cells #[.slice va9 M.classes.length vb9, .slice vc9 M.statics.length vd9, .slice ve9 M.methods.length vf9, .int .i64 M.sel] 74))
  have HCH := Lib.hid (hch.only ((Only.refl [] _).alloc (.cells #[.slice va9 M.classes.length vb9, .slice vc9 M.statics.length vd9, .slice ve9 M.methods.length vf9, .int .i64 M.sel] 74)))
  have hmd := Row.new (w.alloc (.cells #[.slice va9 M.classes.length vb9, .slice vc9 M.statics.length vd9, .slice ve9 M.methods.length vf9, .int .i64 M.sel] 177)) 74 [.slice va9 M.classes.length vb9, .slice vc9 M.statics.length vd9, .slice ve9 M.methods.length vf9, .int .i64 M.sel]
  rw [show (w.alloc (.cells #[.slice va9 M.classes.length vb9, .slice vc9 M.statics.length vd9, .slice ve9 M.methods.length vf9, .int .i64 M.sel] 177)).heap.size = w.heap.size + 1 by simp] at hmd
  have HMD := Lib.hid (show ChkAt ((w.alloc (.cells #[.slice va9 M.classes.length vb9, .slice vc9 M.statics.length vd9, .slice ve9 M.methods.length vf9, .int .i64 M.sel] 177)).alloc (.cells #[.slice va9 M.classes.length vb9, .slice vc9 M.statics.length vd9, .slice ve9 M.methods.length vf9, .int .i64 M.sel] 74)) (w.heap.size + 1) ⟨.slice va9 M.classes.length vb9, .slice vc9 M.statics.length vd9, .slice ve9 M.methods.length vf9, cx, mx⟩ M from ⟨hmd.cell 0 rfl, hmd.cell 1 rfl, hmd.cell 2 rfl, hmd.cell 3 rfl⟩)
  have cst := areTypes_any _ ⟨.slice va9 M.classes.length vb9, .slice vc9 M.statics.length vd9, .slice ve9 M.methods.length vf9, cx, mx⟩ M (h.only HO1.out) _ M.statics (h.rs.only HO1.out) 10 (by decide)
  unfold modV at *
  dsimp only at cst ⊢
  clear hR h hmd hch
  go_enter Tryz.func76, Tryz.ntmps76
  go_upto_region 2 with fail
  generalize (w.alloc (.cells #[.slice va9 M.classes.length vb9, .slice vc9 M.statics.length vd9, .slice ve9 M.methods.length vf9, .int .i64 M.sel] 177)).alloc (.cells #[.slice va9 M.classes.length vb9, .slice vc9 M.statics.length vd9, .slice ve9 M.methods.length vf9, .int .i64 M.sel] 74) = w1 at *
  obtain ⟨q0, q1, q2, q3⟩ := HCH.out
  obtain ⟨p0, p1, p2, p3⟩ := HMD.out
  dsimp only at q0 q1 q2 q3 p0 p1 p2 p3
  by_cases h1 : M.classes.length ≤ 10
  rotate_left
  · have HF := Lib.hid (show M.valid = false by rw [HVD.out, decide_eq_false h1]; rfl)
    go_wp2_with fail
    exact H.out _ _ HF.out.symm HO1.out
  by_cases h2 : M.methods.length ≤ 16
  rotate_left
  · have HF := Lib.hid (show M.valid = false by rw [HVD.out, decide_eq_false h2, Bool.and_false]; rfl)
    go_wp2_with fail
    exact H.out _ _ HF.out.symm HO1.out
  by_cases h3 : 0 ≤ M.sel
  rotate_left
  · have HF := Lib.hid (show M.valid = false by rw [HVD.out, decide_eq_false h3, Bool.and_false]; rfl)
    go_wp2_with fail
    exact H.out _ _ HF.out.symm HO1.out
  by_cases h4 : M.sel ≤ 16
  rotate_left
  · have HF := Lib.hid (show M.valid = false by rw [HVD.out, decide_eq_false h4, Bool.and_false]; rfl)
    go_wp2_with fail
    exact H.out _ _ HF.out.symm HO1.out
  have HVD2 := Lib.hid (show M.valid = (M.areTypes M.statics 10 &&
    ((List.range M.methods.length).all fun k => decide (-1 ≤ (M.me k).cls) && decide ((M.me k).cls < M.classes.length)) &&
    ((List.range M.classes.length).all fun k => M.classOk k) && ((List.range M.methods.length).all fun k => M.methodOk k) && ((List.range M.sel.toNat).all fun s => M.alike s)) by
    rw [HVD.out, decide_eq_true h1, decide_eq_true h2, decide_eq_true h3, decide_eq_true h4]; rfl)
  clear HVD
  generalize M.areTypes M.statics 10 = b1 at *
  go_wp2_with fail
  refine cst.mono ?_
  rintro e w2 ⟨rfl, ho⟩
  have HO2 := Lib.hid (HO1.out.trans ho (by simp))
  have HCH2 := Lib.hid (HCH.out.only ho)
  have HMD2 := Lib.hid (HMD.out.only ho)
  clear cst ho q0 q1 q2 q3 p0 p1 p2 p3 HCH HMD HO1
  cases b1
  · have HF := Lib.hid (show M.valid = false by rw [HVD2.out]; rfl)
    go_wp2_with fail
    exact H.out _ _ HF.out.symm HO2.out
  obtain ⟨p0, p1, p2, p3⟩ := HMD2.out
  dsimp only at p0 p1 p2 p3
  go_wp2_with fail
  go_loopw [4, 5, 41] (fun _ _ iv wr => ∃ k : Nat, k ≤ M.methods.length ∧ iv = .int .i64 k ∧ wr = w2 ∧ Hid (∀ j, j < k → (decide (-1 ≤ (M.me j).cls) && decide ((M.me j).cls < M.classes.length)) = true)) (fun _ _ iv _ => M.methods.length - (intOf iv).toNat)
  case atStart => exact ⟨0, by omega, rfl, rfl, Lib.hid (fun j hj => by omega)⟩
  case round =>
    obtain ⟨k, hk, rfl, rfl, HJ⟩ := hrel
    by_cases hlt : k < M.methods.length
    · obtain ⟨bm, om, cm, pv, lv, cv, hvm, _, _, _, hcm⟩ := HM.out.meAt hlt
      obtain ⟨_, u1, _⟩ := hcm wr HO2.out
      dsimp only at hvm
      simp only [Value.slice.injEq, true_and] at hvm
      obtain ⟨rfl, rfl⟩ := hvm
      have hltI : (k : Int) < M.methods.length := by omega
      obtain ⟨mc, hmc⟩ : ∃ z, z = (M.me k).cls := ⟨_, rfl⟩
      rw [← hmc] at u1
      have HMC := Lib.hid hmc
      clear hcm hmc
      by_cases m1 : mc < -1
      · have HF := Lib.hid (show M.valid = false by rw [HVD2.out, all_false_of (s := k) hlt (by rw [← HMC.out, decide_eq_false (by omega : ¬ -1 ≤ mc)]; rfl)]; rfl)
        go_wp2_with fail
        exact H.out _ _ HF.out.symm HO2.out
      by_cases m2 : (M.classes.length : Int) ≤ mc
      · have HF := Lib.hid (show M.valid = false by rw [HVD2.out, all_false_of (s := k) hlt (by rw [← HMC.out, decide_eq_false (by omega : ¬ mc < M.classes.length), Bool.and_false])]; rfl)
        go_wp2_with fail
        exact H.out _ _ HF.out.symm HO2.out
      · have HN := Lib.hid (show ∀ j, j < k + 1 → (decide (-1 ≤ (M.me j).cls) && decide ((M.me j).cls < M.classes.length)) = true from fun j hj => by
          by_cases e : j = k
          · subst e; rw [← HMC.out, decide_eq_true (by omega : -1 ≤ mc), decide_eq_true (by omega : mc < M.classes.length)]; rfl
          · exact HJ.out j (by omega))
        go_wp2_with fail
        exact ⟨⟨k + 1, by omega, by go_num, by trivial, HN⟩, by simp [intOf]; omega⟩
    · as_aux_lemma =>
      obtain rfl : k = M.methods.length := by omega
      have HVD3 := Lib.hid (show M.valid = (((List.range M.classes.length).all fun k => M.classOk k) && ((List.range M.methods.length).all fun k => M.methodOk k) && ((List.range M.sel.toNat).all fun s => M.alike s)) by
        rw [HVD2.out, all_true_of HJ.out]; rfl)
      obtain ⟨wb, rfl⟩ : ∃ z, z = wr := ⟨_, rfl⟩
      clear hlt HVD2 HJ
      go_wp2_with fail
      go_loopw [6, 63] (fun _ iv wr => ∃ k : Nat, k ≤ M.classes.length ∧ iv = .int .i64 k ∧ Only [] wb wr ∧ Hid (∀ j, j < k → M.classOk j = true)) (fun _ iv _ => M.classes.length - (intOf iv).toNat)
      case atStart => exact ⟨0, by omega, rfl, Only.refl _ _, Lib.hid (fun j hj => by omega)⟩
      case round =>
        obtain ⟨k, hk, rfl, ho, HJ⟩ := hrel
        have HOr := Lib.hid ho
        have HO3 := Lib.hid (HO2.out.trans ho (by simp))
        have HCH3 := Lib.hid (HCH2.out.only ho)
        have HMD3 := Lib.hid (HMD2.out.only ho)
        clear ho p0 p1 p2 p3
        by_cases hlt : k < M.classes.length
        · obtain ⟨q0, q1, q2, q3⟩ := HCH3.out
          dsimp only at q0 q1 q2 q3
          have cc := class_any wr ⟨.slice va9 M.classes.length vb9, .slice vc9 M.statics.length vd9, .slice ve9 M.methods.length vf9, cx, mx⟩ M (HM.out.only HO3.out) k (fun j hj => ⟨(Mod.classOk_head (HJ.out j hj)).1, (Mod.classOk_head (HJ.out j hj)).2.1⟩) hlt (fun j hj => (Mod.classOk_head (HJ.out j hj)).2.2) h1 h2 h4
          unfold modV at cc
          dsimp only at cc
          obtain ⟨ob, hob⟩ : ∃ z, z = M.classOk k := ⟨_, rfl⟩
          rw [← hob] at cc
          have HOB := Lib.hid hob
          clear hob
          go_wp2_with fail
          refine cc.mono ?_
          rintro e w4 ⟨rfl, ho⟩
          have HO4 := Lib.hid (HO3.out.trans ho (by simp))
          have HOr4 := Lib.hid (HOr.out.trans ho (by simp))
          clear cc ho q0 q1 q2 q3
          cases ob
          · have HF := Lib.hid (show M.valid = false by rw [HVD3.out, all_false_of (s := k) hlt HOB.out.symm]; try simp)
            go_wp2_with fail
            exact H.out _ _ HF.out.symm HO4.out
          · have HN := Lib.hid (show ∀ j, j < k + 1 → M.classOk j = true from fun j hj => by
              by_cases e : j = k
              · subst e; exact HOB.out.symm
              · exact HJ.out j (by omega))
            go_wp2_with fail
            exact ⟨⟨k + 1, by omega, by go_num, HOr4.out, HN⟩, by simp [intOf]; omega⟩
        · as_aux_lemma =>
          obtain rfl : k = M.classes.length := by omega
          have HVD4 := Lib.hid (show M.valid = (((List.range M.methods.length).all fun k => M.methodOk k) && ((List.range M.sel.toNat).all fun s => M.alike s)) by
            rw [HVD3.out, all_true_of HJ.out]; rfl)
          have HBASE := Lib.hid (show M.Base from ⟨h1, h2, h3, h4, fun j hj => (Mod.classOk_head (HJ.out j hj)).2.2⟩)
          have HTG := Lib.hid (show ∀ s : Nat, (s : Int) < M.sel → ∀ t, t ∈ M.targets s → 0 ≤ t ∧ t < M.methods.length from fun s hs t ht => by
            obtain ⟨j, hj, hg, h0⟩ := targets_mem ht
            have hr := Mod.classOk_row (HJ.out j hj) (s := s) (by have := (Mod.classOk_head (HJ.out j hj)).2.2; omega)
            omega)
          obtain ⟨p0, p1, p2, p3⟩ := HMD3.out
          dsimp only at p0 p1 p2 p3
          obtain ⟨wc3, rfl⟩ : ∃ z, z = wr := ⟨_, rfl⟩
          clear hlt HVD3 HJ HO2 HCH2 HMD2 HOr
          go_wp2_with fail
          go_loopw [7, 74] (fun _ iv wr => ∃ k : Nat, k ≤ M.methods.length ∧ iv = .int .i64 k ∧ Only [] wc3 wr ∧ Hid (∀ j, j < k → M.methodOk j = true)) (fun _ iv _ => M.methods.length - (intOf iv).toNat)
          case atStart => exact ⟨0, by omega, rfl, Only.refl _ _, Lib.hid (fun j hj => by omega)⟩
          case round =>
            obtain ⟨k, hk, rfl, ho, HJ⟩ := hrel
            have HOr := Lib.hid ho
            have HO5 := Lib.hid (HO3.out.trans ho (by simp))
            have HCH5 := Lib.hid (HCH3.out.only ho)
            have HMD5 := Lib.hid (HMD3.out.only ho)
            clear ho p0 p1 p2 p3
            by_cases hlt : k < M.methods.length
            · obtain ⟨q0, q1, q2, q3⟩ := HCH5.out
              dsimp only at q0 q1 q2 q3
              have cc := method_any wr ⟨.slice va9 M.classes.length vb9, .slice vc9 M.statics.length vd9, .slice ve9 M.methods.length vf9, cx, mx⟩ M (HM.out.only HO5.out) HBASE.out k hlt
              unfold modV at cc
              dsimp only at cc
              obtain ⟨ob, hob⟩ : ∃ z, z = M.methodOk k := ⟨_, rfl⟩
              rw [← hob] at cc
              have HOB := Lib.hid hob
              clear hob
              go_wp2_with fail
              refine cc.mono ?_
              rintro e w4 ⟨rfl, ho⟩
              have HO4 := Lib.hid (HO5.out.trans ho (by simp))
              have HOr4 := Lib.hid (HOr.out.trans ho (by simp))
              clear cc ho q0 q1 q2 q3
              cases ob
              · have HF := Lib.hid (show M.valid = false by rw [HVD4.out, all_false_of (s := k) hlt HOB.out.symm]; try simp)
                go_wp2_with fail
                exact H.out _ _ HF.out.symm HO4.out
              · have HN := Lib.hid (show ∀ j, j < k + 1 → M.methodOk j = true from fun j hj => by
                  by_cases e : j = k
                  · subst e; exact HOB.out.symm
                  · exact HJ.out j (by omega))
                go_wp2_with fail
                exact ⟨⟨k + 1, by omega, by go_num, HOr4.out, HN⟩, by simp [intOf]; omega⟩
            · as_aux_lemma =>
              obtain rfl : k = M.methods.length := by omega
              have HVD5 := Lib.hid (show M.valid = ((List.range M.sel.toNat).all fun s => M.alike s) by
                rw [HVD4.out, all_true_of HJ.out]; rfl)
              have HPM := Lib.hid (show ∀ j, j < M.methods.length → (M.me j).params.length ≤ 1000000 from fun j hj => Mod.methodOk_params (HJ.out j hj))
              obtain ⟨p0, p1, p2, p3⟩ := HMD5.out
              dsimp only at p0 p1 p2 p3
              obtain ⟨wc5, rfl⟩ : ∃ z, z = wr := ⟨_, rfl⟩
              clear hlt HVD4 HJ HO3 HCH3 HMD3 HOr
              go_wp2_with fail
              go_loopw [8, 84] (fun _ iv wr => ∃ k : Nat, (k : Int) ≤ M.sel ∧ iv = .int .i64 k ∧ Only [] wc5 wr ∧ Hid (∀ j, j < k → M.alike j = true)) (fun _ iv _ => M.sel.toNat - (intOf iv).toNat)
              case atStart => exact ⟨0, by omega, rfl, Only.refl _ _, Lib.hid (fun j hj => by omega)⟩
              case round =>
                obtain ⟨k, hk, rfl, ho, HJ⟩ := hrel
                have HOr := Lib.hid ho
                have HO7 := Lib.hid (HO5.out.trans ho (by simp))
                have HCH7 := Lib.hid (HCH5.out.only ho)
                have HMD7 := Lib.hid (HMD5.out.only ho)
                clear ho p0 p1 p2 p3
                by_cases hlt : (k : Int) < M.sel
                · obtain ⟨q0, q1, q2, q3⟩ := HCH7.out
                  dsimp only at q0 q1 q2 q3
                  have cc := alike_any wr ⟨.slice va9 M.classes.length vb9, .slice vc9 M.statics.length vd9, .slice ve9 M.methods.length vf9, cx, mx⟩ M (HM.out.only HO7.out) HBASE.out k hlt (HTG.out k hlt) HPM.out
                  unfold modV at cc
                  dsimp only at cc
                  obtain ⟨ob, hob⟩ : ∃ z, z = M.alike k := ⟨_, rfl⟩
                  rw [← hob] at cc
                  have HOB := Lib.hid hob
                  clear hob
                  go_wp2_with fail
                  refine cc.mono ?_
                  rintro e w4 ⟨rfl, ho⟩
                  have HO4 := Lib.hid (HO7.out.trans ho (by simp))
                  have HOr4 := Lib.hid (HOr.out.trans ho (by simp))
                  clear cc ho q0 q1 q2 q3
                  cases ob
                  · have HF := Lib.hid (show M.valid = false by rw [HVD5.out, all_false_of (s := k) (by omega) HOB.out.symm]; try simp)
                    go_wp2_with fail
                    exact H.out _ _ HF.out.symm HO4.out
                  · have HN := Lib.hid (show ∀ j, j < k + 1 → M.alike j = true from fun j hj => by
                      by_cases e : j = k
                      · subst e; exact HOB.out.symm
                      · exact HJ.out j (by omega))
                    go_wp2_with fail
                    exact ⟨⟨k + 1, by omega, by go_num, HOr4.out, HN⟩, by simp [intOf]; omega⟩
                · as_aux_lemma =>
                  have hke : (k : Int) = M.sel := by omega
                  have HT := Lib.hid (show M.valid = true by
                    rw [HVD5.out]
                    exact all_true_of (fun j hj => HJ.out j (by omega)))
                  go_wp2_with fail
                  exact H.out _ _ HT.out.symm HO7.out
theorem modCheck_any (w : World) (X : MX) (M : Mod) (h : ModA w X M) : Calls Tryz.prog 52 #[modV X M] w (Ret w (.int .i64 (if M.valid then 0 else 1))) := by
  refine calls_abs fun R hR => ?_
  have HO := Lib.hid ((Only.refl [] w).alloc (.cells #[X.vc, X.vs, X.vm, .int .i64 M.sel] 74))
  have cc := modValid_any _ X M (h.only HO.out)
  unfold modV at *
  clear h
  generalize M.valid = vb at *
  go_enter Tryz.func52, Tryz.ntmps52
  go_wp2_with fail
  refine cc.mono ?_
  rintro e w3 ⟨rfl, ho⟩
  have HO3 := Lib.hid (HO.out.trans ho (by simp))
  clear cc ho
  cases vb
  · go_wp2_with fail
    exact hR.out _ _ ⟨rfl, HO3.out⟩
  · go_wp2_with fail
    exact hR.out _ _ ⟨rfl, HO3.out⟩
end Go.Proofs.YtkacgbigeobncaaGreat
