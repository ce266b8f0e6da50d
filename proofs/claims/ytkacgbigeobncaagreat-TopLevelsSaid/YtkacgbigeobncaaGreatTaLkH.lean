/- Lemmas of this claim. -/
import Derived.Test.YtkacgbigeobncaaGreatTaLkG
namespace Go.Proofs.YtkacgbigeobncaaGreat
open Go.RowKit Go.Maps
set_option maxHeartbeats 6400000
set_option maxRecDepth 100000
set_option linter.unusedVariables false
set_option linter.unusedSimpArgs false
theorem ent_method1 : Ent 152 := ent Tryz.func152 (by kernel_rfl) rfl
theorem method1_any (w : World) (X : MX) (M : Mod) (h : ModA w X M) (hb : M.Base) (k : Nat) (hk : k ≤ M.methods.length) (i : Ins) (hv : i.valid = true) (cb kb : Nat) (hc : ChkAt w cb X M) (hkb : w.cell? ⟨kb, 0, none⟩ = some (.int .i64 k)) :
    Calls Tryz.prog 152 #[i.val, .pointer (some ⟨cb, 0, none⟩), .pointer (some ⟨kb, 0, none⟩)] w (Ret w (.bool (!M.operand k i))) := by
  refine calls_abs fun R hR => ?_
  obtain ⟨op, a, b⟩ := i
  have HO := Lib.hid ((Only.refl [] w).alloc (.cells #[.int .i64 op, .int .i64 a, .int .i64 b] 64))
  obtain ⟨q0, q1, q2, q3⟩ := hc.only HO.out
  have q4 := HO.out.cell hkb (by simp)
  have cc := operand_any _ X M (h.only HO.out) hb k hk ⟨op, a, b⟩ hv
  unfold modV Ins.val at *
  dsimp only at cc ⊢
  clear h hc hkb
  generalize M.operand k ⟨op, a, b⟩ = ob at *
  go_enter Tryz.func152, Tryz.ntmps152
  go_wp2_with fail
  refine cc.mono ?_
  rintro e w3 ⟨rfl, ho⟩
  have HO3 := Lib.hid (HO.out.trans ho (by simp))
  clear cc ho
  go_wp2_with fail
  exact hR.out _ _ ⟨rfl, HO3.out⟩
theorem codeE_valid {c : List Ins} (h : codeE c = 0) : c.length ≤ 120 ∧ ∀ i, i ∈ c → i.valid = true := by
  unfold codeE at h
  split at h
  · cases h
  · split at h
    · cases h
    · rename_i h1 h2
      refine ⟨by omega, fun i hi => ?_⟩
      simp only [List.any_eq_true, not_exists, not_and] at h2
      simpa using h2 i hi
theorem method_any (w : World) (X : MX) (M : Mod) (h : ModA w X M) (hb : M.Base) (k : Nat) (hk : k < M.methods.length) :
    Calls Tryz.prog 100 #[modV X M, .int .i64 k] w (Ret w (.bool (M.methodOk k))) := by
  refine calls_abs fun R hR => ?_
  obtain ⟨vc, vs, vm, cx, mx⟩ := X
  have H : Hid (∀ x w', x = M.methodOk k → Only [] w w' → R (.returned (.bool x)) w') := fun x w' hx ho => hR.out _ _ ⟨by rw [hx], ho⟩
  have HM := Lib.hid h
  have HB := Lib.hid hb
  obtain ⟨bm, om, cm, pv, lv, cv, hvm, hpv, hlv, hcv, hcm⟩ := h.meAt hk
  dsimp only at hvm
  subst hvm
  obtain ⟨pa, pc, rfl⟩ := hpv.len
  obtain ⟨la, lc, rfl⟩ := hlv.len
  obtain ⟨ca, cc, rfl⟩ := hcv.len
  obtain ⟨va9, vb9, vc9, vd9, ve9, vf9, l1, l2, l3⟩ := h.lens
  dsimp only at l1
  subst l1
  clear l2 l3
  obtain ⟨nm, hnm⟩ : ∃ z, z = (M.me k).name := ⟨_, rfl⟩
  obtain ⟨mc, hmc⟩ : ∃ z, z = (M.me k).cls := ⟨_, rfl⟩
  obtain ⟨pl, hpl⟩ : ∃ z, z = (M.me k).params := ⟨_, rfl⟩
  obtain ⟨ll, hll⟩ : ∃ z, z = (M.me k).locals := ⟨_, rfl⟩
  obtain ⟨rk, hrk⟩ : ∃ z, z = (M.me k).result.kind := ⟨_, rfl⟩
  obtain ⟨rc, hrc⟩ : ∃ z, z = (M.me k).result.cls := ⟨_, rfl⟩
  obtain ⟨cl, hcl⟩ : ∃ z, z = (M.me k).code := ⟨_, rfl⟩
  have HOK := Lib.hid (show M.methodOk k = (decide (-1 ≤ mc) && decide (mc < M.classes.length) && M.areTypes pl 4 && M.areTypes ll (10 - (pl.length : Int) - (if 0 ≤ mc then 1 else 0)) && M.isType ⟨rk, rc⟩ 0 && decide (codeE cl = 0) && !(cl.any fun i => !M.operand k i)) by
    rw [hmc, hpl, hll, hrk, hrc, hcl]; rfl)
  rw [← hpl] at hpv hcm
  rw [← hll] at hlv hcm
  rw [← hcl] at hcv hcm
  rw [← hnm, ← hmc, ← hrk, ← hrc] at hcm
  have HO1 := Lib.hid (((Only.refl [] w).alloc (.cells #[.slice va9 M.classes.length vb9, vs, .slice (some ⟨bm, om, none⟩) M.methods.length cm, .int .i64 M.sel] 177)).alloc (.cells #[.int .i64 k] 3))
  have hkI : (k : Int) < M.methods.length := by omega
  have hch := ChkAt.new w ⟨.slice va9 M.classes.length vb9, vs, .slice (some ⟨bm, om, none⟩) M.methods.length cm, cx, mx⟩ M
  have hch1 := hch.only ((Only.refl [] _).alloc (.cells #[.int .i64 k] 3))
  have hkb := (Row.new (w.alloc (.cells #[.slice va9 M.classes.length vb9, vs, .slice (some ⟨bm, om, none⟩) M.methods.length cm, .int .i64 M.sel] 177)) 3 [.int .i64 k]).cell 0 rfl
  rw [show (w.alloc (.cells #[.slice va9 M.classes.length vb9, vs, .slice (some ⟨bm, om, none⟩) M.methods.length cm, .int .i64 M.sel] 177)).heap.size = w.heap.size + 1 by simp] at hkb
  obtain ⟨u0, u1, u2, u3, u4, u5, u6⟩ := hcm _ HO1.out
  have HPV := Lib.hid hpv
  have HLV := Lib.hid hlv
  have HCV := Lib.hid hcv
  unfold modV
  dsimp only at hch1 ⊢
  clear hR h hb hcm hnm hmc hpl hll hrk hrc hcl hpv hlv hcv hch
  go_enter Tryz.func100, Tryz.ntmps100
  go_upto_region 2 with fail
  have HO2 := Lib.hid (HO1.out.alloc (.cells #[.string nm, .int .i64 mc, .slice pa pl.length pc, .slice la ll.length lc, .int .i64 rk, .int .i64 rc, .slice ca cl.length cc] 70))
  have HCH2 := Lib.hid (hch1.only ((Only.refl [] _).alloc (.cells #[.string nm, .int .i64 mc, .slice pa pl.length pc, .slice la ll.length lc, .int .i64 rk, .int .i64 rc, .slice ca cl.length cc] 70)))
  have HKB2 := Lib.hid (((Only.refl [] _).alloc (.cells #[.string nm, .int .i64 mc, .slice pa pl.length pc, .slice la ll.length lc, .int .i64 rk, .int .i64 rc, .slice ca cl.length cc] 70)).cell hkb (by simp))
  have hrow := Row.new ((w.alloc (.cells #[.slice va9 M.classes.length vb9, vs, .slice (some ⟨bm, om, none⟩) M.methods.length cm, .int .i64 M.sel] 177)).alloc (.cells #[.int .i64 k] 3)) 70 [.string nm, .int .i64 mc, .slice pa pl.length pc, .slice la ll.length lc, .int .i64 rk, .int .i64 rc, .slice ca cl.length cc]
  rw [show ((w.alloc (.cells #[.slice va9 M.classes.length vb9, vs, .slice (some ⟨bm, om, none⟩) M.methods.length cm, .int .i64 M.sel] 177)).alloc (.cells #[.int .i64 k] 3)).heap.size = w.heap.size + 1 + 1 by simp] at hrow
  have HROW2 := Lib.hid hrow
  clear hch1 hkb hrow u0 u1 u2 u3 u4 u5 u6 HO1
  generalize ((w.alloc (.cells #[.slice va9 M.classes.length vb9, vs, .slice (some ⟨bm, om, none⟩) M.methods.length cm, .int .i64 M.sel] 177)).alloc (.cells #[.int .i64 k] 3)).alloc (.cells #[.string nm, .int .i64 mc, .slice pa pl.length pc, .slice la ll.length lc, .int .i64 rk, .int .i64 rc, .slice ca cl.length cc] 70) = w2 at *
  have m1 := HROW2.out.cell 1 rfl
  have m2 := HROW2.out.cell 2 rfl
  have hplmax := HPV.out.max
  obtain ⟨room, hroom⟩ : ∃ z, z = (10 - (pl.length : Int) - (if 0 ≤ mc then 1 else 0)) := ⟨_, rfl⟩
  rw [← hroom] at HOK
  have HRM := Lib.hid hroom
  have hrmle : room ≤ 1000000 := by rw [hroom]; split <;> omega
  clear hroom
  obtain ⟨np, hnp⟩ : ∃ z, z = pl.length := ⟨_, rfl⟩
  rw [← hnp] at m2 hplmax
  have HNP := Lib.hid hnp
  obtain ⟨nc, hnc⟩ : ∃ z, z = M.classes.length := ⟨_, rfl⟩
  have HNC := Lib.hid hnc
  clear hnp hnc
  go_upto_if 19 with fail
  go_cut [6] (fun s6 wx => s6 = .int .i64 room ∧ wx = w2)
  case first =>
    by_cases hmc0 : 0 ≤ mc
    · have HE := Lib.hid (show room = 10 - (np : Int) - 1 by rw [HRM.out, if_pos hmc0, HNP.out])
      go_wp2_with fail
      go_meet
      exact ⟨by rw [HE.out], rfl⟩
    · have HE := Lib.hid (show room = 10 - (np : Int) by rw [HRM.out, if_neg hmc0, HNP.out]; omega)
      go_wp2_with fail
      go_meet
      exact ⟨by rw [HE.out], rfl⟩
  case rest =>
    obtain ⟨rfl, rfl⟩ := hcut
    clear hplmax
    have m2' := HROW2.out.cell 2 rfl
    obtain ⟨p0, p1, p2, p3⟩ := HCH2.out
    dsimp only at p0 p1 p2 p3
    clear m2
    by_cases h1 : -1 ≤ mc
    rotate_left
    · have HF := Lib.hid (show M.methodOk k = false by rw [HOK.out, decide_eq_false h1]; rfl)
      go_wp2_with fail
      exact H.out _ _ HF.out.symm HO2.out
    by_cases h2 : mc < M.classes.length
    rotate_left
    · have HF := Lib.hid (show M.methodOk k = false by rw [HOK.out, decide_eq_false h2, Bool.and_false]; rfl)
      go_wp2_with fail
      exact H.out _ _ HF.out.symm HO2.out
    have HOK2 := Lib.hid (show M.methodOk k = (M.areTypes pl 4 && M.areTypes ll room && M.isType ⟨rk, rc⟩ 0 && decide (codeE cl = 0) && !(cl.any fun i => !M.operand k i)) by rw [HOK.out, decide_eq_true h1, decide_eq_true h2]; rfl)
    have c1 := areTypes_any wc ⟨.slice va9 M.classes.length vb9, vs, .slice (some ⟨bm, om, none⟩) M.methods.length cm, cx, mx⟩ M (HM.out.only HO2.out) _ pl (HPV.out.only HO2.out) 4 (by decide)
    unfold modV at c1
    dsimp only at c1
    clear HOK
    generalize M.areTypes pl 4 = b1 at *
    go_wp2_with fail
    refine c1.mono ?_
    rintro e w3 ⟨rfl, ho⟩
    have HO3 := Lib.hid (HO2.out.trans ho (by simp))
    have HCH3 := Lib.hid (HCH2.out.only ho)
    have HKB3 := Lib.hid (ho.cell HKB2.out (by simp))
    have HROW3 := Lib.hid (ho.row HROW2.out (by simp))
    clear c1 ho p0 p1 p2 p3 m1 m2' HO2 HCH2 HKB2 HROW2
    obtain ⟨p0, p1, p2, p3⟩ := HCH3.out
    dsimp only at p0 p1 p2 p3
    have m3 := HROW3.out.cell 3 rfl
    cases b1
    · have HF := Lib.hid (show M.methodOk k = false by rw [HOK2.out]; rfl)
      go_wp2_with fail
      exact H.out _ _ HF.out.symm HO3.out
    have c1 := areTypes_any w3 ⟨.slice va9 M.classes.length vb9, vs, .slice (some ⟨bm, om, none⟩) M.methods.length cm, cx, mx⟩ M (HM.out.only HO3.out) _ ll (HLV.out.only HO3.out) room hrmle
    unfold modV at c1
    dsimp only at c1
    generalize M.areTypes ll room = b1 at *
    go_wp2_with fail
    refine c1.mono ?_
    rintro e w4 ⟨rfl, ho⟩
    have HO4 := Lib.hid (HO3.out.trans ho (by simp))
    have HCH4 := Lib.hid (HCH3.out.only ho)
    have HKB4 := Lib.hid (ho.cell HKB3.out (by simp))
    have HROW4 := Lib.hid (ho.row HROW3.out (by simp))
    clear c1 ho p0 p1 p2 p3 m3 HO3 HCH3 HKB3 HROW3
    obtain ⟨p0, p1, p2, p3⟩ := HCH4.out
    dsimp only at p0 p1 p2 p3
    have m4 := HROW4.out.cell 4 rfl
    have m5 := HROW4.out.cell 5 rfl
    cases b1
    · have HF := Lib.hid (show M.methodOk k = false by rw [HOK2.out]; rfl)
      go_wp2_with fail
      exact H.out _ _ HF.out.symm HO4.out
    have c1 := isType_any w4 ⟨.slice va9 M.classes.length vb9, vs, .slice (some ⟨bm, om, none⟩) M.methods.length cm, cx, mx⟩ M (HM.out.only HO4.out) ⟨rk, rc⟩ 0
    unfold modV Ty.val at c1
    dsimp only at c1
    generalize M.isType ⟨rk, rc⟩ 0 = b1 at *
    go_wp2_with fail
    refine c1.mono ?_
    rintro e w5 ⟨rfl, ho⟩
    have HO5 := Lib.hid (HO4.out.trans ho (by simp))
    have HCH5 := Lib.hid (HCH4.out.only ho)
    have HKB5 := Lib.hid (ho.cell HKB4.out (by simp))
    have HROW5 := Lib.hid (ho.row HROW4.out (by simp))
    clear c1 ho p0 p1 p2 p3 m4 m5 HO4 HCH4 HKB4 HROW4
    have m6 := HROW5.out.cell 6 rfl
    cases b1
    · have HF := Lib.hid (show M.methodOk k = false by rw [HOK2.out]; rfl)
      go_wp2_with fail
      exact H.out _ _ HF.out.symm HO5.out
    have c1 := check_any w5 _ cl (HCV.out.only HO5.out)
    by_cases hce : codeE cl = 0
    rotate_left
    · have HF := Lib.hid (show M.methodOk k = false by rw [HOK2.out, decide_eq_false hce]; rfl)
      have hcb : (codeE cl == 0) = false := by simpa using hce
      generalize codeE cl = z at *
      go_wp2_with fail
      refine c1.mono ?_
      rintro e w6 ⟨rfl, ho⟩
      have HO6 := Lib.hid (HO5.out.trans ho (by simp))
      clear c1 ho
      go_wp2_with fail
      exact H.out _ _ HF.out.symm HO6.out
    obtain ⟨hl120, hvall⟩ := codeE_valid hce
    have HVALL := Lib.hid hvall
    have HL120 := Lib.hid hl120
    rw [hce] at c1
    have HOK3 := Lib.hid (show M.methodOk k = !(cl.any fun i => !M.operand k i) by rw [HOK2.out, decide_eq_true hce]; rfl)
    clear hce hl120 hvall HOK2
    go_wp2_with fail
    refine c1.mono ?_
    rintro e w6 ⟨rfl, ho⟩
    have HO6 := Lib.hid (HO5.out.trans ho (by simp))
    have HCH6 := Lib.hid (HCH5.out.only ho)
    have HKB6 := Lib.hid (ho.cell HKB5.out (by simp))
    have HROW6 := Lib.hid (ho.row HROW5.out (by simp))
    clear c1 ho m6 HO5 HCH5 HKB5 HROW5
    have m6 := HROW6.out.cell 6 rfl
    have c1 := containsFuncIns w6 _ cl 152 #[.pointer (some ⟨w.heap.size, 0, none⟩), .pointer (some ⟨w.heap.size + 1, 0, none⟩)] (fun i => !M.operand k i) (HCV.out.only HO6.out) (by have := HL120.out; omega)
      ⟨ent_method1, fun i hi w' ho' => method1_any w' _ M ((HM.out.only HO6.out).only ho') HB.out k (by omega) i (HVALL.out i hi) _ _ (HCH6.out.only ho') (ho'.cell HKB6.out (by simp))⟩
    generalize (cl.any fun i => !M.operand k i) = b1 at *
    go_wp2_with fail
    refine c1.mono ?_
    rintro e w7 ⟨rfl, ho⟩
    have HO7 := Lib.hid (HO6.out.trans ho (by simp))
    clear c1 ho
    go_wp2_with fail
    exact H.out _ _ HOK3.out.symm HO7.out
end Go.Proofs.YtkacgbigeobncaaGreat
