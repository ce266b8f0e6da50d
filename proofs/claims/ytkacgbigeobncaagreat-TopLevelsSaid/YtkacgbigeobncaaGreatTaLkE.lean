/- Lemmas of this claim. -/
import Derived.Test.YtkacgbigeobncaaGreatTaLkD
namespace Go.Proofs.YtkacgbigeobncaaGreat
open Go.RowKit Go.Maps
set_option maxHeartbeats 6400000
set_option maxRecDepth 100000
set_option linter.unusedVariables false
set_option linter.unusedSimpArgs false
theorem all_false_of {n : Nat} {p : Nat → Bool} {s : Nat} (hs : s < n) (h : p s = false) : ((List.range n).all p) = false := by
  rw [List.all_eq_false]
  exact ⟨s, by simpa using hs, by rw [h]; simp⟩
theorem all_true_of {n : Nat} {p : Nat → Bool} (h : ∀ j, j < n → p j = true) : ((List.range n).all p) = true := by
  rw [List.all_eq_true]
  intro x hx
  exact h x (by simpa using hx)
theorem class_any (w : World) (X : MX) (M : Mod) (h : ModA w X M) (k : Nat) (hs : M.SupOk k) (hk : k < M.classes.length) (hl : ∀ j, j < k → ((M.cl j).meths.length : Int) = M.sel) (hc10 : M.classes.length ≤ 10) (hm16 : M.methods.length ≤ 16) (hs16 : M.sel ≤ 16) :
    Calls Tryz.prog 99 #[modV X M, .int .i64 k] w (Ret w (.bool (M.classOk k))) := by
  refine calls_abs fun R hR => ?_
  obtain ⟨vc, vs, vm, cx, mx⟩ := X
  have H : Hid (∀ x w', x = M.classOk k → Only [] w w' → R (.returned (.bool x)) w') := fun x w' hx ho => hR.out _ _ ⟨by rw [hx], ho⟩
  obtain ⟨bc, oc, cc, fv, mv, hvc, hfv, hmv, hcl⟩ := h.clAt hk
  obtain ⟨nm, hnm⟩ : ∃ z, z = M.cl k := ⟨_, rfl⟩
  obtain ⟨sp, hsp⟩ : ∃ z, z = (M.cl k).super := ⟨_, rfl⟩
  obtain ⟨fl, hfl⟩ : ∃ z, z = (M.cl k).fields := ⟨_, rfl⟩
  obtain ⟨ml, hml⟩ : ∃ z, z = (M.cl k).meths := ⟨_, rfl⟩
  have HHEAD := Lib.hid (show M.headOk k = (!(decide (sp < -1) || decide ((k : Int) ≤ sp)) && M.areTypes fl 7 && decide ((ml.length : Int) = M.sel)) by rw [hsp, hfl, hml]; rfl)
  have HTAIL := Lib.hid (show M.tailOk k = (decide (sp < 0) || (decide ((M.cl sp.toNat).fields.length ≤ fl.length) && decide ((M.cl sp.toNat).fields = fl.take (M.cl sp.toNat).fields.length))) by rw [hsp, hfl]; rfl)
  have HROW := Lib.hid (show ∀ s, M.rowOk k s = (!(decide (gI ml s < -1) || decide ((M.methods.length : Int) ≤ gI ml s)) && !(decide (0 ≤ gI ml s) && !M.entry k s (gI ml s).toNat) && !(decide (0 ≤ sp) && decide (gI ml s < 0) && decide (0 ≤ gI (M.cl sp.toNat).meths s))) by intro s; rw [hsp, hml]; rfl)
  have HCO := Lib.hid (show M.classOk k = (M.headOk k && ((List.range ml.length).all fun s => M.rowOk k s) && M.tailOk k) by rw [hml]; rfl)
  have hkI : (k : Int) < M.classes.length := by omega
  obtain ⟨q0, q1, q2, q3⟩ := hcl _ ((Only.refl [] w).alloc (.cells #[vc, vs, vm, .int .i64 M.sel] 177))
  rw [← hsp] at q1
  rw [← hfl] at hfv
  rw [← hml] at hmv
  obtain ⟨cnm, hcnm⟩ : ∃ z, z = (M.cl k).name := ⟨_, rfl⟩
  rw [← hcnm] at q0
  have HM := Lib.hid h
  have HFV := Lib.hid hfv
  have HMV := Lib.hid hmv
  have HS := Lib.hid hs
  have HL := Lib.hid (show ∀ j, j < k → ((M.cl j).meths.length : Int) = M.sel from hl)
  have HMLK := Lib.hid (show ml = (M.cl k).meths from hml)
  have HSPK := Lib.hid (show sp = (M.cl k).super from hsp)
  dsimp only at hvc
  subst hvc
  have hch := ChkAt.new w ⟨.slice (some ⟨bc, oc, none⟩) M.classes.length cc, vs, vm, cx, mx⟩ M
  unfold modV
  dsimp only at hch ⊢
  obtain ⟨va1, vc1, rfl⟩ := hmv.len
  obtain ⟨va2, vc2, rfl⟩ := hfv.len
  clear hR h hs hl hcl hnm hsp hfl hml hcnm hfv hmv
  go_enter Tryz.func99, Tryz.ntmps99
  go_upto_region 2 with fail
  have HO1 := Lib.hid (((Only.refl [] w).alloc (.cells #[.slice (some ⟨bc, oc, none⟩) M.classes.length cc, vs, vm, .int .i64 M.sel] 177)).alloc (.cells #[.string cnm, .int .i64 sp, .slice va2 fl.length vc2, .slice va1 ml.length vc1] 133))
  have HCH1 := Lib.hid (hch.only ((Only.refl [] _).alloc (.cells #[.string cnm, .int .i64 sp, .slice va2 fl.length vc2, .slice va1 ml.length vc1] 133)))
  have hrow := Row.new (w.alloc (.cells #[.slice (some ⟨bc, oc, none⟩) M.classes.length cc, vs, vm, .int .i64 M.sel] 177)) 133 [.string cnm, .int .i64 sp, .slice va2 fl.length vc2, .slice va1 ml.length vc1]
  have hsz : (w.alloc (.cells #[.slice (some ⟨bc, oc, none⟩) M.classes.length cc, vs, vm, .int .i64 M.sel] 177)).heap.size = w.heap.size + 1 := by simp
  rw [hsz] at hrow
  have HROW1 := Lib.hid hrow
  clear hsz hch q0 q1 q2 q3
  generalize (w.alloc (.cells #[.slice (some ⟨bc, oc, none⟩) M.classes.length cc, vs, vm, .int .i64 M.sel] 177)).alloc (.cells #[.string cnm, .int .i64 sp, .slice va2 fl.length vc2, .slice va1 ml.length vc1] 133) = w1 at *
  have m1 := hrow.cell 1 rfl
  have m2 := hrow.cell 2 rfl
  have m3 := hrow.cell 3 rfl
  obtain ⟨p0, p1, p2, p3⟩ := HCH1.out
  dsimp only at p0 p1 p2 p3
  have ca := areTypes_any w1 ⟨.slice (some ⟨bc, oc, none⟩) M.classes.length cc, vs, vm, cx, mx⟩ M (HM.out.only HO1.out) _ fl (HFV.out.only HO1.out) 7 (by decide)
  unfold modV at ca
  dsimp only at ca
  clear hrow
  by_cases h1 : sp < -1
  · have HF := Lib.hid (show M.classOk k = false by rw [HCO.out, HHEAD.out, decide_eq_true h1]; rfl)
    go_wp2_with fail
    exact H.out _ _ HF.out.symm HO1.out
  by_cases h2 : (k : Int) ≤ sp
  · have HF := Lib.hid (show M.classOk k = false by rw [HCO.out, HHEAD.out, decide_eq_true h2, Bool.or_true]; rfl)
    go_wp2_with fail
    exact H.out _ _ HF.out.symm HO1.out
  have HHEAD2 := Lib.hid (show M.headOk k = (M.areTypes fl 7 && decide ((ml.length : Int) = M.sel)) by rw [HHEAD.out, decide_eq_false h1, decide_eq_false h2]; rfl)
  have HAT := Lib.hid (show M.areTypes fl 7 = true → fl.length ≤ 7 from fun hq => by
    unfold Mod.areTypes at hq
    simp only [Bool.and_eq_true, decide_eq_true_eq] at hq
    omega)
  generalize M.areTypes fl 7 = at7 at *
  cases at7
  · have HF := Lib.hid (show M.classOk k = false by rw [HCO.out, HHEAD2.out]; rfl)
    go_wp2_with fail
    refine ca.mono ?_
    rintro e w2 ⟨rfl, ho⟩
    have HO2 := Lib.hid (HO1.out.trans ho (by simp))
    clear ca ho
    go_wp2_with fail
    exact H.out _ _ HF.out.symm HO2.out
  go_wp2_with fail
  refine ca.mono ?_
  rintro e w2 ⟨rfl, ho⟩
  have HO2 := Lib.hid (HO1.out.trans ho (by simp))
  have HCH2 := Lib.hid (HCH1.out.only ho)
  have HROW2 := Lib.hid (ho.row HROW1.out (by simp))
  clear ca ho p0 p1 p2 p3 m1 m2 m3 HCH1 HROW1 HO1
  have m1 := HROW2.out.cell 1 rfl
  have m2 := HROW2.out.cell 2 rfl
  have m3 := HROW2.out.cell 3 rfl
  obtain ⟨p0, p1, p2, p3⟩ := HCH2.out
  dsimp only at p0 p1 p2 p3
  by_cases h3 : (ml.length : Int) = M.sel
  rotate_left
  · have h3b : ((ml.length : Int) != M.sel) = true := by simpa using h3
    have HF := Lib.hid (show M.classOk k = false by rw [HCO.out, HHEAD2.out, decide_eq_false h3]; rfl)
    go_wp2_with fail
    exact H.out _ _ HF.out.symm HO2.out
  have HHD := Lib.hid (show M.headOk k = true by rw [HHEAD2.out, decide_eq_true h3]; rfl)
  have HSL := Lib.hid h3
  have h3b : ((ml.length : Int) != M.sel) = false := by simpa using h3
  have hml16 : ml.length ≤ 16 := by omega
  obtain ⟨nml, hnml⟩ : ∃ z, z = ml.length := ⟨_, rfl⟩
  have HNML := Lib.hid hnml
  rw [← hnml] at m3 h3b hml16
  clear h3 HHEAD HHEAD2
  clear hnml
  go_wp2_with fail
  go_loopw [6, 7, 43] (fun _ _ iv wr => ∃ s : Nat, s ≤ nml ∧ iv = .int .i64 s ∧ Only [] w2 wr ∧ Hid (∀ j, j < s → M.rowOk k j = true)) (fun _ _ iv _ => nml - (intOf iv).toNat)
  case atStart => exact ⟨0, by omega, rfl, Only.refl _ _, Lib.hid (fun j hj => by omega)⟩
  case round =>
    obtain ⟨s, hsn, rfl, ho, HJ⟩ := hrel
    have HOr := Lib.hid ho
    have HO3 := Lib.hid (HO2.out.trans ho (by simp))
    replace m1 := ho.cell m1 (by simp)
    replace m2 := ho.cell m2 (by simp)
    replace m3 := ho.cell m3 (by simp)
    replace p0 := ho.cell p0 (by simp)
    replace p1 := ho.cell p1 (by simp)
    replace p2 := ho.cell p2 (by simp)
    replace p3 := ho.cell p3 (by simp)
    clear ho
    by_cases hlt : s < nml
    · --<A
      obtain ⟨n, hn⟩ : ∃ z, z = gI ml s := ⟨_, rfl⟩
      rcases (HMV.out.only0 HO3.out) with ⟨b5, o5, c5, f1, g1⟩ | ⟨oa, c5, f1, g1⟩
      rotate_left
      · rw [g1] at HNML; have := HNML.out; simp at this; omega
      simp only [Value.slice.injEq] at f1
      obtain ⟨rfl, _, rfl⟩ := f1
      have g2 := g1 s (by rw [← HNML.out]; exact hlt)
      rw [← hn] at g2
      have HRS := Lib.hid (show M.rowOk k s = (!(decide (n < -1) || decide ((M.methods.length : Int) ≤ n)) && !(decide (0 ≤ n) && !M.entry k s n.toNat) && !(decide (0 ≤ sp) && decide (n < 0) && decide (0 ≤ gI (M.cl sp.toNat).meths s))) by rw [HROW.out, hn])
      have HBAD := Lib.hid (show M.rowOk k s = false → M.classOk k = false from fun hq => by rw [HCO.out, all_false_of (by rw [← HNML.out]; exact hlt) hq]; simp)
      obtain ⟨va9, vb9, vc9, vd9, ve9, vf9, l1, l2, l3⟩ := HM.out.lens
      dsimp only at l3
      subst l3
      obtain ⟨nm, hnm⟩ : ∃ z, z = M.methods.length := ⟨_, rfl⟩
      rw [← hnm] at p2 HRS
      have HNM := Lib.hid hnm
      clear g1 hn hnm l1 l2
      by_cases n1 : n < -1
      · have HF := Lib.hid (show M.classOk k = false from HBAD.out (by rw [HRS.out, decide_eq_true n1]; rfl))
        go_wp2_with fail
        exact H.out _ _ HF.out.symm HO3.out
      by_cases n2 : (nm : Int) ≤ n
      · have HF := Lib.hid (show M.classOk k = false from HBAD.out (by rw [HRS.out, decide_eq_true n2, Bool.or_true]; rfl))
        go_wp2_with fail
        exact H.out _ _ HF.out.symm HO3.out
      by_cases n3 : 0 ≤ n
      · obtain ⟨j, rfl⟩ : ∃ j : Nat, n = j := ⟨n.toNat, by omega⟩
        have HRS2 := Lib.hid (show M.rowOk k s = M.entry k s j by
          rw [HRS.out, decide_eq_false n1, decide_eq_false n2, decide_eq_true n3, decide_eq_false (by omega : ¬ (j : Int) < 0)]
          simp)
        have ce := entry_any wr _ M (HM.out.only HO3.out) k s j (fun i hi => by
            by_cases e : i = k
            · subst e; rw [← HSPK.out]; omega
            · exact HS.out i (by omega)) hk (by rw [← HNM.out]; omega) (fun i hi => by
            by_cases e : i = k
            · subst e; rw [← HMLK.out]; exact HSL.out
            · exact HL.out i (by omega)) (by rw [← HSL.out, ← HNML.out]; omega)
        unfold modV at ce
        dsimp only at ce
        rw [← HNM.out] at ce
        clear HRS
        generalize M.entry k s j = eb at *
        cases eb
        · have HF := Lib.hid (show M.classOk k = false from HBAD.out HRS2.out)
          go_wp2_with fail
          refine ce.mono ?_
          rintro e w4 ⟨rfl, ho⟩
          have HO4 := Lib.hid (HO3.out.trans ho (by simp))
          clear ce ho
          go_wp2_with fail
          exact H.out _ _ HF.out.symm HO4.out
        · go_wp2_with fail
          refine ce.mono ?_
          rintro e w4 ⟨rfl, ho⟩
          have HO4 := Lib.hid (HOr.out.trans ho (by simp))
          replace m1 := ho.cell m1 (by simp)
          clear ce ho
          have HNX := Lib.hid (show ∀ i, i < s + 1 → M.rowOk k i = true from fun i hi => by
            by_cases e : i = s
            · subst e; exact HRS2.out
            · exact HJ.out i (by omega))
          by_cases hsp0 : 0 ≤ sp
          · go_wp2_with fail
            exact ⟨⟨s + 1, by omega, by go_num, HO4.out, HNX⟩, by simp [intOf]; omega⟩
          · go_wp2_with fail
            exact ⟨⟨s + 1, by omega, by go_num, HO4.out, HNX⟩, by simp [intOf]; omega⟩
      · obtain rfl : n = -1 := by omega
        have HRS2 := Lib.hid (show M.rowOk k s = !(decide (0 ≤ sp) && decide (0 ≤ gI (M.cl sp.toNat).meths s)) by
          rw [HRS.out, decide_eq_false n2, decide_eq_false n1]
          simp)
        have HNX := Lib.hid (show M.rowOk k s = true → ∀ i, i < s + 1 → M.rowOk k i = true from fun hq i hi => by
          by_cases e : i = s
          · subst e; exact hq
          · exact HJ.out i (by omega))
        clear HRS
        by_cases hsp0 : 0 ≤ sp
        · have hspc : sp.toNat < M.classes.length := by omega
          obtain ⟨b6, o6, c6, fv6, mv6, e6, _, r6, hc6⟩ := HM.out.clAt hspc
          obtain ⟨_, _, _, u3⟩ := hc6 wr HO3.out
          dsimp only at e6
          simp only [Value.slice.injEq, Option.some.injEq, Addr.mk.injEq, and_true, true_and] at e6
          obtain ⟨⟨rfl, rfl⟩, rfl⟩ := e6
          have hln := HL.out sp.toNat (by omega)
          obtain ⟨va7, vc7, rfl⟩ := r6.len
          rcases (r6.only0 HO3.out) with ⟨b8, o8, c8, f8, g8⟩ | ⟨oa, c8, f8, g8⟩
          rotate_left
          · rw [g8] at hln; have := HSL.out; have := HNML.out; simp at hln; omega
          simp only [Value.slice.injEq] at f8
          obtain ⟨rfl, _, rfl⟩ := f8
          have h9 : (M.cl sp.toNat).meths.length = nml := by have := HSL.out; have := HNML.out; omega
          have g9 := g8 s (by omega)
          rw [h9] at u3
          have hspcI : sp < M.classes.length := by omega
          obtain ⟨z, hz⟩ : ∃ z, z = gI (M.cl sp.toNat).meths s := ⟨_, rfl⟩
          rw [← hz] at g9 HRS2
          clear g8 hc6 r6 h9 hln hz
          by_cases hz0 : 0 ≤ z
          · have HF := Lib.hid (show M.classOk k = false from HBAD.out (by rw [HRS2.out, decide_eq_true hsp0, decide_eq_true hz0]; rfl))
            go_wp2_with fail
            exact H.out _ _ HF.out.symm HO3.out
          · have HT := Lib.hid (HNX.out (by rw [HRS2.out, decide_eq_false hz0, Bool.and_false]; rfl))
            go_wp2_with fail
            exact ⟨⟨s + 1, by omega, by go_num, HOr.out, HT⟩, by simp [intOf]; omega⟩
        · have HT := Lib.hid (HNX.out (by rw [HRS2.out, decide_eq_false hsp0]; rfl))
          go_wp2_with fail
          exact ⟨⟨s + 1, by omega, by go_num, HOr.out, HT⟩, by simp [intOf]; omega⟩
      --A>
    · --<B
      obtain rfl : s = nml := by omega
      have HALL := Lib.hid (show M.classOk k = M.tailOk k by rw [HCO.out, HHD.out, all_true_of (fun j hj => HJ.out j (by rw [HNML.out]; exact hj))]; rfl)
      by_cases hsp0 : sp < 0
      · have HT := Lib.hid (show M.classOk k = true by rw [HALL.out, HTAIL.out, decide_eq_true hsp0]; rfl)
        go_wp2_with fail
        exact H.out _ _ HT.out.symm HO3.out
      · have hspc : sp.toNat < M.classes.length := by omega
        have hspcI : sp < M.classes.length := by omega
        have hsp1 : 0 ≤ sp := by omega
        obtain ⟨b6, o6, c6, fv6, mv6, e6, r6, _, hc6⟩ := HM.out.clAt hspc
        obtain ⟨_, _, u2, _⟩ := hc6 wr HO3.out
        dsimp only at e6
        simp only [Value.slice.injEq, Option.some.injEq, Addr.mk.injEq, and_true, true_and] at e6
        obtain ⟨⟨rfl, rfl⟩, rfl⟩ := e6
        obtain ⟨ul, hul⟩ : ∃ z, z = (M.cl sp.toNat).fields := ⟨_, rfl⟩
        rw [← hul] at r6 HTAIL
        have HT2 := Lib.hid (show M.classOk k = (decide (ul.length ≤ fl.length) && decide (ul = fl.take ul.length)) by rw [HALL.out, HTAIL.out, decide_eq_false hsp0]; rfl)
        obtain ⟨va7, vc7, rfl⟩ := r6.len
        have HR6 := Lib.hid r6
        clear hc6 hul r6 HTAIL
        obtain ⟨nu, hnu⟩ : ∃ z, z = ul.length := ⟨_, rfl⟩
        obtain ⟨nf, hnf⟩ : ∃ z, z = fl.length := ⟨_, rfl⟩
        rw [← hnu] at u2 HR6 HT2
        rw [← hnf] at m2 HT2 HFV
        by_cases hle : nu ≤ nf
        · have hleI : (nu : Int) ≤ nf := by omega
          have hcap : nf ≤ vc2 := HFV.out.cap
          have hcapI : (nu : Int) ≤ vc2 := by omega
          have HEQ := Lib.hid (show Calls Tryz.prog 150 #[.slice va7 nu vc7, .slice va2 nu vc2] wr (Ret wr (.bool (decide (ul = fl.take nu)))) from
            equalTys wr _ _ _ _ (HR6.out.only HO3.out) ((HFV.out.only HO3.out).take (by rw [← hnf]; exact hle)) (by rw [← hnu]; have := HAT.out trivial; omega))
          have HT3 := Lib.hid (show M.classOk k = decide (ul = fl.take nu) by rw [HT2.out, decide_eq_true hle]; rfl)
          have hNU : (nu : Int).toNat = nu := by omega
          generalize decide (ul = fl.take nu) = deq at *
          clear HT2 hnu hnf
          go_wp2_with fail
          refine HEQ.out.mono ?_
          rintro e w4 ⟨rfl, ho⟩
          have HO4 := Lib.hid (HO3.out.trans ho (by simp))
          clear ho
          go_wp2_with fail
          exact H.out _ _ HT3.out.symm HO4.out
        · have HF := Lib.hid (show M.classOk k = false by rw [HT2.out, decide_eq_false hle]; rfl)
          have hleI : ¬ (nu : Int) ≤ nf := by omega
          clear hnu hnf
          go_wp2_with fail
          exact H.out _ _ HF.out.symm HO3.out
      --B>
end Go.Proofs.YtkacgbigeobncaaGreat
