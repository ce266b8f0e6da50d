/- Lemmas of this claim. -/
import Derived.Test.YtkacgbigeobncaaGreatTaScopeH
namespace Go.Proofs.YtkacgbigeobncaaGreat
open Go.RowKit Go.Maps
set_option maxHeartbeats 3200000
set_option maxRecDepth 100000
set_option linter.unusedVariables false
def arOf (ob : Int → Option Th) (k : Int) : Int := match ob k with | some t => t.area | none => 0
theorem keepAr_del (ob : Int → Option Th) (blk : Int → Nat) (a k : Int) : keepAr (fun k => (ob k).map fun _ => blk k) (arOf ob) a k = (delOb ob a k).map fun _ => blk k := by
  unfold keepAr delOb arOf
  simp only
  cases ho : ob k with
  | none => simp
  | some t =>
    simp only
    by_cases e : t.area = a
    · simp [e]
    · simp [e]
section
variable {L : Nat → Option Lb} {p : Nat} {P : Pm} {X : PX} {w : World}
theorem reset_rep (w : World) (h : PRep w L p P X) (hok : P.ok) (a : Int) (h2 : 2 ≤ a) (hAn : a < (P.n : Int) + 2) :
    Calls Tryz.prog 19 #[.pointer (some ⟨p, 0, none⟩), .int .i64 a] w fun e w' => (∃ v, e = .returned v) ∧ ∃ X', PRep w' L p (P.reset a) X' ∧ OnlyP (fun k => L k ≠ none) w w' := by
  refine calls_abs fun R hR => ?_
  have HOK := Lib.hid hok
  have o1 : Only [] w ((w.alloc (.cells #[.pointer (some ⟨p, 0, none⟩)] 23)).alloc (.cells #[.int .i64 a] 3)) := ((Only.refl _ w).alloc _).alloc _
  have r1 : Row ((w.alloc (.cells #[.pointer (some ⟨p, 0, none⟩)] 23)).alloc (.cells #[.int .i64 a] 3)) w.heap.size 23 [.pointer (some ⟨p, 0, none⟩)] := (Row.new w _ [_]).alloc _
  have r2 : Row ((w.alloc (.cells #[.pointer (some ⟨p, 0, none⟩)] 23)).alloc (.cells #[.int .i64 a] 3)) (w.heap.size + 1) 3 [.int .i64 a] := by
    have := Row.new (w.alloc (.cells #[.pointer (some ⟨p, 0, none⟩)] 23)) 3 [.int .i64 a]
    rwa [World.size_alloc] at this
  have h1 := h.only0 o1
  have O1 : Hid (OnlyP (fun k => L k ≠ none) w ((w.alloc (.cells #[.pointer (some ⟨p, 0, none⟩)] 23)).alloc (.cells #[.int .i64 a] 3))) := o1.toP0
  have hLb : ∀ k, w.heap.size ≤ k → L k = none := fun k hk => by
    cases e : L k with
    | none => rfl
    | some ℓ => have := h.lt k (by rw [e]; simp); omega
  obtain ⟨j, g, cap, ej, hj, ej2, eS, hlS, c0, k1, k2, k3, k4, kf⟩ := h1.sp5 h2 hAn
  have m0 := h1.cells.1
  rw [eS] at m0
  have hs := scope_at _ p g P.n cap j a m0 ej hj hok.n6
  have f0 := kf 0 (by omega)
  have f1 := kf 1 (by omega)
  have f2 := kf 2 (by omega)
  have f3 := kf 3 (by omega)
  have f4 := kf 4 (by omega)
  rw [Nat.add_zero] at f0
  obtain ⟨sz, hsz⟩ : ∃ x, x = (P.sp a).size := ⟨_, rfl⟩
  rw [← hsz] at c0
  have HSZ := Lib.hid hsz
  have H1 := Lib.hid h1
  have HS := Lib.hid eS
  have HJ2 := Lib.hid ej2
  have hsw : ((w.alloc (.cells #[.pointer (some ⟨p, 0, none⟩)] 23)).alloc (.cells #[.int .i64 a] 3)).heap.size = w.heap.size + 2 := by simp
  have HSW := Lib.hid hsw
  obtain ⟨b0, hb0⟩ : ∃ b, b = w.heap.size := ⟨_, rfl⟩
  rw [← hb0] at r1 r2 hLb
  have HB0 := Lib.hid hb0
  have hxx := hlS
  generalize (P.sp a).room = zr at k1
  generalize (P.sp a).users = zu at k2
  generalize (P.sp a).parent = zp at k3
  generalize (P.sp a).portal = zq at k4
  have b1 := r1.cell 0 rfl
  have b2 := r2.cell 0 rfl
  have R1 := Lib.hid r1
  have R2 := Lib.hid r2
  clear h h1 hok kf ej eS ej2 m0 hsz hsw r1 r2 o1 hb0
  go_enter Tryz.func19, Tryz.ntmps19
  go_wp2_with fail
  rw [show w.heap.size = b0 from HB0.out.symm]
  generalize ((w.alloc (.cells #[.pointer (some ⟨p, 0, none⟩)] 23)).alloc (.cells #[.int .i64 a] 3)) = w1 at *
  refine hs.mono ?_
  rintro e _ ⟨rfl, rfl⟩
  go_wp2_with fail
  go_region
  have H2 : PRep ((((((w1.setCell ⟨g, j * 5, none⟩ (.int .i64 sz)).setCell ⟨g, j * 5 + 1, none⟩ (.int .i64 sz)).setCell ⟨g, j * 5 + 2, none⟩ (.int .i64 0)).setCell ⟨g, j * 5 + 3, none⟩ (.int .i64 0)).setCell ⟨g, j * 5 + 4, none⟩ (.int .i64 0)).drew) L p (P.setSp a ⟨sz, sz, 0, 0, 0⟩) X := (H1.out.setAll HS.out hj HJ2.out hlS ⟨sz, sz, 0, 0, 0⟩).drew
  have O2 : OnlyP (fun k => L k ≠ none) w ((((((w1.setCell ⟨g, j * 5, none⟩ (.int .i64 sz)).setCell ⟨g, j * 5 + 1, none⟩ (.int .i64 sz)).setCell ⟨g, j * 5 + 2, none⟩ (.int .i64 0)).setCell ⟨g, j * 5 + 3, none⟩ (.int .i64 0)).setCell ⟨g, j * 5 + 4, none⟩ (.int .i64 0)).drew) := (O1.out.setCells (b := g) (.inl (by rw [hlS]; simp)) [.int .i64 sz, .int .i64 sz, .int .i64 0, .int .i64 0, .int .i64 0] (j * 5)).drew
  have O12 : OnlyP (fun k => L k ≠ none) w1 ((((((w1.setCell ⟨g, j * 5, none⟩ (.int .i64 sz)).setCell ⟨g, j * 5 + 1, none⟩ (.int .i64 sz)).setCell ⟨g, j * 5 + 2, none⟩ (.int .i64 0)).setCell ⟨g, j * 5 + 3, none⟩ (.int .i64 0)).setCell ⟨g, j * 5 + 4, none⟩ (.int .i64 0)).drew) := ((OnlyP.refl (fun k => L k ≠ none) w1).setCells (b := g) (.inl (by rw [hlS]; simp)) [.int .i64 sz, .int .i64 sz, .int .i64 0, .int .i64 0, .int .i64 0] (j * 5)).drew
  generalize ((((((w1.setCell ⟨g, j * 5, none⟩ (.int .i64 sz)).setCell ⟨g, j * 5 + 1, none⟩ (.int .i64 sz)).setCell ⟨g, j * 5 + 2, none⟩ (.int .i64 0)).setCell ⟨g, j * 5 + 3, none⟩ (.int .i64 0)).setCell ⟨g, j * 5 + 4, none⟩ (.int .i64 0)).drew) = w2 at *
  have hl0 := hLb b0 (Nat.le_refl _)
  have hl1 := hLb (b0 + 1) (by omega)
  have b1 := O12.cell b1 (by simp [hl0])
  have b2 := O12.cell b2 (by simp [hl1])
  have m6 := H2.cells.2.2.1
  obtain ⟨mb, hmb⟩ : ∃ m, m = X.mb := ⟨_, rfl⟩
  have hlm : L mb = some .map := by rw [hmb]; exact H2.Lp
  rw [← hmb] at m6
  have hbm : b0 + 1 ≠ mb := by intro e; rw [← e, hl1] at hlm; cases hlm
  have hdel := deleteFunc_any w2 mb P.made (b0 + 1) (fun k => (P.ob k).map fun _ => X.blk k) (arOf P.ob) a (by rw [hmb]; exact H2.mp) b2 hbm (fun k b hb => by
    cases ho : P.ob k with
    | none => rw [ho] at hb; cases hb
    | some t =>
      rw [ho] at hb
      simp at hb
      subst hb
      obtain ⟨⟨T, hr⟩, hlt, _⟩ := H2.th k t ho
      exact ⟨by rw [show arOf P.ob k = t.area by unfold arOf; rw [ho]]; exact hr.cell 0 rfl, fun e => by rw [e, hlm] at hlt; cases hlt⟩)
  have HMB := Lib.hid hmb
  have HH2 := Lib.hid H2
  have HO2 := Lib.hid O2
  have HO12 := Lib.hid O12
  have HLM := Lib.hid hlm
  have HL0 := Lib.hid hl0
  have HL1 := Lib.hid hl1
  clear H2 O2 O12 hmb hlm hl0 hl1 c0 k1 k2 k3 k4 f0 f1 f2 f3 f4 hs hbm hxx
  go_wp2_with fail
  refine hdel.mono ?_
  clear hdel
  rintro e w3 ⟨⟨v3, rfl⟩, hm3, ho3⟩
  have e3 := keepAr_del P.ob X.blk a
  have hm3 := hm3.congr e3
  have hO3 : OnlyP (fun k => L k = some .map) w2 w3 := ho3.mono (fun x hx => .inl (by rw [hx]; exact HLM.out))
  have H3 : PRep w3 L p { P.setSp a ⟨sz, sz, 0, 0, 0⟩ with ob := delOb P.ob a } X := HH2.out.mapTurn hO3 (by rw [← HMB.out]; exact hm3) (fun k t hk => by
    unfold delOb at hk
    cases ho : P.ob k with
    | none => rw [ho] at hk; cases hk
    | some u =>
      rw [ho] at hk
      show P.ob k = some t
      rw [ho]
      by_cases e : u.area = a
      · simp [e] at hk
      · simp [e] at hk; rw [hk])
  have O3 : OnlyP (fun k => L k ≠ none) w w3 := HO2.out.trans hO3 (fun x hx => .inl (by rw [hx]; simp))
  have b1 := hO3.cell b1 (by rw [HL0.out]; simp)
  have b2 := hO3.cell b2 (by rw [HL1.out]; simp)
  have m6 := H3.cells.2.2.1
  rw [← HMB.out] at m6
  have h3s := O3.size
  have hb3 : b0 + 1 < w3.heap.size := World.block_lt_of_cell? w3 _ b2
  have hlp : L p = some .mem := H3.Lm
  have HH3 := Lib.hid H3
  have HO3 := Lib.hid O3
  have HM3 := Lib.hid hm3
  have HLP := Lib.hid hlp
  have HE3 := Lib.hid e3
  clear hm3 ho3 hO3 H3 O3 HH2 HO2 HO12 hlp e3 HE3
  obtain ⟨D0, hown, hdat0⟩ := HM3.out
  have hdat : DatIs D0 (fun k => (delOb P.ob a k).map fun _ => X.blk k) := hdat0
  have HD := Lib.hid hdat
  clear hdat hdat0
  go_wp2_with (at_range; refine wpList_range_own _ rfl _ 41 rfl 3 53 keyedI Tryz.underlying41 ptrElem mb P.made D0 rfl hown ?_; intro w4 hrg0 hg0 hs0)
  go_frame
  have hlr : L w3.heap.size = none := by
    have := HO3.out.size
    have := HB0.out
    exact hLb _ (by omega)
  obtain ⟨ri, hri⟩ : ∃ r, r = w3.heap.size := ⟨_, rfl⟩
  rw [← hri] at hlr hrg0 ⊢
  have HRI := Lib.hid hri
  have HLR := Lib.hid hlr
  have O34 : OnlyP (fun k => L k ≠ none) w3 w4 := (OnlyP.refl _ w3).grown hg0 (fun k hk => by cases hk)
  have H4 : PRep w4 L p { P.setSp a ⟨sz, sz, 0, 0, 0⟩ with ob := delOb P.ob a } X := HH3.out.only (S := fun _ => False) ((OnlyP.refl _ w3).grown hg0 (fun k hk => by cases hk)) (fun _ x => x.elim)
  have hdp : ∀ k t, delOb P.ob a k = some t → P.ob k = some t := fun k t hk => by
    unfold delOb at hk
    cases ho : P.ob k with
    | none => rw [ho] at hk; cases hk
    | some u =>
      rw [ho] at hk
      by_cases e : u.area = a
      · simp [e] at hk
      · simp [e] at hk; rw [hk]
  have HDP := Lib.hid hdp
  obtain ⟨ob2, hob2⟩ : ∃ o, o = delOb P.ob a := ⟨_, rfl⟩
  rw [← hob2] at HDP HD H4
  have HOB := Lib.hid hob2
  clear hob2 hdp hlr hri hown
  have HB1 := Lib.hid b1
  have HB2 := Lib.hid b2
  have HM6 := Lib.hid m6
  clear b1 b2 m6
  go_loopw [6] (fun _ wr => ∃ left cnt rv, wr.ranges Tryz.prog 3 ptrElem mb ri P.made D0 left cnt ∧ PRep wr L p { P.setSp a ⟨sz, sz, 0, 0, 0⟩ with ob := midOb ob2 left } { X with rv := rv } ∧ OnlyP (fun k => L k ≠ none) w3 wr) (fun _ wr => wr.rangeLeft mb ri)
  case atStart =>
    refine ⟨_, _, X.rv, hrg0, ?_, O34⟩
    have e : midOb ob2 (Maps.has D0) = ob2 := by
      funext k
      unfold midOb
      by_cases hw : wfI k
      · have := (HD.out k hw).1
        cases ho : ob2 k with
        | none => simp
        | some t => simp only [ho] at this; rw [if_pos (by rw [this]; rfl)]
      · have hn : ob2 k = none := by
          cases ho : ob2 k with
          | none => rfl
          | some t =>
            have h1 := HOK.out.th k t (HDP.out k t ho)
            have h5 := HOK.out.md
            exact absurd (wfI_mk (k := k) (by omega)) hw
        rw [hn]; simp
    rw [e]
    exact H4
  case round =>
    clear hrg0 hg0 hs0 O34 H4
    obtain ⟨left, cnt, rv, hrg, hH, hO⟩ := hrel
    have HRG := Lib.hid hrg
    have HH := Lib.hid hH
    have HO := Lib.hid hO
    clear hrg hH hO
    go_wp2_with (at_next; refine wpList_next_things rfl _ rfl mb ri P.made D0 left cnt _ HD.out rfl HRG.out ?_ ?_)
    · intro _ hl0
      go_wp2_with fail
      go_end0
      refine hR.out _ _ ⟨⟨_, rfl⟩, { X with rv := rv }, ?_, HO3.out.trans HO.out (fun x hx => .inl hx)⟩
      have e : ({ P.setSp a ⟨sz, sz, 0, 0, 0⟩ with ob := midOb ob2 left } : Pm) = P.reset a := by
        unfold Pm.reset
        rw [HSZ.out]
        have : midOb ob2 left = resetOb P.ob a := by
          funext k
          unfold midOb resetOb
          rw [if_neg (by rw [hl0]; simp), HOB.out]
        rw [this]
      rw [← e]
      exact HH.out
    · intro k c w5 cnt5 hwk hlk t ht hc hrg5 hlt hg5 hs5 hen
      have O5 : OnlyP (· = ri) wr w5 := (OnlyP.refl _ wr).grown hg5 (fun j hj => by cases hj; exact .inl rfl)
      have H5 : PRep w5 L p { P.setSp a ⟨sz, sz, 0, 0, 0⟩ with ob := midOb ob2 left } { X with rv := rv } := HH.out.only O5 (fun x hx => by rw [hx]; exact HLR.out)
      have O35 : OnlyP (fun k => L k ≠ none) w3 w5 := HO.out.trans O5 (fun x hx => .inr (by rw [hx, HRI.out]; exact Nat.le_refl _))
      have hmk : midOb ob2 left k = some t := by unfold midOb; rw [if_pos hlk, ht]
      obtain ⟨⟨T, hrow⟩, hlt', hints, hown⟩ := H5.th k t hmk
      have hrow : Row w5 c T [.int .i64 t.area, .int .i64 t.blocks, rv k] := by rw [← hc]; exact hrow
      have hlc : L c = some (.th k) := by rw [← hc]; exact hlt'
      have hok := HOK.out.th k t (HDP.out k t ht)
      have hsee : Sees w5 b0 p mb P.made (fun k => (ob2 k).map fun _ => X.blk k) := ⟨O35.cell HB1.out (by simp [HL0.out]), by rw [H5.cells.2.2.1, HMB.out], hrg5.owns |> fun h => ⟨D0, h, HD.out⟩⟩
      have hdl := sliceDelete2_any w5 b0 p mb P.made 0 _ hsee (rv k) t.refs hints (fun y hy => wfI_mk (by have := hok.2.2.2.2.2.2.2 y hy; omega)) (by have := hok.2.2.2.2.2.2.1; omega) (fun g hg => by
        have := hown g hg
        refine ⟨?_, ?_, ?_⟩
        · rintro rfl; rw [HL0.out] at this; cases this
        · rintro rfl; rw [HLP.out] at this; cases this
        · rintro rfl; rw [HLM.out] at this; cases this)
      have c2 := hrow.cell 2 rfl
      have hb5 := O35.cell HB1.out (by simp [HL0.out])
      have hmeas : cnt5 < wr.rangeLeft mb ri := by rw [HRG.out.left_eq]; exact hlt
      have HH5 := Lib.hid H5
      have HOWN := Lib.hid hown
      have HO35 := Lib.hid O35
      have HROW := Lib.hid hrow
      have HRG5 := Lib.hid hrg5
      have HT := Lib.hid ht
      have HC := Lib.hid hc
      have HMK := Lib.hid hmk
      have HLC := Lib.hid hlc
      clear O5 H5 O35 hmk hrow hints hown hsee hrg5 ht hc hok hlk hlt' hlc hg5 hs5 hlt
      go_wp2_with fail
      refine hdl.mono ?_
      clear hdl
      rintro e w6 ⟨v', rfl, hi6, hown6, ho6⟩
      obtain ⟨av, cv, hv'⟩ := hi6.len
      generalize (List.filter (keepF fun k => (ob2 k).map fun _ => X.blk k) t.refs).length = nv at hv'
      subst hv'
      have hcn : c ∉ (rv k).ownBlock.toList := by
        intro hx
        cases e : (rv k).ownBlock with
        | none => rw [e] at hx; simp at hx
        | some b => rw [e] at hx; simp at hx; subst hx; have := HOWN.out _ e; rw [HLC.out] at this; cases this
      have hr6 := ho6.row HROW.out hcn
      have c6 := hr6.cell 2 rfl
      have f6 := hr6.free 2
      obtain ⟨L', q1, _, _, q4⟩ := HH5.out.refTurn HMK.out (v := .slice av nv cv) ho6 hi6 (fun g hg => .inl (by rw [← hown6]; exact hg))
      obtain rfl := q4 (fun g hg => by rw [← hown6]; exact hg)
      have q1 : PRep (w6.setCell ⟨c, 2, none⟩ (.slice av nv cv)) L' p { P.setSp a ⟨sz, sz, 0, 0, 0⟩ with ob := setOb (midOb ob2 left) k { t with refs := t.refs.filter (keepF fun k => (ob2 k).map fun _ => X.blk k) } } { X with rv := fun j => if j = k then (.slice av nv cv) else rv j } := by
        have := q1
        rw [show ({ X with rv := rv } : PX).blk k = c from HC.out] at this
        exact this
      have OS : OnlyP (fun j => L' j ≠ none) w5 (w6.setCell ⟨c, 2, none⟩ (.slice av nv cv)) := OnlyP.set (ho6.toP (fun x hx => .inl (by
        cases e : (rv k).ownBlock with
        | none => rw [e] at hx; simp at hx
        | some b => rw [e] at hx; simp at hx; subst hx; rw [HOWN.out _ e]; simp))) (.inl (by rw [HLC.out]; simp)) (.slice av nv cv)
      have RG6 : (w6.setCell ⟨c, 2, none⟩ (.slice av nv cv)).ranges Tryz.prog 3 ptrElem mb ri P.made D0 (fun z => left z && !z.sameKey (.int .i64 k)) cnt5 := ranges_only HRG5.out (S := fun j => L' j = some (.th k) ∨ L' j = some (.rf k)) (OnlyP.set (ho6.toP (fun x hx => .inl (.inr (by
        cases e : (rv k).ownBlock with
        | none => rw [e] at hx; simp at hx
        | some b => rw [e] at hx; simp at hx; subst hx; exact HOWN.out _ e)))) (.inl (.inl HLC.out)) (.slice av nv cv)) (by rw [HLM.out]; simp) (by rw [HLR.out]; simp)
      have Q1 := Lib.hid q1
      have HOS := Lib.hid OS
      have HRG6 := Lib.hid RG6
      clear q1 q4 OS RG6 hi6 hown6 ho6 hr6
      go_wp2_with fail
      refine ⟨⟨_, cnt5, fun j => if j = k then (.slice av nv cv) else rv j, HRG6.out, ?_, HO35.out.trans HOS.out (fun x hx => .inl hx)⟩, by rw [HRG6.out.left_eq]; exact hmeas⟩
      have e : midOb ob2 (fun z => left z && !z.sameKey (.int .i64 k)) = setOb (midOb ob2 left) k { t with refs := t.refs.filter (keepF fun k => (ob2 k).map fun _ => X.blk k) } := by
        funext j
        unfold setOb
        by_cases e : j = k
        · subst e
          rw [if_pos rfl]
          unfold midOb
          simp only [sameI j j hwk, decide_true, Bool.not_true, Bool.and_false, Bool.false_eq_true, if_false]
          rw [HT.out]
          simp only [Option.map_some, cutRefs]
          congr 2
          refine List.filter_congr (fun y hy => ?_)
          unfold keepF
          simp
        · rw [if_neg e]
          unfold midOb
          simp only [sameI j k hwk]
          simp [e]
      rw [e]
      exact Q1.out
end
end Go.Proofs.YtkacgbigeobncaaGreat
