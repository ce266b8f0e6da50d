/- Lemmas of this claim. -/
import Derived.Test.YtkacgbigeobncaaGreatTaScopeJ
namespace Go.Proofs.YtkacgbigeobncaaGreat
open Go.RowKit Go.Maps
set_option maxHeartbeats 3200000
set_option maxRecDepth 100000
set_option linter.unusedVariables false
section
variable {L : Nat → Option Lb} {p : Nat} {P : Pm} {X : PX} {w : World}
theorem alloc_bad (w : World) (h : PRep w L p P X) (t b : Int) (hT : (isT t && decide (1 ≤ b ∧ b ≤ 8)) = false) : Calls Tryz.prog 7 #[.pointer (some ⟨p, 0, none⟩), .int .i64 t, .int .i64 b] w (Exact w (.tuple #[.int .i64 0, .int .i64 1])) := by
  refine calls_abs fun R hR => ?_
  have hi := isThread_any w t
  cases hT1 : isT t
  · rw [hT1] at hi
    clear hT hT1
    go_enter Tryz.func7, Tryz.ntmps7
    go_wp2_with fail
    refine (none_rep _ h).mono ?_
    rintro e _ ⟨rfl, rfl⟩
    go_wp2_with fail
    refine hi.mono ?_
    rintro e _ ⟨rfl, rfl⟩
    go_wp2_with fail
    exact hR.out _ _ ⟨rfl, rfl⟩
  · rw [hT1] at hi hT
    have hb : b < 1 ∨ 8 < b := by simp at hT; omega
    clear hT hT1
    rcases hb with hb | hb
    · go_enter Tryz.func7, Tryz.ntmps7
      go_wp2_with fail
      refine (none_rep _ h).mono ?_
      rintro e _ ⟨rfl, rfl⟩
      go_wp2_with fail
      refine hi.mono ?_
      rintro e _ ⟨rfl, rfl⟩
      go_wp2_with fail
      exact hR.out _ _ ⟨rfl, rfl⟩
    · have hb1 : ¬ b < 1 := by omega
      go_enter Tryz.func7, Tryz.ntmps7
      go_wp2_with fail
      refine (none_rep _ h).mono ?_
      rintro e _ ⟨rfl, rfl⟩
      go_wp2_with fail
      refine hi.mono ?_
      rintro e _ ⟨rfl, rfl⟩
      go_wp2_with fail
      exact hR.out _ _ ⟨rfl, rfl⟩
theorem PRep.newOb {w' : World} (h : PRep w L p P X) {b : Nat} {t : Th} (ht : t.refs = []) (hg : OnlyP (fun k => L k = some .mem ∨ L k = some .map) w w') (hm : ∃ T, Row w' p T (memRow X (P.made + 1))) (hmp : MapAt w' X.mb (P.made + 1) (fun j => if j = (P.made : Int) + 1 then some b else (P.ob j).map fun _ => X.blk j))
    (hb : w.heap.size ≤ b) (hb2 : b < w'.heap.size) (hr : ∃ T, Row w' b T [.int .i64 t.area, .int .i64 t.blocks, .slice none 0 0]) :
    ∃ L' X', PRep w' L' p (P.withOb t) X' ∧ (∀ k, L' k ≠ none → L k ≠ none ∨ w.heap.size ≤ k) := by
  obtain ⟨L', hL'⟩ : ∃ L' : Nat → Option Lb, L' = fun k => if k = b then some (.th ((P.made : Int) + 1)) else L k := ⟨_, rfl⟩
  have hlab : ∀ k, L k ≠ none → L' k = L k := fun k hk => by
    rw [hL']
    have := h.lt k hk
    simp only
    rw [if_neg (by omega)]
  have hne2 : ∀ j ℓ, ℓ ≠ Lb.mem → ℓ ≠ .map → (L j = some .mem ∨ L j = some .map) → L j ≠ some ℓ := fun j ℓ h1 h2 hj e => by
    rcases hj with hj | hj
    · rw [hj] at e; cases e; exact h1 rfl
    · rw [hj] at e; cases e; exact h2 rfl
  refine ⟨L', { X with blk := fun j => if j = (P.made : Int) + 1 then b else X.blk j, rv := fun j => if j = (P.made : Int) + 1 then .slice none 0 0 else X.rv j }, ⟨fun k hk => ?_, hm, lab_of hlab h.Lm, (h.sc.only hg (fun j hj => hne2 j .scp (by simp) (by simp) hj)).lab hlab,
    fun s hs => ⟨(h.st s hs).1.onlyP hg (fun g hgv x => hne2 g (.stk s) (by simp) (by simp) x ((h.st s hs).2 g hgv)), fun g hgv => lab_of hlab ((h.st s hs).2 g hgv)⟩, hmp.congr (fun j => ?_), lab_of hlab h.Lp, fun j u hj => ?_⟩, fun k hk => ?_⟩
  · rw [hL'] at hk
    by_cases e : k = b
    · rw [e]; exact hb2
    · simp only [e, if_false] at hk
      exact Nat.lt_of_lt_of_le (h.lt k hk) hg.size
  · show _ = (if j = (P.made : Int) + 1 then some t else P.ob j).map fun _ => if j = (P.made : Int) + 1 then b else X.blk j
    by_cases e : j = (P.made : Int) + 1
    · simp [e]
    · simp [e]
  · have hj' : (if j = (P.made : Int) + 1 then some t else P.ob j) = some u := hj
    by_cases e : j = (P.made : Int) + 1
    · rw [if_pos e] at hj'
      cases hj'
      show ThAt w' L' j (if j = (P.made : Int) + 1 then b else X.blk j) (if j = (P.made : Int) + 1 then .slice none 0 0 else X.rv j) t
      rw [if_pos e, if_pos e]
      refine ⟨hr, by rw [hL', e]; simp, by rw [ht]; exact Ints.nil _ _, fun g hgv => by cases hgv⟩
    · rw [if_neg e] at hj'
      show ThAt w' L' j (if j = (P.made : Int) + 1 then b else X.blk j) (if j = (P.made : Int) + 1 then .slice none 0 0 else X.rv j) u
      rw [if_neg e, if_neg e]
      exact ((h.th j u hj').only hg (fun x hx => ⟨hne2 x _ (by simp) (by simp) hx, hne2 x _ (by simp) (by simp) hx⟩)).lab hlab
  · rw [hL'] at hk
    by_cases e : k = b
    · rw [e]; exact .inr hb
    · simp only [e, if_false] at hk; exact .inl hk
theorem alloc_some (w : World) (h : PRep w L p P X) (hok : P.ok) (t : Nat) (ht : t < 5) (b : Int) (hb : 1 ≤ b ∧ b ≤ 8) :
    Calls Tryz.prog 7 #[.pointer (some ⟨p, 0, none⟩), .int .i64 t, .int .i64 b] w (DidN w L p (P.alloc t b)) := by
  refine calls_abs fun R hR => ?_
  have hi := isThread_any w t
  have hTt : isT (t : Int) = true := by unfold isT; simp; omega
  have hd0 : Hid (P.alloc t b = if 2 ≤ top (P.stk t) ∧ (P.sp (top (P.stk t))).room < b then (0, 14, P) else if 500 ≤ P.made then (0, 2, P) else ((P.made : Int) + 1, 0, (P.taken (top (P.stk t)) b).withOb ⟨top (P.stk t), b, []⟩)) := by
    show _ = _
    unfold Pm.alloc
    rw [hTt]
    simp only [hb, and_self, decide_true, Bool.and_true, if_true, Int.toNat_natCast]
  rw [hTt] at hi
  have hcu := current_rep w h hok t ht
  have htm := hok.sa t ht _ (top_mem (hok.s1 t ht).1)
  generalize top (P.stk t) = a at *
  obtain ⟨hb1, hb8⟩ := hb
  have H := Lib.hid h
  have HOK := Lib.hid hok
  clear h hok hTt
  by_cases h2 : 2 ≤ a
  · by_cases hrm : (P.sp a).room < b
    · have hr : Hid (P.alloc t b = (0, 14, P)) := by show _ = _; rw [hd0.out, if_pos ⟨h2, hrm⟩]
      clear hd0
      go_enter Tryz.func7, Tryz.ntmps7
      go_wp2_with fail
      refine (none_rep _ H.out).mono ?_
      rintro e _ ⟨rfl, rfl⟩
      go_wp2_with fail
      refine hi.mono ?_
      rintro e _ ⟨rfl, rfl⟩
      go_wp2_with fail
      refine hcu.mono ?_
      rintro e _ ⟨rfl, m, rfl⟩
      have H1 := H.out.drewN m
      obtain ⟨j, g', capS, ej, hj, ej2, eS, hlS, c0, k1, k2, k3, k4, kf⟩ := H1.sp5 h2 htm.2
      have m0 := H1.cells.1
      rw [eS] at m0
      have hs := scope_at (w.drewN m) p g' P.n capS j a m0 ej hj HOK.out.n6
      clear ej ej2 eS m0 c0 k2 k3 k4 kf H1
      go_wp2_with fail
      refine hs.mono ?_
      rintro e _ ⟨rfl, rfl⟩
      go_wp2_with fail
      refine hR.out _ _ ?_
      unfold DidN
      rw [hr.out]
      exact Did.none H.out (Drew.of _ _)
    · by_cases h5 : 500 ≤ P.made
      · have hr : Hid (P.alloc t b = (0, 2, P)) := by show _ = _; rw [hd0.out, if_neg (fun x => hrm x.2), if_pos h5]
        clear hd0
        go_enter Tryz.func7, Tryz.ntmps7
        go_wp2_with fail
        refine (none_rep _ H.out).mono ?_
        rintro e _ ⟨rfl, rfl⟩
        go_wp2_with fail
        refine hi.mono ?_
        rintro e _ ⟨rfl, rfl⟩
        go_wp2_with fail
        refine hcu.mono ?_
        rintro e _ ⟨rfl, m, rfl⟩
        have H1 := H.out.drewN m
        obtain ⟨j, g', capS, ej, hj, ej2, eS, hlS, c0, k1, k2, k3, k4, kf⟩ := H1.sp5 h2 htm.2
        have m0 := H1.cells.1
        rw [eS] at m0
        have hs := scope_at (w.drewN m) p g' P.n capS j a m0 ej hj HOK.out.n6
        have f1 := kf 1 (by omega)
        have m7 := H1.cells.2.2.2.1
        have f7 := H1.cells.2.2.2.2 7
        have HS := Lib.hid eS
        have HJ := Lib.hid ej2
        have hpg : p ≠ g' := by rintro rfl; have := H1.Lm; rw [hlS] at this; cases this
        have HH1 := Lib.hid H1
        obtain ⟨rm, hrm'⟩ : ∃ x, x = (P.sp a).room := ⟨_, rfl⟩
        rw [← hrm'] at k1 hrm
        have hsp := HOK.out.sp a h2 htm.2
        rw [← hrm'] at hsp
        have HRM := Lib.hid hrm'
        obtain ⟨mm, hmm⟩ : ∃ x, x = P.made := ⟨_, rfl⟩
        rw [← hmm] at m7
        have HMM := Lib.hid hmm
        clear ej ej2 eS m0 c0 k2 k3 k4 kf H1 hrm' hmm
        have h500 : (500 : Int) ≤ mm := by have := HMM.out; omega
        go_wp2_with fail
        refine hs.mono ?_
        rintro e _ ⟨rfl, rfl⟩
        go_wp2_with fail
        refine hR.out _ _ ?_
        unfold DidN
        rw [hr.out]
        exact Did.none H.out (Drew.of _ _)
      · have hr : Hid (P.alloc t b = ((P.made : Int) + 1, 0, (P.taken a b).withOb ⟨a, b, []⟩)) := by show _ = _; rw [hd0.out, if_neg (fun x => hrm x.2), if_neg h5]
        clear hd0
        go_enter Tryz.func7, Tryz.ntmps7
        go_wp2_with fail
        refine (none_rep _ H.out).mono ?_
        rintro e _ ⟨rfl, rfl⟩
        go_wp2_with fail
        refine hi.mono ?_
        rintro e _ ⟨rfl, rfl⟩
        go_wp2_with fail
        refine hcu.mono ?_
        rintro e _ ⟨rfl, m, rfl⟩
        have H1 := H.out.drewN m
        obtain ⟨j, g', capS, ej, hj, ej2, eS, hlS, c0, k1, k2, k3, k4, kf⟩ := H1.sp5 h2 htm.2
        have m0 := H1.cells.1
        rw [eS] at m0
        have hs := scope_at (w.drewN m) p g' P.n capS j a m0 ej hj HOK.out.n6
        have f1 := kf 1 (by omega)
        have m7 := H1.cells.2.2.2.1
        have f7 := H1.cells.2.2.2.2 7
        have HS := Lib.hid eS
        have HJ := Lib.hid ej2
        have hpg : p ≠ g' := by rintro rfl; have := H1.Lm; rw [hlS] at this; cases this
        have HH1 := Lib.hid H1
        obtain ⟨rm, hrm'⟩ : ∃ x, x = (P.sp a).room := ⟨_, rfl⟩
        rw [← hrm'] at k1 hrm
        have hsp := HOK.out.sp a h2 htm.2
        rw [← hrm'] at hsp
        have HRM := Lib.hid hrm'
        obtain ⟨mm, hmm⟩ : ∃ x, x = P.made := ⟨_, rfl⟩
        rw [← hmm] at m7
        have HMM := Lib.hid hmm
        clear ej ej2 eS m0 c0 k2 k3 k4 kf H1 hrm' hmm
        have h500 : ¬ (500 : Int) ≤ mm := by have := HMM.out; omega
        have hmm500 : mm < 500 := by omega
        clear h500
        go_wp2_with fail
        refine hs.mono ?_
        rintro e _ ⟨rfl, rfl⟩
        go_wp2_with fail
        have H2 : PRep ((w.drewN m).setCell ⟨g', j * 5 + 1, none⟩ (.int .i64 (rm - b))) L p (P.taken a b) X := by
          have := HH1.out.field HS.out hj HJ.out hlS (r := 1) (x := rm - b) (by omega) (s := { P.sp a with room := (P.sp a).room - b }) (by show (P.sp a).room - b = _; rw [← HRM.out]) (fun q hq hne => by
            match q, hq with | 0, _ => rfl | 1, _ => exact absurd rfl hne | 2, _ => rfl | 3, _ => rfl | 4, _ => rfl)
          unfold Pm.taken
          rw [if_pos h2]
          exact this
        have O2 : OnlyP (fun k => L k ≠ none) w ((w.drewN m).setCell ⟨g', j * 5 + 1, none⟩ (.int .i64 (rm - b))) := ((OnlyP.refl _ w).drewN m).set (.inl (by rw [hlS]; simp)) _
        generalize hw2 : ((w.drewN m).setCell ⟨g', j * 5 + 1, none⟩ (.int .i64 (rm - b))) = w2 at *
        clear hw2
        have hmd : (P.taken a b).made = mm := by rw [HMM.out]; unfold Pm.taken; split <;> rfl
        obtain ⟨T, hrow⟩ := H2.mem
        rw [hmd] at hrow
        have hrow3 := hrow.set 7 (.int .i64 ((mm : Int) + 1))
        have O3 : OnlyP (· = p) w2 (w2.setCell ⟨p, 7, none⟩ (.int .i64 ((mm : Int) + 1))) := (OnlyP.refl (· = p) w2).set (p := ⟨p, 7, none⟩) (.inl rfl) _
        generalize (w2.setCell ⟨p, 7, none⟩ (.int .i64 ((mm : Int) + 1))) = w3 at *
        have c6 := hrow3.cell 6 rfl
        have c7 : w3.cell? ⟨p, 7, none⟩ = some (.int .i64 ((mm : Int) + 1)) := hrow3.cell 7 rfl
        obtain ⟨mb, hmb⟩ : ∃ x, x = X.mb := ⟨_, rfl⟩
        rw [← hmb] at c6
        have hpm : mb ≠ p := by rintro rfl; have := H2.Lm; rw [hmb, H2.Lp] at this; cases this
        have hmp : MapAt w3 mb mm (fun k => ((P.taken a b).ob k).map fun _ => X.blk k) := by
          have := H2.mp
          rw [hmd, ← hmb] at this
          exact this.only O3 hpm
        have hmbl := hmp.lt
        have HMP := Lib.hid ((hmp.only ((OnlyP.refl (fun _ => False) w3).drew) (fun x => x)).only ((OnlyP.refl (fun _ => False) w3.drew).alloc (.cells #[.int .i64 a, .int .i64 b, .slice none 0 0] 55)) (fun x => x))
        have HR3 := Lib.hid hrow3
        have HO3 := Lib.hid O3
        have HO2 := Lib.hid O2
        have HH2 := Lib.hid H2
        have HMB := Lib.hid hmb
        have HMD := Lib.hid hmd
        have HPM := Lib.hid hpm
        clear hrow hrow3 O3 O2 H2 hmb hmp hmd hpm
        obtain ⟨w5, hrun5, hm5, hg5⟩ := HMP.out.store (by omega) (k := (mm : Int) + 1) (wfI_mk (by omega)) w3.heap.size
        have hrun5' : (Instr.mapUpdate 41 (.map (some mb)) (.int .i64 ((mm : Int) + 1)) (.pointer (some ⟨w3.heap.size, 0, none⟩))).run Tryz.prog ((w3.alloc (.cells #[.int .i64 a, .int .i64 b, .slice none 0 0] 55)).drew) = .ok () w5 := hrun5
        have c75 : w5.cell? ⟨p, 7, none⟩ = some (.int .i64 ((mm : Int) + 1)) := ((((OnlyP.refl (· = mb) w3).drew).alloc _).grown hg5 (fun k hk => by cases hk; exact .inl rfl)).cell c7 (fun x => HPM.out x.symm)
        have c65 : w5.cell? ⟨p, 6, none⟩ = some (.map (some mb)) := ((((OnlyP.refl (· = mb) w3).drew).alloc _).grown hg5 (fun k hk => by cases hk; exact .inl rfl)).cell c6 (fun x => HPM.out x.symm)
        have HM5 := Lib.hid hm5
        have HG5 := Lib.hid hg5
        have hpl3 : p < w3.heap.size := World.block_lt_of_cell? w3 _ c7
        clear hm5 hg5
        go_region_held3 (fun w' => w'.cell? ⟨p, 6, none⟩ = some (.map (some mb)) ∧ w'.cell? ⟨p, 7, none⟩ = some (.int .i64 ((mm : Int) + 1))) (first | (go_keep; done) | (exact ⟨c65, c75⟩)) (fail)
        have hm5 := HM5.out
        have hg5 := HG5.out
        have hO5 : OnlyP (· = mb) w3 w5 := (((OnlyP.refl (· = mb) w3).drew).alloc _).grown hg5 (fun k hk => by cases hk; exact .inl rfl)
        have hs5 := hg5.size
        have hrow5 := hO5.row HR3.out (fun x => HPM.out x.symm)
        have hth5 : Row w5 w3.heap.size 55 [.int .i64 a, .int .i64 b, .slice none 0 0] := by
          have h1 : Row (w3.drew.alloc (.cells #[.int .i64 a, .int .i64 b, .slice none 0 0] 55)) w3.heap.size 55 [.int .i64 a, .int .i64 b, .slice none 0 0] := Row.new w3.drew _ [_, _, _]
          exact h1.grown hg5 (by intro e; cases e; omega)
        obtain ⟨L', X', q1, q2⟩ := HH2.out.newOb (w' := w5) (b := w3.heap.size) (t := ⟨a, b, []⟩) rfl ((HO3.out.mono (S' := fun k => L k = some .mem ∨ L k = some .map) (fun x hx => .inl (.inl (by rw [hx]; exact HH2.out.Lm)))).trans hO5 (fun x hx => .inl (.inr (by rw [hx, HMB.out]; exact HH2.out.Lp))))
          ⟨T, by rw [HMD.out]; exact hrow5⟩ (by rw [HMD.out, ← HMB.out]; exact hm5) HO3.out.size (by simp at hs5; omega) ⟨_, hth5⟩
        have QO : OnlyP (fun k => L k ≠ none) w w5 := (HO2.out.trans (HO3.out.mono (S' := fun k => L k ≠ none) (fun x hx => .inl (by rw [hx, HH2.out.Lm]; simp))) (fun x hx => .inl hx)).trans hO5 (fun x hx => .inl (by rw [hx, HMB.out, HH2.out.Lp]; simp))
        have Q1 := Lib.hid q1
        have Q2 := Lib.hid q2
        have HQO := Lib.hid QO
        clear q1 q2 QO hO5 hrow5 hth5 hm5 hg5
        go_wp2_with fail
        refine hR.out _ _ ?_
        unfold DidN
        rw [hr.out]
        refine ⟨by rw [HMM.out] <;> rfl, L', X', Q1.out, fun k hk => (Q2.out k hk).imp id (fun h => by have := HO2.out.size; omega), HQO.out⟩
  · by_cases h5 : 500 ≤ P.made
    · have hr : Hid (P.alloc t b = (0, 2, P)) := by show _ = _; rw [hd0.out, if_neg (fun x => h2 x.1), if_pos h5]
      clear hd0
      go_enter Tryz.func7, Tryz.ntmps7
      go_wp2_with fail
      refine (none_rep _ H.out).mono ?_
      rintro e _ ⟨rfl, rfl⟩
      go_wp2_with fail
      refine hi.mono ?_
      rintro e _ ⟨rfl, rfl⟩
      go_wp2_with fail
      refine hcu.mono ?_
      rintro e _ ⟨rfl, m, rfl⟩
      have H1 := H.out.drewN m
      have hs := scope_low (w.drewN m) (.pointer (some ⟨p, 0, none⟩)) a (by omega)
      have m7 := H1.cells.2.2.2.1
      have f7 := H1.cells.2.2.2.2 7
      have HH1 := Lib.hid H1
      obtain ⟨mm, hmm⟩ : ∃ x, x = P.made := ⟨_, rfl⟩
      rw [← hmm] at m7
      have HMM := Lib.hid hmm
      clear H1 hmm
      have h500 : (500 : Int) ≤ mm := by have := HMM.out; omega
      go_wp2_with fail
      refine hs.mono ?_
      rintro e _ ⟨rfl, rfl⟩
      go_wp2_with fail
      refine hR.out _ _ ?_
      unfold DidN
      rw [hr.out]
      exact Did.none H.out (Drew.of _ _)
    · have hr : Hid (P.alloc t b = ((P.made : Int) + 1, 0, (P.taken a b).withOb ⟨a, b, []⟩)) := by show _ = _; rw [hd0.out, if_neg (fun x => h2 x.1), if_neg h5]
      clear hd0
      go_enter Tryz.func7, Tryz.ntmps7
      go_wp2_with fail
      refine (none_rep _ H.out).mono ?_
      rintro e _ ⟨rfl, rfl⟩
      go_wp2_with fail
      refine hi.mono ?_
      rintro e _ ⟨rfl, rfl⟩
      go_wp2_with fail
      refine hcu.mono ?_
      rintro e _ ⟨rfl, m, rfl⟩
      have H1 := H.out.drewN m
      have hs := scope_low (w.drewN m) (.pointer (some ⟨p, 0, none⟩)) a (by omega)
      have m7 := H1.cells.2.2.2.1
      have f7 := H1.cells.2.2.2.2 7
      have HH1 := Lib.hid H1
      obtain ⟨mm, hmm⟩ : ∃ x, x = P.made := ⟨_, rfl⟩
      rw [← hmm] at m7
      have HMM := Lib.hid hmm
      clear H1 hmm
      have h500 : ¬ (500 : Int) ≤ mm := by have := HMM.out; omega
      have hmm500 : mm < 500 := by omega
      clear h500
      go_wp2_with fail
      refine hs.mono ?_
      rintro e _ ⟨rfl, rfl⟩
      go_wp2_with fail
      have H2 : PRep (w.drewN m) L p (P.taken a b) X := by
        unfold Pm.taken
        rw [if_neg (by omega)]
        exact HH1.out
      have O2 : OnlyP (fun k => L k ≠ none) w (w.drewN m) := (OnlyP.refl _ w).drewN m
      generalize hw2 : (w.drewN m) = w2 at *
      clear hw2
      have hmd : (P.taken a b).made = mm := by rw [HMM.out]; unfold Pm.taken; split <;> rfl
      obtain ⟨T, hrow⟩ := H2.mem
      rw [hmd] at hrow
      have hrow3 := hrow.set 7 (.int .i64 ((mm : Int) + 1))
      have O3 : OnlyP (· = p) w2 (w2.setCell ⟨p, 7, none⟩ (.int .i64 ((mm : Int) + 1))) := (OnlyP.refl (· = p) w2).set (p := ⟨p, 7, none⟩) (.inl rfl) _
      generalize (w2.setCell ⟨p, 7, none⟩ (.int .i64 ((mm : Int) + 1))) = w3 at *
      have c6 := hrow3.cell 6 rfl
      have c7 : w3.cell? ⟨p, 7, none⟩ = some (.int .i64 ((mm : Int) + 1)) := hrow3.cell 7 rfl
      obtain ⟨mb, hmb⟩ : ∃ x, x = X.mb := ⟨_, rfl⟩
      rw [← hmb] at c6
      have hpm : mb ≠ p := by rintro rfl; have := H2.Lm; rw [hmb, H2.Lp] at this; cases this
      have hmp : MapAt w3 mb mm (fun k => ((P.taken a b).ob k).map fun _ => X.blk k) := by
        have := H2.mp
        rw [hmd, ← hmb] at this
        exact this.only O3 hpm
      have hmbl := hmp.lt
      have HMP := Lib.hid ((hmp.only ((OnlyP.refl (fun _ => False) w3).drew) (fun x => x)).only ((OnlyP.refl (fun _ => False) w3.drew).alloc (.cells #[.int .i64 a, .int .i64 b, .slice none 0 0] 55)) (fun x => x))
      have HR3 := Lib.hid hrow3
      have HO3 := Lib.hid O3
      have HO2 := Lib.hid O2
      have HH2 := Lib.hid H2
      have HMB := Lib.hid hmb
      have HMD := Lib.hid hmd
      have HPM := Lib.hid hpm
      clear hrow hrow3 O3 O2 H2 hmb hmp hmd hpm
      obtain ⟨w5, hrun5, hm5, hg5⟩ := HMP.out.store (by omega) (k := (mm : Int) + 1) (wfI_mk (by omega)) w3.heap.size
      have hrun5' : (Instr.mapUpdate 41 (.map (some mb)) (.int .i64 ((mm : Int) + 1)) (.pointer (some ⟨w3.heap.size, 0, none⟩))).run Tryz.prog ((w3.alloc (.cells #[.int .i64 a, .int .i64 b, .slice none 0 0] 55)).drew) = .ok () w5 := hrun5
      have c75 : w5.cell? ⟨p, 7, none⟩ = some (.int .i64 ((mm : Int) + 1)) := ((((OnlyP.refl (· = mb) w3).drew).alloc _).grown hg5 (fun k hk => by cases hk; exact .inl rfl)).cell c7 (fun x => HPM.out x.symm)
      have c65 : w5.cell? ⟨p, 6, none⟩ = some (.map (some mb)) := ((((OnlyP.refl (· = mb) w3).drew).alloc _).grown hg5 (fun k hk => by cases hk; exact .inl rfl)).cell c6 (fun x => HPM.out x.symm)
      have HM5 := Lib.hid hm5
      have HG5 := Lib.hid hg5
      have hpl3 : p < w3.heap.size := World.block_lt_of_cell? w3 _ c7
      clear hm5 hg5
      go_region_held3 (fun w' => w'.cell? ⟨p, 6, none⟩ = some (.map (some mb)) ∧ w'.cell? ⟨p, 7, none⟩ = some (.int .i64 ((mm : Int) + 1))) (first | (go_keep; done) | (exact ⟨c65, c75⟩)) (fail)
      have hm5 := HM5.out
      have hg5 := HG5.out
      have hO5 : OnlyP (· = mb) w3 w5 := (((OnlyP.refl (· = mb) w3).drew).alloc _).grown hg5 (fun k hk => by cases hk; exact .inl rfl)
      have hs5 := hg5.size
      have hrow5 := hO5.row HR3.out (fun x => HPM.out x.symm)
      have hth5 : Row w5 w3.heap.size 55 [.int .i64 a, .int .i64 b, .slice none 0 0] := by
        have h1 : Row (w3.drew.alloc (.cells #[.int .i64 a, .int .i64 b, .slice none 0 0] 55)) w3.heap.size 55 [.int .i64 a, .int .i64 b, .slice none 0 0] := Row.new w3.drew _ [_, _, _]
        exact h1.grown hg5 (by intro e; cases e; omega)
      obtain ⟨L', X', q1, q2⟩ := HH2.out.newOb (w' := w5) (b := w3.heap.size) (t := ⟨a, b, []⟩) rfl ((HO3.out.mono (S' := fun k => L k = some .mem ∨ L k = some .map) (fun x hx => .inl (.inl (by rw [hx]; exact HH2.out.Lm)))).trans hO5 (fun x hx => .inl (.inr (by rw [hx, HMB.out]; exact HH2.out.Lp))))
        ⟨T, by rw [HMD.out]; exact hrow5⟩ (by rw [HMD.out, ← HMB.out]; exact hm5) HO3.out.size (by simp at hs5; omega) ⟨_, hth5⟩
      have QO : OnlyP (fun k => L k ≠ none) w w5 := (HO2.out.trans (HO3.out.mono (S' := fun k => L k ≠ none) (fun x hx => .inl (by rw [hx, HH2.out.Lm]; simp))) (fun x hx => .inl hx)).trans hO5 (fun x hx => .inl (by rw [hx, HMB.out, HH2.out.Lp]; simp))
      have Q1 := Lib.hid q1
      have Q2 := Lib.hid q2
      have HQO := Lib.hid QO
      clear q1 q2 QO hO5 hrow5 hth5 hm5 hg5
      go_wp2_with fail
      refine hR.out _ _ ?_
      unfold DidN
      rw [hr.out]
      refine ⟨by rw [HMM.out] <;> rfl, L', X', Q1.out, fun k hk => (Q2.out k hk).imp id (fun h => by have := HO2.out.size; omega), HQO.out⟩
theorem alloc_rep (w : World) (h : PRep w L p P X) (hok : P.ok) (t b : Int) :
    Calls Tryz.prog 7 #[.pointer (some ⟨p, 0, none⟩), .int .i64 t, .int .i64 b] w (DidN w L p (P.alloc t b)) := by
  cases hT : (isT t && decide (1 ≤ b ∧ b ≤ 8))
  · refine (alloc_bad w h t b hT).mono ?_
    rintro e _ ⟨rfl, rfl⟩
    have hr : P.alloc t b = (0, 1, P) := by unfold Pm.alloc; rw [hT]; rfl
    rw [hr]
    exact Did.none h (Drew.refl _)
  · simp only [Bool.and_eq_true, decide_eq_true_eq] at hT
    obtain ⟨n, rfl, hn⟩ := isT_nat hT.1
    exact alloc_some w h hok n hn b hT.2
end
end Go.Proofs.YtkacgbigeobncaaGreat
