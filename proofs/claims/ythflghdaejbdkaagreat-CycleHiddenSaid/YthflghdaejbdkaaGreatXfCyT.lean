/- Lemmas of this claim. -/
import Derived.Test.YthflghdaejbdkaaGreatXfCyS
namespace Go.Proofs.YthflghdaejbdkaaGreat
open Go.RowKit Go.Maps
set_option maxHeartbeats 6400000
set_option maxRecDepth 100000
set_option linter.unusedVariables false
def SDid (w0 : World) (l : List Asn) (b : Nat) (r : Int × Int × Co) (e : Ending) (w' : World) : Prop := e = .returned (.tuple #[.int .i64 r.1, .int .i64 r.2.1]) ∧ ∃ x' : CX, x'.ok r.2.2 ∧ Fam w0 w' (C5 b r.2.2 x' ++ l)
section
variable {w0 w : World} {l : List Asn} {b : Nat} {c : Co} {x : CX} {i : Nat}
theorem refs_over (h : c.t.ph = 0) : c.refs = c.tail := by
  have hs : c.t.step c.m = (0, 0, 13, c.t, c.m) := by unfold Tb.step; rw [if_pos h]
  have h1 : c.stepT = c := by unfold Co.stepT; rw [hs]
  rw [Co.refs_eq, hs, if_neg (show ¬ (13 : Int) = 0 by decide), h1]
theorem cstep_nil (w : World) : Calls Tryz.prog 41 #[.pointer none] w (Exact w (.tuple #[.int .i64 0, .int .i64 1])) := by
  refine calls_abs fun R hR => ?_
  have cn := cnone_nil w
  go_enter Tryz.func41, Tryz.ntmps41
  go_wp2_with fail
  refine cn.mono ?_
  rintro e _ ⟨rfl, rfl⟩
  go_wp2_with fail
  exact hR.out _ _ ⟨rfl, rfl⟩
theorem step_1a (hp : c.ph = 1) (hl : c.m.list = []) : c.step = (c.refsB.1, 0, c.refsB.2) := by
  unfold Co.step
  rw [if_neg (show ¬ c.ph = 0 by omega), if_pos hp, if_pos hl]
theorem cstep_1a (w : World) (hf : Fam w0 w (C5 b c x ++ l)) (hx : x.ok c) (h : c.Okc) (hp : c.ph = 1) (hl : c.m.list = []) : Calls Tryz.prog 41 #[.pointer (some ⟨b, 0, none⟩)] w (SDid w0 l b c.step) := by
  refine calls_abs fun R hR => ?_
  obtain ⟨_, _, x2, _, _, x5, _⟩ := CRow.cells hf
  have cn := cnone_rep w x2
  have cx := cnext_rep w hf h hx (by omega)
  unfold Co.nextV at cx
  rw [if_pos hp, if_pos hl] at cx
  rw [hp] at x5
  have HF := Lib.hid hf
  have HX := Lib.hid hx
  have HH := Lib.hid h
  have HP := Lib.hid hp
  have HL := Lib.hid hl
  have HR : Hid (∀ e w', CDid w0 l b c.refsB e w' → ∃ v, e = .returned v ∧ R (.returned (.tuple #[v, .int .i64 0])) w') := fun e w' ⟨he, x', hx', hf'⟩ => ⟨_, he, hR.out _ _ (by
    rw [step_1a hp hl]
    exact ⟨rfl, x', hx', hf'⟩)⟩
  clear hf hx h hR hp hl
  go_enter Tryz.func41, Tryz.ntmps41
  go_wp2_with fail
  refine cn.mono ?_
  rintro e _ ⟨rfl, rfl⟩
  clear cn
  go_wp2_with fail
  refine cx.mono ?_
  rintro e _ ⟨rfl, k, rfl⟩
  have F1 := Lib.hid (HF.out.drewN k)
  generalize w.drewN k = w1 at *
  have cd := begins2_rep w1 F1.out HX.out HH.out HP.out HL.out
  clear cx
  go_wp2_with fail
  refine cd.mono ?_
  rintro e w2 hd
  obtain ⟨v, rfl, hv⟩ := HR.out e w2 hd
  have HV := Lib.hid hv
  clear hd hv cd
  go_wp2_with fail
  exact HV.out
theorem step_1b (hp : c.ph = 1) (hl : ¬ c.m.list = []) : c.step = (c.mark.1, 0, c.mark.2) := by
  unfold Co.step
  rw [if_neg (show ¬ c.ph = 0 by omega), if_pos hp, if_neg hl]
theorem cstep_1b (w : World) (hf : Fam w0 w (C5 b c x ++ l)) (hx : x.ok c) (h : c.Okc) (hp : c.ph = 1) (hl : ¬ c.m.list = []) : Calls Tryz.prog 41 #[.pointer (some ⟨b, 0, none⟩)] w (SDid w0 l b c.step) := by
  refine calls_abs fun R hR => ?_
  obtain ⟨_, _, x2, _, _, x5, _⟩ := CRow.cells hf
  have cn := cnone_rep w x2
  have cx := cnext_rep w hf h hx (by omega)
  unfold Co.nextV at cx
  rw [if_pos hp, if_neg hl] at cx
  rw [hp] at x5
  have HF := Lib.hid hf
  have HX := Lib.hid hx
  have HH := Lib.hid h
  have HP := Lib.hid hp
  have HR : Hid (∀ e w', CDid w0 l b c.mark e w' → ∃ v, e = .returned v ∧ R (.returned (.tuple #[v, .int .i64 0])) w') := fun e w' ⟨he, x', hx', hf'⟩ => ⟨_, he, hR.out _ _ (by
    rw [step_1b hp hl]
    exact ⟨rfl, x', hx', hf'⟩)⟩
  clear hf hx h hR hp hl
  go_enter Tryz.func41, Tryz.ntmps41
  go_wp2_with fail
  refine cn.mono ?_
  rintro e _ ⟨rfl, rfl⟩
  clear cn
  go_wp2_with fail
  refine cx.mono ?_
  rintro e _ ⟨rfl, k, rfl⟩
  have F1 := Lib.hid (HF.out.drewN k)
  generalize w.drewN k = w1 at *
  have cd := markdo_rep w1 F1.out HX.out (HH.out.mo (.inl HP.out))
  clear cx
  go_wp2_with fail
  refine cd.mono ?_
  rintro e w2 hd
  obtain ⟨v, rfl, hv⟩ := HR.out e w2 hd
  have HV := Lib.hid hv
  clear hd hv cd
  go_wp2_with fail
  exact HV.out
theorem step_2a (hp : c.ph = 2) (hl : c.t.ph ≠ 0) : c.step = (c.refs.1, 0, c.refs.2) := by
  unfold Co.step
  rw [if_neg (show ¬ c.ph = 0 by omega), if_neg (show ¬ c.ph = 1 by omega), if_pos hp]
theorem cstep_2a (w : World) (hf : Fam w0 w (C5 b c x ++ l)) (hx : x.ok c) (h : c.Okc) (hp : c.ph = 2) (hl : c.t.ph ≠ 0) : Calls Tryz.prog 41 #[.pointer (some ⟨b, 0, none⟩)] w (SDid w0 l b c.step) := by
  refine calls_abs fun R hR => ?_
  obtain ⟨_, _, x2, _, _, x5, _⟩ := CRow.cells hf
  have cn := cnone_rep w x2
  have cx := cnext_rep w hf h hx (by omega)
  unfold Co.nextV at cx
  rw [if_neg (show ¬ c.ph = 1 by omega), if_pos hp, if_pos hl] at cx
  rw [hp] at x5
  have HF := Lib.hid hf
  have HX := Lib.hid hx
  have HH := Lib.hid h
  have HP := Lib.hid hp
  have HL := Lib.hid hl
  have HR : Hid (∀ e w', CDid w0 l b c.refs e w' → ∃ v, e = .returned v ∧ R (.returned (.tuple #[v, .int .i64 0])) w') := fun e w' ⟨he, x', hx', hf'⟩ => ⟨_, he, hR.out _ _ (by
    rw [step_2a hp hl]
    exact ⟨rfl, x', hx', hf'⟩)⟩
  clear hf hx h hR hp hl
  go_enter Tryz.func41, Tryz.ntmps41
  go_wp2_with fail
  refine cn.mono ?_
  rintro e _ ⟨rfl, rfl⟩
  clear cn
  go_wp2_with fail
  refine cx.mono ?_
  rintro e _ ⟨rfl, k, rfl⟩
  have F1 := Lib.hid (HF.out.drewN k)
  generalize w.drewN k = w1 at *
  have cd := referdo_rep w1 F1.out HX.out HH.out HP.out HL.out
  clear cx
  go_wp2_with fail
  refine cd.mono ?_
  rintro e w2 hd
  obtain ⟨v, rfl, hv⟩ := HR.out e w2 hd
  have HV := Lib.hid hv
  clear hd hv cd
  go_wp2_with fail
  exact HV.out
theorem step_2b (hp : c.ph = 2) (ht : c.t.ph = 0) (hl : c.m.list = []) : c.step = (c.sweepB.1, 0, c.sweepB.2) := by
  unfold Co.step
  rw [if_neg (show ¬ c.ph = 0 by omega), if_neg (show ¬ c.ph = 1 by omega), if_pos hp, refs_over ht, Co.tail, if_pos hl]
theorem cstep_2b (w : World) (hf : Fam w0 w (C5 b c x ++ l)) (hx : x.ok c) (h : c.Okc) (hp : c.ph = 2) (ht : c.t.ph = 0) (hl : c.m.list = []) : Calls Tryz.prog 41 #[.pointer (some ⟨b, 0, none⟩)] w (SDid w0 l b c.step) := by
  refine calls_abs fun R hR => ?_
  obtain ⟨_, _, x2, _, _, x5, _⟩ := CRow.cells hf
  have cn := cnone_rep w x2
  have cx := cnext_rep w hf h hx (by omega)
  unfold Co.nextV at cx
  rw [if_neg (show ¬ c.ph = 1 by omega), if_pos hp, if_neg (fun e => e ht), if_pos hl] at cx
  rw [hp] at x5
  have HF := Lib.hid hf
  have HX := Lib.hid hx
  have HH := Lib.hid h
  have HP := Lib.hid hp
  have HR : Hid (∀ e w', CDid w0 l b c.sweepB e w' → ∃ v, e = .returned v ∧ R (.returned (.tuple #[v, .int .i64 0])) w') := fun e w' ⟨he, x', hx', hf'⟩ => ⟨_, he, hR.out _ _ (by
    rw [step_2b hp ht hl]
    exact ⟨rfl, x', hx', hf'⟩)⟩
  clear hf hx h hR hp hl ht
  go_enter Tryz.func41, Tryz.ntmps41
  go_wp2_with fail
  refine cn.mono ?_
  rintro e _ ⟨rfl, rfl⟩
  clear cn
  go_wp2_with fail
  refine cx.mono ?_
  rintro e _ ⟨rfl, k, rfl⟩
  have F1 := Lib.hid (HF.out.drewN k)
  generalize w.drewN k = w1 at *
  have cd := begins3_rep w1 F1.out HX.out HH.out
  clear cx
  go_wp2_with fail
  refine cd.mono ?_
  rintro e w2 hd
  obtain ⟨v, rfl, hv⟩ := HR.out e w2 hd
  have HV := Lib.hid hv
  clear hd hv cd
  go_wp2_with fail
  exact HV.out
theorem step_2c (hp : c.ph = 2) (ht : c.t.ph = 0) (hl : ¬ c.m.list = []) : c.step = (c.mark.1, 0, c.mark.2) := by
  unfold Co.step
  rw [if_neg (show ¬ c.ph = 0 by omega), if_neg (show ¬ c.ph = 1 by omega), if_pos hp, refs_over ht, Co.tail, if_neg hl]
theorem cstep_2c (w : World) (hf : Fam w0 w (C5 b c x ++ l)) (hx : x.ok c) (h : c.Okc) (hp : c.ph = 2) (ht : c.t.ph = 0) (hl : ¬ c.m.list = []) : Calls Tryz.prog 41 #[.pointer (some ⟨b, 0, none⟩)] w (SDid w0 l b c.step) := by
  refine calls_abs fun R hR => ?_
  obtain ⟨_, _, x2, _, _, x5, _⟩ := CRow.cells hf
  have cn := cnone_rep w x2
  have cx := cnext_rep w hf h hx (by omega)
  unfold Co.nextV at cx
  rw [if_neg (show ¬ c.ph = 1 by omega), if_pos hp, if_neg (fun e => e ht), if_neg hl] at cx
  rw [hp] at x5
  have HF := Lib.hid hf
  have HX := Lib.hid hx
  have HH := Lib.hid h
  have HP := Lib.hid hp
  have HR : Hid (∀ e w', CDid w0 l b c.mark e w' → ∃ v, e = .returned v ∧ R (.returned (.tuple #[v, .int .i64 0])) w') := fun e w' ⟨he, x', hx', hf'⟩ => ⟨_, he, hR.out _ _ (by
    rw [step_2c hp ht hl]
    exact ⟨rfl, x', hx', hf'⟩)⟩
  clear hf hx h hR hp hl ht
  go_enter Tryz.func41, Tryz.ntmps41
  go_wp2_with fail
  refine cn.mono ?_
  rintro e _ ⟨rfl, rfl⟩
  clear cn
  go_wp2_with fail
  refine cx.mono ?_
  rintro e _ ⟨rfl, k, rfl⟩
  have F1 := Lib.hid (HF.out.drewN k)
  generalize w.drewN k = w1 at *
  have cd := markdo_rep w1 F1.out HX.out (HH.out.mo (.inr HP.out))
  clear cx
  go_wp2_with fail
  refine cd.mono ?_
  rintro e w2 hd
  obtain ⟨v, rfl, hv⟩ := HR.out e w2 hd
  have HV := Lib.hid hv
  clear hd hv cd
  go_wp2_with fail
  exact HV.out
theorem step_3a (hp : c.ph = 3) (hl : c.sw = []) : c.step = (((1, { c with ph := 4, sw := [], mv := 0 }) : Int × Co).1, 0, ((1, { c with ph := 4, sw := [], mv := 0 }) : Int × Co).2) := by
  unfold Co.step
  rw [if_neg (show ¬ c.ph = 0 by omega), if_neg (show ¬ c.ph = 1 by omega), if_neg (show ¬ c.ph = 2 by omega), if_pos hp, Co.free, hl]
theorem cstep_3a (w : World) (hf : Fam w0 w (C5 b c x ++ l)) (hx : x.ok c) (h : c.Okc) (hp : c.ph = 3) (hl : c.sw = []) : Calls Tryz.prog 41 #[.pointer (some ⟨b, 0, none⟩)] w (SDid w0 l b c.step) := by
  refine calls_abs fun R hR => ?_
  obtain ⟨_, _, x2, _, _, x5, _⟩ := CRow.cells hf
  have cn := cnone_rep w x2
  have cx := cnext_rep w hf h hx (by omega)
  unfold Co.nextV at cx
  rw [if_neg (show ¬ c.ph = 1 by omega), if_neg (show ¬ c.ph = 2 by omega), if_pos hp, hl] at cx
  rw [hp] at x5
  have HF := Lib.hid hf
  have HX := Lib.hid hx
  have HH := Lib.hid h
  have HP := Lib.hid hp
  have HL := Lib.hid hl
  have HR : Hid (∀ e w', CDid w0 l b ((1, { c with ph := 4, sw := [], mv := 0 }) : Int × Co) e w' → ∃ v, e = .returned v ∧ R (.returned (.tuple #[v, .int .i64 0])) w') := fun e w' ⟨he, x', hx', hf'⟩ => ⟨_, he, hR.out _ _ (by
    rw [step_3a hp hl]
    exact ⟨rfl, x', hx', hf'⟩)⟩
  clear hf hx h hR hp hl
  go_enter Tryz.func41, Tryz.ntmps41
  go_wp2_with fail
  refine cn.mono ?_
  rintro e _ ⟨rfl, rfl⟩
  clear cn
  go_wp2_with fail
  refine cx.mono ?_
  rintro e _ ⟨rfl, k, rfl⟩
  have F1 := Lib.hid (HF.out.drewN k)
  generalize w.drewN k = w1 at *
  have cd := begins4_rep w1 F1.out HX.out
  clear cx
  go_wp2_with fail
  refine cd.mono ?_
  rintro e w2 hd
  obtain ⟨v, rfl, hv⟩ := HR.out e w2 (by rw [HL.out] at hd; exact hd)
  have HV := Lib.hid hv
  clear hd hv cd
  go_wp2_with fail
  exact HV.out
theorem step_3b (hp : c.ph = 3) {y : Int} {r : List Int} (hl : c.sw = y :: r) : c.step = (c.free.1, 0, c.free.2) := by
  unfold Co.step
  rw [if_neg (show ¬ c.ph = 0 by omega), if_neg (show ¬ c.ph = 1 by omega), if_neg (show ¬ c.ph = 2 by omega), if_pos hp]
theorem cstep_3b (w : World) (hf : Fam w0 w (C5 b c x ++ l)) (hx : x.ok c) (h : c.Okc) (hp : c.ph = 3) {y : Int} {r : List Int} (hl : c.sw = y :: r) : Calls Tryz.prog 41 #[.pointer (some ⟨b, 0, none⟩)] w (SDid w0 l b c.step) := by
  refine calls_abs fun R hR => ?_
  obtain ⟨_, _, x2, _, _, x5, _⟩ := CRow.cells hf
  have cn := cnone_rep w x2
  have cx := cnext_rep w hf h hx (by omega)
  unfold Co.nextV at cx
  rw [if_neg (show ¬ c.ph = 1 by omega), if_neg (show ¬ c.ph = 2 by omega), if_pos hp, hl] at cx
  rw [hp] at x5
  have HF := Lib.hid hf
  have HX := Lib.hid hx
  have HH := Lib.hid h
  have HP := Lib.hid hp
  have HL := Lib.hid hl
  have HR : Hid (∀ e w', CDid w0 l b c.free e w' → ∃ v, e = .returned v ∧ R (.returned (.tuple #[v, .int .i64 0])) w') := fun e w' ⟨he, x', hx', hf'⟩ => ⟨_, he, hR.out _ _ (by
    rw [step_3b hp hl]
    exact ⟨rfl, x', hx', hf'⟩)⟩
  clear hf hx h hR hp hl
  go_enter Tryz.func41, Tryz.ntmps41
  go_wp2_with fail
  refine cn.mono ?_
  rintro e _ ⟨rfl, rfl⟩
  clear cn
  go_wp2_with fail
  refine cx.mono ?_
  rintro e _ ⟨rfl, k, rfl⟩
  have F1 := Lib.hid (HF.out.drewN k)
  generalize w.drewN k = w1 at *
  have cd := freedo_rep w1 F1.out HX.out HH.out HP.out HL.out
  clear cx
  go_wp2_with fail
  refine cd.mono ?_
  rintro e w2 hd
  obtain ⟨v, rfl, hv⟩ := HR.out e w2 hd
  have HV := Lib.hid hv
  clear hd hv cd
  go_wp2_with fail
  exact HV.out
theorem step_4a (hp : c.ph = 4) (hl : c.mv = 8 * c.pages) : c.step = (((1, { c with ph := 0, cr := 0 }) : Int × Co).1, 0, ((1, { c with ph := 0, cr := 0 }) : Int × Co).2) := by
  unfold Co.step
  rw [if_neg (show ¬ c.ph = 0 by omega), if_neg (show ¬ c.ph = 1 by omega), if_neg (show ¬ c.ph = 2 by omega), if_neg (show ¬ c.ph = 3 by omega), Co.move, if_pos (.inl hl)]
theorem cstep_4a (w : World) (hf : Fam w0 w (C5 b c x ++ l)) (hx : x.ok c) (h : c.Okc) (hp : c.ph = 4) (hl : c.mv = 8 * c.pages) : Calls Tryz.prog 41 #[.pointer (some ⟨b, 0, none⟩)] w (SDid w0 l b c.step) := by
  refine calls_abs fun R hR => ?_
  obtain ⟨_, _, x2, _, _, x5, _⟩ := CRow.cells hf
  have cn := cnone_rep w x2
  have cx := cnext_rep w hf h hx (by omega)
  unfold Co.nextV at cx
  rw [if_neg (show ¬ c.ph = 1 by omega), if_neg (show ¬ c.ph = 2 by omega), if_neg (show ¬ c.ph = 3 by omega), if_pos hl] at cx
  rw [hp] at x5
  have HF := Lib.hid hf
  have HX := Lib.hid hx
  have HH := Lib.hid h
  have HP := Lib.hid hp
  have HR : Hid (∀ e w', CDid w0 l b ((1, { c with ph := 0, cr := 0 }) : Int × Co) e w' → ∃ v, e = .returned v ∧ R (.returned (.tuple #[v, .int .i64 0])) w') := fun e w' ⟨he, x', hx', hf'⟩ => ⟨_, he, hR.out _ _ (by
    rw [step_4a hp hl]
    exact ⟨rfl, x', hx', hf'⟩)⟩
  clear hf hx h hR hp hl
  go_enter Tryz.func41, Tryz.ntmps41
  go_wp2_with fail
  refine cn.mono ?_
  rintro e _ ⟨rfl, rfl⟩
  clear cn
  go_wp2_with fail
  refine cx.mono ?_
  rintro e _ ⟨rfl, k, rfl⟩
  have F1 := Lib.hid (HF.out.drewN k)
  generalize w.drewN k = w1 at *
  have cd := begins0_rep w1 F1.out HX.out
  clear cx
  go_wp2_with fail
  refine cd.mono ?_
  rintro e w2 hd
  obtain ⟨v, rfl, hv⟩ := HR.out e w2 hd
  have HV := Lib.hid hv
  clear hd hv cd
  go_wp2_with fail
  exact HV.out
theorem step_4b (hp : c.ph = 4) (hl : ¬ c.mv = 8 * c.pages) : c.step = (c.move.1, 0, c.move.2) := by
  unfold Co.step
  rw [if_neg (show ¬ c.ph = 0 by omega), if_neg (show ¬ c.ph = 1 by omega), if_neg (show ¬ c.ph = 2 by omega), if_neg (show ¬ c.ph = 3 by omega)]
theorem cstep_4b (w : World) (hf : Fam w0 w (C5 b c x ++ l)) (hx : x.ok c) (h : c.Okc) (hp : c.ph = 4) (hl : ¬ c.mv = 8 * c.pages) : Calls Tryz.prog 41 #[.pointer (some ⟨b, 0, none⟩)] w (SDid w0 l b c.step) := by
  refine calls_abs fun R hR => ?_
  obtain ⟨_, _, x2, _, _, x5, _⟩ := CRow.cells hf
  have cn := cnone_rep w x2
  have cx := cnext_rep w hf h hx (by omega)
  unfold Co.nextV at cx
  rw [if_neg (show ¬ c.ph = 1 by omega), if_neg (show ¬ c.ph = 2 by omega), if_neg (show ¬ c.ph = 3 by omega), if_neg hl] at cx
  rw [hp] at x5
  have HF := Lib.hid hf
  have HX := Lib.hid hx
  have HH := Lib.hid h
  have HP := Lib.hid hp
  have HL := Lib.hid hl
  have HR : Hid (∀ e w', CDid w0 l b c.move e w' → ∃ v, e = .returned v ∧ R (.returned (.tuple #[v, .int .i64 0])) w') := fun e w' ⟨he, x', hx', hf'⟩ => ⟨_, he, hR.out _ _ (by
    rw [step_4b hp hl]
    exact ⟨rfl, x', hx', hf'⟩)⟩
  clear hf hx h hR hp hl
  go_enter Tryz.func41, Tryz.ntmps41
  go_wp2_with fail
  refine cn.mono ?_
  rintro e _ ⟨rfl, rfl⟩
  clear cn
  go_wp2_with fail
  refine cx.mono ?_
  rintro e _ ⟨rfl, k, rfl⟩
  have F1 := Lib.hid (HF.out.drewN k)
  generalize w.drewN k = w1 at *
  have cd := movedo_rep w1 F1.out HX.out HH.out HP.out HL.out
  clear cx
  go_wp2_with fail
  refine cd.mono ?_
  rintro e w2 hd
  obtain ⟨v, rfl, hv⟩ := HR.out e w2 hd
  have HV := Lib.hid hv
  clear hd hv cd
  go_wp2_with fail
  exact HV.out
theorem cstep_0 (w : World) (hf : Fam w0 w (C5 b c x ++ l)) (hx : x.ok c) (hp : c.ph = 0) : Calls Tryz.prog 41 #[.pointer (some ⟨b, 0, none⟩)] w (SDid w0 l b c.step) := by
  refine calls_abs fun R hR => ?_
  obtain ⟨_, _, x2, _, _, x5, _⟩ := CRow.cells hf
  have cn := cnone_rep w x2
  rw [Co.step_idle hp] at hR
  rw [hp] at x5
  have HE : Hid (SDid w0 l b (0, 13, c) (.returned (.tuple #[.int .i64 0, .int .i64 13])) w) := ⟨rfl, x, hx, hf⟩
  clear hf hx hp
  go_enter Tryz.func41, Tryz.ntmps41
  go_wp2_with fail
  refine cn.mono ?_
  rintro e _ ⟨rfl, rfl⟩
  clear cn
  go_wp2_with fail
  exact hR.out _ _ HE.out
theorem cstep_any (w : World) (hf : Fam w0 w (C5 b c x ++ l)) (hx : x.ok c) (h : c.Okc) : Calls Tryz.prog 41 #[.pointer (some ⟨b, 0, none⟩)] w (SDid w0 l b c.step) := by
  rcases ph_cases h with hp | hp | hp | hp | hp
  · exact cstep_0 w hf hx hp
  · by_cases hl : c.m.list = []
    · exact cstep_1a w hf hx h hp hl
    · exact cstep_1b w hf hx h hp hl
  · by_cases ht : c.t.ph = 0
    · by_cases hl : c.m.list = []
      · exact cstep_2b w hf hx h hp ht hl
      · exact cstep_2c w hf hx h hp ht hl
    · exact cstep_2a w hf hx h hp ht
  · cases hl : c.sw with
    | nil => exact cstep_3a w hf hx h hp hl
    | cons y r => exact cstep_3b w hf hx h hp hl
  · by_cases hl : c.mv = 8 * c.pages
    · exact cstep_4a w hf hx h hp hl
    · exact cstep_4b w hf hx h hp hl
theorem cstep_rep (w : World) (hf : Fam w0 w l) (hi : l[i]? = some (CoA b c)) (h : c.Okc) : Calls Tryz.prog 41 #[.pointer (some ⟨b, 0, none⟩)] w (fun e w' => e = .returned (.tuple #[.int .i64 c.step.1, .int .i64 c.step.2.1]) ∧ Fam w0 w' (l.set i (CoA b c.step.2.2))) := by
  obtain ⟨x, hx, hf2⟩ := CoA.open hf hi
  exact (cstep_any w hf2 hx h).mono fun e w' ⟨he, x', hx', hf'⟩ => ⟨he, CoA.close hx' hf' (List.getElem?_eq_some_iff.1 hi).1⟩
end
end Go.Proofs.YthflghdaejbdkaaGreat
