/- Lemmas of this claim. -/
import Derived.Test.YthflghdaejbdkaaGreatXfCyU
namespace Go.Proofs.YthflghdaejbdkaaGreat
open Go.RowKit Go.Maps
set_option maxHeartbeats 6400000
set_option maxRecDepth 100000
set_option linter.unusedVariables false
def KDid (w0 : World) (l : List Asn) (b : Nat) (c : Co) (x : CX) (e : Ending) (w' : World) : Prop := e = .returned (.tuple #[.int .i64 c.step.1, .int .i64 c.step.2.1]) ∧ Fam w0 w' (C5 b c x ++ l)
section
variable {w0 w : World} {l : List Asn} {b : Nat} {c : Co} {x : CX} {i : Nat}
theorem ta_mm (W : World) (v : Value) : (Instr.typeAssert (.iface 157 v) 153 157 true).run Tryz.prog W = .ok (.tuple #[v, .bool true]) W := by kernel_rfl
theorem ta_fm (W : World) (v : Value) : (Instr.typeAssert (.iface 160 v) 153 157 true).run Tryz.prog W = .ok (.tuple #[.agg #[], .bool false]) W := by kernel_rfl
theorem ta_ff (W : World) (v : Value) : (Instr.typeAssert (.iface 160 v) 153 160 true).run Tryz.prog W = .ok (.tuple #[v, .bool true]) W := by kernel_rfl
theorem ta_bm (W : World) (v : Value) : (Instr.typeAssert (.iface 163 v) 153 157 true).run Tryz.prog W = .ok (.tuple #[.agg #[], .bool false]) W := by kernel_rfl
theorem ta_bf (W : World) (v : Value) : (Instr.typeAssert (.iface 163 v) 153 160 true).run Tryz.prog W = .ok (.tuple #[.agg #[.int .i64 0], .bool false]) W := by kernel_rfl
theorem ta_bb (W : World) (v : Value) : (Instr.typeAssert (.iface 163 v) 153 163 true).run Tryz.prog W = .ok (.tuple #[v, .bool true]) W := by kernel_rfl
theorem ta_rm (W : World) (v : Value) : (Instr.typeAssert (.iface 218 v) 153 157 true).run Tryz.prog W = .ok (.tuple #[.agg #[], .bool false]) W := by kernel_rfl
theorem ta_rf (W : World) (v : Value) : (Instr.typeAssert (.iface 218 v) 153 160 true).run Tryz.prog W = .ok (.tuple #[.agg #[.int .i64 0], .bool false]) W := by kernel_rfl
theorem ta_rb (W : World) (v : Value) : (Instr.typeAssert (.iface 218 v) 153 163 true).run Tryz.prog W = .ok (.tuple #[.agg #[.int .i64 0], .bool false]) W := by kernel_rfl
theorem ta_vm (W : World) (v : Value) : (Instr.typeAssert (.iface 219 v) 153 157 true).run Tryz.prog W = .ok (.tuple #[.agg #[], .bool false]) W := by kernel_rfl
theorem ta_vf (W : World) (v : Value) : (Instr.typeAssert (.iface 219 v) 153 160 true).run Tryz.prog W = .ok (.tuple #[.agg #[.int .i64 0], .bool false]) W := by kernel_rfl
theorem ta_vb (W : World) (v : Value) : (Instr.typeAssert (.iface 219 v) 153 163 true).run Tryz.prog W = .ok (.tuple #[.agg #[.int .i64 0], .bool false]) W := by kernel_rfl
theorem next_step {m : Mk} : m.next = (m.step.1, m.step.2.1) := by unfold Mk.next Mk.step; cases m.list <;> rfl
theorem ccost_1a (w : World) (hf : Fam w0 w (C5 b c x ++ l)) (hx : x.ok c) (h : c.Okc) (hp : c.ph = 1) (hl : c.m.list = []) : Calls Tryz.prog 42 #[.pointer (some ⟨b, 0, none⟩)] w (KDid w0 l b c x) := by
  refine calls_abs fun R hR => ?_
  obtain ⟨_, _, x2, _, _, x5, _⟩ := CRow.cells hf
  have cn := cnone_rep w x2
  have cx := cnext_rep w hf h hx (by omega)
  unfold Co.nextV at cx
  rw [if_pos hp, if_pos hl] at cx
  rw [hp] at x5
  have HF := Lib.hid hf
  have HX := Lib.hid hx
  have HH := Lib.hid h
  have a0 := fun (W : World) (v : Value) => ta_bm W v
  have a1 := fun (W : World) (v : Value) => ta_bf W v
  have a2 := fun (W : World) (v : Value) => ta_bb W v
  have HR : Hid (∀ w', Fam w0 w' (C5 b c x ++ l) → R (.returned (.tuple #[.int .i64 (1), .int .i64 0])) w') := fun w' h2 => hR.out _ _ ⟨by rw [step_1a hp hl]; rfl, h2⟩
  clear hf hx h hR hp hl
  go_enter Tryz.func42, Tryz.ntmps42
  go_wp2_with fail
  refine cn.mono ?_
  rintro e _ ⟨rfl, rfl⟩
  clear cn
  go_wp2_with fail
  refine cx.mono ?_
  rintro e _ ⟨rfl, k, rfl⟩
  have F1 := Lib.hid (HF.out.drewN k)
  generalize w.drewN k = w1 at *
  have F2 := Lib.hid (C5.alloc F1.out (.cells #[.int .i64 2] 163))
  clear cx
  go_wp2_with fail
  exact HR.out _ F2.out
theorem ccost_1b (w : World) (hf : Fam w0 w (C5 b c x ++ l)) (hx : x.ok c) (h : c.Okc) (hp : c.ph = 1) (hl : ¬ c.m.list = []) : Calls Tryz.prog 42 #[.pointer (some ⟨b, 0, none⟩)] w (KDid w0 l b c x) := by
  refine calls_abs fun R hR => ?_
  obtain ⟨_, _, x2, _, _, x5, _⟩ := CRow.cells hf
  have cn := cnone_rep w x2
  have cx := cnext_rep w hf h hx (by omega)
  unfold Co.nextV at cx
  rw [if_pos hp, if_neg hl] at cx
  rw [hp] at x5
  have HF := Lib.hid hf
  have HX := Lib.hid hx
  have HH := Lib.hid h
  have a0 := fun (W : World) (v : Value) => ta_mm W v
  have HW := Lib.hid (step_wf (h.mo (.inl hp)))
  have hlr := len_range h.hf.ok c.m.step.1
  have HR : Hid (∀ w', Fam w0 w' (C5 b c x ++ l) → R (.returned (.tuple #[.int .i64 (1 + c.m.M.len c.m.step.1), .int .i64 0])) w') := fun w' h2 => hR.out _ _ ⟨by rw [step_1b hp hl]; rfl, h2⟩
  clear hf hx h hR hp hl
  go_enter Tryz.func42, Tryz.ntmps42
  go_wp2_with fail
  refine cn.mono ?_
  rintro e _ ⟨rfl, rfl⟩
  clear cn
  go_wp2_with fail
  refine cx.mono ?_
  rintro e _ ⟨rfl, k, rfl⟩
  have F1 := Lib.hid (HF.out.drewN k)
  generalize w.drewN k = w1 at *
  have F2 := Lib.hid (C5.alloc F1.out (.cells #[] 157))
  obtain ⟨_, _, _, _, z4, _⟩ := CRow.cells F2.out
  have cm := mnext_rep _ (C5.t2 (b := b) (c := c) (x := x) (l := l)) (hb := x.hb) (p := x.p) (m := c.m) F2.out
  rw [next_step] at cm
  clear cx
  go_upto_region 5 with fail
  generalize w1.alloc (.cells #[] 157) = w2 at *
  go_wp2_with fail
  refine cm.mono ?_
  rintro e _ ⟨rfl, rfl⟩
  have cl := clength_rep w2 F2.out c.m.step.1 HW.out
  clear cm F1
  generalize c.m.M.len c.m.step.1 = n at *
  go_wp2_with fail
  refine cl.mono ?_
  rintro e _ ⟨rfl, k2, rfl⟩
  have F3 := Lib.hid (F2.out.drewN k2)
  clear cl F2
  go_wp2_with fail
  exact HR.out _ F3.out
theorem ccost_2a (w : World) (hf : Fam w0 w (C5 b c x ++ l)) (hx : x.ok c) (h : c.Okc) (hp : c.ph = 2) (hl : c.t.ph ≠ 0) : Calls Tryz.prog 42 #[.pointer (some ⟨b, 0, none⟩)] w (KDid w0 l b c x) := by
  refine calls_abs fun R hR => ?_
  obtain ⟨_, _, x2, _, _, x5, _⟩ := CRow.cells hf
  have cn := cnone_rep w x2
  have cx := cnext_rep w hf h hx (by omega)
  unfold Co.nextV at cx
  rw [if_neg (show ¬ c.ph = 1 by omega), if_pos hp, if_pos hl] at cx
  rw [hp] at x5
  have HF := Lib.hid hf
  have HX := Lib.hid hx
  have HH := Lib.hid h
  have a0 := fun (W : World) (v : Value) => ta_rm W v
  have a1 := fun (W : World) (v : Value) => ta_rf W v
  have a2 := fun (W : World) (v : Value) => ta_rb W v
  have HR : Hid (∀ w', Fam w0 w' (C5 b c x ++ l) → R (.returned (.tuple #[.int .i64 c.step.1, .int .i64 c.step.2.1])) w') := fun w' h2 => hR.out _ _ ⟨rfl, h2⟩
  clear hf hx h hR hp hl
  go_enter Tryz.func42, Tryz.ntmps42
  go_wp2_with fail
  refine cn.mono ?_
  rintro e _ ⟨rfl, rfl⟩
  clear cn
  go_wp2_with fail
  refine cx.mono ?_
  rintro e _ ⟨rfl, k, rfl⟩
  have F1 := Lib.hid (HF.out.drewN k)
  generalize w.drewN k = w1 at *
  have cc := ccopy_any w1 F1.out HX.out HH.out
  clear cx
  go_wp2_with fail
  refine cc.mono ?_
  rintro e w2 ⟨b2, rfl, x2, hx2, hf2⟩
  have cs := cstep_any w2 hf2 hx2 HH.out
  clear cc hx2 hf2 F1
  go_wp2_with fail
  refine cs.mono ?_
  rintro e w3 ⟨rfl, x3, _, hf3⟩
  have F3 := Lib.hid (Fam.rest hf3)
  clear cs hf3
  go_wp2_with fail
  exact HR.out _ F3.out
theorem ccost_2b (w : World) (hf : Fam w0 w (C5 b c x ++ l)) (hx : x.ok c) (h : c.Okc) (hp : c.ph = 2) (ht : c.t.ph = 0) (hl : c.m.list = []) : Calls Tryz.prog 42 #[.pointer (some ⟨b, 0, none⟩)] w (KDid w0 l b c x) := by
  refine calls_abs fun R hR => ?_
  obtain ⟨_, _, x2, _, _, x5, _⟩ := CRow.cells hf
  have cn := cnone_rep w x2
  have cx := cnext_rep w hf h hx (by omega)
  unfold Co.nextV at cx
  rw [if_neg (show ¬ c.ph = 1 by omega), if_pos hp, if_neg (fun e => e ht), if_pos hl] at cx
  rw [hp] at x5
  have HF := Lib.hid hf
  have HX := Lib.hid hx
  have HH := Lib.hid h
  have a0 := fun (W : World) (v : Value) => ta_bm W v
  have a1 := fun (W : World) (v : Value) => ta_bf W v
  have a2 := fun (W : World) (v : Value) => ta_bb W v
  have HR : Hid (∀ w', Fam w0 w' (C5 b c x ++ l) → R (.returned (.tuple #[.int .i64 (1), .int .i64 0])) w') := fun w' h2 => hR.out _ _ ⟨by rw [step_2b hp ht hl]; rfl, h2⟩
  clear hf hx h hR hp hl ht
  go_enter Tryz.func42, Tryz.ntmps42
  go_wp2_with fail
  refine cn.mono ?_
  rintro e _ ⟨rfl, rfl⟩
  clear cn
  go_wp2_with fail
  refine cx.mono ?_
  rintro e _ ⟨rfl, k, rfl⟩
  have F1 := Lib.hid (HF.out.drewN k)
  generalize w.drewN k = w1 at *
  have F2 := Lib.hid (C5.alloc F1.out (.cells #[.int .i64 3] 163))
  clear cx
  go_wp2_with fail
  exact HR.out _ F2.out
theorem ccost_2c (w : World) (hf : Fam w0 w (C5 b c x ++ l)) (hx : x.ok c) (h : c.Okc) (hp : c.ph = 2) (ht : c.t.ph = 0) (hl : ¬ c.m.list = []) : Calls Tryz.prog 42 #[.pointer (some ⟨b, 0, none⟩)] w (KDid w0 l b c x) := by
  refine calls_abs fun R hR => ?_
  obtain ⟨_, _, x2, _, _, x5, _⟩ := CRow.cells hf
  have cn := cnone_rep w x2
  have cx := cnext_rep w hf h hx (by omega)
  unfold Co.nextV at cx
  rw [if_neg (show ¬ c.ph = 1 by omega), if_pos hp, if_neg (fun e => e ht), if_neg hl] at cx
  rw [hp] at x5
  have HF := Lib.hid hf
  have HX := Lib.hid hx
  have HH := Lib.hid h
  have a0 := fun (W : World) (v : Value) => ta_mm W v
  have HW := Lib.hid (step_wf (h.mo (.inr hp)))
  have hlr := len_range h.hf.ok c.m.step.1
  have HR : Hid (∀ w', Fam w0 w' (C5 b c x ++ l) → R (.returned (.tuple #[.int .i64 (1 + c.m.M.len c.m.step.1), .int .i64 0])) w') := fun w' h2 => hR.out _ _ ⟨by rw [step_2c hp ht hl]; rfl, h2⟩
  clear hf hx h hR hp hl ht
  go_enter Tryz.func42, Tryz.ntmps42
  go_wp2_with fail
  refine cn.mono ?_
  rintro e _ ⟨rfl, rfl⟩
  clear cn
  go_wp2_with fail
  refine cx.mono ?_
  rintro e _ ⟨rfl, k, rfl⟩
  have F1 := Lib.hid (HF.out.drewN k)
  generalize w.drewN k = w1 at *
  have F2 := Lib.hid (C5.alloc F1.out (.cells #[] 157))
  obtain ⟨_, _, _, _, z4, _⟩ := CRow.cells F2.out
  have cm := mnext_rep _ (C5.t2 (b := b) (c := c) (x := x) (l := l)) (hb := x.hb) (p := x.p) (m := c.m) F2.out
  rw [next_step] at cm
  clear cx
  go_upto_region 5 with fail
  generalize w1.alloc (.cells #[] 157) = w2 at *
  go_wp2_with fail
  refine cm.mono ?_
  rintro e _ ⟨rfl, rfl⟩
  have cl := clength_rep w2 F2.out c.m.step.1 HW.out
  clear cm F1
  generalize c.m.M.len c.m.step.1 = n at *
  go_wp2_with fail
  refine cl.mono ?_
  rintro e _ ⟨rfl, k2, rfl⟩
  have F3 := Lib.hid (F2.out.drewN k2)
  clear cl F2
  go_wp2_with fail
  exact HR.out _ F3.out
theorem ccost_3a (w : World) (hf : Fam w0 w (C5 b c x ++ l)) (hx : x.ok c) (h : c.Okc) (hp : c.ph = 3) (hl : c.sw = []) : Calls Tryz.prog 42 #[.pointer (some ⟨b, 0, none⟩)] w (KDid w0 l b c x) := by
  refine calls_abs fun R hR => ?_
  obtain ⟨_, _, x2, _, _, x5, _⟩ := CRow.cells hf
  have cn := cnone_rep w x2
  have cx := cnext_rep w hf h hx (by omega)
  unfold Co.nextV at cx
  rw [if_neg (show ¬ c.ph = 1 by omega), if_neg (show ¬ c.ph = 2 by omega), if_pos hp, hl] at cx
  rw [hp] at x5
  have HF := Lib.hid hf
  have HX := Lib.hid hx
  have HH := Lib.hid h
  have a0 := fun (W : World) (v : Value) => ta_bm W v
  have a1 := fun (W : World) (v : Value) => ta_bf W v
  have a2 := fun (W : World) (v : Value) => ta_bb W v
  have HR : Hid (∀ w', Fam w0 w' (C5 b c x ++ l) → R (.returned (.tuple #[.int .i64 (1), .int .i64 0])) w') := fun w' h2 => hR.out _ _ ⟨by rw [step_3a hp hl], h2⟩
  clear hf hx h hR hp hl
  go_enter Tryz.func42, Tryz.ntmps42
  go_wp2_with fail
  refine cn.mono ?_
  rintro e _ ⟨rfl, rfl⟩
  clear cn
  go_wp2_with fail
  refine cx.mono ?_
  rintro e _ ⟨rfl, k, rfl⟩
  have F1 := Lib.hid (HF.out.drewN k)
  generalize w.drewN k = w1 at *
  have F2 := Lib.hid (C5.alloc F1.out (.cells #[.int .i64 4] 163))
  clear cx
  go_wp2_with fail
  exact HR.out _ F2.out
theorem ccost_3b (w : World) (hf : Fam w0 w (C5 b c x ++ l)) (hx : x.ok c) (h : c.Okc) (hp : c.ph = 3) {y : Int} {r : List Int} (hl : c.sw = y :: r) : Calls Tryz.prog 42 #[.pointer (some ⟨b, 0, none⟩)] w (KDid w0 l b c x) := by
  refine calls_abs fun R hR => ?_
  obtain ⟨_, _, x2, _, _, x5, _⟩ := CRow.cells hf
  have cn := cnone_rep w x2
  have cx := cnext_rep w hf h hx (by omega)
  unfold Co.nextV at cx
  rw [if_neg (show ¬ c.ph = 1 by omega), if_neg (show ¬ c.ph = 2 by omega), if_pos hp, hl] at cx
  rw [hp] at x5
  have HF := Lib.hid hf
  have HX := Lib.hid hx
  have HH := Lib.hid h
  have a0 := fun (W : World) (v : Value) => ta_fm W v
  have a1 := fun (W : World) (v : Value) => ta_ff W v
  have HW : Hid (wfI y) := wf192 (h.hf.ok.inR (h.su y (by rw [hl]; exact List.mem_cons_self)))
  have hbr := blocks_range h.hf.ok y
  have HR : Hid (∀ w', Fam w0 w' (C5 b c x ++ l) → R (.returned (.tuple #[.int .i64 (1 + ((c.m.M.blocks y).1.length : Int)), .int .i64 0])) w') := fun w' h2 => hR.out _ _ ⟨by rw [step_3b hp hl, Co.free, hl], h2⟩
  clear hf hx h hR hp hl
  go_enter Tryz.func42, Tryz.ntmps42
  go_wp2_with fail
  refine cn.mono ?_
  rintro e _ ⟨rfl, rfl⟩
  clear cn
  go_wp2_with fail
  refine cx.mono ?_
  rintro e _ ⟨rfl, k, rfl⟩
  have F1 := Lib.hid (HF.out.drewN k)
  generalize w.drewN k = w1 at *
  have F2 : Hid (Fam w0 (w1.alloc (.cells #[.int .i64 y] 160)) (C5 b c x ++ (l ++ [RowA w1.heap.size 160 [.int .i64 y]]))) := F1.out.addRow 160 [.int .i64 y]
  clear cx
  go_upto_region 9 with fail
  obtain ⟨g, hg⟩ : ∃ g, g = w1.heap.size := ⟨_, rfl⟩
  rw [← hg] at F2 ⊢
  generalize w1.alloc (.cells #[.int .i64 y] 160) = w2 at *
  clear hg F1
  have HC : Hid (∀ wx, Only [] w2 wx → Calls Tryz.prog 115 #[.pointer (some ⟨x.hb, 0, none⟩), .int .i64 y] wx (TwoL wx (c.m.M.blocks y))) := fun wx ho => by
    obtain ⟨hk, L, X, hp⟩ := C5.ph (F2.out.only0 ho)
    exact blocks_rep wx hp hk y HW.out
  generalize hbn : (c.m.M.blocks y).1.length = bn at *
  have HBN := Lib.hid hbn
  clear hbn
  have HQ0 : Hid (Only [] w2 w2.drew) := (Only.refl [] w2).drew
  go_region_held3 (fun w' => w'.cell? ⟨b, 2, none⟩ = some (.pointer (some ⟨x.hb, 0, none⟩)) ∧ w'.cell? ⟨g, 0, none⟩ = some (.int .i64 y))
    (first | (exact ⟨(C5.row F2.out).cell 2 rfl, (C5.last F2.out).cell 0 rfl⟩) | (exact ⟨(C5.row F3.out).cell 2 rfl, (C5.last F3.out).cell 0 rfl⟩))
    (first | (go_at_call 115; refine (HC.out _ HQ0.out).mono ?_; rintro e w3 ⟨v, rfl, hi, ho⟩; obtain ⟨va, vc, rfl⟩ := hi.len; rw [HBN.out] at *; have F3 := Lib.hid (F2.out.drew.only0 ho); clear hi ho))
  have F4 : Hid (Fam w0 w3 (C5 b c x ++ l)) := by
    have f4 : Fam w0 w3 ((C5 b c x ++ l) ++ [RowA g 160 [.int .i64 y]]) := F3.out
    exact f4.pop
  clear HC F2 HQ0 F3
  go_wp2_with fail
  exact HR.out _ F4.out
theorem ccost_4a (w : World) (hf : Fam w0 w (C5 b c x ++ l)) (hx : x.ok c) (h : c.Okc) (hp : c.ph = 4) (hl : c.mv = 8 * c.pages) : Calls Tryz.prog 42 #[.pointer (some ⟨b, 0, none⟩)] w (KDid w0 l b c x) := by
  refine calls_abs fun R hR => ?_
  obtain ⟨_, _, x2, _, _, x5, _⟩ := CRow.cells hf
  have cn := cnone_rep w x2
  have cx := cnext_rep w hf h hx (by omega)
  unfold Co.nextV at cx
  rw [if_neg (show ¬ c.ph = 1 by omega), if_neg (show ¬ c.ph = 2 by omega), if_neg (show ¬ c.ph = 3 by omega), if_pos hl] at cx
  rw [hp] at x5
  have HF := Lib.hid hf
  have HX := Lib.hid hx
  have HH := Lib.hid h
  have a0 := fun (W : World) (v : Value) => ta_bm W v
  have a1 := fun (W : World) (v : Value) => ta_bf W v
  have a2 := fun (W : World) (v : Value) => ta_bb W v
  have HR : Hid (∀ w', Fam w0 w' (C5 b c x ++ l) → R (.returned (.tuple #[.int .i64 (1), .int .i64 0])) w') := fun w' h2 => hR.out _ _ ⟨by rw [step_4a hp hl], h2⟩
  clear hf hx h hR hp hl
  go_enter Tryz.func42, Tryz.ntmps42
  go_wp2_with fail
  refine cn.mono ?_
  rintro e _ ⟨rfl, rfl⟩
  clear cn
  go_wp2_with fail
  refine cx.mono ?_
  rintro e _ ⟨rfl, k, rfl⟩
  have F1 := Lib.hid (HF.out.drewN k)
  generalize w.drewN k = w1 at *
  have F2 := Lib.hid (C5.alloc F1.out (.cells #[.int .i64 0] 163))
  clear cx
  go_wp2_with fail
  exact HR.out _ F2.out
theorem ccost_4b (w : World) (hf : Fam w0 w (C5 b c x ++ l)) (hx : x.ok c) (h : c.Okc) (hp : c.ph = 4) (hl : ¬ c.mv = 8 * c.pages) : Calls Tryz.prog 42 #[.pointer (some ⟨b, 0, none⟩)] w (KDid w0 l b c x) := by
  refine calls_abs fun R hR => ?_
  obtain ⟨_, _, x2, _, _, x5, _⟩ := CRow.cells hf
  have cn := cnone_rep w x2
  have cx := cnext_rep w hf h hx (by omega)
  unfold Co.nextV at cx
  rw [if_neg (show ¬ c.ph = 1 by omega), if_neg (show ¬ c.ph = 2 by omega), if_neg (show ¬ c.ph = 3 by omega), if_neg hl] at cx
  rw [hp] at x5
  have HF := Lib.hid hf
  have HX := Lib.hid hx
  have HH := Lib.hid h
  have a0 := fun (W : World) (v : Value) => ta_vm W v
  have a1 := fun (W : World) (v : Value) => ta_vf W v
  have a2 := fun (W : World) (v : Value) => ta_vb W v
  have HR : Hid (∀ w', Fam w0 w' (C5 b c x ++ l) → R (.returned (.tuple #[.int .i64 c.step.1, .int .i64 c.step.2.1])) w') := fun w' h2 => hR.out _ _ ⟨rfl, h2⟩
  clear hf hx h hR hp hl
  go_enter Tryz.func42, Tryz.ntmps42
  go_wp2_with fail
  refine cn.mono ?_
  rintro e _ ⟨rfl, rfl⟩
  clear cn
  go_wp2_with fail
  refine cx.mono ?_
  rintro e _ ⟨rfl, k, rfl⟩
  have F1 := Lib.hid (HF.out.drewN k)
  generalize w.drewN k = w1 at *
  have cc := ccopy_any w1 F1.out HX.out HH.out
  clear cx
  go_wp2_with fail
  refine cc.mono ?_
  rintro e w2 ⟨b2, rfl, x2, hx2, hf2⟩
  have cs := cstep_any w2 hf2 hx2 HH.out
  clear cc hx2 hf2 F1
  go_wp2_with fail
  refine cs.mono ?_
  rintro e w3 ⟨rfl, x3, _, hf3⟩
  have F3 := Lib.hid (Fam.rest hf3)
  clear cs hf3
  go_wp2_with fail
  exact HR.out _ F3.out
theorem ccost_0 (w : World) (hf : Fam w0 w (C5 b c x ++ l)) (hx : x.ok c) (h : c.Okc) (hp : c.ph = 0) : Calls Tryz.prog 42 #[.pointer (some ⟨b, 0, none⟩)] w (KDid w0 l b c x) := by
  refine calls_abs fun R hR => ?_
  obtain ⟨_, _, x2, _, _, x5, _⟩ := CRow.cells hf
  have cn := cnone_rep w x2
  rw [hp] at x5
  have HH := Lib.hid h
  have cc := ccopy_any w hf hx h
  have HR : Hid (∀ w', Fam w0 w' (C5 b c x ++ l) → R (.returned (.tuple #[.int .i64 c.step.1, .int .i64 c.step.2.1])) w') := fun w' h2 => hR.out _ _ ⟨rfl, h2⟩
  clear hf hx h hR hp
  go_enter Tryz.func42, Tryz.ntmps42
  go_wp2_with fail
  refine cn.mono ?_
  rintro e _ ⟨rfl, rfl⟩
  clear cn
  go_wp2_with fail
  refine cc.mono ?_
  rintro e w2 ⟨b2, rfl, x2, hx2, hf2⟩
  have cs := cstep_any w2 hf2 hx2 HH.out
  clear cc hx2 hf2
  go_wp2_with fail
  refine cs.mono ?_
  rintro e w3 ⟨rfl, x3, _, hf3⟩
  have F3 := Lib.hid (Fam.rest hf3)
  clear cs hf3
  go_wp2_with fail
  exact HR.out _ F3.out
theorem ccost_any (w : World) (hf : Fam w0 w (C5 b c x ++ l)) (hx : x.ok c) (h : c.Okc) : Calls Tryz.prog 42 #[.pointer (some ⟨b, 0, none⟩)] w (KDid w0 l b c x) := by
  rcases ph_cases h with hp | hp | hp | hp | hp
  · exact ccost_0 w hf hx h hp
  · by_cases hl : c.m.list = []
    · exact ccost_1a w hf hx h hp hl
    · exact ccost_1b w hf hx h hp hl
  · by_cases ht : c.t.ph = 0
    · by_cases hl : c.m.list = []
      · exact ccost_2b w hf hx h hp ht hl
      · exact ccost_2c w hf hx h hp ht hl
    · exact ccost_2a w hf hx h hp ht
  · cases hl : c.sw with
    | nil => exact ccost_3a w hf hx h hp hl
    | cons y r => exact ccost_3b w hf hx h hp hl
  · by_cases hl : c.mv = 8 * c.pages
    · exact ccost_4a w hf hx h hp hl
    · exact ccost_4b w hf hx h hp hl
end
end Go.Proofs.YthflghdaejbdkaaGreat
namespace Go.Proofs.YthflghdaejbdkaaGreat
open Go.RowKit Go.Maps
set_option maxHeartbeats 6400000
set_option maxRecDepth 100000
set_option linter.unusedVariables false
def TDid2 (w0 : World) (l : List Asn) (b : Nat) (r : Int × Int × Co) (e : Ending) (w' : World) : Prop := e = .returned (.tuple #[.int .i64 r.1, .int .i64 r.2.1]) ∧ ∃ x' : CX, x'.ok r.2.2 ∧ Fam w0 w' (C5 b r.2.2 x' ++ l)
section
variable {w0 w : World} {l : List Asn} {b : Nat} {c : Co} {x : CX} {i : Nat}
theorem cfinish_nil (w : World) : Calls Tryz.prog 44 #[.pointer none] w (Exact w (.tuple #[.int .i64 0, .int .i64 0, .int .i64 1])) := by
  refine calls_abs fun R hR => ?_
  have c := cstep_nil w
  go_enter Tryz.func44, Tryz.ntmps44
  go_wp2_with fail
  go_loopw [2, 3] (fun iv jv wr => iv = .int .i64 0 ∧ jv = .int .i64 0 ∧ wr = w) (fun _ _ _ => 0)
  case atStart => exact ⟨rfl, rfl, rfl⟩
  case round =>
    obtain ⟨rfl, rfl, rfl⟩ := hrel
    go_wp2_with fail
    refine c.mono ?_
    rintro e _ ⟨rfl, rfl⟩
    go_wp2_with fail
    refine bodyPost_ret (results_tmp3 rfl _ _ _) rfl ?_
    exact hR.out _ _ ⟨rfl, rfl⟩
theorem cfinish_any (w : World) (hf : Fam w0 w (C5 b c x ++ l)) (hx : x.ok c) (h : c.Okc) : Calls Tryz.prog 44 #[.pointer (some ⟨b, 0, none⟩)] w (fun e w' => e = .returned (.tuple #[.int .i64 c.finish.1, .int .i64 c.finish.2.1, .int .i64 c.finish.2.2.1]) ∧ ∃ x' : CX, x'.ok c.finish.2.2.2 ∧ Fam w0 w' (C5 b c.finish.2.2.2 x' ++ l)) := by
  refine calls_abs fun R hR => ?_
  unfold Co.finish at hR
  have HH := Lib.hid h
  by_cases hp : c.ph = 0
  · rw [if_pos hp] at hR
    have cs := cstep_any w hf hx h
    rw [Co.step_idle hp] at cs
    clear hf hx h hp
    go_enter Tryz.func44, Tryz.ntmps44
    go_wp2_with fail
    go_loopw [2, 3] (fun iv jv wr => iv = .int .i64 0 ∧ jv = .int .i64 0 ∧ wr = w) (fun _ _ _ => 0)
    case atStart => exact ⟨rfl, rfl, rfl⟩
    case round =>
      obtain ⟨rfl, rfl, rfl⟩ := hrel
      go_wp2_with fail
      refine cs.mono ?_
      rintro e w1 ⟨rfl, x', hx', hf'⟩
      have HE : Hid (∃ x' : CX, x'.ok c ∧ Fam w0 w1 (C5 b c x' ++ l)) := ⟨x', hx', hf'⟩
      clear cs hx' hf'
      go_wp2_with fail
      refine bodyPost_ret (results_tmp3 rfl _ _ _) rfl ?_
      exact hR.out _ _ ⟨rfl, HE.out⟩
  · rw [if_neg hp] at hR
    have HF : Hid (∃ x' : CX, x'.ok c ∧ Fam w0 w (C5 b c x' ++ l)) := ⟨x, hx, hf⟩
    have HP := Lib.hid hp
    have HMU := Lib.hid (Co.mu_le h)
    clear hf hx h hp
    go_enter Tryz.func44, Tryz.ntmps44
    go_wp2_with fail
    go_loopw [2, 3] (fun iv jv wr => ∃ k : Nat, iv = .int .i64 k ∧ jv = .int .i64 (Co.costs k c) ∧ (∃ x' : CX, x'.ok (Co.steps k c) ∧ Fam w0 wr (C5 b (Co.steps k c) x' ++ l)) ∧ Hid (∀ j, j < k → (Co.steps j c).ph ≠ 0)) (fun iv _ _ => 40000 - (intOf iv).toNat)
    case atStart => exact ⟨0, rfl, rfl, HF.out, fun j hj => by omega⟩
    case round => as_aux_lemma =>
      clear HF
      obtain ⟨k, rfl, rfl, ⟨x', hx', hf'⟩, HB⟩ := hrel
      have hok := HH.out.steps k
      have cs := cstep_any wr hf' hx' hok
      have hmu := Co.steps_mu HH.out k HB.out
      have hcl := Co.costs_le HH.out k
      have hk : k ≤ 30192 := by have := HMU.out; omega
      by_cases he : (Co.steps k c).ph = 0
      · have hfi := Co.fins_eq HH.out HB.out he
        have hk0 : k ≠ 0 := fun e => by rw [e] at he; exact HP.out he
        have hkb : ((k : Int) == 0) = false := by simpa using hk0
        rw [Co.step_idle he] at cs
        rw [← hfi] at hR
        clear hf' hx' hok hfi hk0 hmu he
        generalize Co.costs k c = co at *
        go_wp2_with fail
        refine cs.mono ?_
        rintro e w1 ⟨rfl, x1, hx1, hf1⟩
        have HE : Hid (∃ x' : CX, x'.ok (Co.steps k c) ∧ Fam w0 w1 (C5 b (Co.steps k c) x' ++ l)) := ⟨x1, hx1, hf1⟩
        clear cs hx1 hf1
        go_wp2_with fail
        refine bodyPost_ret (results_tmp3 rfl _ _ _) rfl ?_
        exact hR.out _ _ ⟨rfl, HE.out⟩
      · have hco := hok.cost he
        have HBN : Hid (∀ j, j < k + 1 → (Co.steps j c).ph ≠ 0) := fun j hj => by
          by_cases e : j = k
          · rw [e]; exact he
          · exact HB.out j (by omega)
        have hmu2 := Co.steps_mu HH.out (k + 1) HBN.out
        have HCO : Hid (Co.costs (k + 1) c = Co.costs k c + (Co.steps k c).step.1) := rfl
        have cs2 : Calls Tryz.prog 41 #[.pointer (some ⟨b, 0, none⟩)] wr (fun e w' => e = .returned (.tuple #[.int .i64 (Co.steps k c).step.1, .int .i64 0]) ∧ ∃ x' : CX, x'.ok (Co.steps (k + 1) c) ∧ Fam w0 w' (C5 b (Co.steps (k + 1) c) x' ++ l)) := cs.mono fun e w' ⟨h1, h2⟩ => ⟨by rw [h1, hco.2.2], h2⟩
        have hc1 := hco.1
        have hc2 := hco.2.1
        clear cs hf' hx' hok he hco hmu
        generalize (Co.steps (k + 1) c).mu = m1 at *
        generalize c.mu = m2 at *
        generalize (Co.steps k c).step.1 = sc at *
        generalize Co.costs k c = co at *
        go_wp2_with fail
        refine cs2.mono ?_
        rintro e w1 ⟨rfl, x1, hx1, hf1⟩
        have HE : Hid (∃ x' : CX, x'.ok (Co.steps (k + 1) c) ∧ Fam w0 w1 (C5 b (Co.steps (k + 1) c) x' ++ l)) := ⟨x1, hx1, hf1⟩
        clear cs2 hx1 hf1
        go_wp2_with fail
        exact ⟨⟨k + 1, by go_num, by rw [HCO.out], HE.out, HBN⟩, by simp [intOf]; omega⟩
theorem cgive_any (w : World) (hf : Fam w0 w (C5 b c x ++ l)) (hx : x.ok c) (h : c.Ok) (n : Int) (hn : 0 ≤ n ∧ n ≤ 10000) : Calls Tryz.prog 116 #[.pointer (some ⟨b, 0, none⟩), .int .i64 n] w (fun e w' => e = .returned (.int .i64 (c.give n).1) ∧ ∃ x' : CX, x'.ok (c.give n).2 ∧ Fam w0 w' (C5 b (c.give n).2 x' ++ l)) := by
  refine calls_abs fun R hR => ?_
  unfold Co.give at hR
  obtain ⟨_, _, _, _, _, x5, x6, _, _, _, xf⟩ := CRow.cells hf
  by_cases hp : c.ph = 0
  · rw [if_pos hp] at hR
    rw [hp] at x5
    have HE : Hid (∃ x' : CX, x'.ok c ∧ Fam w0 w (C5 b c x' ++ l)) := ⟨x, hx, hf⟩
    clear hf hx h hp
    go_enter Tryz.func116, Tryz.ntmps116
    go_wp2_with fail
    exact hR.out _ _ ⟨rfl, HE.out⟩
  · rw [if_neg hp] at hR
    have HD := Lib.hid (h.k.more hp hn.1)
    have hcr1 := h.k.cr1
    have hcr2 := h.cr2
    have hpb : ((c.ph : Int) == 0) = false := by simpa using hp
    have x6f := xf 6
    have F1 : Hid (∃ x' : CX, x'.ok (c.more n) ∧ Fam w0 (w.setCell ⟨b, 6, none⟩ (.int .i64 (c.cr + n))) (C5 b (c.more n) x' ++ l)) := ⟨x, ⟨hx.ov, hx.mv, hx.mv2⟩, C5.setCr hf (c.cr + n)⟩
    have HMX : Hid ((c.more n).cr ≤ 10060) := by show c.cr + n ≤ 10060; omega
    have hgu := (Co.gives_spec HD.out).2.2
    have hgb : (c.more n).gives ≤ 10061 := by
      have h2 := HMX.out
      unfold Co.nu at hgu
      split at hgu <;> omega
    have HGB := Lib.hid hgb
    clear hf hx h hp xf hgu hgb
    generalize c.cr = cr at *
    generalize c.ph = ph at *
    go_enter Tryz.func116, Tryz.ntmps116
    go_upto_region 5 with fail
    generalize w.setCell ⟨b, 6, none⟩ (.int .i64 (cr + n)) = w1 at *
    generalize c.more n = d at *
    clear x5 x6 x6f hpb hcr1 hcr2 hn
    go_loopw [5] (fun iv wr => ∃ k : Nat, iv = .int .i64 k ∧ (∃ x' : CX, x'.ok (Co.pays k d) ∧ Fam w0 wr (C5 b (Co.pays k d) x' ++ l)) ∧ Hid (∀ j, j < k → ¬ (Co.pays j d).stops)) (fun iv _ => 20000 - (intOf iv).toNat)
    case atStart => exact ⟨0, rfl, F1.out, fun j hj => by omega⟩
    case round => as_aux_lemma =>
      clear F1
      obtain ⟨k, rfl, ⟨x', hx', hf'⟩, HB⟩ := hrel
      obtain ⟨hok, hnu, hcm⟩ := Co.pays_ok HD.out k HB.out
      have hcr := hok.cr1
      have hcx : (Co.pays k d).cr ≤ 10060 := by have := HMX.out; omega
      have hkb : k ≤ 10061 := by
        have h1 := HGB.out
        rcases Nat.lt_or_ge d.gives k with h2 | h2
        · exact absurd (Co.gives_spec HD.out).1 (HB.out _ h2)
        · omega
      obtain ⟨_, _, _, _, _, x5, x6, _, _, _, xf⟩ := CRow.cells hf'
      have HEX : Hid (∃ x' : CX, x'.ok (Co.pays k d) ∧ Fam w0 wr (C5 b (Co.pays k d) x' ++ l)) := ⟨x', hx', hf'⟩
      by_cases he : (Co.pays k d).ph = 0
      · have hg := Co.gives_eq HD.out HB.out (.inl he)
        rw [← hg] at hR
        rw [he] at x5
        clear hf' hx' hok hnu hcm he hg xf hcr hcx
        go_wp2_with fail
        exact hR.out _ _ ⟨rfl, HEX.out⟩
      · have cc := ccost_any wr hf' hx' hok
        have hco := hok.cost he
        have HX' := Lib.hid hx'
        have HOK := Lib.hid hok
        have heb : (((Co.pays k d).ph : Int) != 0) = true := by simpa using he
        have hc1 := hco.1
        have hc2 := hco.2.1
        by_cases hst : (Co.pays k d).cr < (Co.pays k d).step.1
        · have hg := Co.gives_eq HD.out HB.out (.inr hst)
          rw [← hg] at hR
          clear hf' hx' hok hnu hcm he hg xf hco
          unfold KDid at cc
          generalize (Co.pays k d).step.2.1 = er at *
          generalize (Co.pays k d).step.1 = sc at *
          generalize hcr' : (Co.pays k d).cr = cr at *
          generalize hph' : (Co.pays k d).ph = ph at *
          go_wp2_with fail
          refine cc.mono ?_
          rintro e w2 ⟨rfl, hf2⟩
          obtain ⟨_, _, _, _, _, y5, y6, _⟩ := CRow.cells hf2
          rw [hcr'] at y6
          have HE : Hid (∃ x' : CX, x'.ok (Co.pays k d) ∧ Fam w0 w2 (C5 b (Co.pays k d) x' ++ l)) := ⟨x', HX'.out, hf2⟩
          clear cc hf2 x5 x6 HEX
          go_wp2_with fail
          exact hR.out _ _ ⟨rfl, HE.out⟩
        · have hns : ¬ (Co.pays k d).stops := fun e => by rcases e with e | e; exact he e; exact hst e
          have HBN : Hid (∀ j, j < k + 1 → ¬ (Co.pays j d).stops) := fun j hj => by
            by_cases e : j = k
            · rw [e]; exact hns
            · exact HB.out j (by omega)
          have hkn : k < d.gives := by
            rcases Nat.lt_or_ge k d.gives with h1 | h1
            · exact h1
            · exact absurd (Co.gives_spec HD.out).1 (HBN.out _ (by
                rcases Nat.eq_or_lt_of_le h1 with h2 | h2
                · omega
                · omega))
          have HPAY : Hid (Co.pays (k + 1) d = ({ Co.pays k d with cr := (Co.pays k d).cr - (Co.pays k d).step.1 } : Co).step.2.2) := rfl
          have HOK2 : Hid (({ Co.pays k d with cr := (Co.pays k d).cr - (Co.pays k d).step.1 } : Co).Okc) := hok.credit he (by omega)
          have HPH : Hid ((Co.pays k d).ph ≠ 0) := he
          have hkg := HGB.out
          clear hf' hx' hok hnu hcm he xf hco hns HEX
          unfold KDid at cc
          generalize (Co.pays k d).step.2.1 = er at *
          generalize hsc : (Co.pays k d).step.1 = sc at *
          have HSC := Lib.hid hsc
          clear hsc
          generalize hcr' : (Co.pays k d).cr = cr at *
          generalize hph' : (Co.pays k d).ph = ph at *
          go_wp2_with fail
          refine cc.mono ?_
          rintro e w2 ⟨rfl, hf2⟩
          obtain ⟨_, _, _, _, _, y5, y6, _, _, _, yf⟩ := CRow.cells hf2
          rw [hcr'] at y6
          have y6f := yf 6
          have F3 : Hid (Fam w0 (w2.setCell ⟨b, 6, none⟩ (.int .i64 (cr - sc))) (C5 b { Co.pays k d with cr := cr - sc } x' ++ l)) := C5.setCr hf2 (cr - sc)
          clear cc hf2 x5 x6 yf
          go_upto_region 9 with fail
          generalize w2.setCell ⟨b, 6, none⟩ (.int .i64 (cr - sc)) = w3 at *
          have cs := cstep_any w3 F3.out ⟨HX'.out.ov, HX'.out.mv, HX'.out.mv2⟩ HOK2.out
          clear y5 y6 y6f F3
          replace cs : Calls Tryz.prog 41 #[.pointer (some ⟨b, 0, none⟩)] w3 (fun e w' => ∃ a b', e = .returned (.tuple #[.int .i64 a, .int .i64 b']) ∧ ∃ x' : CX, x'.ok (Co.pays (k + 1) d) ∧ Fam w0 w' (C5 b (Co.pays (k + 1) d) x' ++ l)) := cs.mono fun e w' ⟨h1, x1, h2, h3⟩ => ⟨_, _, h1, x1, by rw [HPAY.out]; exact h2, by rw [HPAY.out]; exact h3⟩
          go_wp2_with fail
          refine cs.mono ?_
          rintro e w4 ⟨ra, rb, rfl, x1, hx1, hf1⟩
          have HE : Hid (∃ x' : CX, x'.ok (Co.pays (k + 1) d) ∧ Fam w0 w4 (C5 b (Co.pays (k + 1) d) x' ++ l)) := ⟨x1, hx1, hf1⟩
          clear cs hx1 hf1
          go_wp2_with fail
          exact ⟨⟨k + 1, by go_num, HE.out, HBN⟩, by simp [intOf]; omega⟩
end
end Go.Proofs.YthflghdaejbdkaaGreat
