/- Lemmas of this claim. -/
import Derived.Test.YthflghdaejbdkaaGreatXeCyU
namespace Go.Proofs.YthflghdaejbdkaaGreat
open Go.RowKit Go.Maps
set_option maxHeartbeats 6400000
set_option maxRecDepth 100000
set_option linter.unusedVariables false
def KDid (w0 : World) (l : List Asn) (b : Nat) (c : Co) (x : CX) (e : Ending) (w' : World) : Prop := e = .returned (.tuple #[.int .i64 c.step.1, .int .i64 c.step.2.1]) ∧ Fam w0 w' (C5 b c x ++ l)
section
variable {w0 w : World} {l : List Asn} {b : Nat} {c : Co} {x : CX} {i : Nat}
theorem ta_mm (W : World) (v : Value) : (Instr.typeAssert (.iface 157 v) 153 157 true).run Tryz.prog W = .ok (.tuple #[v, .bool true]) W := by kernel_rfl
theorem ta_fm (W : World) (v : Value) : (Instr.typeAssert (.iface 160 v) 153 157 true).run Tryz.prog W = .ok (.tuple #[.agg #[], .bool false]) W := by kernel_rfl
theorem ta_ff (W : World) (v : Value) : (Instr.typeAssert (.iface 160 v) 153 160 true).run Tryz.prog W = .ok (.tuple #[v, .bool true]) W := by kernel_rfl
theorem ta_bm (W : World) (v : Value) : (Instr.typeAssert (.iface 163 v) 153 157 true).run Tryz.prog W = .ok (.tuple #[.agg #[], .bool false]) W := by kernel_rfl
theorem ta_bf (W : World) (v : Value) : (Instr.typeAssert (.iface 163 v) 153 160 true).run Tryz.prog W = .ok (.tuple #[.agg #[.int .i64 0], .bool false]) W := by kernel_rfl
theorem ta_bb (W : World) (v : Value) : (Instr.typeAssert (.iface 163 v) 153 163 true).run Tryz.prog W = .ok (.tuple #[v, .bool true]) W := by kernel_rfl
theorem ta_rm (W : World) (v : Value) : (Instr.typeAssert (.iface 218 v) 153 157 true).run Tryz.prog W = .ok (.tuple #[.agg #[], .bool false]) W := by kernel_rfl
theorem ta_rf (W : World) (v : Value) : (Instr.typeAssert (.iface 218 v) 153 160 true).run Tryz.prog W = .ok (.tuple #[.agg #[.int .i64 0], .bool false]) W := by kernel_rfl
theorem ta_rb (W : World) (v : Value) : (Instr.typeAssert (.iface 218 v) 153 163 true).run Tryz.prog W = .ok (.tuple #[.agg #[.int .i64 0], .bool false]) W := by kernel_rfl
theorem ta_vm (W : World) (v : Value) : (Instr.typeAssert (.iface 219 v) 153 157 true).run Tryz.prog W = .ok (.tuple #[.agg #[], .bool false]) W := by kernel_rfl
theorem ta_vf (W : World) (v : Value) : (Instr.typeAssert (.iface 219 v) 153 160 true).run Tryz.prog W = .ok (.tuple #[.agg #[.int .i64 0], .bool false]) W := by kernel_rfl
theorem ta_vb (W : World) (v : Value) : (Instr.typeAssert (.iface 219 v) 153 163 true).run Tryz.prog W = .ok (.tuple #[.agg #[.int .i64 0], .bool false]) W := by kernel_rfl
theorem next_step {m : Mk} : m.next = (m.step.1, m.step.2.1) := by unfold Mk.next Mk.step; cases m.list <;> rfl
theorem ccost_1a (w : World) (hf : Fam w0 w (C5 b c x ++ l)) (hx : x.ok c) (h : c.Okc) (hp : c.ph = 1) (hl : c.m.list = []) : Calls Tryz.prog 42 #[.pointer (some ⟨b, 0, none⟩)] w (KDid w0 l b c x) := by
  refine calls_abs fun R hR => ?_
  obtain ⟨_, _, x2, _, _, x5, _⟩ := CRow.cells hf
  have cn := cnone_rep w x2
  have cx := cnext_rep w hf h hx (by omega)
  unfold Co.nextV at cx
  rw [if_pos hp, if_pos hl] at cx
  rw [hp] at x5
  have HF := Lib.hid hf
  have HX := Lib.hid hx
  have HH := Lib.hid h
  have a0 := fun (W : World) (v : Value) => ta_bm W v
  have a1 := fun (W : World) (v : Value) => ta_bf W v
  have a2 := fun (W : World) (v : Value) => ta_bb W v
  have HR : Hid (∀ w', Fam w0 w' (C5 b c x ++ l) → R (.returned (.tuple #[.int .i64 (1), .int .i64 0])) w') := fun w' h2 => hR.out _ _ ⟨by rw [step_1a hp hl]; rfl, h2⟩
  clear hf hx h hR hp hl
  go_enter Tryz.func42, Tryz.ntmps42
  go_wp2_with fail
  refine cn.mono ?_
  rintro e _ ⟨rfl, rfl⟩
  clear cn
  go_wp2_with fail
  refine cx.mono ?_
  rintro e _ ⟨rfl, k, rfl⟩
  have F1 := Lib.hid (HF.out.drewN k)
  generalize w.drewN k = w1 at *
  have F2 := Lib.hid (C5.alloc F1.out (.cells #[.int .i64 2] 163))
  clear cx
  go_wp2_with fail
  exact HR.out _ F2.out
theorem ccost_1b (w : World) (hf : Fam w0 w (C5 b c x ++ l)) (hx : x.ok c) (h : c.Okc) (hp : c.ph = 1) (hl : ¬ c.m.list = []) : Calls Tryz.prog 42 #[.pointer (some ⟨b, 0, none⟩)] w (KDid w0 l b c x) := by
  refine calls_abs fun R hR => ?_
  obtain ⟨_, _, x2, _, _, x5, _⟩ := CRow.cells hf
  have cn := cnone_rep w x2
  have cx := cnext_rep w hf h hx (by omega)
  unfold Co.nextV at cx
  rw [if_pos hp, if_neg hl] at cx
  rw [hp] at x5
  have HF := Lib.hid hf
  have HX := Lib.hid hx
  have HH := Lib.hid h
  have a0 := fun (W : World) (v : Value) => ta_mm W v
  have HW := Lib.hid (step_wf (h.mo (.inl hp)))
  have hlr := len_range h.hf.ok c.m.step.1
  have HR : Hid (∀ w', Fam w0 w' (C5 b c x ++ l) → R (.returned (.tuple #[.int .i64 (1 + c.m.M.len c.m.step.1), .int .i64 0])) w') := fun w' h2 => hR.out _ _ ⟨by rw [step_1b hp hl]; rfl, h2⟩
  clear hf hx h hR hp hl
  go_enter Tryz.func42, Tryz.ntmps42
  go_wp2_with fail
  refine cn.mono ?_
  rintro e _ ⟨rfl, rfl⟩
  clear cn
  go_wp2_with fail
  refine cx.mono ?_
  rintro e _ ⟨rfl, k, rfl⟩
  have F1 := Lib.hid (HF.out.drewN k)
  generalize w.drewN k = w1 at *
  have F2 := Lib.hid (C5.alloc F1.out (.cells #[] 157))
  obtain ⟨_, _, _, _, z4, _⟩ := CRow.cells F2.out
  have cm := mnext_rep _ (C5.t2 (b := b) (c := c) (x := x) (l := l)) (hb := x.hb) (p := x.p) (m := c.m) F2.out
  rw [next_step] at cm
  clear cx
  go_upto_region 5 with fail
  generalize w1.alloc (.cells #[] 157) = w2 at *
  go_wp2_with fail
  refine cm.mono ?_
  rintro e _ ⟨rfl, rfl⟩
  have cl := clength_rep w2 F2.out c.m.step.1 HW.out
  clear cm F1
  generalize c.m.M.len c.m.step.1 = n at *
  go_wp2_with fail
  refine cl.mono ?_
  rintro e _ ⟨rfl, k2, rfl⟩
  have F3 := Lib.hid (F2.out.drewN k2)
  clear cl F2
  go_wp2_with fail
  exact HR.out _ F3.out
theorem ccost_2a (w : World) (hf : Fam w0 w (C5 b c x ++ l)) (hx : x.ok c) (h : c.Okc) (hp : c.ph = 2) (hl : c.t.ph ≠ 0) : Calls Tryz.prog 42 #[.pointer (some ⟨b, 0, none⟩)] w (KDid w0 l b c x) := by
  refine calls_abs fun R hR => ?_
  obtain ⟨_, _, x2, _, _, x5, _⟩ := CRow.cells hf
  have cn := cnone_rep w x2
  have cx := cnext_rep w hf h hx (by omega)
  unfold Co.nextV at cx
  rw [if_neg (show ¬ c.ph = 1 by omega), if_pos hp, if_pos hl] at cx
  rw [hp] at x5
  have HF := Lib.hid hf
  have HX := Lib.hid hx
  have HH := Lib.hid h
  have a0 := fun (W : World) (v : Value) => ta_rm W v
  have a1 := fun (W : World) (v : Value) => ta_rf W v
  have a2 := fun (W : World) (v : Value) => ta_rb W v
  have HR : Hid (∀ w', Fam w0 w' (C5 b c x ++ l) → R (.returned (.tuple #[.int .i64 c.step.1, .int .i64 c.step.2.1])) w') := fun w' h2 => hR.out _ _ ⟨rfl, h2⟩
  clear hf hx h hR hp hl
  go_enter Tryz.func42, Tryz.ntmps42
  go_wp2_with fail
  refine cn.mono ?_
  rintro e _ ⟨rfl, rfl⟩
  clear cn
  go_wp2_with fail
  refine cx.mono ?_
  rintro e _ ⟨rfl, k, rfl⟩
  have F1 := Lib.hid (HF.out.drewN k)
  generalize w.drewN k = w1 at *
  have cc := ccopy_any w1 F1.out HX.out HH.out
  clear cx
  go_wp2_with fail
  refine cc.mono ?_
  rintro e w2 ⟨b2, rfl, x2, hx2, hf2⟩
  have cs := cstep_any w2 hf2 hx2 HH.out
  clear cc hx2 hf2 F1
  go_wp2_with fail
  refine cs.mono ?_
  rintro e w3 ⟨rfl, x3, _, hf3⟩
  have F3 := Lib.hid (Fam.rest hf3)
  clear cs hf3
  go_wp2_with fail
  exact HR.out _ F3.out
theorem ccost_2b (w : World) (hf : Fam w0 w (C5 b c x ++ l)) (hx : x.ok c) (h : c.Okc) (hp : c.ph = 2) (ht : c.t.ph = 0) (hl : c.m.list = []) : Calls Tryz.prog 42 #[.pointer (some ⟨b, 0, none⟩)] w (KDid w0 l b c x) := by
  refine calls_abs fun R hR => ?_
  obtain ⟨_, _, x2, _, _, x5, _⟩ := CRow.cells hf
  have cn := cnone_rep w x2
  have cx := cnext_rep w hf h hx (by omega)
  unfold Co.nextV at cx
  rw [if_neg (show ¬ c.ph = 1 by omega), if_pos hp, if_neg (fun e => e ht), if_pos hl] at cx
  rw [hp] at x5
  have HF := Lib.hid hf
  have HX := Lib.hid hx
  have HH := Lib.hid h
  have a0 := fun (W : World) (v : Value) => ta_bm W v
  have a1 := fun (W : World) (v : Value) => ta_bf W v
  have a2 := fun (W : World) (v : Value) => ta_bb W v
  have HR : Hid (∀ w', Fam w0 w' (C5 b c x ++ l) → R (.returned (.tuple #[.int .i64 (1), .int .i64 0])) w') := fun w' h2 => hR.out _ _ ⟨by rw [step_2b hp ht hl]; rfl, h2⟩
  clear hf hx h hR hp hl ht
  go_enter Tryz.func42, Tryz.ntmps42
  go_wp2_with fail
  refine cn.mono ?_
  rintro e _ ⟨rfl, rfl⟩
  clear cn
  go_wp2_with fail
  refine cx.mono ?_
  rintro e _ ⟨rfl, k, rfl⟩
  have F1 := Lib.hid (HF.out.drewN k)
  generalize w.drewN k = w1 at *
  have F2 := Lib.hid (C5.alloc F1.out (.cells #[.int .i64 3] 163))
  clear cx
  go_wp2_with fail
  exact HR.out _ F2.out
theorem ccost_2c (w : World) (hf : Fam w0 w (C5 b c x ++ l)) (hx : x.ok c) (h : c.Okc) (hp : c.ph = 2) (ht : c.t.ph = 0) (hl : ¬ c.m.list = []) : Calls Tryz.prog 42 #[.pointer (some ⟨b, 0, none⟩)] w (KDid w0 l b c x) := by
  refine calls_abs fun R hR => ?_
  obtain ⟨_, _, x2, _, _, x5, _⟩ := CRow.cells hf
  have cn := cnone_rep w x2
  have cx := cnext_rep w hf h hx (by omega)
  unfold Co.nextV at cx
  rw [if_neg (show ¬ c.ph = 1 by omega), if_pos hp, if_neg (fun e => e ht), if_neg hl] at cx
  rw [hp] at x5
  have HF := Lib.hid hf
  have HX := Lib.hid hx
  have HH := Lib.hid h
  have a0 := fun (W : World) (v : Value) => ta_mm W v
  have HW := Lib.hid (step_wf (h.mo (.inr hp)))
  have hlr := len_range h.hf.ok c.m.step.1
  have HR : Hid (∀ w', Fam w0 w' (C5 b c x ++ l) → R (.returned (.tuple #[.int .i64 (1 + c.m.M.len c.m.step.1), .int .i64 0])) w') := fun w' h2 => hR.out _ _ ⟨by rw [step_2c hp ht hl]; rfl, h2⟩
  clear hf hx h hR hp hl ht
  go_enter Tryz.func42, Tryz.ntmps42
  go_wp2_with fail
  refine cn.mono ?_
  rintro e _ ⟨rfl, rfl⟩
  clear cn
  go_wp2_with fail
  refine cx.mono ?_
  rintro e _ ⟨rfl, k, rfl⟩
  have F1 := Lib.hid (HF.out.drewN k)
  generalize w.drewN k = w1 at *
  have F2 := Lib.hid (C5.alloc F1.out (.cells #[] 157))
  obtain ⟨_, _, _, _, z4, _⟩ := CRow.cells F2.out
  have cm := mnext_rep _ (C5.t2 (b := b) (c := c) (x := x) (l := l)) (hb := x.hb) (p := x.p) (m := c.m) F2.out
  rw [next_step] at cm
  clear cx
  go_upto_region 5 with fail
  generalize w1.alloc (.cells #[] 157) = w2 at *
  go_wp2_with fail
  refine cm.mono ?_
  rintro e _ ⟨rfl, rfl⟩
  have cl := clength_rep w2 F2.out c.m.step.1 HW.out
  clear cm F1
  generalize c.m.M.len c.m.step.1 = n at *
  go_wp2_with fail
  refine cl.mono ?_
  rintro e _ ⟨rfl, k2, rfl⟩
  have F3 := Lib.hid (F2.out.drewN k2)
  clear cl F2
  go_wp2_with fail
  exact HR.out _ F3.out
theorem ccost_3a (w : World) (hf : Fam w0 w (C5 b c x ++ l)) (hx : x.ok c) (h : c.Okc) (hp : c.ph = 3) (hl : c.sw = []) : Calls Tryz.prog 42 #[.pointer (some ⟨b, 0, none⟩)] w (KDid w0 l b c x) := by
  refine calls_abs fun R hR => ?_
  obtain ⟨_, _, x2, _, _, x5, _⟩ := CRow.cells hf
  have cn := cnone_rep w x2
  have cx := cnext_rep w hf h hx (by omega)
  unfold Co.nextV at cx
  rw [if_neg (show ¬ c.ph = 1 by omega), if_neg (show ¬ c.ph = 2 by omega), if_pos hp, hl] at cx
  rw [hp] at x5
  have HF := Lib.hid hf
  have HX := Lib.hid hx
  have HH := Lib.hid h
  have a0 := fun (W : World) (v : Value) => ta_bm W v
  have a1 := fun (W : World) (v : Value) => ta_bf W v
  have a2 := fun (W : World) (v : Value) => ta_bb W v
  have HR : Hid (∀ w', Fam w0 w' (C5 b c x ++ l) → R (.returned (.tuple #[.int .i64 (1), .int .i64 0])) w') := fun w' h2 => hR.out _ _ ⟨by rw [step_3a hp hl], h2⟩
  clear hf hx h hR hp hl
  go_enter Tryz.func42, Tryz.ntmps42
  go_wp2_with fail
  refine cn.mono ?_
  rintro e _ ⟨rfl, rfl⟩
  clear cn
  go_wp2_with fail
  refine cx.mono ?_
  rintro e _ ⟨rfl, k, rfl⟩
  have F1 := Lib.hid (HF.out.drewN k)
  generalize w.drewN k = w1 at *
  have F2 := Lib.hid (C5.alloc F1.out (.cells #[.int .i64 4] 163))
  clear cx
  go_wp2_with fail
  exact HR.out _ F2.out
theorem ccost_3b (w : World) (hf : Fam w0 w (C5 b c x ++ l)) (hx : x.ok c) (h : c.Okc) (hp : c.ph = 3) {y : Int} {r : List Int} (hl : c.sw = y :: r) : Calls Tryz.prog 42 #[.pointer (some ⟨b, 0, none⟩)] w (KDid w0 l b c x) := by
  refine calls_abs fun R hR => ?_
  obtain ⟨_, _, x2, _, _, x5, _⟩ := CRow.cells hf
  have cn := cnone_rep w x2
  have cx := cnext_rep w hf h hx (by omega)
  unfold Co.nextV at cx
  rw [if_neg (show ¬ c.ph = 1 by omega), if_neg (show ¬ c.ph = 2 by omega), if_pos hp, hl] at cx
  rw [hp] at x5
  have HF := Lib.hid hf
  have HX := Lib.hid hx
  have HH := Lib.hid h
  have a0 := fun (W : World) (v : Value) => ta_fm W v
  have a1 := fun (W : World) (v : Value) => ta_ff W v
  have HW : Hid (wfI y) := wf192 (h.hf.ok.inR (h.su y (by rw [hl]; exact List.mem_cons_self)))
  have hbr := blocks_range h.hf.ok y
  have HR : Hid (∀ w', Fam w0 w' (C5 b c x ++ l) → R (.returned (.tuple #[.int .i64 (1 + ((c.m.M.blocks y).1.length : Int)), .int .i64 0])) w') := fun w' h2 => hR.out _ _ ⟨by rw [step_3b hp hl, Co.free, hl], h2⟩
  clear hf hx h hR hp hl
  go_enter Tryz.func42, Tryz.ntmps42
  go_wp2_with fail
  refine cn.mono ?_
  rintro e _ ⟨rfl, rfl⟩
  clear cn
  go_wp2_with fail
  refine cx.mono ?_
  rintro e _ ⟨rfl, k, rfl⟩
  have F1 := Lib.hid (HF.out.drewN k)
  generalize w.drewN k = w1 at *
  have F2 : Hid (Fam w0 (w1.alloc (.cells #[.int .i64 y] 160)) (C5 b c x ++ (l ++ [RowA w1.heap.size 160 [.int .i64 y]]))) := F1.out.addRow 160 [.int .i64 y]
  clear cx
  go_upto_region 9 with fail
  obtain ⟨g, hg⟩ : ∃ g, g = w1.heap.size := ⟨_, rfl⟩
  rw [← hg] at F2 ⊢
  generalize w1.alloc (.cells #[.int .i64 y] 160) = w2 at *
  clear hg F1
  have HC : Hid (∀ wx, Only [] w2 wx → Calls Tryz.prog 115 #[.pointer (some ⟨x.hb, 0, none⟩), .int .i64 y] wx (TwoL wx (c.m.M.blocks y))) := fun wx ho => by
    obtain ⟨hk, L, X, hp⟩ := C5.ph (F2.out.only0 ho)
    exact blocks_rep wx hp hk y HW.out
  generalize hbn : (c.m.M.blocks y).1.length = bn at *
  have HBN := Lib.hid hbn
  clear hbn
  have HQ0 : Hid (Only [] w2 w2.drew) := (Only.refl [] w2).drew
  go_region_held3 (fun w' => w'.cell? ⟨b, 2, none⟩ = some (.pointer (some ⟨x.hb, 0, none⟩)) ∧ w'.cell? ⟨g, 0, none⟩ = some (.int .i64 y))
    (first | (exact ⟨(C5.row F2.out).cell 2 rfl, (C5.last F2.out).cell 0 rfl⟩) | (exact ⟨(C5.row F3.out).cell 2 rfl, (C5.last F3.out).cell 0 rfl⟩))
    (first | (go_at_call 115; refine (HC.out _ HQ0.out).mono ?_; rintro e w3 ⟨v, rfl, hi, ho⟩; obtain ⟨va, vc, rfl⟩ := hi.len; rw [HBN.out] at *; have F3 := Lib.hid (F2.out.drew.only0 ho); clear hi ho))
  have F4 : Hid (Fam w0 w3 (C5 b c x ++ l)) := by
    have f4 : Fam w0 w3 ((C5 b c x ++ l) ++ [RowA g 160 [.int .i64 y]]) := F3.out
    exact f4.pop
  clear HC F2 HQ0 F3
  go_wp2_with fail
  exact HR.out _ F4.out
theorem ccost_4a (w : World) (hf : Fam w0 w (C5 b c x ++ l)) (hx : x.ok c) (h : c.Okc) (hp : c.ph = 4) (hl : c.mv = 8 * c.pages) : Calls Tryz.prog 42 #[.pointer (some ⟨b, 0, none⟩)] w (KDid w0 l b c x) := by
  refine calls_abs fun R hR => ?_
  obtain ⟨_, _, x2, _, _, x5, _⟩ := CRow.cells hf
  have cn := cnone_rep w x2
  have cx := cnext_rep w hf h hx (by omega)
  unfold Co.nextV at cx
  rw [if_neg (show ¬ c.ph = 1 by omega), if_neg (show ¬ c.ph = 2 by omega), if_neg (show ¬ c.ph = 3 by omega), if_pos hl] at cx
  rw [hp] at x5
  have HF := Lib.hid hf
  have HX := Lib.hid hx
  have HH := Lib.hid h
  have a0 := fun (W : World) (v : Value) => ta_bm W v
  have a1 := fun (W : World) (v : Value) => ta_bf W v
  have a2 := fun (W : World) (v : Value) => ta_bb W v
  have HR : Hid (∀ w', Fam w0 w' (C5 b c x ++ l) → R (.returned (.tuple #[.int .i64 (1), .int .i64 0])) w') := fun w' h2 => hR.out _ _ ⟨by rw [step_4a hp hl], h2⟩
  clear hf hx h hR hp hl
  go_enter Tryz.func42, Tryz.ntmps42
  go_wp2_with fail
  refine cn.mono ?_
  rintro e _ ⟨rfl, rfl⟩
  clear cn
  go_wp2_with fail
  refine cx.mono ?_
  rintro e _ ⟨rfl, k, rfl⟩
  have F1 := Lib.hid (HF.out.drewN k)
  generalize w.drewN k = w1 at *
  have F2 := Lib.hid (C5.alloc F1.out (.cells #[.int .i64 0] 163))
  clear cx
  go_wp2_with fail
  exact HR.out _ F2.out
theorem ccost_4b (w : World) (hf : Fam w0 w (C5 b c x ++ l)) (hx : x.ok c) (h : c.Okc) (hp : c.ph = 4) (hl : ¬ c.mv = 8 * c.pages) : Calls Tryz.prog 42 #[.pointer (some ⟨b, 0, none⟩)] w (KDid w0 l b c x) := by
  refine calls_abs fun R hR => ?_
  obtain ⟨_, _, x2, _, _, x5, _⟩ := CRow.cells hf
  have cn := cnone_rep w x2
  have cx := cnext_rep w hf h hx (by omega)
  unfold Co.nextV at cx
  rw [if_neg (show ¬ c.ph = 1 by omega), if_neg (show ¬ c.ph = 2 by omega), if_neg (show ¬ c.ph = 3 by omega), if_neg hl] at cx
  rw [hp] at x5
  have HF := Lib.hid hf
  have HX := Lib.hid hx
  have HH := Lib.hid h
  have a0 := fun (W : World) (v : Value) => ta_vm W v
  have a1 := fun (W : World) (v : Value) => ta_vf W v
  have a2 := fun (W : World) (v : Value) => ta_vb W v
  have HR : Hid (∀ w', Fam w0 w' (C5 b c x ++ l) → R (.returned (.tuple #[.int .i64 c.step.1, .int .i64 c.step.2.1])) w') := fun w' h2 => hR.out _ _ ⟨rfl, h2⟩
  clear hf hx h hR hp hl
  go_enter Tryz.func42, Tryz.ntmps42
  go_wp2_with fail
  refine cn.mono ?_
  rintro e _ ⟨rfl, rfl⟩
  clear cn
  go_wp2_with fail
  refine cx.mono ?_
  rintro e _ ⟨rfl, k, rfl⟩
  have F1 := Lib.hid (HF.out.drewN k)
  generalize w.drewN k = w1 at *
  have cc := ccopy_any w1 F1.out HX.out HH.out
  clear cx
  go_wp2_with fail
  refine cc.mono ?_
  rintro e w2 ⟨b2, rfl, x2, hx2, hf2⟩
  have cs := cstep_any w2 hf2 hx2 HH.out
  clear cc hx2 hf2 F1
  go_wp2_with fail
  refine cs.mono ?_
  rintro e w3 ⟨rfl, x3, _, hf3⟩
  have F3 := Lib.hid (Fam.rest hf3)
  clear cs hf3
  go_wp2_with fail
  exact HR.out _ F3.out
theorem ccost_0 (w : World) (hf : Fam w0 w (C5 b c x ++ l)) (hx : x.ok c) (h : c.Okc) (hp : c.ph = 0) : Calls Tryz.prog 42 #[.pointer (some ⟨b, 0, none⟩)] w (KDid w0 l b c x) := by
  refine calls_abs fun R hR => ?_
  obtain ⟨_, _, x2, _, _, x5, _⟩ := CRow.cells hf
  have cn := cnone_rep w x2
  rw [hp] at x5
  have HH := Lib.hid h
  have cc := ccopy_any w hf hx h
  have HR : Hid (∀ w', Fam w0 w' (C5 b c x ++ l) → R (.returned (.tuple #[.int .i64 c.step.1, .int .i64 c.step.2.1])) w') := fun w' h2 => hR.out _ _ ⟨rfl, h2⟩
  clear hf hx h hR hp
  go_enter Tryz.func42, Tryz.ntmps42
  go_wp2_with fail
  refine cn.mono ?_
  rintro e _ ⟨rfl, rfl⟩
  clear cn
  go_wp2_with fail
  refine cc.mono ?_
  rintro e w2 ⟨b2, rfl, x2, hx2, hf2⟩
  have cs := cstep_any w2 hf2 hx2 HH.out
  clear cc hx2 hf2
  go_wp2_with fail
  refine cs.mono ?_
  rintro e w3 ⟨rfl, x3, _, hf3⟩
  have F3 := Lib.hid (Fam.rest hf3)
  clear cs hf3
  go_wp2_with fail
  exact HR.out _ F3.out
theorem ccost_any (w : World) (hf : Fam w0 w (C5 b c x ++ l)) (hx : x.ok c) (h : c.Okc) : Calls Tryz.prog 42 #[.pointer (some ⟨b, 0, none⟩)] w (KDid w0 l b c x) := by
  rcases ph_cases h with hp | hp | hp | hp | hp
  · exact ccost_0 w hf hx h hp
  · by_cases hl : c.m.list = []
    · exact ccost_1a w hf hx h hp hl
    · exact ccost_1b w hf hx h hp hl
  · by_cases ht : c.t.ph = 0
    · by_cases hl : c.m.list = []
      · exact ccost_2b w hf hx h hp ht hl
      · exact ccost_2c w hf hx h hp ht hl
    · exact ccost_2a w hf hx h hp ht
  · cases hl : c.sw with
    | nil => exact ccost_3a w hf hx h hp hl
    | cons y r => exact ccost_3b w hf hx h hp hl
  · by_cases hl : c.mv = 8 * c.pages
    · exact ccost_4a w hf hx h hp hl
    · exact ccost_4b w hf hx h hp hl
end
end Go.Proofs.YthflghdaejbdkaaGreat
