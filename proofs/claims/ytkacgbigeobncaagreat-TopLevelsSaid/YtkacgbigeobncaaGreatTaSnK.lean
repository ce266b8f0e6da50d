/- Lemmas of this claim. -/
import Derived.Test.YtkacgbigeobncaaGreatTaRegG
namespace Go.Proofs.YtkacgbigeobncaaGreat
open Go.RowKit Go.Maps
set_option maxHeartbeats 6400000
set_option maxRecDepth 100000
set_option linter.unusedVariables false
set_option linter.unusedSimpArgs false
theorem rowTri : RowZ Ins.row 3 := rowIns
theorem fieldN (n : Int) (b : Bool) (w : World) : (Instr.field 106 (.agg #[.int .i64 n, .bool b]) 0).run Tryz.prog w = .ok (.int .i64 n) w := by kernel_rfl
section
variable (w : World) (q : JQ) (nf : Nat) (ov : Bool) (lo td : Value) (nx : Int)
theorem MR.only {w w' : World} {q : JQ} {mb : Nat} {F : List Nat} (h : MR w q mb) (ho : Only F w w') (hF : mb ∉ F) : MR w' q mb := ⟨h.1.only ho hF, h.2⟩
theorem plainPush (mb : Nat) (h : JS w q nf ov lo (.slice none 0 0) nx td) (hm : MR w q mb) : Calls Tryz.prog 96 #[.pointer (some ⟨mb, 0, none⟩), .agg #[.int .i64 1, .int .i64 7, .int .i64 0]] w
    fun e w' => e = .returned (.int .i64 0) ∧ ∃ bs cs, JS w' q nf ov lo (.slice (some ⟨bs, 0, none⟩) 1 cs) nx td ∧ Blk w' bs (vRow 7) ∧ 1 ≤ cs ∧ w.heap.size ≤ bs ∧ Only [q.bf] w w' := by
  refine calls_abs fun R hR => ?_
  have HO := Lib.hid ((Only.refl [] w).alloc (.cells #[.int .i64 1, .int .i64 7, .int .i64 0] 64))
  have HX := Lib.hid (Row.new w 64 [.int .i64 1, .int .i64 7, .int .i64 0])
  have cp := mpush _ q nf ov lo td nx mb 7 (h.only0 HO.out) (hm.only HO.out (by simp))
  clear h hm
  go_enter Tryz.func96, Tryz.ntmps96
  go_upto_region 1 with fail
  generalize w.alloc (.cells #[.int .i64 1, .int .i64 7, .int .i64 0] 64) = w1 at *
  have x0 := HX.out.cell 0 rfl
  have x1 := HX.out.cell 1 rfl
  go_wp2_with fail
  refine cp.mono ?_
  rintro e w2 ⟨rfl, bs, cs, h1, h2, h3, h4, h5⟩
  have H1 := Lib.hid h1
  have H2 := Lib.hid h2
  have H3 := Lib.hid h3
  have H4 := Lib.hid (show w.heap.size ≤ bs by have := HO.out.size; omega)
  have H5 := Lib.hid ((HO.out.mono (G := [q.bf]) (by simp)).trans h5 (fun x hx => .inl hx))
  clear cp h1 h2 h3 h4 h5 x0 x1
  go_wp2_with fail
  exact hR.out _ _ ⟨rfl, bs, cs, H1.out, H2.out, H3.out, H4.out, H5.out⟩
theorem plainEmit (mb bs cs : Nat) (h : JS w q nf ov lo (.slice (some ⟨bs, 0, none⟩) 1 cs) nx (.slice none 0 0)) (hm : MR w q mb) (hb : Blk w bs (vRow 7)) : Calls Tryz.prog 96 #[.pointer (some ⟨mb, 0, none⟩), .agg #[.int .i64 27, .int .i64 1, .int .i64 0]] w
    fun e w' => e = .returned (.int .i64 0) ∧ ∃ bt ct, JS w' q nf ov lo (.slice (some ⟨bs, 0, none⟩) 0 cs) nx (.slice (some ⟨bt, 0, none⟩) 1 ct) ∧ Blk w' bt [.int .i64 0, .int .i64 1, .int .i64 7] ∧ (1 ≤ ct ∧ ct ≤ 9223372036854775807) ∧ w.heap.size ≤ bt ∧ Only [q.bf, q.bw] w w' := by
  refine calls_abs fun R hR => ?_
  have HO := Lib.hid ((Only.refl [] w).alloc (.cells #[.int .i64 27, .int .i64 1, .int .i64 0] 64))
  have HX := Lib.hid (Row.new w 64 [.int .i64 27, .int .i64 1, .int .i64 0])
  have HLT0 := Lib.hid (show q.bw < w.heap.size ∧ q.bm < w.heap.size ∧ q.bc < w.heap.size ∧ q.bj < w.heap.size ∧ q.bf < w.heap.size ∧ mb < w.heap.size from ⟨by obtain ⟨_, _, _, _, _, _, _, _, _, hr⟩ := h.ws; exact hr.lt, h.ws.1.m.lt, h.ws.1.c.lt, h.j.lt, h.f.lt, hm.1.lt⟩)
  have HJ := Lib.hid (h.only0 HO.out)
  have HMB := Lib.hid (hm.only HO.out (by simp))
  have HBS := Lib.hid (hb.only0 HO.out)
  clear h hm hb
  go_enter Tryz.func96, Tryz.ntmps96
  go_upto_region 1 with fail
  obtain ⟨bx, hbx⟩ : ∃ z, z = w.heap.size := ⟨_, rfl⟩
  have HBX := Lib.hid hbx
  rw [← hbx] at HX ⊢
  generalize w.alloc (.cells #[.int .i64 27, .int .i64 1, .int .i64 0] 64) = w1 at *
  have x0 := HX.out.cell 0 rfl
  clear hbx
  go_upto_region 33 with fail
  have HSW : (fun wl => wl.cell? ⟨mb, 0, none⟩ = some (.pointer (some ⟨q.bw, 0, none⟩)) ∧ wl.cell? ⟨mb, 1, none⟩ = some (.int .i64 0) ∧ wl.cell? ⟨q.bw, 8, none⟩ = some (.slice none 0 0) ∧ wl.cell? ⟨bx, 1, none⟩ = some (.int .i64 1)) w1.drew := by
    obtain ⟨cp, -, -, -, a8, -⟩ := HJ.out.ws.cells
    exact ⟨HMB.out.1.at_ 0 _ rfl, HMB.out.1.at_ 1 _ rfl, a8, HX.out.cell 1 rfl⟩
  refine wp_regionG 25 (fun wl => wl.cell? ⟨mb, 0, none⟩ = some (.pointer (some ⟨q.bw, 0, none⟩)) ∧ wl.cell? ⟨mb, 1, none⟩ = some (.int .i64 0) ∧ wl.cell? ⟨q.bw, 8, none⟩ = some (.slice none 0 0) ∧ wl.cell? ⟨bx, 1, none⟩ = some (.int .i64 1)) (by kernel_rfl) ?_
  simp only [List.size_toArray, List.length_cons, List.length_nil, Nat.reduceAdd]
  refine wpG_take (i := 0) (v := .pointer (some ⟨mb, 0, none⟩)) rfl (by kernel_rfl) (by kernel_rfl) (by kernel_rfl) (by decide) (by kernel_rfl) (by kernel_rfl) (fun _ _ _ h => h) ?_ rfl HSW ?_
  · intro wy hSy
    obtain ⟨y0, y1, y2, y3⟩ := hSy
    go_simp
  try simp only [Act.put, List.setIfInBounds_toArray, List.set_cons_zero, List.set_cons_succ]
  refine wpG_take (i := 1) (v := .pointer (some ⟨mb, 0, none⟩)) rfl (by kernel_rfl) (by kernel_rfl) (by kernel_rfl) (by decide) (by kernel_rfl) (by kernel_rfl) (fun _ _ _ h => h) ?_ rfl HSW ?_
  · intro wy hSy
    obtain ⟨y0, y1, y2, y3⟩ := hSy
    go_simp
  try simp only [Act.put, List.setIfInBounds_toArray, List.set_cons_zero, List.set_cons_succ]
  refine wpG_take (i := 2) (v := .pointer (some ⟨mb, 0, none⟩)) rfl (by kernel_rfl) (by kernel_rfl) (by kernel_rfl) (by decide) (by kernel_rfl) (by kernel_rfl) (fun _ _ _ h => h) ?_ rfl HSW ?_
  · intro wy hSy
    obtain ⟨y0, y1, y2, y3⟩ := hSy
    go_simp
  try simp only [Act.put, List.setIfInBounds_toArray, List.set_cons_zero, List.set_cons_succ]
  refine wpG_take (i := 3) (v := .pointer (some ⟨q.bw, 0, none⟩)) rfl (by kernel_rfl) (by kernel_rfl) (by kernel_rfl) (by decide) (by kernel_rfl) (by kernel_rfl) (fun _ _ _ h => h) ?_ rfl HSW ?_
  · intro wy hSy
    obtain ⟨y0, y1, y2, y3⟩ := hSy
    go_simp
  try simp only [Act.put, List.setIfInBounds_toArray, List.set_cons_zero, List.set_cons_succ]
  refine wpG_take (i := 4) (v := .pointer (some ⟨mb, 0, none⟩)) rfl (by kernel_rfl) (by kernel_rfl) (by kernel_rfl) (by decide) (by kernel_rfl) (by kernel_rfl) (fun _ _ _ h => h) ?_ rfl HSW ?_
  · intro wy hSy
    obtain ⟨y0, y1, y2, y3⟩ := hSy
    go_simp
  try simp only [Act.put, List.setIfInBounds_toArray, List.set_cons_zero, List.set_cons_succ]
  refine wpG_take (i := 5) (v := .pointer (some ⟨mb, 0, none⟩)) rfl (by kernel_rfl) (by kernel_rfl) (by kernel_rfl) (by decide) (by kernel_rfl) (by kernel_rfl) (fun _ _ _ h => h) ?_ rfl HSW ?_
  · intro wy hSy
    obtain ⟨y0, y1, y2, y3⟩ := hSy
    go_simp
  try simp only [Act.put, List.setIfInBounds_toArray, List.set_cons_zero, List.set_cons_succ]
  refine wpG_take (i := 6) (v := .pointer (some ⟨mb, 0, none⟩)) rfl (by kernel_rfl) (by kernel_rfl) (by kernel_rfl) (by decide) (by kernel_rfl) (by kernel_rfl) (fun _ _ _ h => h) ?_ rfl HSW ?_
  · intro wy hSy
    obtain ⟨y0, y1, y2, y3⟩ := hSy
    go_simp
  try simp only [Act.put, List.setIfInBounds_toArray, List.set_cons_zero, List.set_cons_succ]
  refine wpG_take (i := 7) (v := .pointer (some ⟨q.bw, 0, none⟩)) rfl (by kernel_rfl) (by kernel_rfl) (by kernel_rfl) (by decide) (by kernel_rfl) (by kernel_rfl) (fun _ _ _ h => h) ?_ rfl HSW ?_
  · intro wy hSy
    obtain ⟨y0, y1, y2, y3⟩ := hSy
    go_simp
  try simp only [Act.put, List.setIfInBounds_toArray, List.set_cons_zero, List.set_cons_succ]
  refine wpG_take (i := 8) (v := .pointer (some ⟨q.bw, 0, none⟩)) rfl (by kernel_rfl) (by kernel_rfl) (by kernel_rfl) (by decide) (by kernel_rfl) (by kernel_rfl) (fun _ _ _ h => h) ?_ rfl HSW ?_
  · intro wy hSy
    obtain ⟨y0, y1, y2, y3⟩ := hSy
    go_simp
  try simp only [Act.put, List.setIfInBounds_toArray, List.set_cons_zero, List.set_cons_succ]
  refine wpG_take (i := 9) (v := .pointer (some ⟨q.bw, 8, none⟩)) rfl (by kernel_rfl) (by kernel_rfl) (by kernel_rfl) (by decide) (by kernel_rfl) (by kernel_rfl) (fun _ _ _ h => h) ?_ rfl HSW ?_
  · intro wy hSy
    obtain ⟨y0, y1, y2, y3⟩ := hSy
    go_simp
  try simp only [Act.put, List.setIfInBounds_toArray, List.set_cons_zero, List.set_cons_succ]
  refine wpG_take (i := 10) (v := .slice none 0 0) rfl (by kernel_rfl) (by kernel_rfl) (by kernel_rfl) (by decide) (by kernel_rfl) (by kernel_rfl) (fun _ _ _ h => h) ?_ rfl HSW ?_
  · intro wy hSy
    obtain ⟨y0, y1, y2, y3⟩ := hSy
    go_simp
  try simp only [Act.put, List.setIfInBounds_toArray, List.set_cons_zero, List.set_cons_succ]
  refine wpG_take (i := 11) (v := .pointer (some ⟨mb, 0, none⟩)) rfl (by kernel_rfl) (by kernel_rfl) (by kernel_rfl) (by decide) (by kernel_rfl) (by kernel_rfl) (fun _ _ _ h => h) ?_ rfl HSW ?_
  · intro wy hSy
    obtain ⟨y0, y1, y2, y3⟩ := hSy
    go_simp
  try simp only [Act.put, List.setIfInBounds_toArray, List.set_cons_zero, List.set_cons_succ]
  refine wpG_take (i := 12) (v := .pointer (some ⟨mb, 0, none⟩)) rfl (by kernel_rfl) (by kernel_rfl) (by kernel_rfl) (by decide) (by kernel_rfl) (by kernel_rfl) (fun _ _ _ h => h) ?_ rfl HSW ?_
  · intro wy hSy
    obtain ⟨y0, y1, y2, y3⟩ := hSy
    go_simp
  try simp only [Act.put, List.setIfInBounds_toArray, List.set_cons_zero, List.set_cons_succ]
  refine wpG_take (i := 13) (v := .pointer (some ⟨mb, 1, none⟩)) rfl (by kernel_rfl) (by kernel_rfl) (by kernel_rfl) (by decide) (by kernel_rfl) (by kernel_rfl) (fun _ _ _ h => h) ?_ rfl HSW ?_
  · intro wy hSy
    obtain ⟨y0, y1, y2, y3⟩ := hSy
    go_simp
  try simp only [Act.put, List.setIfInBounds_toArray, List.set_cons_zero, List.set_cons_succ]
  refine wpG_take (i := 14) (v := .int .i64 0) rfl (by kernel_rfl) (by kernel_rfl) (by kernel_rfl) (by decide) (by kernel_rfl) (by kernel_rfl) (fun _ _ _ h => h) ?_ rfl HSW ?_
  · intro wy hSy
    obtain ⟨y0, y1, y2, y3⟩ := hSy
    go_simp
  try simp only [Act.put, List.setIfInBounds_toArray, List.set_cons_zero, List.set_cons_succ]
  refine wpG_take (i := 15) (v := .pointer (some ⟨bx, 1, none⟩)) rfl (by kernel_rfl) (by kernel_rfl) (by kernel_rfl) (by decide) (by kernel_rfl) (by kernel_rfl) (fun _ _ _ h => h) ?_ rfl HSW ?_
  · intro wy hSy
    obtain ⟨y0, y1, y2, y3⟩ := hSy
    go_simp
  try simp only [Act.put, List.setIfInBounds_toArray, List.set_cons_zero, List.set_cons_succ]
  refine wpG_take (i := 16) (v := .int .i64 1) rfl (by kernel_rfl) (by kernel_rfl) (by kernel_rfl) (by decide) (by kernel_rfl) (by kernel_rfl) (fun _ _ _ h => h) ?_ rfl HSW ?_
  · intro wy hSy
    obtain ⟨y0, y1, y2, y3⟩ := hSy
    go_simp
  try simp only [Act.put, List.setIfInBounds_toArray, List.set_cons_zero, List.set_cons_succ]
  refine wpG_take (i := 17) (v := .pointer (some ⟨mb, 0, none⟩)) rfl (by kernel_rfl) (by kernel_rfl) (by kernel_rfl) (by decide) (by kernel_rfl) (by kernel_rfl) (fun _ _ _ h => h) ?_ rfl HSW ?_
  · intro wy hSy
    obtain ⟨y0, y1, y2, y3⟩ := hSy
    go_simp
  try simp only [Act.put, List.setIfInBounds_toArray, List.set_cons_zero, List.set_cons_succ]
  have HPOP := mpop w1.drew q nf ov lo (.slice none 0 0) nx mb bs cs 7 (HJ.out.only0 (Only.refl [] w1).drew) (HMB.out.only (Only.refl [] w1).drew (by simp)) (HBS.out.only0 (Only.refl [] w1).drew)
  have HLT := Lib.hid (show q.bw < bx ∧ q.bm < bx ∧ q.bc < bx ∧ q.bj < bx ∧ q.bf < bx ∧ mb ≠ bx ∧ bx < w1.heap.size from by
    have hb := HBX.out
    rw [hb]
    obtain ⟨l1, l2, l3, l4, l5, l6⟩ := HLT0.out
    exact ⟨l1, l2, l3, l4, l5, by omega, by rw [← hb]; exact HX.out.lt⟩)
  refine wpG_one (i := 18) (by kernel_rfl) (by simp only [List.getElem?_toArray, List.getElem?_cons_succ, List.getElem?_cons_zero]; rfl) (fun K hK => ?_)
  rw [if_pos (by rfl)]
  unfold Oper.wp
  go_simp
  refine HPOP.mono ?_
  rintro e w2 ⟨rfl, h2, ho2⟩
  have H2 := Lib.hid h2
  have HO2 := Lib.hid ho2
  have HM2 := Lib.hid (HMB.out.only ((Only.refl [] w1).drew.mono (G := [q.bf]) (by simp) |>.trans ho2 (fun x hx => .inl hx)) (by simpa using HMB.out.2.2.2.2.2))
  have HX2 := Lib.hid (ho2.row HX.out.drew (by simp; have := HLT.out.2.2.2.2.1; omega))
  have HSW2 : (fun wl => wl.cell? ⟨mb, 0, none⟩ = some (.pointer (some ⟨q.bw, 0, none⟩)) ∧ wl.cell? ⟨mb, 1, none⟩ = some (.int .i64 0) ∧ wl.cell? ⟨q.bw, 8, none⟩ = some (.slice none 0 0) ∧ wl.cell? ⟨bx, 1, none⟩ = some (.int .i64 1)) w2 := by
    obtain ⟨cp, -, -, -, a8, -⟩ := H2.out.ws.cells
    exact ⟨HM2.out.1.at_ 0 _ rfl, HM2.out.1.at_ 1 _ rfl, a8, HX2.out.cell 1 rfl⟩
  refine hK _ _ (fun _ => HSW2) ?_
  clear hK K HPOP h2 ho2
  try simp only [Act.put, List.setIfInBounds_toArray, List.set_cons_zero, List.set_cons_succ]
  refine wpG_take (i := 19) (v := .int .i64 7) rfl (by kernel_rfl) (by kernel_rfl) (by kernel_rfl) (by decide) (by kernel_rfl) (by kernel_rfl) (fun _ _ _ h => h) ?_ rfl HSW2 ?_
  · intro wy hSy
    obtain ⟨y0, y1, y2, y3⟩ := hSy
    have hfn := fieldN 7 false wy
    go_simp
  try simp only [Act.put, List.setIfInBounds_toArray, List.set_cons_zero, List.set_cons_succ]
  refine wpG_take (i := 20) (v := .agg #[.int .i64 0, .int .i64 1, .int .i64 7]) rfl (by kernel_rfl) (by kernel_rfl) (by kernel_rfl) (by decide) (by kernel_rfl) (by kernel_rfl) (fun _ _ _ h => h) ?_ rfl HSW2 ?_
  · intro wy hSy
    obtain ⟨y0, y1, y2, y3⟩ := hSy
    have hfn := fieldN 7 false wy
    go_simp
  try simp only [Act.put, List.setIfInBounds_toArray, List.set_cons_zero, List.set_cons_succ]
  refine wpG_one (i := 21) (by kernel_rfl) (by simp only [List.getElem?_toArray, List.getElem?_cons_succ, List.getElem?_cons_zero]; rfl) (fun K hK => ?_)
  rw [if_pos (by rfl)]
  unfold Oper.wp
  go_simp
  have hoA := (Only.refl [] w2).alloc (.cells #[.int .i64 0, .int .i64 1, .int .i64 7] 80)
  refine hK _ _ (fun _ => ⟨hoA.cell HSW2.1 (by simp), hoA.cell HSW2.2.1 (by simp), hoA.cell HSW2.2.2.1 (by simp), hoA.cell HSW2.2.2.2 (by simp)⟩) ?_
  clear hK K
  try simp only [Act.put, List.setIfInBounds_toArray, List.set_cons_zero, List.set_cons_succ]
  refine wpG_one (i := 22) (by kernel_rfl) (by simp only [List.getElem?_toArray, List.getElem?_cons_succ, List.getElem?_cons_zero]; rfl) (fun K hK => ?_)
  refine step_own tyTri rowTri ?s1 (.tmp 181) (.tmp 192) ?s2 0 _ [] ?s3 Own.nil _ [(⟨0, 1, 7⟩ : Ins)] ?s4 (rd_one rowTri w2 80 (⟨0, 1, 7⟩ : Ins)) (by simp) (by simp) (by omega) ?s5
  case s1 => rfl
  case s2 => rfl
  case s3 => rfl
  case s4 => rfl
  intro v7 w7 hv7 ho7 hb7
  obtain ⟨bt, ct, rfl, -, hc7, hc8, hB7⟩ := Own.blk rowTri (by decide) hv7 (by simp)
  have hOB := hoA.trans ho7 (by simp [Value.ownBlock])
  have hge : w2.heap.size ≤ bt := by
    rcases hb7 with h | h
    · simp [Value.ownBlock] at h
    · simp [Value.ownBlock] at h; omega
  have HSW7 : (fun wl => wl.cell? ⟨mb, 0, none⟩ = some (.pointer (some ⟨q.bw, 0, none⟩)) ∧ wl.cell? ⟨mb, 1, none⟩ = some (.int .i64 0) ∧ wl.cell? ⟨q.bw, 8, none⟩ = some (.slice none 0 0) ∧ wl.cell? ⟨bx, 1, none⟩ = some (.int .i64 1)) w7 := ⟨hOB.cell HSW2.1 (by simp), hOB.cell HSW2.2.1 (by simp), hOB.cell HSW2.2.2.1 (by simp), hOB.cell HSW2.2.2.2 (by simp)⟩
  have H7 := Lib.hid (H2.out.only0 hOB)
  have HB7 := Lib.hid (hB7.cast (show ([(⟨0, 1, 7⟩ : Ins)].flatMap Ins.row) = [.int .i64 0, .int .i64 1, .int .i64 7] from rfl))
  have HC7 := Lib.hid (And.intro hc7 hc8)
  have HOB := Lib.hid hOB
  have HGE := Lib.hid hge
  refine hK _ _ (fun _ => HSW7) ?_
  clear hK K hv7 ho7 hb7 hc7 hc8 hB7 hOB hge hoA
  try simp only [Act.put, List.setIfInBounds_toArray, List.set_cons_zero, List.set_cons_succ]
  refine wpG_one (i := 23) (by kernel_rfl) (by simp only [List.getElem?_toArray, List.getElem?_cons_succ, List.getElem?_cons_zero]; rfl) (fun K hK => ?_)
  rw [if_pos (by rfl)]
  unfold Oper.wp
  go_simp
  refine hK _ _ (fun _ => HSW7) ?_
  clear hK K
  try simp only [Act.put, List.setIfInBounds_toArray, List.set_cons_zero, List.set_cons_succ]
  refine wpG_one (i := 24) (by kernel_rfl) (by simp only [List.getElem?_toArray, List.getElem?_cons_succ, List.getElem?_cons_zero]; rfl) (fun K hK => ?_)
  rw [if_pos (by rfl)]
  unfold Oper.wp
  go_simp
  refine hK _ _ (fun _ => HSW7) ?_
  clear hK K
  try simp only [Act.put, List.setIfInBounds_toArray, List.set_cons_zero, List.set_cons_succ]
  have a8 := HSW7.2.2.1
  obtain ⟨cp7, -, -, -, -, -, g8⟩ := H7.out.ws.cells
  replace g8 := g8 8
  refine wpG_one (i := 25) (by kernel_rfl) (by simp only [List.getElem?_toArray, List.getElem?_cons_succ, List.getElem?_cons_zero]; rfl) (fun K hK => ?_)
  rw [if_pos (by rfl)]
  unfold Oper.wp
  go_simp
  refine hK _ _ (fun h => by have h2 : (true : Bool) = false := Eq.trans (by kernel_rfl) h; cases h2) ?_
  clear hK K
  try simp only [Act.put, List.setIfInBounds_toArray, List.set_cons_zero, List.set_cons_succ]
  refine wpG_done (by kernel_rfl) ?_ _
  have HJ8 := Lib.hid (H7.out.setT (.slice (some ⟨bt, 0, none⟩) 1 ct))
  have HB8 := Lib.hid (HB7.out.other (a := ⟨q.bw, 8, none⟩) (by simp; have := HGE.out; have := HLT.out.1; have := HO2.out.size; have h3 : w1.drew.heap.size = w1.heap.size := rfl; have := HLT.out.2.2.2.2.2.2; omega) (.slice (some ⟨bt, 0, none⟩) 1 ct))
  have HO8 := Lib.hid ((((((HO.out.mono (G := [q.bf, q.bw]) (by simp)).drew).trans HO2.out (fun x hx => .inl (by simp at hx ⊢; exact .inl hx))).trans HOB.out (by simp))).set (p := ⟨q.bw, 8, none⟩) (.inl (by simp)) (.slice (some ⟨bt, 0, none⟩) 1 ct))
  have HGW := Lib.hid (show w.heap.size ≤ bt by have := HGE.out; have := HO2.out.size; have h3 : w1.drew.heap.size = w1.heap.size := rfl; have := HO.out.size; omega)
  generalize w7.setCell ⟨q.bw, 8, none⟩ (.slice (some ⟨bt, 0, none⟩) 1 ct) = w8 at *
  clear a8 g8 x0
  go_wp2_with fail
  exact hR.out _ _ ⟨rfl, bt, ct, HJ8.out, HB8.out, HC7.out, HGW.out, HO8.out⟩
end
end Go.Proofs.YtkacgbigeobncaaGreat
