/- Lemmas of this claim. -/
import Derived.Test.YtkacgbigeobncaaGreatTaSnK
namespace Go.Proofs.YtkacgbigeobncaaGreat
open Go.RowKit Go.Maps
set_option maxHeartbeats 6400000
set_option maxRecDepth 100000
set_option linter.unusedVariables false
set_option linter.unusedSimpArgs false
section
variable (w : World) (q : JQ) (lo td : Value)
theorem wdoPush (h : JS w q 1 false lo (.slice none 0 0) 0 (td)) : Calls Tryz.prog 68 #[.pointer (some ⟨q.bw, 0, none⟩), .int .i64 0, .agg #[.int .i64 1, .int .i64 7, .int .i64 0]] w
    fun e w' => e = .returned (.int .i64 0) ∧ ∃ bs cs, JS w' q 1 false lo (.slice (some ⟨bs, 0, none⟩) 1 cs) 1 td ∧ Blk w' bs (vRow 7) ∧ 1 ≤ cs ∧ Only [q.bf] w w' := by
  refine calls_abs fun R hR => ?_
  have HO := Lib.hid ((Only.refl [] w).alloc (.cells #[.int .i64 1, .int .i64 7, .int .i64 0] 64))
  have HX := Lib.hid (Row.new w 64 [.int .i64 1, .int .i64 7, .int .i64 0])
  have HJ := Lib.hid (h.only0 HO.out)
  have HLT0 := Lib.hid (show q.bw < w.heap.size ∧ q.bm < w.heap.size ∧ q.bc < w.heap.size ∧ q.bj < w.heap.size ∧ q.bf < w.heap.size from ⟨by obtain ⟨_, _, _, _, _, _, _, _, _, hr⟩ := h.ws; exact hr.lt, h.ws.1.m.lt, h.ws.1.c.lt, h.j.lt, h.f.lt⟩)
  clear h
  go_enter Tryz.func68, Tryz.ntmps68
  go_upto_region 1 with fail
  obtain ⟨bx, hbx⟩ : ∃ z, z = w.heap.size := ⟨_, rfl⟩
  have HBX := Lib.hid hbx
  rw [← hbx] at HX ⊢
  generalize w.alloc (.cells #[.int .i64 1, .int .i64 7, .int .i64 0] 64) = w1 at *
  clear hbx
  obtain ⟨cp, -, -, a7, -⟩ := HJ.out.ws.cells
  have a0 := HJ.out.j.at_ 0 _ rfl
  go_upto_region 3 with fail
  have HO2 := Lib.hid ((Only.refl [] w1).alloc (.cells #[.pointer (some ⟨q.bw, 0, none⟩), .int .i64 0, .pointer (some ⟨q.bf, 0, none⟩)] 199))
  have HM := Lib.hid (Row.new w1 199 [.pointer (some ⟨q.bw, 0, none⟩), .int .i64 0, .pointer (some ⟨q.bf, 0, none⟩)])
  obtain ⟨mb, hmb⟩ : ∃ z, z = w1.heap.size := ⟨_, rfl⟩
  have HMB := Lib.hid hmb
  rw [← hmb] at HM ⊢
  generalize w1.alloc (.cells #[.pointer (some ⟨q.bw, 0, none⟩), .int .i64 0, .pointer (some ⟨q.bf, 0, none⟩)] 199) = w2 at *
  clear hmb a7 a0
  have HJ2 := Lib.hid (HJ.out.only0 HO2.out)
  have HX2 := Lib.hid (HO2.out.row HX.out (by simp))
  have HNE := Lib.hid (show mb ≠ q.bf ∧ bx ≠ q.bf ∧ mb ≠ q.bw ∧ mb ≠ q.bm ∧ mb ≠ q.bc ∧ mb ≠ q.bj from by
    have h1 := HMB.out
    have h2 := HBX.out
    obtain ⟨l1, l2, l3, l4, l5⟩ := HLT0.out
    have h3 := HO.out.size
    omega)
  have m2 := HM.out.cell 2 rfl
  have b3 := HJ2.out.f.at_ 3 _ rfl
  have g3 := HJ2.out.f.fr 3
  go_upto_region 5 with fail
  have HJ3 := Lib.hid (HJ2.out.setF (lo' := lo) (stk' := .slice none 0 0) (nx' := 1) 3 (.int .i64 1) rfl)
  have HOB := Lib.hid ((Only.refl [q.bf] w2).set (p := ⟨q.bf, 3, none⟩) (.inl (by simp)) (.int .i64 1))
  generalize w2.setCell ⟨q.bf, 3, none⟩ (.int .i64 1) = w3 at *
  clear m2 b3 g3
  have hm3 := HOB.out.row HM.out (by simpa using HNE.out.1)
  have hx3 := HOB.out.row HX2.out (by simpa using HNE.out.2.1)
  have x0 := hx3.cell 0 rfl
  have x1 := hx3.cell 1 rfl
  have x2 := hx3.cell 2 rfl
  have HMR : MR w3 q mb := ⟨hm3.blk, HNE.out.2.2.1, HNE.out.2.2.2.1, HNE.out.2.2.2.2.1, HNE.out.2.2.2.2.2, HNE.out.1⟩
  have cp := plainPush w3 q 1 false lo td 1 mb HJ3.out HMR
  clear hm3 hx3 HMR
  go_wp2_with fail
  refine cp.mono ?_
  rintro e w4 ⟨rfl, bs, cs, h1, h2, h3, h4, h5⟩
  have H1 := Lib.hid h1
  have H2 := Lib.hid h2
  have H3 := Lib.hid h3
  have H5 := Lib.hid (((HO.out.mono (G := [q.bf]) (by simp)).trans HO2.out (by simp)).trans (HOB.out.trans h5 (fun x hx => .inl hx)) (fun x hx => .inl hx))
  clear cp h1 h2 h3 h4 h5 x0 x1 x2
  go_wp2_with fail
  exact hR.out _ _ ⟨rfl, bs, cs, H1.out, H2.out, H3.out, H5.out⟩
theorem wdoEmit (bs cs : Nat) (h : JS w q 1 false lo (.slice (some ⟨bs, 0, none⟩) 1 cs) 1 (.slice none 0 0)) (hb : Blk w bs (vRow 7)) (hn : bs ≠ q.bf) : Calls Tryz.prog 68 #[.pointer (some ⟨q.bw, 0, none⟩), .int .i64 0, .agg #[.int .i64 27, .int .i64 1, .int .i64 0]] w
    fun e w' => e = .returned (.int .i64 0) ∧ ∃ bt ct, JS w' q 1 false lo (.slice (some ⟨bs, 0, none⟩) 0 cs) 2 (.slice (some ⟨bt, 0, none⟩) 1 ct) ∧ Blk w' bt [.int .i64 0, .int .i64 1, .int .i64 7] ∧ (1 ≤ ct ∧ ct ≤ 9223372036854775807) ∧ Only [q.bf, q.bw] w w' := by
  refine calls_abs fun R hR => ?_
  have HO := Lib.hid ((Only.refl [] w).alloc (.cells #[.int .i64 27, .int .i64 1, .int .i64 0] 64))
  have HX := Lib.hid (Row.new w 64 [.int .i64 27, .int .i64 1, .int .i64 0])
  have HJ := Lib.hid (h.only0 HO.out)
  have HLT0 := Lib.hid (show q.bw < w.heap.size ∧ q.bm < w.heap.size ∧ q.bc < w.heap.size ∧ q.bj < w.heap.size ∧ q.bf < w.heap.size from ⟨by obtain ⟨_, _, _, _, _, _, _, _, _, hr⟩ := h.ws; exact hr.lt, h.ws.1.m.lt, h.ws.1.c.lt, h.j.lt, h.f.lt⟩)
  have HBS := Lib.hid (hb.only0 HO.out)
  have HNB := Lib.hid hn
  clear hb hn
  clear h
  go_enter Tryz.func68, Tryz.ntmps68
  go_upto_region 1 with fail
  obtain ⟨bx, hbx⟩ : ∃ z, z = w.heap.size := ⟨_, rfl⟩
  have HBX := Lib.hid hbx
  rw [← hbx] at HX ⊢
  generalize w.alloc (.cells #[.int .i64 27, .int .i64 1, .int .i64 0] 64) = w1 at *
  clear hbx
  obtain ⟨cp, -, -, a7, -⟩ := HJ.out.ws.cells
  have a0 := HJ.out.j.at_ 0 _ rfl
  go_upto_region 3 with fail
  have HO2 := Lib.hid ((Only.refl [] w1).alloc (.cells #[.pointer (some ⟨q.bw, 0, none⟩), .int .i64 0, .pointer (some ⟨q.bf, 0, none⟩)] 199))
  have HM := Lib.hid (Row.new w1 199 [.pointer (some ⟨q.bw, 0, none⟩), .int .i64 0, .pointer (some ⟨q.bf, 0, none⟩)])
  obtain ⟨mb, hmb⟩ : ∃ z, z = w1.heap.size := ⟨_, rfl⟩
  have HMB := Lib.hid hmb
  rw [← hmb] at HM ⊢
  generalize w1.alloc (.cells #[.pointer (some ⟨q.bw, 0, none⟩), .int .i64 0, .pointer (some ⟨q.bf, 0, none⟩)] 199) = w2 at *
  clear hmb a7 a0
  have HJ2 := Lib.hid (HJ.out.only0 HO2.out)
  have HX2 := Lib.hid (HO2.out.row HX.out (by simp))
  have HNE := Lib.hid (show mb ≠ q.bf ∧ bx ≠ q.bf ∧ mb ≠ q.bw ∧ mb ≠ q.bm ∧ mb ≠ q.bc ∧ mb ≠ q.bj from by
    have h1 := HMB.out
    have h2 := HBX.out
    obtain ⟨l1, l2, l3, l4, l5⟩ := HLT0.out
    have h3 := HO.out.size
    omega)
  have m2 := HM.out.cell 2 rfl
  have b3 := HJ2.out.f.at_ 3 _ rfl
  have g3 := HJ2.out.f.fr 3
  go_upto_region 5 with fail
  have HJ3 := Lib.hid (HJ2.out.setF (lo' := lo) (stk' := .slice (some ⟨bs, 0, none⟩) 1 cs) (nx' := 2) 3 (.int .i64 2) rfl)
  have HOB := Lib.hid ((Only.refl [q.bf] w2).set (p := ⟨q.bf, 3, none⟩) (.inl (by simp)) (.int .i64 2))
  generalize w2.setCell ⟨q.bf, 3, none⟩ (.int .i64 2) = w3 at *
  clear m2 b3 g3
  have hm3 := HOB.out.row HM.out (by simpa using HNE.out.1)
  have hx3 := HOB.out.row HX2.out (by simpa using HNE.out.2.1)
  have x0 := hx3.cell 0 rfl
  have x1 := hx3.cell 1 rfl
  have x2 := hx3.cell 2 rfl
  have HMR : MR w3 q mb := ⟨hm3.blk, HNE.out.2.2.1, HNE.out.2.2.2.1, HNE.out.2.2.2.2.1, HNE.out.2.2.2.2.2, HNE.out.1⟩
  have cp := plainEmit w3 q 1 false lo 2 mb bs cs HJ3.out HMR (HBS.out.only (HO2.out.mono (G := [q.bf]) (by simp) |>.trans HOB.out (fun x hx => .inl hx)) (by simpa using HNB.out))
  clear hm3 hx3 HMR
  go_wp2_with fail
  refine cp.mono ?_
  rintro e w4 ⟨rfl, bt, ct, h1, h2, h3, h4, h5⟩
  have H1 := Lib.hid h1
  have H2 := Lib.hid h2
  have H3 := Lib.hid h3
  have H5 := Lib.hid (((HO.out.mono (G := [q.bf, q.bw]) (by simp)).trans HO2.out (by simp)).trans ((HOB.out.mono (G := [q.bf, q.bw]) (by simp)).trans h5 (fun x hx => .inl hx)) (fun x hx => .inl hx))
  clear cp h1 h2 h3 h4 h5 x0 x1 x2
  go_wp2_with fail
  exact hR.out _ _ ⟨rfl, bt, ct, H1.out, H2.out, H3.out, H5.out⟩
end
end Go.Proofs.YtkacgbigeobncaaGreat
namespace Go.Proofs.YtkacgbigeobncaaGreat
open Go.RowKit Go.Maps
set_option maxHeartbeats 6400000
set_option maxRecDepth 100000
set_option linter.unusedVariables false
set_option linter.unusedSimpArgs false
section
variable (w : World) (q : JQ) (lo td : Value)
theorem wstepPush (h : JS w q 1 false lo (.slice none 0 0) 0 (td)) : Calls Tryz.prog 46 #[.pointer (some ⟨q.bw, 0, none⟩), .int .i64 0] w
    fun e w' => e = .returned (.tuple #[.int .i64 1, .int .i64 0]) ∧ ∃ bs cs, JS w' q 1 false lo (.slice (some ⟨bs, 0, none⟩) 1 cs) 1 td ∧ Blk w' bs (vRow 7) ∧ 1 ≤ cs ∧ Only [q.bf] w w' := by
  refine calls_abs fun R hR => ?_
  have H := Lib.hid h
  have cc : Calls Tryz.prog 64 #[.pointer (some ⟨q.bw, 0, none⟩), .int .i64 0] w (Ret w (.tuple #[.int .i64 1, .int .i64 0])) := wcost w q lo _ _ 0 h (.inl rfl)
  clear h
  go_enter Tryz.func46, Tryz.ntmps46
  go_wp2_with fail
  refine cc.mono ?_
  rintro e w2 ⟨rfl, ho⟩
  have HO2 := Lib.hid ho
  have HJ2 := Lib.hid (H.out.only0 ho)
  have ca : Calls Tryz.prog 65 #[.pointer (some ⟨q.bw, 0, none⟩), .int .i64 0] w2 (Ret w2 (.agg #[.int .i64 1, .int .i64 7, .int .i64 0])) := wahead w2 q false lo _ _ 0 HJ2.out (.inl rfl)
  clear cc ho
  go_wp2_with fail
  refine ca.mono ?_
  rintro e w3 ⟨rfl, ho⟩
  have HO3 := Lib.hid (HO2.out.trans ho (by simp))
  have HJ3 := Lib.hid (HJ2.out.only0 ho)
  clear ca ho
  go_upto_region 5 with fail
  have HO4 := Lib.hid (HO3.out.alloc (.cells #[.int .i64 1, .int .i64 7, .int .i64 0] 64))
  have HJ4 := Lib.hid (HJ3.out.only0 ((Only.refl [] w3).alloc (.cells #[.int .i64 1, .int .i64 7, .int .i64 0] 64)))
  have HX := Lib.hid (Row.new w3 64 [.int .i64 1, .int .i64 7, .int .i64 0])
  obtain ⟨bx, hbx⟩ : ∃ z, z = w3.heap.size := ⟨_, rfl⟩
  rw [← hbx] at HX ⊢
  generalize w3.alloc (.cells #[.int .i64 1, .int .i64 7, .int .i64 0] 64) = w4 at *
  clear hbx
  have x0 := HX.out.cell 0 rfl
  have x1 := HX.out.cell 1 rfl
  have x2 := HX.out.cell 2 rfl
  go_quiet (fail)
  have HO5 := Lib.hid (HO4.out.drewN nq)
  have HJ5 := Lib.hid (HJ4.out.only0 ((Only.refl [] w4).drewN nq))
  have HX5 := Lib.hid (show Row (w4.drewN nq) bx 64 [.int .i64 1, .int .i64 7, .int .i64 0] from HX.out)
  generalize w4.drewN nq = w5 at *
  clear x0 x1 x2
  have x0 := HX5.out.cell 0 rfl
  have x1 := HX5.out.cell 1 rfl
  have x2 := HX5.out.cell 2 rfl
  obtain ⟨cp, -, -, a7, -⟩ := HJ5.out.ws.cells
  have ct := jtaken w5 _ _ _ _ _ _ _ HJ5.out
  go_wp2_with fail
  refine ct.mono ?_
  rintro e w6 ⟨rfl, e6⟩
  subst e6
  clear ct
  have cd := wdoPush w5 q lo td HJ5.out
  go_wp2_with fail
  refine cd.mono ?_
  rintro e w6 ⟨rfl, bs, cs, h1, h2, h3, h4⟩
  have cs2 := settleA w6 q lo _ td 1 h1 (.inr rfl)
  have H1 := Lib.hid h1
  have H2 := Lib.hid h2
  have H3 := Lib.hid h3
  have H4 := Lib.hid ((HO5.out.mono (G := [q.bf]) (by simp)).trans h4 (fun x hx => .inl hx))
  clear cd h1 h2 h3 h4 x0 x1 x2 a7
  go_wp2_with fail
  refine cs2.mono ?_
  rintro e w7 ⟨rfl, ho⟩
  have H5 := Lib.hid (H1.out.only0 ho)
  have H6 := Lib.hid (H2.out.only0 ho)
  have H7 := Lib.hid (H4.out.trans ho (by simp))
  clear cs2 ho
  go_wp2_with fail
  exact hR.out _ _ ⟨rfl, bs, cs, H5.out, H6.out, H3.out, H7.out⟩
theorem wstepEmit (bs cs : Nat) (h : JS w q 1 false lo (.slice (some ⟨bs, 0, none⟩) 1 cs) 1 (.slice none 0 0)) (hb : Blk w bs (vRow 7)) (hn : bs ≠ q.bf) : Calls Tryz.prog 46 #[.pointer (some ⟨q.bw, 0, none⟩), .int .i64 0] w
    fun e w' => e = .returned (.tuple #[.int .i64 2, .int .i64 0]) ∧ ∃ bt ct stk, JS w' q 0 true lo stk 2 (.slice (some ⟨bt, 0, none⟩) 1 ct) ∧ Blk w' bt [.int .i64 0, .int .i64 1, .int .i64 7] ∧ (1 ≤ ct ∧ ct ≤ 9223372036854775807) ∧ Only [q.bf, q.bw, q.bj] w w' := by
  refine calls_abs fun R hR => ?_
  have H := Lib.hid h
  have cc : Calls Tryz.prog 64 #[.pointer (some ⟨q.bw, 0, none⟩), .int .i64 0] w (Ret w (.tuple #[.int .i64 2, .int .i64 0])) := wcost w q lo _ _ 1 h (.inr rfl)
  have HB := Lib.hid hb
  have HNB := Lib.hid hn
  clear hb hn
  clear h
  go_enter Tryz.func46, Tryz.ntmps46
  go_wp2_with fail
  refine cc.mono ?_
  rintro e w2 ⟨rfl, ho⟩
  have HO2 := Lib.hid ho
  have HJ2 := Lib.hid (H.out.only0 ho)
  have ca : Calls Tryz.prog 65 #[.pointer (some ⟨q.bw, 0, none⟩), .int .i64 0] w2 (Ret w2 (.agg #[.int .i64 27, .int .i64 1, .int .i64 0])) := wahead w2 q false lo _ _ 1 HJ2.out (.inr rfl)
  clear cc ho
  go_wp2_with fail
  refine ca.mono ?_
  rintro e w3 ⟨rfl, ho⟩
  have HO3 := Lib.hid (HO2.out.trans ho (by simp))
  have HJ3 := Lib.hid (HJ2.out.only0 ho)
  clear ca ho
  go_upto_region 5 with fail
  have HO4 := Lib.hid (HO3.out.alloc (.cells #[.int .i64 27, .int .i64 1, .int .i64 0] 64))
  have HJ4 := Lib.hid (HJ3.out.only0 ((Only.refl [] w3).alloc (.cells #[.int .i64 27, .int .i64 1, .int .i64 0] 64)))
  have HX := Lib.hid (Row.new w3 64 [.int .i64 27, .int .i64 1, .int .i64 0])
  obtain ⟨bx, hbx⟩ : ∃ z, z = w3.heap.size := ⟨_, rfl⟩
  rw [← hbx] at HX ⊢
  generalize w3.alloc (.cells #[.int .i64 27, .int .i64 1, .int .i64 0] 64) = w4 at *
  clear hbx
  have x0 := HX.out.cell 0 rfl
  have x1 := HX.out.cell 1 rfl
  have x2 := HX.out.cell 2 rfl
  go_quiet (fail)
  have HO5 := Lib.hid (HO4.out.drewN nq)
  have HJ5 := Lib.hid (HJ4.out.only0 ((Only.refl [] w4).drewN nq))
  have HX5 := Lib.hid (show Row (w4.drewN nq) bx 64 [.int .i64 27, .int .i64 1, .int .i64 0] from HX.out)
  generalize w4.drewN nq = w5 at *
  clear x0 x1 x2
  have x0 := HX5.out.cell 0 rfl
  have x1 := HX5.out.cell 1 rfl
  have x2 := HX5.out.cell 2 rfl
  obtain ⟨cp, -, -, a7, -⟩ := HJ5.out.ws.cells
  have ct := jtaken w5 _ _ _ _ _ _ _ HJ5.out
  go_wp2_with fail
  refine ct.mono ?_
  rintro e w6 ⟨rfl, e6⟩
  subst e6
  clear ct
  have cd := wdoEmit w5 q lo bs cs HJ5.out (HB.out.only0 HO5.out) HNB.out
  go_wp2_with fail
  refine cd.mono ?_
  rintro e w6 ⟨rfl, bt, ct, h1, h2, h3, h4⟩
  have cs2 := settleB w6 q lo _ _ h1
  have H1 := Lib.hid h1
  have H2 := Lib.hid h2
  have H3 := Lib.hid h3
  have H4 := Lib.hid ((HO5.out.mono (G := [q.bf, q.bw]) (by simp)).trans h4 (fun x hx => .inl hx))
  have HNJ := Lib.hid (show bt ≠ q.bj from fun e => by
    have j0 := h1.j.at_ 0 _ rfl
    have t0 := h2.at_ 0 _ rfl
    rw [e, j0] at t0
    cases t0)
  clear cd h1 h2 h3 h4 x0 x1 x2 a7
  go_wp2_with fail
  refine cs2.mono ?_
  rintro e w7 ⟨rfl, h7, ho⟩
  have H5 := Lib.hid h7
  have H6 := Lib.hid (H2.out.only ho (by simpa using HNJ.out))
  have H7 := Lib.hid ((H4.out.mono (G := [q.bf, q.bw, q.bj]) (by simp)).trans ho (fun x hx => .inl (by simp at hx ⊢; exact .inr (.inr hx))))
  clear cs2 ho h7
  go_wp2_with fail
  exact hR.out _ _ ⟨rfl, bt, ct, _, H5.out, H6.out, H3.out, H7.out⟩
theorem wrun (h : JS w q 1 false lo (.slice none 0 0) 0 (.slice none 0 0)) : Calls Tryz.prog 25 #[.pointer (some ⟨q.bw, 0, none⟩), .int .i64 0, .int .i64 10] w
    fun e w' => e = .returned (.tuple #[.int .i64 3, .bool true, .int .i64 0]) ∧ ∃ bt ct stk, JS w' q 0 true lo stk 2 (.slice (some ⟨bt, 0, none⟩) 1 ct) ∧ Blk w' bt [.int .i64 0, .int .i64 1, .int .i64 7] ∧ (1 ≤ ct ∧ ct ≤ 9223372036854775807) ∧ Only [q.bf, q.bw, q.bj] w w' := by
  refine calls_abs fun R hR => ?_
  have H := Lib.hid h
  have cj := wjob w _ q.bw q.bm q.cm q.bc q.cc _ _ h.ws
  clear h
  go_enter Tryz.func25, Tryz.ntmps25
  go_wp2_with fail
  refine cj.mono ?_
  rintro e w2 ⟨rfl, e2⟩
  subst e2
  clear cj
  go_wp2_with fail
  go_loopw [9, 6] (fun i c wr => ∃ k : Int, i = .int .i64 k ∧ ((k = 0 ∧ c = .int .i64 0 ∧ wr = w) ∨
    (k = 1 ∧ c = .int .i64 1 ∧ ∃ bs cs, JS wr q 1 false lo (.slice (some ⟨bs, 0, none⟩) 1 cs) 1 (.slice none 0 0) ∧ Blk wr bs (vRow 7) ∧ 1 ≤ cs ∧ Only [q.bf] w wr) ∨
    (k = 2 ∧ c = .int .i64 3 ∧ ∃ bt ct stk, JS wr q 0 true lo stk 2 (.slice (some ⟨bt, 0, none⟩) 1 ct) ∧ Blk wr bt [.int .i64 0, .int .i64 1, .int .i64 7] ∧ (1 ≤ ct ∧ ct ≤ 9223372036854775807) ∧ Only [q.bf, q.bw, q.bj] w wr))) (fun i _ _ => (10 - intOf i).toNat)
  case atStart => exact ⟨0, rfl, .inl ⟨rfl, rfl, rfl⟩⟩
  case round =>
    obtain ⟨k, rfl, ⟨rfl, rfl, e3⟩ | ⟨rfl, rfl, bs, cs, h1, h2, h3, h4⟩ | ⟨rfl, rfl, bt, ct, stk, h1, h2, h3, h4⟩⟩ := hrel
    · subst e3
      obtain ⟨cp, -, -, a7, -⟩ := H.out.ws.cells
      have j3 := H.out.j.at_ 3 _ rfl
      have cst := wstepPush wr q lo _ H.out
      go_wp2_with fail
      refine cst.mono ?_
      rintro e w3 ⟨rfl, bs, cs, h1, h2, h3, h4⟩
      have H1 := Lib.hid h1
      have H2 := Lib.hid h2
      have H3 := Lib.hid h3
      have H4 := Lib.hid h4
      clear cst h1 h2 h3 h4 a7 j3
      go_wp2_with fail
      go_roundw
      case rel => exact ⟨1, rfl, .inr (.inl ⟨rfl, rfl, bs, _, H1.out, H2.out, H3.out, H4.out⟩)⟩
      case measure => simp only [intOf]; decide
    · obtain ⟨cp, -, -, a7, -⟩ := h1.ws.cells
      have j3 := h1.j.at_ 3 _ rfl
      have hn : bs ≠ q.bf := fun e => by
        have j0 := h1.f.at_ 1 _ rfl
        have f3 := h1.f.at_ 3 _ rfl
        have t0 := h2.at_ 1 _ rfl
        have f0 := h1.f.at_ 0 _ rfl
        have t1 := h2.at_ 0 _ rfl
        rw [e, f0] at t1
        cases t1
      have cst := wstepEmit wr q lo bs cs h1 h2 hn
      have H4 := Lib.hid h4
      clear h1 h2 h3 h4 hn
      go_wp2_with fail
      refine cst.mono ?_
      rintro e w3 ⟨rfl, bt, ct, stk, h1, h2, h3, h4⟩
      have H1 := Lib.hid h1
      have H2 := Lib.hid h2
      have H3 := Lib.hid h3
      have H5 := Lib.hid ((H4.out.mono (G := [q.bf, q.bw, q.bj]) (by simp)).trans h4 (fun x hx => .inl hx))
      clear cst h1 h2 h3 h4 a7 j3
      go_wp2_with fail
      go_roundw
      case rel => exact ⟨2, rfl, .inr (.inr ⟨rfl, rfl, bt, ct, stk, H1.out, H2.out, H3.out, H5.out⟩)⟩
      case measure => simp only [intOf]; decide
    · obtain ⟨cp, -, -, a7, -⟩ := h1.ws.cells
      have j3 := h1.j.at_ 3 _ rfl
      have H1 := Lib.hid h1
      have H2 := Lib.hid h2
      have H3 := Lib.hid h3
      have H4 := Lib.hid h4
      clear h1 h2 h3 h4
      go_wp2_with fail
      go_quiet (fail)
      go_wp2_with fail
      refine bodyPost_ret (results_tmp3 rfl _ _ _) rfl ?_
      exact hR.out _ _ ⟨rfl, bt, ct, stk, H1.out.only0 ((Only.refl [] _).drewN _), H2.out.only0 ((Only.refl [] _).drewN _), H3.out, H4.out.drewN _⟩
end
theorem eqTri (w : World) : (binOp .eql 80 (.agg #[.int .i64 0, .int .i64 1, .int .i64 7]) (.agg #[.int .i64 0, .int .i64 1, .int .i64 7])).run Tryz.prog w = .ok (.bool true) w := by kernel_rfl
theorem saneA (w : World) : Calls Tryz.prog 10 #[] w (Ret w (.bool true)) := by
  refine calls_abs fun R hR => ?_
  have hC := Blk.new w 64 cR
  have hC2 := hC.alloc (.cells (mR w.heap.size 2).toArray 70)
  have hM := Blk.new (w.alloc (.cells cR.toArray 64)) 70 (mR w.heap.size 2)
  rw [World.size_alloc] at hM
  have HO2 := Lib.hid (((Only.refl [] w).alloc (.cells cR.toArray 64)).alloc (.cells (mR w.heap.size 2).toArray 70))
  have cn := wnew_hello _ (w.heap.size + 1) w.heap.size ⟨hM, hC2, by omega, by decide, by decide⟩
  have hq := fun w => eqTri w
  unfold cR mR at cn HO2
  clear hC hC2 hM
  go_enter Tryz.func10, Tryz.ntmps10
  go_wp2_with fail
  refine cn.mono ?_
  rintro e w3 ⟨bw, bm, cm, bc, cc, rfl, hw, hbw, ho⟩
  have cs := wstart w3 bw bm cm bc cc _ hw
  have HO3 := Lib.hid (HO2.out.trans ho (by simp))
  have HLT := Lib.hid (show w.heap.size ≤ bw from by
    have := HO2.out.size
    omega)
  clear cn hw ho hbw
  go_wp2_with fail
  refine cs.mono ?_
  rintro e w4 ⟨rfl, bj, cj, bf, cf, hj, hge, ho⟩
  have HGE := Lib.hid (show w.heap.size ≤ bj ∧ w.heap.size ≤ bf by have := HO3.out.size; omega)
  have cr := wrun w4 ⟨bw, bm, cm, bc, cc, bj, cj, bf, cf⟩ _ hj
  have HO4 := Lib.hid ho
  clear cs hj ho hge
  go_wp2_with fail
  refine cr.mono ?_
  rintro e w5 ⟨rfl, bt, ct, stk, hj, hb, hct, ho⟩
  have ctl := wtold w5 _ bw bm cm bc cc bt ct (.slice none 0 0) hj.ws hb hct
  have HO5 := Lib.hid ho
  clear cr hj hb hct ho
  go_wp2_with fail
  refine ctl.mono ?_
  rintro e w6 ⟨b6, c6, rfl, hb6, hc6, ho6⟩
  have HO6 := Lib.hid ho6
  have t0 := hb6.at_ 0 _ rfl
  have t1 := hb6.at_ 1 _ rfl
  have t2 := hb6.at_ 2 _ rfl
  clear ctl hb6 ho6
  go_wp2_with fail
  exact hR.out _ _ ⟨rfl, ((HO3.out.trans HO4.out (fun x hx => .inr (by simp at hx; have := HLT.out; omega))).trans HO5.out (fun x hx => .inr (by simp at hx; have := HLT.out; have := HGE.out; omega))).trans HO6.out (by simp)⟩
end Go.Proofs.YtkacgbigeobncaaGreat
