/- Layer 12's laws: do, deed by deed (printed by wip/gen/mkdo.py). -/
import Derived.Test.YtkjocehdbpekjaaGreatMkL
namespace Go.Proofs.YtkjocehdbpekjaaGreat
open Go.RowKit Go.Maps
set_option maxHeartbeats 12800000
set_option maxRecDepth 100000
set_option linter.unusedVariables false
theorem icell {w : World} {a : Option Addr} {n c : Nat} {m : List Int} (h : Ints w 0 (.slice a n c) m) {j : Nat} (hj : j < m.length) : ∃ g, a = some ⟨g, 0, none⟩ ∧ w.cell? ⟨g, j, none⟩ = some (.int .i64 (gI m j)) := by
  rcases h.form with ⟨_, e⟩ | ⟨g, cap, e, _, _, _, hc⟩
  · rw [e] at hj; simp at hj
  · cases e; exact ⟨g, rfl, hc j hj⟩
/-- Four places for two heaps and their markers. -/
structure Four (l : List Asn) (i j i2 j2 : Nat) : Prop where
  a : Two2 l i j
  b : Two2 l i2 j2
  n1 : i ≠ i2
  n2 : i ≠ j2
  n3 : j ≠ i2
  n4 : j ≠ j2
/-- Both sides, each at its own state. -/
def DD (l : List Asn) (i j i2 j2 hb p q r : Nat) (m1 m2 : Mk) : List Asn := ML (RL l i2 j2 q r m2) i j hb p m1
section
variable {l : List Asn} {i j i2 j2 hb p q r : Nat} {m m1 m2 : Mk} {w0 w : World}
theorem RL.len : (RL l i2 j2 q r m2).length = l.length := by unfold RL; simp
theorem ML.len : (ML l i j hb p m).length = l.length := by unfold ML; simp
theorem Four.tp (h : Four l i j i2 j2) : Two2 (RL l i2 j2 q r m2) i j := ⟨by rw [RL.len]; exact h.a.hi, by rw [RL.len]; exact h.a.hj, h.a.ne⟩
theorem Four.tr (h : Four l i j i2 j2) : Two2 (ML l i j hb p m1) i2 j2 := ⟨by rw [ML.len]; exact h.b.hi, by rw [ML.len]; exact h.b.hj, h.b.ne⟩
theorem Four.comm (h : Four l i j i2 j2) : DD l i j i2 j2 hb p q r m1 m2 = RL (ML l i j hb p m1) i2 j2 q r m2 := by
  unfold DD ML RL
  rw [List.set_comm _ _ (Ne.symm h.n2), List.set_comm _ _ (Ne.symm h.n1), List.set_comm _ _ (Ne.symm h.n4), List.set_comm _ _ (Ne.symm h.n3)]
theorem Four.app (h : Four l i j i2 j2) (A : Asn) : Four (l ++ [A]) i j i2 j2 := ⟨h.a.app A, h.b.app A, h.n1, h.n2, h.n3, h.n4⟩
theorem DD.app (h : Four l i j i2 j2) (A : Asn) : DD (l ++ [A]) i j i2 j2 hb p q r m1 m2 = DD l i j i2 j2 hb p q r m1 m2 ++ [A] := by
  unfold DD
  rw [RL.app h.b, ML.app h.tp]
theorem DD.at {A : Asn} (h : Four l i j i2 j2) : (DD (l ++ [A]) i j i2 j2 hb p q r m1 m2)[l.length]? = some A := by
  rw [DD.app h]
  have : (DD l i j i2 j2 hb p q r m1 m2).length = l.length := by unfold DD; rw [ML.len, RL.len]
  rw [← this]; simp
theorem DD.pop {A : Asn} (h : Four l i j i2 j2) (hf : Fam w0 w (DD (l ++ [A]) i j i2 j2 hb p q r m1 m2)) : Fam w0 w (DD l i j i2 j2 hb p q r m1 m2) := by
  rw [DD.app h] at hf
  exact hf.pop
def MDid (w0 : World) (l : List Asn) (i j i2 j2 hb p q r : Nat) (e : Ending) (w' : World) : Prop := e = .returned (.bool true) ∧ ∃ m', m'.Ok ∧ Fam w0 w' (DD l i j i2 j2 hb p q r m' m')
theorem mdo_1 (h4 : Four l i j i2 j2) (hf : Fam w0 w (DD l i j i2 j2 hb p q r m m)) (hm : m.Ok) (d1 d2 d3 : Int) (wa : wfI d1) (wb : wfI d2) (wc : wfI d3) :
    Calls Tryz.prog 43 #[.pointer (some ⟨p, 0, none⟩), .pointer (some ⟨r, 0, none⟩), .agg #[.int .i64 1, .int .i64 d1, .int .i64 d2, .int .i64 d3]] w (MDid w0 l i j i2 j2 hb p q r) := by
  refine calls_abs fun R hR => ?_
  have H4 := Lib.hid h4
  have HM := Lib.hid hm
  have h4a := h4.app (RowA w.heap.size 73 [.int .i64 1, .int .i64 d1, .int .i64 d2, .int .i64 d3])
  have H4A := Lib.hid h4a
  have hf1 := hf.addRow 73 [.int .i64 1, .int .i64 d1, .int .i64 d2, .int .i64 d3]
  rw [← DD.app h4] at hf1
  have HF1 := Lib.hid hf1
  have hr1 := hf1.row l.length (DD.at h4)
  have e0 := hr1.cell 0 rfl
  have e1 := hr1.cell 1 rfl
  have e2 := hr1.cell 2 rfl
  have e3 := hr1.cell 3 rfl
  have HP1 : Hid (Calls Tryz.prog 48 #[.pointer (some ⟨p, 0, none⟩), .int .i64 d1, .int .i64 d3, .int .i64 d2] (w.alloc (.cells #[.int .i64 1, .int .i64 d1, .int .i64 d2, .int .i64 d3] 73)) (fun e w' => e = .returned (.tuple #[.int .i64 (m.newArray d1 d3 d2).1, .int .i64 (m.newArray d1 d3 d2).2.1]) ∧ Fam w0 w' (DD (l ++ [RowA w.heap.size 73 [.int .i64 1, .int .i64 d1, .int .i64 d2, .int .i64 d3]]) i j i2 j2 hb p q r ((m.newArray d1 d3 d2).2.2) m))) := mnewArray_rep _ h4a.tp hf1 hm d1 d3 d2
  have HG1 : Hid (∀ wx, Fam w0 wx (DD (l ++ [RowA w.heap.size 73 [.int .i64 1, .int .i64 d1, .int .i64 d2, .int .i64 d3]]) i j i2 j2 hb p q r ((m.newArray d1 d3 d2).2.2) m) → Calls Tryz.prog 92 #[.pointer (some ⟨r, 0, none⟩), .int .i64 d1, .int .i64 d3, .int .i64 d2] wx (fun e w' => e = .returned (.tuple #[.int .i64 (m.newArray d1 d3 d2).1, .int .i64 (m.newArray d1 d3 d2).2.1]) ∧ Fam w0 w' (DD (l ++ [RowA w.heap.size 73 [.int .i64 1, .int .i64 d1, .int .i64 d2, .int .i64 d3]]) i j i2 j2 hb p q r ((m.newArray d1 d3 d2).2.2) ((m.newArray d1 d3 d2).2.2)))) := fun wx hx => by
    rw [h4a.comm] at hx ⊢
    exact gmNewArray_rep wx h4a.tr hx hm d1 d3 d2
  have HOK : Hid (((m.newArray d1 d3 d2).2.2).Ok) := hm.newArray d1 d3 d2
  clear hf hm h4 h4a hf1 hr1 wa wb wc
  generalize m.newArray d1 d3 d2 = rr at *
  obtain ⟨r1, r2, m'⟩ := rr
  have c1 := HP1.out
  go_enter Tryz.func43, Tryz.ntmps43
  go_wp2_with fail
  refine c1.mono ?_
  rintro e w3 ⟨rfl, f3⟩
  have c2 := HG1.out w3 f3
  have hr3 := f3.row l.length (DD.at H4.out)
  have e1 := hr3.cell 1 rfl
  have e2 := hr3.cell 2 rfl
  have e3 := hr3.cell 3 rfl
  clear c1 f3 hr3 HP1 HG1
  go_wp2_with fail
  refine c2.mono ?_
  rintro e w4 ⟨rfl, f4⟩
  have HE := Lib.hid (DD.pop H4.out f4)
  clear c2 f4
  go_wp2_with fail
  exact hR.out _ _ ⟨rfl, _, HOK.out, HE.out⟩
theorem mdo_2 (h4 : Four l i j i2 j2) (hf : Fam w0 w (DD l i j i2 j2 hb p q r m m)) (hm : m.Ok) (d1 d2 d3 : Int) (wa : wfI d1) (wb : wfI d2) (wc : wfI d3) :
    Calls Tryz.prog 43 #[.pointer (some ⟨p, 0, none⟩), .pointer (some ⟨r, 0, none⟩), .agg #[.int .i64 2, .int .i64 d1, .int .i64 d2, .int .i64 d3]] w (MDid w0 l i j i2 j2 hb p q r) := by
  refine calls_abs fun R hR => ?_
  have H4 := Lib.hid h4
  have HM := Lib.hid hm
  have h4a := h4.app (RowA w.heap.size 73 [.int .i64 2, .int .i64 d1, .int .i64 d2, .int .i64 d3])
  have H4A := Lib.hid h4a
  have hf1 := hf.addRow 73 [.int .i64 2, .int .i64 d1, .int .i64 d2, .int .i64 d3]
  rw [← DD.app h4] at hf1
  have HF1 := Lib.hid hf1
  have hr1 := hf1.row l.length (DD.at h4)
  have e0 := hr1.cell 0 rfl
  have e1 := hr1.cell 1 rfl
  have e2 := hr1.cell 2 rfl
  have e3 := hr1.cell 3 rfl
  have HP1 : Hid (Calls Tryz.prog 51 #[.pointer (some ⟨p, 0, none⟩), .int .i64 d1, .int .i64 d2, .int .i64 d3] (w.alloc (.cells #[.int .i64 2, .int .i64 d1, .int .i64 d2, .int .i64 d3] 73)) (fun e w' => e = .returned (.int .i64 (m.store d1 d2 d3).1) ∧ Fam w0 w' (DD (l ++ [RowA w.heap.size 73 [.int .i64 2, .int .i64 d1, .int .i64 d2, .int .i64 d3]]) i j i2 j2 hb p q r ((m.store d1 d2 d3).2) m))) := mstore_rep _ h4a.tp hf1 hm d1 d2 d3 wa wc
  have HG1 : Hid (∀ wx, Fam w0 wx (DD (l ++ [RowA w.heap.size 73 [.int .i64 2, .int .i64 d1, .int .i64 d2, .int .i64 d3]]) i j i2 j2 hb p q r ((m.store d1 d2 d3).2) m) → Calls Tryz.prog 93 #[.pointer (some ⟨r, 0, none⟩), .int .i64 d1, .int .i64 d2, .int .i64 d3] wx (fun e w' => e = .returned (.int .i64 (m.store d1 d2 d3).1) ∧ Fam w0 w' (DD (l ++ [RowA w.heap.size 73 [.int .i64 2, .int .i64 d1, .int .i64 d2, .int .i64 d3]]) i j i2 j2 hb p q r ((m.store d1 d2 d3).2) ((m.store d1 d2 d3).2)))) := fun wx hx => by
    rw [h4a.comm] at hx ⊢
    exact gmStore_rep wx h4a.tr hx hm d1 d2 d3
  have HOK : Hid (((m.store d1 d2 d3).2).Ok) := hm.store d1 d2 d3
  clear hf hm h4 h4a hf1 hr1 wa wb wc
  generalize m.store d1 d2 d3 = rr at *
  obtain ⟨r1, m'⟩ := rr
  have c1 := HP1.out
  go_enter Tryz.func43, Tryz.ntmps43
  go_wp2_with fail
  refine c1.mono ?_
  rintro e w3 ⟨rfl, f3⟩
  have c2 := HG1.out w3 f3
  have hr3 := f3.row l.length (DD.at H4.out)
  have e1 := hr3.cell 1 rfl
  have e2 := hr3.cell 2 rfl
  have e3 := hr3.cell 3 rfl
  clear c1 f3 hr3 HP1 HG1
  go_wp2_with fail
  refine c2.mono ?_
  rintro e w4 ⟨rfl, f4⟩
  have HE := Lib.hid (DD.pop H4.out f4)
  clear c2 f4
  go_wp2_with fail
  exact hR.out _ _ ⟨rfl, _, HOK.out, HE.out⟩
theorem mdo_3 (h4 : Four l i j i2 j2) (hf : Fam w0 w (DD l i j i2 j2 hb p q r m m)) (hm : m.Ok) (d1 d2 d3 : Int) (wa : wfI d1) (wb : wfI d2) (wc : wfI d3) :
    Calls Tryz.prog 43 #[.pointer (some ⟨p, 0, none⟩), .pointer (some ⟨r, 0, none⟩), .agg #[.int .i64 3, .int .i64 d1, .int .i64 d2, .int .i64 d3]] w (MDid w0 l i j i2 j2 hb p q r) := by
  refine calls_abs fun R hR => ?_
  have H4 := Lib.hid h4
  have HM := Lib.hid hm
  have h4a := h4.app (RowA w.heap.size 73 [.int .i64 3, .int .i64 d1, .int .i64 d2, .int .i64 d3])
  have H4A := Lib.hid h4a
  have hf1 := hf.addRow 73 [.int .i64 3, .int .i64 d1, .int .i64 d2, .int .i64 d3]
  rw [← DD.app h4] at hf1
  have HF1 := Lib.hid hf1
  have hr1 := hf1.row l.length (DD.at h4)
  have e0 := hr1.cell 0 rfl
  have e1 := hr1.cell 1 rfl
  have e2 := hr1.cell 2 rfl
  have e3 := hr1.cell 3 rfl
  have HP1 : Hid (Calls Tryz.prog 44 #[.pointer (some ⟨p, 0, none⟩)] (w.alloc (.cells #[.int .i64 3, .int .i64 d1, .int .i64 d2, .int .i64 d3] 73)) (fun e w' => e = .returned (.tuple #[.int .i64 m.step.1, .int .i64 m.step.2.1]) ∧ Fam w0 w' (DD (l ++ [RowA w.heap.size 73 [.int .i64 3, .int .i64 d1, .int .i64 d2, .int .i64 d3]]) i j i2 j2 hb p q r (m.step.2.2) m))) := mstep_rep _ h4a.tp hf1 hm
  have HG1 : Hid (∀ wx, Fam w0 wx (DD (l ++ [RowA w.heap.size 73 [.int .i64 3, .int .i64 d1, .int .i64 d2, .int .i64 d3]]) i j i2 j2 hb p q r (m.step.2.2) m) → Calls Tryz.prog 45 #[.pointer (some ⟨r, 0, none⟩)] wx (fun e w' => e = .returned (.tuple #[.int .i64 m.step.1, .int .i64 m.step.2.1]) ∧ Fam w0 w' (DD (l ++ [RowA w.heap.size 73 [.int .i64 3, .int .i64 d1, .int .i64 d2, .int .i64 d3]]) i j i2 j2 hb p q r (m.step.2.2) (m.step.2.2)))) := fun wx hx => by
    rw [h4a.comm] at hx ⊢
    exact gstep_rep wx h4a.tr hx hm
  have HOK : Hid ((m.step.2.2).Ok) := hm.step
  clear hf hm h4 h4a hf1 hr1 wa wb wc
  generalize m.step = rr at *
  obtain ⟨r1, r2, m'⟩ := rr
  have c1 := HP1.out
  go_enter Tryz.func43, Tryz.ntmps43
  go_wp2_with fail
  refine c1.mono ?_
  rintro e w3 ⟨rfl, f3⟩
  have c2 := HG1.out w3 f3
  have hr3 := f3.row l.length (DD.at H4.out)
  clear c1 f3 hr3 HP1 HG1
  go_wp2_with fail
  refine c2.mono ?_
  rintro e w4 ⟨rfl, f4⟩
  have HE := Lib.hid (DD.pop H4.out f4)
  clear c2 f4
  go_wp2_with fail
  exact hR.out _ _ ⟨rfl, _, HOK.out, HE.out⟩
theorem mdo_4 (h4 : Four l i j i2 j2) (hf : Fam w0 w (DD l i j i2 j2 hb p q r m m)) (hm : m.Ok) (d1 d2 d3 : Int) (wa : wfI d1) (wb : wfI d2) (wc : wfI d3) :
    Calls Tryz.prog 43 #[.pointer (some ⟨p, 0, none⟩), .pointer (some ⟨r, 0, none⟩), .agg #[.int .i64 4, .int .i64 d1, .int .i64 d2, .int .i64 d3]] w (MDid w0 l i j i2 j2 hb p q r) := by
  refine calls_abs fun R hR => ?_
  have H4 := Lib.hid h4
  have HM := Lib.hid hm
  have h4a := h4.app (RowA w.heap.size 73 [.int .i64 4, .int .i64 d1, .int .i64 d2, .int .i64 d3])
  have H4A := Lib.hid h4a
  have hf1 := hf.addRow 73 [.int .i64 4, .int .i64 d1, .int .i64 d2, .int .i64 d3]
  rw [← DD.app h4] at hf1
  have HF1 := Lib.hid hf1
  have hr1 := hf1.row l.length (DD.at h4)
  have e0 := hr1.cell 0 rfl
  have e1 := hr1.cell 1 rfl
  have e2 := hr1.cell 2 rfl
  have e3 := hr1.cell 3 rfl
  have HP1 : Hid (Calls Tryz.prog 28 #[.pointer (some ⟨p, 0, none⟩)] (w.alloc (.cells #[.int .i64 4, .int .i64 d1, .int .i64 d2, .int .i64 d3] 73)) (fun e w' => e = .returned (.int .i64 (m.runs : Int)) ∧ Fam w0 w' (DD (l ++ [RowA w.heap.size 73 [.int .i64 4, .int .i64 d1, .int .i64 d2, .int .i64 d3]]) i j i2 j2 hb p q r (m.run) m))) := mrun_rep _ h4a.tp hf1 hm
  have HG1 : Hid (∀ wx, Fam w0 wx (DD (l ++ [RowA w.heap.size 73 [.int .i64 4, .int .i64 d1, .int .i64 d2, .int .i64 d3]]) i j i2 j2 hb p q r (m.run) m) → Calls Tryz.prog 29 #[.pointer (some ⟨r, 0, none⟩)] wx (fun e w' => e = .returned (.int .i64 (m.runs : Int)) ∧ Fam w0 w' (DD (l ++ [RowA w.heap.size 73 [.int .i64 4, .int .i64 d1, .int .i64 d2, .int .i64 d3]]) i j i2 j2 hb p q r (m.run) (m.run)))) := fun wx hx => by
    rw [h4a.comm] at hx ⊢
    exact grun_rep wx h4a.tr hx hm
  have HOK : Hid ((m.run).Ok) := (hm.steps m.runs).1
  clear hf hm h4 h4a hf1 hr1 wa wb wc
  generalize m.run = m' at *
  generalize m.runs = rn at *
  have c1 := HP1.out
  go_enter Tryz.func43, Tryz.ntmps43
  go_wp2_with fail
  refine c1.mono ?_
  rintro e w3 ⟨rfl, f3⟩
  have c2 := HG1.out w3 f3
  have hr3 := f3.row l.length (DD.at H4.out)
  clear c1 f3 hr3 HP1 HG1
  go_wp2_with fail
  refine c2.mono ?_
  rintro e w4 ⟨rfl, f4⟩
  have HE := Lib.hid (DD.pop H4.out f4)
  clear c2 f4
  go_wp2_with fail
  exact hR.out _ _ ⟨rfl, _, HOK.out, HE.out⟩
theorem mdo_5 (h4 : Four l i j i2 j2) (hf : Fam w0 w (DD l i j i2 j2 hb p q r m m)) (hm : m.Ok) (d1 d2 d3 : Int) (wa : wfI d1) (wb : wfI d2) (wc : wfI d3) :
    Calls Tryz.prog 43 #[.pointer (some ⟨p, 0, none⟩), .pointer (some ⟨r, 0, none⟩), .agg #[.int .i64 5, .int .i64 d1, .int .i64 d2, .int .i64 d3]] w (MDid w0 l i j i2 j2 hb p q r) := by
  refine calls_abs fun R hR => ?_
  have H4 := Lib.hid h4
  have HM := Lib.hid hm
  have h4a := h4.app (RowA w.heap.size 73 [.int .i64 5, .int .i64 d1, .int .i64 d2, .int .i64 d3])
  have H4A := Lib.hid h4a
  have hf1 := hf.addRow 73 [.int .i64 5, .int .i64 d1, .int .i64 d2, .int .i64 d3]
  rw [← DD.app h4] at hf1
  have HF1 := Lib.hid hf1
  have hr1 := hf1.row l.length (DD.at h4)
  have e0 := hr1.cell 0 rfl
  have e1 := hr1.cell 1 rfl
  have e2 := hr1.cell 2 rfl
  have e3 := hr1.cell 3 rfl
  have HP1 : Hid (Calls Tryz.prog 71 #[.pointer (some ⟨p, 0, none⟩), .int .i64 d1] (w.alloc (.cells #[.int .i64 5, .int .i64 d1, .int .i64 d2, .int .i64 d3] 73)) (fun e w' => e = .returned (.int .i64 (m.shadeE d1)) ∧ Fam w0 w' (DD (l ++ [RowA w.heap.size 73 [.int .i64 5, .int .i64 d1, .int .i64 d2, .int .i64 d3]]) i j i2 j2 hb p q r (m.shade d1) m))) := mshade_rep _ h4a.tp hf1 hm d1 wa
  have HG1 : Hid (∀ wx, Fam w0 wx (DD (l ++ [RowA w.heap.size 73 [.int .i64 5, .int .i64 d1, .int .i64 d2, .int .i64 d3]]) i j i2 j2 hb p q r (m.shade d1) m) → Calls Tryz.prog 94 #[.pointer (some ⟨r, 0, none⟩), .int .i64 d1] wx (fun e w' => e = .returned (.int .i64 (m.shadeE d1)) ∧ Fam w0 w' (DD (l ++ [RowA w.heap.size 73 [.int .i64 5, .int .i64 d1, .int .i64 d2, .int .i64 d3]]) i j i2 j2 hb p q r (m.shade d1) (m.shade d1)))) := fun wx hx => by
    rw [h4a.comm] at hx ⊢
    exact gshade_rep wx h4a.tr hx hm d1
  have HOK : Hid ((m.shade d1).Ok) := hm.shade d1
  clear hf hm h4 h4a hf1 hr1 wa wb wc
  generalize m.shade d1 = m' at *
  generalize m.shadeE d1 = r1 at *
  have c1 := HP1.out
  go_enter Tryz.func43, Tryz.ntmps43
  go_wp2_with fail
  refine c1.mono ?_
  rintro e w3 ⟨rfl, f3⟩
  have c2 := HG1.out w3 f3
  have hr3 := f3.row l.length (DD.at H4.out)
  have e1 := hr3.cell 1 rfl
  clear c1 f3 hr3 HP1 HG1
  go_wp2_with fail
  refine c2.mono ?_
  rintro e w4 ⟨rfl, f4⟩
  have HE := Lib.hid (DD.pop H4.out f4)
  clear c2 f4
  go_wp2_with fail
  exact hR.out _ _ ⟨rfl, _, HOK.out, HE.out⟩
theorem mdo_7 (h4 : Four l i j i2 j2) (hf : Fam w0 w (DD l i j i2 j2 hb p q r m m)) (hm : m.Ok) (d : Int) (hd : (d == 0) = false ∧ (d == 1) = false ∧ (d == 2) = false ∧ (d == 3) = false ∧ (d == 4) = false ∧ (d == 5) = false ∧ (d == 6) = false) (d1 d2 d3 : Int) (wa : wfI d1) (wb : wfI d2) (wc : wfI d3) :
    Calls Tryz.prog 43 #[.pointer (some ⟨p, 0, none⟩), .pointer (some ⟨r, 0, none⟩), .agg #[.int .i64 d, .int .i64 d1, .int .i64 d2, .int .i64 d3]] w (MDid w0 l i j i2 j2 hb p q r) := by
  refine calls_abs fun R hR => ?_
  have H4 := Lib.hid h4
  have HM := Lib.hid hm
  have h4a := h4.app (RowA w.heap.size 73 [.int .i64 d, .int .i64 d1, .int .i64 d2, .int .i64 d3])
  have H4A := Lib.hid h4a
  have hf1 := hf.addRow 73 [.int .i64 d, .int .i64 d1, .int .i64 d2, .int .i64 d3]
  rw [← DD.app h4] at hf1
  have HF1 := Lib.hid hf1
  have hr1 := hf1.row l.length (DD.at h4)
  have e0 := hr1.cell 0 rfl
  have e1 := hr1.cell 1 rfl
  have e2 := hr1.cell 2 rfl
  have e3 := hr1.cell 3 rfl
  have HP1 : Hid (Calls Tryz.prog 99 #[.pointer (some ⟨p, 0, none⟩)] (w.alloc (.cells #[.int .i64 d, .int .i64 d1, .int .i64 d2, .int .i64 d3] 73)) (fun e w' => e = .returned (.tuple #[.int .i64 m.next.1, .int .i64 m.next.2]) ∧ Fam w0 w' (DD (l ++ [RowA w.heap.size 73 [.int .i64 d, .int .i64 d1, .int .i64 d2, .int .i64 d3]]) i j i2 j2 hb p q r (m) m))) := (mnext_rep _ h4a.tp hf1).mono (fun e w' ⟨x1, x2⟩ => ⟨x1, by rw [← x2]; exact hf1⟩)
  have HG1 : Hid (∀ wx, Fam w0 wx (DD (l ++ [RowA w.heap.size 73 [.int .i64 d, .int .i64 d1, .int .i64 d2, .int .i64 d3]]) i j i2 j2 hb p q r (m) m) → Calls Tryz.prog 100 #[.pointer (some ⟨r, 0, none⟩)] wx (fun e w' => e = .returned (.tuple #[.int .i64 m.next.1, .int .i64 m.next.2]) ∧ Fam w0 w' (DD (l ++ [RowA w.heap.size 73 [.int .i64 d, .int .i64 d1, .int .i64 d2, .int .i64 d3]]) i j i2 j2 hb p q r (m) (m)))) := fun wx hx => by
    rw [h4a.comm] at hx ⊢
    exact (gnext_rep wx h4a.tr hx).mono (fun e w' ⟨x1, x2⟩ => ⟨x1, by rw [← x2]; exact hx⟩)
  have HOK : Hid ((m).Ok) := hm
  clear hf hm h4 h4a hf1 hr1 wa wb wc
  obtain ⟨k0, k1, k2, k3, k4, k5, k6⟩ := hd
  generalize m.next = rr at *
  obtain ⟨r1, r2⟩ := rr
  have c1 := HP1.out
  go_enter Tryz.func43, Tryz.ntmps43
  go_wp2_with fail
  refine c1.mono ?_
  rintro e w3 ⟨rfl, f3⟩
  have c2 := HG1.out w3 f3
  have hr3 := f3.row l.length (DD.at H4.out)
  clear c1 f3 hr3 HP1 HG1
  go_wp2_with fail
  refine c2.mono ?_
  rintro e w4 ⟨rfl, f4⟩
  have HE := Lib.hid (DD.pop H4.out f4)
  clear c2 f4
  go_wp2_with fail
  exact hR.out _ _ ⟨rfl, _, HOK.out, HE.out⟩
theorem mdo_0 (h4 : Four l i j i2 j2) (hf : Fam w0 w (DD l i j i2 j2 hb p q r m m)) (hm : m.Ok) (d1 d2 d3 : Int) (wa : wfI d1) (wb : wfI d2) (wc : wfI d3) :
    Calls Tryz.prog 43 #[.pointer (some ⟨p, 0, none⟩), .pointer (some ⟨r, 0, none⟩), .agg #[.int .i64 0, .int .i64 d1, .int .i64 d2, .int .i64 d3]] w (MDid w0 l i j i2 j2 hb p q r) := by
  refine calls_abs fun R hR => ?_
  have H4 := Lib.hid h4
  have HM := Lib.hid hm
  have h4a := h4.app (RowA w.heap.size 73 [.int .i64 0, .int .i64 d1, .int .i64 d2, .int .i64 d3])
  have H4A := Lib.hid h4a
  have hf1 := hf.addRow 73 [.int .i64 0, .int .i64 d1, .int .i64 d2, .int .i64 d3]
  rw [← DD.app h4] at hf1
  have HF1 := Lib.hid hf1
  have hr1 := hf1.row l.length (DD.at h4)
  have e0 := hr1.cell 0 rfl
  have e1 := hr1.cell 1 rfl
  have e2 := hr1.cell 2 rfl
  have e3 := hr1.cell 3 rfl
  have HP1 : Hid (∀ wx v, Fam w0 wx (DD (l ++ [RowA w.heap.size 73 [.int .i64 0, .int .i64 d1, .int .i64 d2, .int .i64 d3]]) i j i2 j2 hb p q r m m) → BArg wx v (bitsL d2 d3 (cut9 d2)) → Calls Tryz.prog 46 #[.pointer (some ⟨p, 0, none⟩), .int .i64 d1, v] wx (fun e w' => e = .returned (.tuple #[.int .i64 (m.newObject d1 (bitsL d2 d3 (cut9 d2))).1, .int .i64 (m.newObject d1 (bitsL d2 d3 (cut9 d2))).2.1]) ∧ Fam w0 w' (DD (l ++ [RowA w.heap.size 73 [.int .i64 0, .int .i64 d1, .int .i64 d2, .int .i64 d3]]) i j i2 j2 hb p q r (m.newObject d1 (bitsL d2 d3 (cut9 d2))).2.2 m))) := fun wx v hx hb => mnewObject_rep wx h4a.tp hx hm d1 v _ hb (by rw [bitsL_len]; have := cut9_le d2; omega)
  have HG1 : Hid (∀ wx v, Fam w0 wx (DD (l ++ [RowA w.heap.size 73 [.int .i64 0, .int .i64 d1, .int .i64 d2, .int .i64 d3]]) i j i2 j2 hb p q r (m.newObject d1 (bitsL d2 d3 (cut9 d2))).2.2 m) → BArg wx v (bitsL d2 d3 (cut9 d2)) → Calls Tryz.prog 91 #[.pointer (some ⟨r, 0, none⟩), .int .i64 d1, v] wx (fun e w' => e = .returned (.tuple #[.int .i64 (m.newObject d1 (bitsL d2 d3 (cut9 d2))).1, .int .i64 (m.newObject d1 (bitsL d2 d3 (cut9 d2))).2.1]) ∧ Fam w0 w' (DD (l ++ [RowA w.heap.size 73 [.int .i64 0, .int .i64 d1, .int .i64 d2, .int .i64 d3]]) i j i2 j2 hb p q r (m.newObject d1 (bitsL d2 d3 (cut9 d2))).2.2 (m.newObject d1 (bitsL d2 d3 (cut9 d2))).2.2))) := fun wx v hx hb => by
    rw [h4a.comm] at hx ⊢
    exact gmNewObject_rep wx h4a.tr hx hm d1 v _ hb (by rw [bitsL_len]; have := cut9_le d2; omega)
  have HOK : Hid ((m.newObject d1 (bitsL d2 d3 (cut9 d2))).2.2.Ok) := hm.newObject d1 _
  obtain ⟨sg, hsg⟩ : ∃ z, z = w.heap.size := ⟨_, rfl⟩
  rw [← hsg] at HP1 HG1 HF1 H4A e0 e1 e2 e3
  clear hf hm h4 h4a hf1 hr1 wa wb wc
  generalize m.newObject d1 (bitsL d2 d3 (cut9 d2)) = rr at *
  obtain ⟨r1, r2, m'⟩ := rr
  go_enter Tryz.func43, Tryz.ntmps43
  go_wp2_with fail
  rw [← hsg]
  generalize w.alloc (.cells #[.int .i64 0, .int .i64 d1, .int .i64 d2, .int .i64 d3] 73) = w1 at *
  clear hsg
  have HFD := Lib.hid HF1.out.drew
  go_region_held3 (fun w' => w'.cell? ⟨sg, 0, none⟩ = some (.int .i64 0) ∧ w'.cell? ⟨sg, 1, none⟩ = some (.int .i64 d1) ∧ w'.cell? ⟨sg, 2, none⟩ = some (.int .i64 d2) ∧ w'.cell? ⟨sg, 3, none⟩ = some (.int .i64 d3))
    (first | (exact ⟨e0, e1, e2, e3⟩) | (exact ⟨(f4.row l.length (DD.at H4.out)).cell 0 rfl, (f4.row l.length (DD.at H4.out)).cell 1 rfl, (f4.row l.length (DD.at H4.out)).cell 2 rfl, (f4.row l.length (DD.at H4.out)).cell 3 rfl⟩) | (exact ⟨(f3.row l.length (DD.at H4.out)).cell 0 rfl, (f3.row l.length (DD.at H4.out)).cell 1 rfl, (f3.row l.length (DD.at H4.out)).cell 2 rfl, (f3.row l.length (DD.at H4.out)).cell 3 rfl⟩))
    (first
      | (go_at_call 47; refine (mrefs_any _ 0 d1 d2 d3).mono ?_; rintro e w3 ⟨v1, rfl, hb3, ho3⟩; have f3 := HFD.out.only0 ho3)
      | (go_at_call 46; refine (HP1.out w3 v1 f3 hb3.barg).mono ?_; rintro e w4 ⟨rfl, f4⟩))
  have HF4 := Lib.hid f4
  have HFD4 := Lib.hid f4.drew
  obtain ⟨e0, e1, e2, e3⟩ : (w4.drew.cell? ⟨sg, 0, none⟩ = some (.int .i64 0)) ∧ (w4.drew.cell? ⟨sg, 1, none⟩ = some (.int .i64 d1)) ∧ (w4.drew.cell? ⟨sg, 2, none⟩ = some (.int .i64 d2)) ∧ (w4.drew.cell? ⟨sg, 3, none⟩ = some (.int .i64 d3)) := ⟨(HFD4.out.row l.length (DD.at H4.out)).cell 0 rfl, (HFD4.out.row l.length (DD.at H4.out)).cell 1 rfl, (HFD4.out.row l.length (DD.at H4.out)).cell 2 rfl, (HFD4.out.row l.length (DD.at H4.out)).cell 3 rfl⟩
  clear f3 f4 hb3 ho3 HP1
  go_wp2_with fail
  go_region_held3 (fun w' => w'.cell? ⟨sg, 0, none⟩ = some (.int .i64 0) ∧ w'.cell? ⟨sg, 1, none⟩ = some (.int .i64 d1) ∧ w'.cell? ⟨sg, 2, none⟩ = some (.int .i64 d2) ∧ w'.cell? ⟨sg, 3, none⟩ = some (.int .i64 d3))
    (first | (exact ⟨e0, e1, e2, e3⟩) | (exact ⟨(f6.row l.length (DD.at H4.out)).cell 0 rfl, (f6.row l.length (DD.at H4.out)).cell 1 rfl, (f6.row l.length (DD.at H4.out)).cell 2 rfl, (f6.row l.length (DD.at H4.out)).cell 3 rfl⟩) | (exact ⟨(f5.row l.length (DD.at H4.out)).cell 0 rfl, (f5.row l.length (DD.at H4.out)).cell 1 rfl, (f5.row l.length (DD.at H4.out)).cell 2 rfl, (f5.row l.length (DD.at H4.out)).cell 3 rfl⟩))
    (first
      | (go_at_call 47; refine (mrefs_any _ 0 d1 d2 d3).mono ?_; rintro e w5 ⟨v2, rfl, hb5, ho5⟩; have f5 := HFD4.out.only0 ho5)
      | (go_at_call 91; refine (HG1.out w5 v2 f5 hb5.barg).mono ?_; rintro e w6 ⟨rfl, f6⟩))
  have HE := Lib.hid (DD.pop H4.out f6)
  clear f5 f6 hb5 ho5
  go_wp2_with fail
  exact hR.out _ _ ⟨rfl, _, HOK.out, HE.out⟩
theorem mdo_6 (h4 : Four l i j i2 j2) (hf : Fam w0 w (DD l i j i2 j2 hb p q r m m)) (hm : m.Ok) (d1 d2 d3 : Int) (wa : wfI d1) (wb : wfI d2) (wc : wfI d3) :
    Calls Tryz.prog 43 #[.pointer (some ⟨p, 0, none⟩), .pointer (some ⟨r, 0, none⟩), .agg #[.int .i64 6, .int .i64 d1, .int .i64 d2, .int .i64 d3]] w (MDid w0 l i j i2 j2 hb p q r) := by
  refine calls_abs fun R hR => ?_
  have H4 := Lib.hid h4
  have HM := Lib.hid hm
  have h4a := h4.app (RowA w.heap.size 73 [.int .i64 6, .int .i64 d1, .int .i64 d2, .int .i64 d3])
  have H4A := Lib.hid h4a
  have hf1 := hf.addRow 73 [.int .i64 6, .int .i64 d1, .int .i64 d2, .int .i64 d3]
  rw [← DD.app h4] at hf1
  have HF1 := Lib.hid hf1
  have hr1 := hf1.row l.length (DD.at h4)
  have e0 := hr1.cell 0 rfl
  have e1 := hr1.cell 1 rfl
  have e2 := hr1.cell 2 rfl
  have e3 := hr1.cell 3 rfl
  have HP1 : Hid (Calls Tryz.prog 95 #[.pointer (some ⟨hb, 0, none⟩), .int .i64 d1] (w.alloc (.cells #[.int .i64 6, .int .i64 d1, .int .i64 d2, .int .i64 d3] 73)) (fun e w' => e = .returned (.int .i64 (m.M.release d1).1) ∧ Fam w0 w' (DD (l ++ [RowA w.heap.size 73 [.int .i64 6, .int .i64 d1, .int .i64 d2, .int .i64 d3]]) i j i2 j2 hb p q r (m.put (m.M.release d1).2) m))) := by
    have c := hf1.pstep i (ML.heap h4a.tp) (M' := (m.M.release d1).2) (fun hk => hk.release d1) (fun L X hr hk => release_rep _ hr hk d1 wa)
    unfold DD at c
    rw [ML.put h4a.tp] at c
    exact c
  have HG1 : Hid (∀ wx, Fam w0 wx (DD (l ++ [RowA w.heap.size 73 [.int .i64 6, .int .i64 d1, .int .i64 d2, .int .i64 d3]]) i j i2 j2 hb p q r (m.put (m.M.release d1).2) m) → wx.cell? ⟨r, 0, none⟩ = some (.pointer (some ⟨q, 0, none⟩)) ∧ Calls Tryz.prog 96 #[.pointer (some ⟨q, 0, none⟩), .int .i64 d1] wx (fun e w' => e = .returned (.int .i64 (m.M.release d1).1) ∧ Fam w0 w' (DD (l ++ [RowA w.heap.size 73 [.int .i64 6, .int .i64 d1, .int .i64 d2, .int .i64 d3]]) i j i2 j2 hb p q r (m.put (m.M.release d1).2) (m.put (m.M.release d1).2)))) := fun wx hx => by
    rw [h4a.comm] at hx ⊢
    obtain ⟨tg, tc, v, T, hg⟩ := RL.mk h4a.tr hx
    have c := hx.gstep i2 (RL.heap h4a.tr) (M' := (m.M.release d1).2) (fun hk => hk.release d1) (fun L X hr hk => grelease_rep wx hr hk d1)
    rw [RL.put h4a.tr] at c
    exact ⟨hg.cells.1, c⟩
  have HZ4 : Hid (∀ wx, Fam w0 wx (DD (l ++ [RowA w.heap.size 73 [.int .i64 6, .int .i64 d1, .int .i64 d2, .int .i64 d3]]) i j i2 j2 hb p q r (m.put (m.M.release d1).2) (m.put (m.M.release d1).2)) → wx.cell? ⟨r, 0, none⟩ = some (.pointer (some ⟨q, 0, none⟩))) := fun wx hx => by
    rw [h4a.comm] at hx
    obtain ⟨tg, tc, v, T, hg⟩ := RL.mk h4a.tr hx
    exact hg.cells.1
  have hin : (m.M.release d1).1 = 0 → 1 ≤ d1 ∧ d1 ≤ 192 := fun h0 => by
    have h7 : (m.M.ob d1).isSome = true := by
      unfold Hp.release at h0
      cases e : m.M.ob d1 with
      | none => rw [e] at h0; exact absurd (show (3 : Int) = 0 from h0) (by decide)
      | some o => rfl
    exact hm.hf.ok.inR h7
  have HIN := Lib.hid hin
  have hlen : (m.put (m.M.release d1).2).list.length ≤ 1000000 := by have := hm.len; show m.list.length ≤ 1000000; omega
  have HP3 : Hid (∀ wx, Fam w0 wx (DD (l ++ [RowA w.heap.size 73 [.int .i64 6, .int .i64 d1, .int .i64 d2, .int .i64 d3]]) i j i2 j2 hb p q r (m.put (m.M.release d1).2) (m.put (m.M.release d1).2)) → Calls Tryz.prog 97 #[.pointer (some ⟨p, 0, none⟩), .int .i64 d1] wx (fun e w' => e = .returned (.tuple #[]) ∧ Fam w0 w' (DD (l ++ [RowA w.heap.size 73 [.int .i64 6, .int .i64 d1, .int .i64 d2, .int .i64 d3]]) i j i2 j2 hb p q r ((m.put (m.M.release d1).2).forget d1) (m.put (m.M.release d1).2)))) := fun wx hx => mforget_rep wx h4a.tp hx hlen d1 wa
  have HG3 : Hid (∀ wx, 1 ≤ d1 ∧ d1 ≤ 192 → Fam w0 wx (DD (l ++ [RowA w.heap.size 73 [.int .i64 6, .int .i64 d1, .int .i64 d2, .int .i64 d3]]) i j i2 j2 hb p q r ((m.put (m.M.release d1).2).forget d1) (m.put (m.M.release d1).2)) → Calls Tryz.prog 98 #[.pointer (some ⟨r, 0, none⟩), .int .i64 d1] wx (fun e w' => e = .returned (.tuple #[]) ∧ Fam w0 w' (DD (l ++ [RowA w.heap.size 73 [.int .i64 6, .int .i64 d1, .int .i64 d2, .int .i64 d3]]) i j i2 j2 hb p q r ((m.put (m.M.release d1).2).forget d1) ((m.put (m.M.release d1).2).forget d1)))) := fun wx h12 hx => by
    rw [h4a.comm] at hx ⊢
    exact gforget_rep wx h4a.tr hx hlen d1 h12
  have hdr := hm.drop d1
  unfold Mk.drop at hdr
  simp only at hdr
  have HDR := Lib.hid hdr
  have c0 := mheap_rep _ h4a.tp hf1
  generalize m.put (m.M.release d1).2 = m2 at *
  generalize (m.M.release d1).1 = r1 at *
  clear hf hm h4 h4a hf1 hr1 wa wb wc hin hlen hdr
  have c1 := HP1.out
  go_enter Tryz.func43, Tryz.ntmps43
  go_wp2_with fail
  refine c0.mono ?_
  rintro e _ ⟨rfl, rfl⟩
  go_wp2_with fail
  refine c1.mono ?_
  rintro e w3 ⟨rfl, f3⟩
  obtain ⟨z0, c2⟩ := HG1.out w3.drew f3.drew
  have hr3 := f3.drew.row l.length (DD.at H4.out)
  have e1 := hr3.cell 1 rfl
  clear c1 f3 hr3 HP1 HG1 c0
  go_wp2_with fail
  go_region_held3 (fun w' => w'.cell? ⟨r, 0, none⟩ = some (.pointer (some ⟨q, 0, none⟩)) ∧ w'.cell? ⟨w.heap.size, 1, none⟩ = some (.int .i64 d1))
    (first | (exact ⟨z0, e1⟩) | (exact ⟨HZ4.out w4 f4, (f4.row l.length (DD.at H4.out)).cell 1 rfl⟩))
    (first
      | (go_at_call 96; refine c2.mono ?_; rintro e w4 ⟨rfl, f4⟩))
  have HF4 := Lib.hid f4
  have hr4 := f4.row l.length (DD.at H4.out)
  have e1 := hr4.cell 1 rfl
  clear c2 f4 hr4 z0
  by_cases hr0 : r1 = 0
  · subst hr0
    have h12 := HIN.out rfl
    have hd0 := HDR.out
    rw [if_pos rfl] at hd0
    have HD0 := Lib.hid hd0
    have H12 := Lib.hid h12
    have c3 := HP3.out w4 HF4.out
    clear hd0 h12 HDR HIN
    go_wp2_with fail
    refine c3.mono ?_
    rintro e w5 ⟨rfl, f5⟩
    have c4 := HG3.out w5 H12.out f5
    have hr5 := f5.row l.length (DD.at H4.out)
    have e1 := hr5.cell 1 rfl
    clear c3 f5 hr5 HP3 HG3
    go_wp2_with fail
    refine c4.mono ?_
    rintro e w6 ⟨rfl, f6⟩
    have HE := Lib.hid (DD.pop H4.out f6)
    clear c4 f6
    go_wp2_with fail
    exact hR.out _ _ ⟨rfl, _, HD0.out, HE.out⟩
  · have hrb : (r1 == 0) = false := by simpa using hr0
    have hd0 := HDR.out
    rw [if_neg hr0] at hd0
    have HD0 := Lib.hid hd0
    have HE := Lib.hid (DD.pop H4.out HF4.out)
    clear hd0 hr0
    go_wp2_with fail
    exact hR.out _ _ ⟨rfl, _, HD0.out, HE.out⟩
theorem mdo_any (h4 : Four l i j i2 j2) (hf : Fam w0 w (DD l i j i2 j2 hb p q r m m)) (hm : m.Ok) (d d1 d2 d3 : Int) (wa : wfI d1) (wb : wfI d2) (wc : wfI d3) :
    Calls Tryz.prog 43 #[.pointer (some ⟨p, 0, none⟩), .pointer (some ⟨r, 0, none⟩), .agg #[.int .i64 d, .int .i64 d1, .int .i64 d2, .int .i64 d3]] w (MDid w0 l i j i2 j2 hb p q r) := by
  by_cases k0 : d = 0
  · subst k0; exact mdo_0 h4 hf hm d1 d2 d3 wa wb wc
  · by_cases k1 : d = 1
    · subst k1; exact mdo_1 h4 hf hm d1 d2 d3 wa wb wc
    · by_cases k2 : d = 2
      · subst k2; exact mdo_2 h4 hf hm d1 d2 d3 wa wb wc
      · by_cases k3 : d = 3
        · subst k3; exact mdo_3 h4 hf hm d1 d2 d3 wa wb wc
        · by_cases k4 : d = 4
          · subst k4; exact mdo_4 h4 hf hm d1 d2 d3 wa wb wc
          · by_cases k5 : d = 5
            · subst k5; exact mdo_5 h4 hf hm d1 d2 d3 wa wb wc
            · by_cases k6 : d = 6
              · subst k6; exact mdo_6 h4 hf hm d1 d2 d3 wa wb wc
              · exact mdo_7 h4 hf hm d (by simp [k0, k1, k2, k3, k4, k5, k6]) d1 d2 d3 wa wb wc
end
end Go.Proofs.YtkjocehdbpekjaaGreat
