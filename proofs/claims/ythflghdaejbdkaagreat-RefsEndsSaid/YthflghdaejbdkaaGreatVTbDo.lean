/- Lemmas of this claim. -/
import Derived.Test.YthflghdaejbdkaaGreatVTbL
namespace Go.Proofs.YthflghdaejbdkaaGreat
open Go.RowKit Go.Maps
set_option maxHeartbeats 12800000
set_option maxRecDepth 100000
set_option linter.unusedVariables false
def TDid (w0 : World) (bo hb q tb ub : Nat) (tl : List Asn) (e : Ending) (w' : World) : Prop :=
  e = .returned (.bool true) ∧ ∃ p r m t, Mk.Ok m ∧ Tb.Good t m ∧ Fam w0 w' (G7 bo hb q p r tb ub m m t t tl)
section
variable {bo hb q p r tb ub : Nat} {m m1 m2 m3 : Mk} {t t1 t2 t3 : Tb} {tl : List Asn} {w0 w : World}
def D9 (tl : List Asn) (wo ws : Nat) (d a b c : Int) (v1 v2 : Value) : List Asn := tl ++ [RowA wo 111 [.int .i64 d, .int .i64 a, .int .i64 b, .int .i64 c]] ++ [RowA ws 25 [v1, v2]]
theorem G7.add2 (hf : Fam w0 w (G7 bo hb q p r tb ub m1 m2 t1 t2 tl)) (d a b c : Int) (v1 v2 : Value) : Fam w0 ((w.alloc (.cells #[.int .i64 d, .int .i64 a, .int .i64 b, .int .i64 c] 111)).alloc (.cells #[v1, v2] 25)) (G7 bo hb q p r tb ub m1 m2 t1 t2 (D9 tl w.heap.size (w.heap.size + 1) d a b c v1 v2)) := by
  have h := (hf.addRow 111 [.int .i64 d, .int .i64 a, .int .i64 b, .int .i64 c]).addRow 25 [v1, v2]
  rw [World.size_alloc] at h
  exact h
theorem D9.op {wo ws : Nat} {d a b c : Int} {v1 v2 : Value} (f : Fam w0 w (G7 bo hb q p r tb ub m1 m2 t1 t2 (D9 tl wo ws d a b c v1 v2))) : Row w wo 111 [.int .i64 d, .int .i64 a, .int .i64 b, .int .i64 c] :=
  f.row (7 + tl.length) (by
    show (_ :: _ :: _ :: _ :: _ :: _ :: _ :: (D9 tl wo ws d a b c v1 v2))[7 + tl.length]? = _
    rw [Nat.add_comm 7]
    simp only [List.getElem?_cons_succ]
    unfold D9
    rw [List.getElem?_append_left (by simp), List.getElem?_append_right (Nat.le_refl _), Nat.sub_self]
    rfl)
theorem D9.st {wo ws : Nat} {d a b c : Int} {v1 v2 : Value} (f : Fam w0 w (G7 bo hb q p r tb ub m1 m2 t1 t2 (D9 tl wo ws d a b c v1 v2))) : Row w ws 25 [v1, v2] :=
  f.row (7 + (tl.length + 1)) (by
    show (_ :: _ :: _ :: _ :: _ :: _ :: _ :: (D9 tl wo ws d a b c v1 v2))[7 + (tl.length + 1)]? = _
    rw [Nat.add_comm 7]
    simp only [List.getElem?_cons_succ]
    unfold D9
    rw [List.getElem?_append_right (by simp)]
    simp)
theorem D9.pop {wo ws : Nat} {d a b c : Int} {v1 v2 : Value} (f : Fam w0 w (G7 bo hb q p r tb ub m1 m2 t1 t2 (D9 tl wo ws d a b c v1 v2))) : Fam w0 w (G7 bo hb q p r tb ub m1 m2 t1 t2 tl) := by
  have h : Fam w0 w ((G7 bo hb q p r tb ub m1 m2 t1 t2 tl ++ [RowA wo 111 [.int .i64 d, .int .i64 a, .int .i64 b, .int .i64 c]]) ++ [RowA ws 25 [v1, v2]]) := f
  exact h.pop.pop
theorem taddT (w : World) (hf : Fam w0 w (G7 bo hb q p r tb ub m1 m2 t1 t2 tl)) (kd x g : Int) (hx : wfI x) : Calls Tryz.prog 85 #[.pointer (some ⟨tb, 0, none⟩), .pointer (some ⟨p, 0, none⟩), .int .i64 kd, .int .i64 x, .int .i64 g] w (fun e w' => e = .returned (.tuple #[.int .i64 (t1.add m1 kd x g).1, .int .i64 (t1.add m1 kd x g).2.1]) ∧ Fam w0 w' (G7 bo hb q p r tb ub m1 m2 (t1.add m1 kd x g).2.2 t2 tl)) := by
  refine (tadd_rep w (G7.TP bo hb q p r tb ub m1 m2 t1 t2 tl) (kk := t1.ents.length) hf kd x g hx).mono fun e w1 ⟨h1, h2⟩ => ⟨h1, ?_⟩
  have h3 : (t1.add m1 kd x g).2.2 = t1 ∨ (t1.add m1 kd x g).2.2.ph ≠ 2 := by
    unfold Tb.add
    split
    · exact .inl rfl
    split
    · exact .inl rfl
    split
    · exact .inl rfl
    split
    · exact .inl rfl
    · rename_i h0 _ _
      refine .inr ?_
      show t1.ph ≠ 2
      rw [Classical.not_not.1 h0]; decide
  rcases h3 with h3 | h3
  · rw [h3] at h2 ⊢; exact h2
  · exact PL.anyK (l := G7 bo hb q p r tb ub m1 m2 t1 t2 tl) G7.tp h2 h3 _ _
theorem ttakeT (w : World) (hf : Fam w0 w (G7 bo hb q p r tb ub m1 m2 t1 t2 tl)) (hl : t1.q.length ≤ 1000000) : Calls Tryz.prog 124 #[.pointer (some ⟨tb, 0, none⟩)] w (fun e w' => e = .returned (.tuple #[.int .i64 t1.take.1, .int .i64 t1.take.2.1]) ∧ Fam w0 w' (G7 bo hb q p r tb ub m1 m2 t1.take.2.2 t2 tl)) := by
  refine (ttake_rep w (G7.TP bo hb q p r tb ub m1 m2 t1 t2 tl) (kk := t1.ents.length) hf hl).mono fun e w1 ⟨h1, h2⟩ => ⟨h1, ?_⟩
  have h3 : t1.take.2.2.ents.length = t1.ents.length := by unfold Tb.take; cases t1.q <;> rfl
  show Fam w0 w1 (PL (G7 bo hb q p r tb ub m1 m2 t1 t2 tl) 0 2 4 hb p tb m1 t1.take.2.2 t1.take.2.2.ents.length)
  rw [h3]
  exact h2
theorem tdo_1 (hf : Fam w0 w (G7 bo hb q p r tb ub m m t t tl)) (hm : m.Ok) (hg : t.Good m) (a b c : Int) (wa : wfI a) (wb : wfI b) (wc : wfI c) (la : Option Addr) (ln lc : Nat) (ra : Option Addr) (rn rc : Nat) :
    Calls Tryz.prog 67 #[.pointer (some ⟨bo, 0, none⟩), .agg #[.int .i64 1, .int .i64 a, .int .i64 b, .int .i64 c], .agg #[.slice la ln lc, .slice ra rn rc]] w (TDid w0 bo hb q tb ub tl) := by
  refine calls_abs fun R hR => ?_
  have HM := Lib.hid hm
  have HG := Lib.hid hg
  have F0 := Lib.hid (G7.add2 hf 1 a b c (.slice la ln lc) (.slice ra rn rc))
  have hb0 := G7.row F0.out
  have ho0 := D9.op F0.out
  have HP1 : Hid (∀ wx, Fam w0 wx (G7 bo hb q p r tb ub (m) (m) (t) (t) (D9 tl w.heap.size (w.heap.size + 1) 1 a b c (.slice la ln lc) (.slice ra rn rc))) → Calls Tryz.prog 85 #[.pointer (some ⟨tb, 0, none⟩), .pointer (some ⟨p, 0, none⟩), .int .i64 a, .int .i64 b, .int .i64 c] wx (fun e w' => e = .returned (.tuple #[.int .i64 (t.add m a b c).1, .int .i64 (t.add m a b c).2.1]) ∧ Fam w0 w' (G7 bo hb q p r tb ub (m) (m) ((t.add m a b c).2.2) (t) (D9 tl w.heap.size (w.heap.size + 1) 1 a b c (.slice la ln lc) (.slice ra rn rc))))) := fun wx hx => taddT wx hx a b c wb
  have HG1 : Hid (∀ wx, Fam w0 wx (G7 bo hb q p r tb ub (m) (m) ((t.add m a b c).2.2) (t) (D9 tl w.heap.size (w.heap.size + 1) 1 a b c (.slice la ln lc) (.slice ra rn rc))) → Calls Tryz.prog 146 #[.pointer (some ⟨ub, 0, none⟩), .pointer (some ⟨r, 0, none⟩), .int .i64 a, .int .i64 b, .int .i64 c] wx (fun e w' => e = .returned (.tuple #[.int .i64 (t.add m a b c).1, .int .i64 (t.add m a b c).2.1]) ∧ Fam w0 w' (G7 bo hb q p r tb ub (m) (m) ((t.add m a b c).2.2) ((t.add m a b c).2.2) (D9 tl w.heap.size (w.heap.size + 1) 1 a b c (.slice la ln lc) (.slice ra rn rc))))) := fun wx hx => rtadd_rep wx (G7.TR bo hb q p r tb ub (m) m ((t.add m a b c).2.2) t (D9 tl w.heap.size (w.heap.size + 1) 1 a b c (.slice la ln lc) (.slice ra rn rc))) hx a b c
  have HOK : Hid (Mk.Ok (m)) := hm
  have HGD : Hid (Tb.Good ((t.add m a b c).2.2) (m)) := hg.add a b c
  have o0 := ho0.cell 0 rfl
  have b2 := (hb0).cell 2 rfl
  have b4 := (hb0).cell 4 rfl
  have o1 := (ho0).cell 1 rfl
  have o2 := (ho0).cell 2 rfl
  have o3 := (ho0).cell 3 rfl
  clear hf hm hg hb0 ho0 wa wb wc
  generalize t.add m a b c = rr at *
  obtain ⟨r1, r2, r3⟩ := rr
  go_enter Tryz.func67, Tryz.ntmps67
  go_wp2_with fail
  go_region_held3 (fun w' => w'.cell? ⟨bo, 2, none⟩ = some (.pointer (some ⟨p, 0, none⟩)) ∧ w'.cell? ⟨bo, 4, none⟩ = some (.pointer (some ⟨tb, 0, none⟩)) ∧ w'.cell? ⟨w.heap.size, 1, none⟩ = some (.int .i64 a) ∧ w'.cell? ⟨w.heap.size, 2, none⟩ = some (.int .i64 b) ∧ w'.cell? ⟨w.heap.size, 3, none⟩ = some (.int .i64 c))
    (first | (exact ⟨(G7.row F0.out).cell 2 rfl, (G7.row F0.out).cell 4 rfl, (D9.op F0.out).cell 1 rfl, (D9.op F0.out).cell 2 rfl, (D9.op F0.out).cell 3 rfl⟩) | (exact ⟨(G7.row f3).cell 2 rfl, (G7.row f3).cell 4 rfl, (D9.op f3).cell 1 rfl, (D9.op f3).cell 2 rfl, (D9.op f3).cell 3 rfl⟩))
    (first | (go_at_call 85; refine (HP1.out _ F0.out.drew).mono ?_; rintro e w3 ⟨rfl, f3⟩))
  have F3 := Lib.hid f3
  have b3 := (G7.row f3).cell 3 rfl
  have b5 := (G7.row f3).cell 5 rfl
  have o1 := (D9.op f3).cell 1 rfl
  have o2 := (D9.op f3).cell 2 rfl
  have o3 := (D9.op f3).cell 3 rfl
  clear f3 HP1
  go_wp2_with fail
  go_region_held3 (fun w' => w'.cell? ⟨bo, 3, none⟩ = some (.pointer (some ⟨r, 0, none⟩)) ∧ w'.cell? ⟨bo, 5, none⟩ = some (.pointer (some ⟨ub, 0, none⟩)) ∧ w'.cell? ⟨w.heap.size, 1, none⟩ = some (.int .i64 a) ∧ w'.cell? ⟨w.heap.size, 2, none⟩ = some (.int .i64 b) ∧ w'.cell? ⟨w.heap.size, 3, none⟩ = some (.int .i64 c))
    (first | (exact ⟨(G7.row F3.out).cell 3 rfl, (G7.row F3.out).cell 5 rfl, (D9.op F3.out).cell 1 rfl, (D9.op F3.out).cell 2 rfl, (D9.op F3.out).cell 3 rfl⟩) | (exact ⟨(G7.row f4).cell 3 rfl, (G7.row f4).cell 5 rfl, (D9.op f4).cell 1 rfl, (D9.op f4).cell 2 rfl, (D9.op f4).cell 3 rfl⟩))
    (first | (go_at_call 146; refine (HG1.out _ F3.out.drew).mono ?_; rintro e w4 ⟨rfl, f4⟩))
  have HE := Lib.hid (D9.pop f4)
  clear f4 HG1
  go_wp2_with fail
  exact hR.out _ _ ⟨rfl, p, r, _, _, HOK.out, HGD.out, HE.out⟩
theorem tdo_2 (hf : Fam w0 w (G7 bo hb q p r tb ub m m t t tl)) (hm : m.Ok) (hg : t.Good m) (a b c : Int) (wa : wfI a) (wb : wfI b) (wc : wfI c) (la : Option Addr) (ln lc : Nat) (ra : Option Addr) (rn rc : Nat) :
    Calls Tryz.prog 67 #[.pointer (some ⟨bo, 0, none⟩), .agg #[.int .i64 2, .int .i64 a, .int .i64 b, .int .i64 c], .agg #[.slice la ln lc, .slice ra rn rc]] w (TDid w0 bo hb q tb ub tl) := by
  refine calls_abs fun R hR => ?_
  have HM := Lib.hid hm
  have HG := Lib.hid hg
  have F0 := Lib.hid (G7.add2 hf 2 a b c (.slice la ln lc) (.slice ra rn rc))
  have hb0 := G7.row F0.out
  have ho0 := D9.op F0.out
  have HP1 : Hid (∀ wx, Fam w0 wx (G7 bo hb q p r tb ub (m) (m) (t) (t) (D9 tl w.heap.size (w.heap.size + 1) 2 a b c (.slice la ln lc) (.slice ra rn rc))) → Calls Tryz.prog 70 #[.pointer (some ⟨p, 0, none⟩)] wx (fun e w' => e = .returned (.tuple #[.int .i64 (m.step).1, .int .i64 (m.step).2.1]) ∧ Fam w0 w' (G7 bo hb q p r tb ub (m.step.2.2) (m) (t) (t) (D9 tl w.heap.size (w.heap.size + 1) 2 a b c (.slice la ln lc) (.slice ra rn rc))))) := fun wx hx => mstep_rep wx (G7.TP bo hb q p r tb ub m m t t (D9 tl w.heap.size (w.heap.size + 1) 2 a b c (.slice la ln lc) (.slice ra rn rc))).two hx hm
  have HG1 : Hid (∀ wx, Fam w0 wx (G7 bo hb q p r tb ub (m.step.2.2) (m) (t) (t) (D9 tl w.heap.size (w.heap.size + 1) 2 a b c (.slice la ln lc) (.slice ra rn rc))) → Calls Tryz.prog 72 #[.pointer (some ⟨r, 0, none⟩)] wx (fun e w' => e = .returned (.tuple #[.int .i64 (m.step).1, .int .i64 (m.step).2.1]) ∧ Fam w0 w' (G7 bo hb q p r tb ub (m.step.2.2) (m.step.2.2) (t) (t) (D9 tl w.heap.size (w.heap.size + 1) 2 a b c (.slice la ln lc) (.slice ra rn rc))))) := fun wx hx => gstep_rep wx (G7.TR bo hb q p r tb ub (m.step.2.2) m (t) t (D9 tl w.heap.size (w.heap.size + 1) 2 a b c (.slice la ln lc) (.slice ra rn rc))).two hx hm
  have HOK : Hid (Mk.Ok (m.step.2.2)) := hm.step
  have HGD : Hid (Tb.Good (t) (m.step.2.2)) := hg.marker (fun k hk => by rw [Mk.step_M]; exact hk)
  have o0 := ho0.cell 0 rfl
  have b2 := (hb0).cell 2 rfl
  clear hf hm hg hb0 ho0 wa wb wc
  generalize m.step = rr at *
  obtain ⟨r1, r2, r3⟩ := rr
  go_enter Tryz.func67, Tryz.ntmps67
  go_wp2_with fail
  refine (HP1.out _ F0.out).mono ?_
  rintro e w3 ⟨rfl, f3⟩
  have F3 := Lib.hid f3
  have b3 := (G7.row f3).cell 3 rfl
  clear f3 HP1
  go_wp2_with fail
  refine (HG1.out _ F3.out).mono ?_
  rintro e w4 ⟨rfl, f4⟩
  have HE := Lib.hid (D9.pop f4)
  clear f4 HG1
  go_wp2_with fail
  exact hR.out _ _ ⟨rfl, p, r, _, _, HOK.out, HGD.out, HE.out⟩
theorem tdo_3 (hf : Fam w0 w (G7 bo hb q p r tb ub m m t t tl)) (hm : m.Ok) (hg : t.Good m) (a b c : Int) (wa : wfI a) (wb : wfI b) (wc : wfI c) (la : Option Addr) (ln lc : Nat) (ra : Option Addr) (rn rc : Nat) :
    Calls Tryz.prog 67 #[.pointer (some ⟨bo, 0, none⟩), .agg #[.int .i64 3, .int .i64 a, .int .i64 b, .int .i64 c], .agg #[.slice la ln lc, .slice ra rn rc]] w (TDid w0 bo hb q tb ub tl) := by
  refine calls_abs fun R hR => ?_
  have HM := Lib.hid hm
  have HG := Lib.hid hg
  have F0 := Lib.hid (G7.add2 hf 3 a b c (.slice la ln lc) (.slice ra rn rc))
  have hb0 := G7.row F0.out
  have ho0 := D9.op F0.out
  have HP1 : Hid (∀ wx, Fam w0 wx (G7 bo hb q p r tb ub (m) (m) (t) (t) (D9 tl w.heap.size (w.heap.size + 1) 3 a b c (.slice la ln lc) (.slice ra rn rc))) → Calls Tryz.prog 17 #[.pointer (some ⟨p, 0, none⟩)] wx (fun e w' => e = .returned (.int .i64 (m.runs : Int)) ∧ Fam w0 w' (G7 bo hb q p r tb ub (m.run) (m) (t) (t) (D9 tl w.heap.size (w.heap.size + 1) 3 a b c (.slice la ln lc) (.slice ra rn rc))))) := fun wx hx => mrun_rep wx (G7.TP bo hb q p r tb ub m m t t (D9 tl w.heap.size (w.heap.size + 1) 3 a b c (.slice la ln lc) (.slice ra rn rc))).two hx hm
  have HG1 : Hid (∀ wx, Fam w0 wx (G7 bo hb q p r tb ub (m.run) (m) (t) (t) (D9 tl w.heap.size (w.heap.size + 1) 3 a b c (.slice la ln lc) (.slice ra rn rc))) → Calls Tryz.prog 18 #[.pointer (some ⟨r, 0, none⟩)] wx (fun e w' => e = .returned (.int .i64 (m.runs : Int)) ∧ Fam w0 w' (G7 bo hb q p r tb ub (m.run) (m.run) (t) (t) (D9 tl w.heap.size (w.heap.size + 1) 3 a b c (.slice la ln lc) (.slice ra rn rc))))) := fun wx hx => grun_rep wx (G7.TR bo hb q p r tb ub (m.run) m (t) t (D9 tl w.heap.size (w.heap.size + 1) 3 a b c (.slice la ln lc) (.slice ra rn rc))).two hx hm
  have HOK : Hid (Mk.Ok (m.run)) := (hm.steps m.runs).1
  have HGD : Hid (Tb.Good (t) (m.run)) := hg.marker (fun k hk => by have := (hm.steps m.runs).2; show ((m.steps m.runs).M.ob k).isSome = true; rw [this]; exact hk)
  have o0 := ho0.cell 0 rfl
  have b2 := (hb0).cell 2 rfl
  have b3 := (hb0).cell 3 rfl
  clear hf hm hg hb0 ho0 wa wb wc
  generalize m.runs = rn at *
  generalize m.run = m' at *
  go_enter Tryz.func67, Tryz.ntmps67
  go_wp2_with fail
  go_region_held3 (fun w' => w'.cell? ⟨bo, 2, none⟩ = some (.pointer (some ⟨p, 0, none⟩)) ∧ w'.cell? ⟨bo, 3, none⟩ = some (.pointer (some ⟨r, 0, none⟩)))
    (first | (exact ⟨(G7.row F0.out).cell 2 rfl, (G7.row F0.out).cell 3 rfl⟩) | (exact ⟨(G7.row f4).cell 2 rfl, (G7.row f4).cell 3 rfl⟩) | (exact ⟨(G7.row f3).cell 2 rfl, (G7.row f3).cell 3 rfl⟩))
    (first | (go_at_call 17; refine (HP1.out _ F0.out.drew).mono ?_; rintro e w3 ⟨rfl, f3⟩) | (go_at_call 18; refine (HG1.out _ f3).mono ?_; rintro e w4 ⟨rfl, f4⟩))
  have HE := Lib.hid (D9.pop f4)
  clear f4 HG1
  go_wp2_with fail
  exact hR.out _ _ ⟨rfl, p, r, _, _, HOK.out, HGD.out, HE.out⟩
theorem tdo_4 (hf : Fam w0 w (G7 bo hb q p r tb ub m m t t tl)) (hm : m.Ok) (hg : t.Good m) (a b c : Int) (wa : wfI a) (wb : wfI b) (wc : wfI c) (la : Option Addr) (ln lc : Nat) (ra : Option Addr) (rn rc : Nat) :
    Calls Tryz.prog 67 #[.pointer (some ⟨bo, 0, none⟩), .agg #[.int .i64 4, .int .i64 a, .int .i64 b, .int .i64 c], .agg #[.slice la ln lc, .slice ra rn rc]] w (TDid w0 bo hb q tb ub tl) := by
  refine calls_abs fun R hR => ?_
  have HM := Lib.hid hm
  have HG := Lib.hid hg
  have F0 := Lib.hid (G7.add2 hf 4 a b c (.slice la ln lc) (.slice ra rn rc))
  have hb0 := G7.row F0.out
  have ho0 := D9.op F0.out
  have HP1 : Hid (∀ wx, Fam w0 wx (G7 bo hb q p r tb ub (m) (m) (t) (t) (D9 tl w.heap.size (w.heap.size + 1) 4 a b c (.slice la ln lc) (.slice ra rn rc))) → Calls Tryz.prog 20 #[.pointer (some ⟨tb, 0, none⟩), .pointer (some ⟨p, 0, none⟩)] wx (fun e w' => e = .returned (.int .i64 (t.begin m).1) ∧ Fam w0 w' (G7 bo hb q p r tb ub (m) (m) ((t.begin m).2) (t) (D9 tl w.heap.size (w.heap.size + 1) 4 a b c (.slice la ln lc) (.slice ra rn rc))))) := fun wx hx => tbegin_rep wx (G7.TP bo hb q p r tb ub m m t t (D9 tl w.heap.size (w.heap.size + 1) 4 a b c (.slice la ln lc) (.slice ra rn rc))) hx hg
  have HG1 : Hid (∀ wx, Fam w0 wx (G7 bo hb q p r tb ub (m) (m) ((t.begin m).2) (t) (D9 tl w.heap.size (w.heap.size + 1) 4 a b c (.slice la ln lc) (.slice ra rn rc))) → Calls Tryz.prog 21 #[.pointer (some ⟨ub, 0, none⟩), .pointer (some ⟨r, 0, none⟩)] wx (fun e w' => e = .returned (.int .i64 (t.begin m).1) ∧ Fam w0 w' (G7 bo hb q p r tb ub (m) (m) ((t.begin m).2) ((t.begin m).2) (D9 tl w.heap.size (w.heap.size + 1) 4 a b c (.slice la ln lc) (.slice ra rn rc))))) := fun wx hx => rtbegin_rep wx (G7.TR bo hb q p r tb ub (m) m ((t.begin m).2) t (D9 tl w.heap.size (w.heap.size + 1) 4 a b c (.slice la ln lc) (.slice ra rn rc))) hx hg
  have HOK : Hid (Mk.Ok (m)) := hm
  have HGD : Hid (Tb.Good ((t.begin m).2) (m)) := hg.begin hm.hf.ok
  have o0 := ho0.cell 0 rfl
  have b2 := (hb0).cell 2 rfl
  have b3 := (hb0).cell 3 rfl
  have b4 := (hb0).cell 4 rfl
  have b5 := (hb0).cell 5 rfl
  clear hf hm hg hb0 ho0 wa wb wc
  generalize t.begin m = rr at *
  obtain ⟨r1, r2⟩ := rr
  go_enter Tryz.func67, Tryz.ntmps67
  go_wp2_with fail
  go_region_held3 (fun w' => w'.cell? ⟨bo, 2, none⟩ = some (.pointer (some ⟨p, 0, none⟩)) ∧ w'.cell? ⟨bo, 3, none⟩ = some (.pointer (some ⟨r, 0, none⟩)) ∧ w'.cell? ⟨bo, 4, none⟩ = some (.pointer (some ⟨tb, 0, none⟩)) ∧ w'.cell? ⟨bo, 5, none⟩ = some (.pointer (some ⟨ub, 0, none⟩)))
    (first | (exact ⟨(G7.row F0.out).cell 2 rfl, (G7.row F0.out).cell 3 rfl, (G7.row F0.out).cell 4 rfl, (G7.row F0.out).cell 5 rfl⟩) | (exact ⟨(G7.row f4).cell 2 rfl, (G7.row f4).cell 3 rfl, (G7.row f4).cell 4 rfl, (G7.row f4).cell 5 rfl⟩) | (exact ⟨(G7.row f3).cell 2 rfl, (G7.row f3).cell 3 rfl, (G7.row f3).cell 4 rfl, (G7.row f3).cell 5 rfl⟩))
    (first | (go_at_call 20; refine (HP1.out _ F0.out.drew).mono ?_; rintro e w3 ⟨rfl, f3⟩) | (go_at_call 21; refine (HG1.out _ f3).mono ?_; rintro e w4 ⟨rfl, f4⟩))
  have HE := Lib.hid (D9.pop f4)
  clear f4 HG1
  go_wp2_with fail
  exact hR.out _ _ ⟨rfl, p, r, _, _, HOK.out, HGD.out, HE.out⟩
theorem tdo_5 (hf : Fam w0 w (G7 bo hb q p r tb ub m m t t tl)) (hm : m.Ok) (hg : t.Good m) (a b c : Int) (wa : wfI a) (wb : wfI b) (wc : wfI c) (la : Option Addr) (ln lc : Nat) (ra : Option Addr) (rn rc : Nat) :
    Calls Tryz.prog 67 #[.pointer (some ⟨bo, 0, none⟩), .agg #[.int .i64 5, .int .i64 a, .int .i64 b, .int .i64 c], .agg #[.slice la ln lc, .slice ra rn rc]] w (TDid w0 bo hb q tb ub tl) := by
  refine calls_abs fun R hR => ?_
  have HM := Lib.hid hm
  have HG := Lib.hid hg
  have F0 := Lib.hid (G7.add2 hf 5 a b c (.slice la ln lc) (.slice ra rn rc))
  have hb0 := G7.row F0.out
  have ho0 := D9.op F0.out
  have HP1 : Hid (∀ wx, Fam w0 wx (G7 bo hb q p r tb ub (m) (m) (t) (t) (D9 tl w.heap.size (w.heap.size + 1) 5 a b c (.slice la ln lc) (.slice ra rn rc))) → Calls Tryz.prog 68 #[.pointer (some ⟨tb, 0, none⟩), .pointer (some ⟨p, 0, none⟩)] wx (fun e w' => e = .returned (.tuple #[.int .i64 (t.step m).1, .int .i64 (t.step m).2.1, .int .i64 (t.step m).2.2.1]) ∧ Fam w0 w' (G7 bo hb q p r tb ub ((t.step m).2.2.2.2) (m) ((t.step m).2.2.2.1) (t) (D9 tl w.heap.size (w.heap.size + 1) 5 a b c (.slice la ln lc) (.slice ra rn rc))))) := fun wx hx => tstep_rep wx (G7.TP bo hb q p r tb ub m m t t (D9 tl w.heap.size (w.heap.size + 1) 5 a b c (.slice la ln lc) (.slice ra rn rc))) hx hg hm
  have HG1 : Hid (∀ wx, Fam w0 wx (G7 bo hb q p r tb ub ((t.step m).2.2.2.2) (m) ((t.step m).2.2.2.1) (t) (D9 tl w.heap.size (w.heap.size + 1) 5 a b c (.slice la ln lc) (.slice ra rn rc))) → Calls Tryz.prog 69 #[.pointer (some ⟨ub, 0, none⟩), .pointer (some ⟨r, 0, none⟩)] wx (fun e w' => e = .returned (.tuple #[.int .i64 (t.step m).1, .int .i64 (t.step m).2.1, .int .i64 (t.step m).2.2.1]) ∧ Fam w0 w' (G7 bo hb q p r tb ub ((t.step m).2.2.2.2) ((t.step m).2.2.2.2) ((t.step m).2.2.2.1) ((t.step m).2.2.2.1) (D9 tl w.heap.size (w.heap.size + 1) 5 a b c (.slice la ln lc) (.slice ra rn rc))))) := fun wx hx => rtstep_rep wx (G7.TR bo hb q p r tb ub ((t.step m).2.2.2.2) m ((t.step m).2.2.2.1) t (D9 tl w.heap.size (w.heap.size + 1) 5 a b c (.slice la ln lc) (.slice ra rn rc))) hx hg hm
  have HOK : Hid (Mk.Ok ((t.step m).2.2.2.2)) := (hg.step hm).2.1
  have HGD : Hid (Tb.Good ((t.step m).2.2.2.1) ((t.step m).2.2.2.2)) := (hg.step hm).1
  have o0 := ho0.cell 0 rfl
  have b2 := (hb0).cell 2 rfl
  have b4 := (hb0).cell 4 rfl
  clear hf hm hg hb0 ho0 wa wb wc
  generalize t.step m = rr at *
  obtain ⟨r1, r2, r3, r4, r5⟩ := rr
  go_enter Tryz.func67, Tryz.ntmps67
  go_wp2_with fail
  go_region_held3 (fun w' => w'.cell? ⟨bo, 2, none⟩ = some (.pointer (some ⟨p, 0, none⟩)) ∧ w'.cell? ⟨bo, 4, none⟩ = some (.pointer (some ⟨tb, 0, none⟩)))
    (first | (exact ⟨(G7.row F0.out).cell 2 rfl, (G7.row F0.out).cell 4 rfl⟩) | (exact ⟨(G7.row f3).cell 2 rfl, (G7.row f3).cell 4 rfl⟩))
    (first | (go_at_call 68; refine (HP1.out _ F0.out.drew).mono ?_; rintro e w3 ⟨rfl, f3⟩))
  have F3 := Lib.hid f3
  have b3 := (G7.row f3).cell 3 rfl
  have b5 := (G7.row f3).cell 5 rfl
  clear f3 HP1
  go_wp2_with fail
  go_region_held3 (fun w' => w'.cell? ⟨bo, 3, none⟩ = some (.pointer (some ⟨r, 0, none⟩)) ∧ w'.cell? ⟨bo, 5, none⟩ = some (.pointer (some ⟨ub, 0, none⟩)))
    (first | (exact ⟨(G7.row F3.out).cell 3 rfl, (G7.row F3.out).cell 5 rfl⟩) | (exact ⟨(G7.row f4).cell 3 rfl, (G7.row f4).cell 5 rfl⟩))
    (first | (go_at_call 69; refine (HG1.out _ F3.out.drew).mono ?_; rintro e w4 ⟨rfl, f4⟩))
  have HE := Lib.hid (D9.pop f4)
  clear f4 HG1
  go_wp2_with fail
  exact hR.out _ _ ⟨rfl, p, r, _, _, HOK.out, HGD.out, HE.out⟩
theorem tdo_6 (hf : Fam w0 w (G7 bo hb q p r tb ub m m t t tl)) (hm : m.Ok) (hg : t.Good m) (a b c : Int) (wa : wfI a) (wb : wfI b) (wc : wfI c) (la : Option Addr) (ln lc : Nat) (ra : Option Addr) (rn rc : Nat) :
    Calls Tryz.prog 67 #[.pointer (some ⟨bo, 0, none⟩), .agg #[.int .i64 6, .int .i64 a, .int .i64 b, .int .i64 c], .agg #[.slice la ln lc, .slice ra rn rc]] w (TDid w0 bo hb q tb ub tl) := by
  refine calls_abs fun R hR => ?_
  have HM := Lib.hid hm
  have HG := Lib.hid hg
  have F0 := Lib.hid (G7.add2 hf 6 a b c (.slice la ln lc) (.slice ra rn rc))
  have hb0 := G7.row F0.out
  have ho0 := D9.op F0.out
  have HP1 : Hid (∀ wx, Fam w0 wx (G7 bo hb q p r tb ub (m) (m) (t) (t) (D9 tl w.heap.size (w.heap.size + 1) 6 a b c (.slice la ln lc) (.slice ra rn rc))) → Calls Tryz.prog 15 #[.pointer (some ⟨tb, 0, none⟩), .pointer (some ⟨p, 0, none⟩)] wx (fun e w' => e = .returned (.tuple #[.int .i64 (t.finish m).1, .int .i64 (t.finish m).2.1]) ∧ Fam w0 w' (G7 bo hb q p r tb ub ((t.finish m).2.2.2) (m) ((t.finish m).2.2.1) (t) (D9 tl w.heap.size (w.heap.size + 1) 6 a b c (.slice la ln lc) (.slice ra rn rc))))) := fun wx hx => tfinish_rep wx (G7.TP bo hb q p r tb ub m m t t (D9 tl w.heap.size (w.heap.size + 1) 6 a b c (.slice la ln lc) (.slice ra rn rc))) hx hg hm
  have HG1 : Hid (∀ wx, Fam w0 wx (G7 bo hb q p r tb ub ((t.finish m).2.2.2) (m) ((t.finish m).2.2.1) (t) (D9 tl w.heap.size (w.heap.size + 1) 6 a b c (.slice la ln lc) (.slice ra rn rc))) → Calls Tryz.prog 16 #[.pointer (some ⟨ub, 0, none⟩), .pointer (some ⟨r, 0, none⟩)] wx (fun e w' => e = .returned (.tuple #[.int .i64 (t.finish m).1, .int .i64 (t.finish m).2.1]) ∧ Fam w0 w' (G7 bo hb q p r tb ub ((t.finish m).2.2.2) ((t.finish m).2.2.2) ((t.finish m).2.2.1) ((t.finish m).2.2.1) (D9 tl w.heap.size (w.heap.size + 1) 6 a b c (.slice la ln lc) (.slice ra rn rc))))) := fun wx hx => rtfinish_rep wx (G7.TR bo hb q p r tb ub ((t.finish m).2.2.2) m ((t.finish m).2.2.1) t (D9 tl w.heap.size (w.heap.size + 1) 6 a b c (.slice la ln lc) (.slice ra rn rc))) hx hg hm
  have HOK : Hid (Mk.Ok ((t.finish m).2.2.2)) := (hg.finish hm).2.1
  have HGD : Hid (Tb.Good ((t.finish m).2.2.1) ((t.finish m).2.2.2)) := (hg.finish hm).1
  have o0 := ho0.cell 0 rfl
  have b2 := (hb0).cell 2 rfl
  have b4 := (hb0).cell 4 rfl
  clear hf hm hg hb0 ho0 wa wb wc
  generalize t.finish m = rr at *
  obtain ⟨r1, r2, r3, r4⟩ := rr
  go_enter Tryz.func67, Tryz.ntmps67
  go_wp2_with fail
  go_region_held3 (fun w' => w'.cell? ⟨bo, 2, none⟩ = some (.pointer (some ⟨p, 0, none⟩)) ∧ w'.cell? ⟨bo, 4, none⟩ = some (.pointer (some ⟨tb, 0, none⟩)))
    (first | (exact ⟨(G7.row F0.out).cell 2 rfl, (G7.row F0.out).cell 4 rfl⟩) | (exact ⟨(G7.row f3).cell 2 rfl, (G7.row f3).cell 4 rfl⟩))
    (first | (go_at_call 15; refine (HP1.out _ F0.out.drew).mono ?_; rintro e w3 ⟨rfl, f3⟩))
  have F3 := Lib.hid f3
  have b3 := (G7.row f3).cell 3 rfl
  have b5 := (G7.row f3).cell 5 rfl
  clear f3 HP1
  go_wp2_with fail
  go_region_held3 (fun w' => w'.cell? ⟨bo, 3, none⟩ = some (.pointer (some ⟨r, 0, none⟩)) ∧ w'.cell? ⟨bo, 5, none⟩ = some (.pointer (some ⟨ub, 0, none⟩)))
    (first | (exact ⟨(G7.row F3.out).cell 3 rfl, (G7.row F3.out).cell 5 rfl⟩) | (exact ⟨(G7.row f4).cell 3 rfl, (G7.row f4).cell 5 rfl⟩))
    (first | (go_at_call 16; refine (HG1.out _ F3.out.drew).mono ?_; rintro e w4 ⟨rfl, f4⟩))
  have HE := Lib.hid (D9.pop f4)
  clear f4 HG1
  go_wp2_with fail
  exact hR.out _ _ ⟨rfl, p, r, _, _, HOK.out, HGD.out, HE.out⟩
theorem tdo_7 (hf : Fam w0 w (G7 bo hb q p r tb ub m m t t tl)) (hm : m.Ok) (hg : t.Good m) (a b c : Int) (wa : wfI a) (wb : wfI b) (wc : wfI c) (la : Option Addr) (ln lc : Nat) (ra : Option Addr) (rn rc : Nat) :
    Calls Tryz.prog 67 #[.pointer (some ⟨bo, 0, none⟩), .agg #[.int .i64 7, .int .i64 a, .int .i64 b, .int .i64 c], .agg #[.slice la ln lc, .slice ra rn rc]] w (TDid w0 bo hb q tb ub tl) := by
  refine calls_abs fun R hR => ?_
  have HM := Lib.hid hm
  have HG := Lib.hid hg
  have F0 := Lib.hid (G7.add2 hf 7 a b c (.slice la ln lc) (.slice ra rn rc))
  have hb0 := G7.row F0.out
  have ho0 := D9.op F0.out
  have HP1 : Hid (∀ wx, Fam w0 wx (G7 bo hb q p r tb ub (m) (m) (t) (t) (D9 tl w.heap.size (w.heap.size + 1) 7 a b c (.slice la ln lc) (.slice ra rn rc))) → Calls Tryz.prog 124 #[.pointer (some ⟨tb, 0, none⟩)] wx (fun e w' => e = .returned (.tuple #[.int .i64 (t.take).1, .int .i64 (t.take).2.1]) ∧ Fam w0 w' (G7 bo hb q p r tb ub (m) (m) (t.take.2.2) (t) (D9 tl w.heap.size (w.heap.size + 1) 7 a b c (.slice la ln lc) (.slice ra rn rc))))) := fun wx hx => ttakeT wx hx (by have := hg.b.q20; omega)
  have HG1 : Hid (∀ wx, Fam w0 wx (G7 bo hb q p r tb ub (m) (m) (t.take.2.2) (t) (D9 tl w.heap.size (w.heap.size + 1) 7 a b c (.slice la ln lc) (.slice ra rn rc))) → Calls Tryz.prog 147 #[.pointer (some ⟨ub, 0, none⟩)] wx (fun e w' => e = .returned (.tuple #[.int .i64 (t.take).1, .int .i64 (t.take).2.1]) ∧ Fam w0 w' (G7 bo hb q p r tb ub (m) (m) (t.take.2.2) (t.take.2.2) (D9 tl w.heap.size (w.heap.size + 1) 7 a b c (.slice la ln lc) (.slice ra rn rc))))) := fun wx hx => rttake_rep wx (G7.TR bo hb q p r tb ub (m) m (t.take.2.2) t (D9 tl w.heap.size (w.heap.size + 1) 7 a b c (.slice la ln lc) (.slice ra rn rc))) hx (by have := hg.b.q20; omega)
  have HOK : Hid (Mk.Ok (m)) := hm
  have HGD : Hid (Tb.Good (t.take.2.2) (m)) := hg.take
  have o0 := ho0.cell 0 rfl
  have b4 := (hb0).cell 4 rfl
  clear hf hm hg hb0 ho0 wa wb wc
  generalize t.take = rr at *
  obtain ⟨r1, r2, r3⟩ := rr
  go_enter Tryz.func67, Tryz.ntmps67
  go_wp2_with fail
  refine (HP1.out _ F0.out).mono ?_
  rintro e w3 ⟨rfl, f3⟩
  have F3 := Lib.hid f3
  have b5 := (G7.row f3).cell 5 rfl
  clear f3 HP1
  go_wp2_with fail
  refine (HG1.out _ F3.out).mono ?_
  rintro e w4 ⟨rfl, f4⟩
  have HE := Lib.hid (D9.pop f4)
  clear f4 HG1
  go_wp2_with fail
  exact hR.out _ _ ⟨rfl, p, r, _, _, HOK.out, HGD.out, HE.out⟩
theorem tdo_8 (hf : Fam w0 w (G7 bo hb q p r tb ub m m t t tl)) (hm : m.Ok) (hg : t.Good m) (a b c : Int) (wa : wfI a) (wb : wfI b) (wc : wfI c) (la : Option Addr) (ln lc : Nat) (ra : Option Addr) (rn rc : Nat) :
    Calls Tryz.prog 67 #[.pointer (some ⟨bo, 0, none⟩), .agg #[.int .i64 8, .int .i64 a, .int .i64 b, .int .i64 c], .agg #[.slice la ln lc, .slice ra rn rc]] w (TDid w0 bo hb q tb ub tl) := by
  refine calls_abs fun R hR => ?_
  have HM := Lib.hid hm
  have HG := Lib.hid hg
  have F0 := Lib.hid (G7.add2 hf 8 a b c (.slice la ln lc) (.slice ra rn rc))
  have hb0 := G7.row F0.out
  have ho0 := D9.op F0.out
  have HP1 : Hid (∀ wx, Fam w0 wx (G7 bo hb q p r tb ub (m) (m) (t) (t) (D9 tl w.heap.size (w.heap.size + 1) 8 a b c (.slice la ln lc) (.slice ra rn rc))) → Calls Tryz.prog 126 #[.pointer (some ⟨p, 0, none⟩), .int .i64 a, .int .i64 b, .int .i64 c] wx (fun e w' => e = .returned (.int .i64 (m.store a b c).1) ∧ Fam w0 w' (G7 bo hb q p r tb ub ((m.store a b c).2) (m) (t) (t) (D9 tl w.heap.size (w.heap.size + 1) 8 a b c (.slice la ln lc) (.slice ra rn rc))))) := fun wx hx => mstore_rep wx (G7.TP bo hb q p r tb ub m m t t (D9 tl w.heap.size (w.heap.size + 1) 8 a b c (.slice la ln lc) (.slice ra rn rc))).two hx hm a b c wa wc
  have HG1 : Hid (∀ wx, Fam w0 wx (G7 bo hb q p r tb ub ((m.store a b c).2) (m) (t) (t) (D9 tl w.heap.size (w.heap.size + 1) 8 a b c (.slice la ln lc) (.slice ra rn rc))) → Calls Tryz.prog 148 #[.pointer (some ⟨r, 0, none⟩), .int .i64 a, .int .i64 b, .int .i64 c] wx (fun e w' => e = .returned (.int .i64 (m.store a b c).1) ∧ Fam w0 w' (G7 bo hb q p r tb ub ((m.store a b c).2) ((m.store a b c).2) (t) (t) (D9 tl w.heap.size (w.heap.size + 1) 8 a b c (.slice la ln lc) (.slice ra rn rc))))) := fun wx hx => gmStore_rep wx (G7.TR bo hb q p r tb ub ((m.store a b c).2) m (t) t (D9 tl w.heap.size (w.heap.size + 1) 8 a b c (.slice la ln lc) (.slice ra rn rc))).two hx hm a b c
  have HOK : Hid (Mk.Ok ((m.store a b c).2)) := hm.store a b c
  have HGD : Hid (Tb.Good (t) ((m.store a b c).2)) := hg.marker (fun k hk => by rw [Mk.store_M, Hp.set_some]; exact hk)
  have o0 := ho0.cell 0 rfl
  have b2 := (hb0).cell 2 rfl
  have b3 := (hb0).cell 3 rfl
  have o1 := (ho0).cell 1 rfl
  have o2 := (ho0).cell 2 rfl
  have o3 := (ho0).cell 3 rfl
  clear hf hm hg hb0 ho0 wa wb wc
  generalize m.store a b c = rr at *
  obtain ⟨r1, r2⟩ := rr
  go_enter Tryz.func67, Tryz.ntmps67
  go_wp2_with fail
  go_region_held3 (fun w' => w'.cell? ⟨bo, 2, none⟩ = some (.pointer (some ⟨p, 0, none⟩)) ∧ w'.cell? ⟨bo, 3, none⟩ = some (.pointer (some ⟨r, 0, none⟩)) ∧ w'.cell? ⟨w.heap.size, 1, none⟩ = some (.int .i64 a) ∧ w'.cell? ⟨w.heap.size, 2, none⟩ = some (.int .i64 b) ∧ w'.cell? ⟨w.heap.size, 3, none⟩ = some (.int .i64 c))
    (first | (exact ⟨(G7.row F0.out).cell 2 rfl, (G7.row F0.out).cell 3 rfl, (D9.op F0.out).cell 1 rfl, (D9.op F0.out).cell 2 rfl, (D9.op F0.out).cell 3 rfl⟩) | (exact ⟨(G7.row f4).cell 2 rfl, (G7.row f4).cell 3 rfl, (D9.op f4).cell 1 rfl, (D9.op f4).cell 2 rfl, (D9.op f4).cell 3 rfl⟩) | (exact ⟨(G7.row f3).cell 2 rfl, (G7.row f3).cell 3 rfl, (D9.op f3).cell 1 rfl, (D9.op f3).cell 2 rfl, (D9.op f3).cell 3 rfl⟩))
    (first | (go_at_call 126; refine (HP1.out _ F0.out.drew).mono ?_; rintro e w3 ⟨rfl, f3⟩) | (go_at_call 148; refine (HG1.out _ f3).mono ?_; rintro e w4 ⟨rfl, f4⟩))
  have HE := Lib.hid (D9.pop f4)
  clear f4 HG1
  go_wp2_with fail
  exact hR.out _ _ ⟨rfl, p, r, _, _, HOK.out, HGD.out, HE.out⟩
theorem tdo_9 (hf : Fam w0 w (G7 bo hb q p r tb ub m m t t tl)) (hm : m.Ok) (hg : t.Good m) (a b c : Int) (wa : wfI a) (wb : wfI b) (wc : wfI c) (la : Option Addr) (ln lc : Nat) (ra : Option Addr) (rn rc : Nat) :
    Calls Tryz.prog 67 #[.pointer (some ⟨bo, 0, none⟩), .agg #[.int .i64 9, .int .i64 a, .int .i64 b, .int .i64 c], .agg #[.slice la ln lc, .slice ra rn rc]] w (TDid w0 bo hb q tb ub tl) := by
  refine calls_abs fun R hR => ?_
  have HM := Lib.hid hm
  have HG := Lib.hid hg
  have F0 := Lib.hid (G7.add2 hf 9 a b c (.slice la ln lc) (.slice ra rn rc))
  have hb0 := G7.row F0.out
  have ho0 := D9.op F0.out
  have HP1 : Hid (∀ wx, Fam w0 wx (G7 bo hb q p r tb ub (m) (m) (t) (t) (D9 tl w.heap.size (w.heap.size + 1) 9 a b c (.slice la ln lc) (.slice ra rn rc))) → Calls Tryz.prog 119 #[.pointer (some ⟨p, 0, none⟩), .int .i64 4, .int .i64 0, .int .i64 a] wx (fun e w' => e = .returned (.tuple #[.int .i64 (m.newArray 4 0 a).1, .int .i64 (m.newArray 4 0 a).2.1]) ∧ Fam w0 w' (G7 bo hb q p r tb ub ((m.newArray 4 0 a).2.2) (m) (t) (t) (D9 tl w.heap.size (w.heap.size + 1) 9 a b c (.slice la ln lc) (.slice ra rn rc))))) := fun wx hx => mnewArray_rep wx (G7.TP bo hb q p r tb ub m m t t (D9 tl w.heap.size (w.heap.size + 1) 9 a b c (.slice la ln lc) (.slice ra rn rc))).two hx hm 4 0 a
  have HG1 : Hid (∀ wx, Fam w0 wx (G7 bo hb q p r tb ub ((m.newArray 4 0 a).2.2) (m) (t) (t) (D9 tl w.heap.size (w.heap.size + 1) 9 a b c (.slice la ln lc) (.slice ra rn rc))) → Calls Tryz.prog 149 #[.pointer (some ⟨r, 0, none⟩), .int .i64 4, .int .i64 0, .int .i64 a] wx (fun e w' => e = .returned (.tuple #[.int .i64 (m.newArray 4 0 a).1, .int .i64 (m.newArray 4 0 a).2.1]) ∧ Fam w0 w' (G7 bo hb q p r tb ub ((m.newArray 4 0 a).2.2) ((m.newArray 4 0 a).2.2) (t) (t) (D9 tl w.heap.size (w.heap.size + 1) 9 a b c (.slice la ln lc) (.slice ra rn rc))))) := fun wx hx => gmNewArray_rep wx (G7.TR bo hb q p r tb ub ((m.newArray 4 0 a).2.2) m (t) t (D9 tl w.heap.size (w.heap.size + 1) 9 a b c (.slice la ln lc) (.slice ra rn rc))).two hx hm 4 0 a
  have HOK : Hid (Mk.Ok ((m.newArray 4 0 a).2.2)) := hm.newArray 4 0 a
  have HGD : Hid (Tb.Good (t) ((m.newArray 4 0 a).2.2)) := hg.marker (fun k hk => by unfold Mk.newArray; rw [Mk.made_M]; have := (m.M.newArray_new 4 0 a).old k hk; rw [this]; exact hk)
  have o0 := ho0.cell 0 rfl
  have b2 := (hb0).cell 2 rfl
  have o1 := (ho0).cell 1 rfl
  clear hf hm hg hb0 ho0 wa wb wc
  generalize m.newArray 4 0 a = rr at *
  obtain ⟨r1, r2, r3⟩ := rr
  go_enter Tryz.func67, Tryz.ntmps67
  go_wp2_with fail
  go_region_held3 (fun w' => w'.cell? ⟨bo, 2, none⟩ = some (.pointer (some ⟨p, 0, none⟩)) ∧ w'.cell? ⟨w.heap.size, 1, none⟩ = some (.int .i64 a))
    (first | (exact ⟨(G7.row F0.out).cell 2 rfl, (D9.op F0.out).cell 1 rfl⟩) | (exact ⟨(G7.row f3).cell 2 rfl, (D9.op f3).cell 1 rfl⟩))
    (first | (go_at_call 119; refine (HP1.out _ F0.out.drew).mono ?_; rintro e w3 ⟨rfl, f3⟩))
  have F3 := Lib.hid f3
  have b3 := (G7.row f3).cell 3 rfl
  have o1 := (D9.op f3).cell 1 rfl
  clear f3 HP1
  go_wp2_with fail
  go_region_held3 (fun w' => w'.cell? ⟨bo, 3, none⟩ = some (.pointer (some ⟨r, 0, none⟩)) ∧ w'.cell? ⟨w.heap.size, 1, none⟩ = some (.int .i64 a))
    (first | (exact ⟨(G7.row F3.out).cell 3 rfl, (D9.op F3.out).cell 1 rfl⟩) | (exact ⟨(G7.row f4).cell 3 rfl, (D9.op f4).cell 1 rfl⟩))
    (first | (go_at_call 149; refine (HG1.out _ F3.out.drew).mono ?_; rintro e w4 ⟨rfl, f4⟩))
  have HE := Lib.hid (D9.pop f4)
  clear f4 HG1
  go_wp2_with fail
  exact hR.out _ _ ⟨rfl, p, r, _, _, HOK.out, HGD.out, HE.out⟩
theorem tdo_10 (hf : Fam w0 w (G7 bo hb q p r tb ub m m t t tl)) (hm : m.Ok) (hg : t.Good m) (a b c : Int) (wa : wfI a) (wb : wfI b) (wc : wfI c) (la : Option Addr) (ln lc : Nat) (ra : Option Addr) (rn rc : Nat) :
    Calls Tryz.prog 67 #[.pointer (some ⟨bo, 0, none⟩), .agg #[.int .i64 10, .int .i64 a, .int .i64 b, .int .i64 c], .agg #[.slice la ln lc, .slice ra rn rc]] w (TDid w0 bo hb q tb ub tl) := by
  refine calls_abs fun R hR => ?_
  have HM := Lib.hid hm
  have HG := Lib.hid hg
  have F0 := Lib.hid (G7.add2 hf 10 a b c (.slice la ln lc) (.slice ra rn rc))
  have hb0 := G7.row F0.out
  have ho0 := D9.op F0.out
  have HP1 : Hid (∀ wx, Fam w0 wx (G7 bo hb q p r tb ub (m) (m) (t) (t) (D9 tl w.heap.size (w.heap.size + 1) 10 a b c (.slice la ln lc) (.slice ra rn rc))) → Calls Tryz.prog 123 #[.pointer (some ⟨p, 0, none⟩), .int .i64 a] wx (fun e w' => e = .returned (.int .i64 (m.shadeE a)) ∧ Fam w0 w' (G7 bo hb q p r tb ub (m.shade a) (m) (t) (t) (D9 tl w.heap.size (w.heap.size + 1) 10 a b c (.slice la ln lc) (.slice ra rn rc))))) := fun wx hx => mshade_rep wx (G7.TP bo hb q p r tb ub m m t t (D9 tl w.heap.size (w.heap.size + 1) 10 a b c (.slice la ln lc) (.slice ra rn rc))).two hx hm a wa
  have HG1 : Hid (∀ wx, Fam w0 wx (G7 bo hb q p r tb ub (m.shade a) (m) (t) (t) (D9 tl w.heap.size (w.heap.size + 1) 10 a b c (.slice la ln lc) (.slice ra rn rc))) → Calls Tryz.prog 150 #[.pointer (some ⟨r, 0, none⟩), .int .i64 a] wx (fun e w' => e = .returned (.int .i64 (m.shadeE a)) ∧ Fam w0 w' (G7 bo hb q p r tb ub (m.shade a) (m.shade a) (t) (t) (D9 tl w.heap.size (w.heap.size + 1) 10 a b c (.slice la ln lc) (.slice ra rn rc))))) := fun wx hx => gshade_rep wx (G7.TR bo hb q p r tb ub (m.shade a) m (t) t (D9 tl w.heap.size (w.heap.size + 1) 10 a b c (.slice la ln lc) (.slice ra rn rc))).two hx hm a
  have HOK : Hid (Mk.Ok (m.shade a)) := hm.shade a
  have HGD : Hid (Tb.Good (t) (m.shade a)) := hg.marker (fun k hk => by rw [Mk.shade_M]; exact hk)
  have o0 := ho0.cell 0 rfl
  have b2 := (hb0).cell 2 rfl
  have b3 := (hb0).cell 3 rfl
  have o1 := (ho0).cell 1 rfl
  clear hf hm hg hb0 ho0 wa wb wc
  generalize m.shadeE a = re at *
  generalize m.shade a = m' at *
  go_enter Tryz.func67, Tryz.ntmps67
  go_wp2_with fail
  go_region_held3 (fun w' => w'.cell? ⟨bo, 2, none⟩ = some (.pointer (some ⟨p, 0, none⟩)) ∧ w'.cell? ⟨bo, 3, none⟩ = some (.pointer (some ⟨r, 0, none⟩)) ∧ w'.cell? ⟨w.heap.size, 1, none⟩ = some (.int .i64 a))
    (first | (exact ⟨(G7.row F0.out).cell 2 rfl, (G7.row F0.out).cell 3 rfl, (D9.op F0.out).cell 1 rfl⟩) | (exact ⟨(G7.row f4).cell 2 rfl, (G7.row f4).cell 3 rfl, (D9.op f4).cell 1 rfl⟩) | (exact ⟨(G7.row f3).cell 2 rfl, (G7.row f3).cell 3 rfl, (D9.op f3).cell 1 rfl⟩))
    (first | (go_at_call 123; refine (HP1.out _ F0.out.drew).mono ?_; rintro e w3 ⟨rfl, f3⟩) | (go_at_call 150; refine (HG1.out _ f3).mono ?_; rintro e w4 ⟨rfl, f4⟩))
  have HE := Lib.hid (D9.pop f4)
  clear f4 HG1
  go_wp2_with fail
  exact hR.out _ _ ⟨rfl, p, r, _, _, HOK.out, HGD.out, HE.out⟩
theorem tdo_o (hf : Fam w0 w (G7 bo hb q p r tb ub m m t t tl)) (hm : m.Ok) (hg : t.Good m) (d : Int) (hd : (d == 1) = false ∧ (d == 2) = false ∧ (d == 3) = false ∧ (d == 4) = false ∧ (d == 5) = false ∧ (d == 6) = false ∧ (d == 7) = false ∧ (d == 8) = false ∧ (d == 9) = false ∧ (d == 10) = false ∧ (d == 11) = false ∧ (d == 12) = false) (a b c : Int) (wa : wfI a) (wb : wfI b) (wc : wfI c) (la : Option Addr) (ln lc : Nat) (ra : Option Addr) (rn rc : Nat) :
    Calls Tryz.prog 67 #[.pointer (some ⟨bo, 0, none⟩), .agg #[.int .i64 d, .int .i64 a, .int .i64 b, .int .i64 c], .agg #[.slice la ln lc, .slice ra rn rc]] w (TDid w0 bo hb q tb ub tl) := by
  refine calls_abs fun R hR => ?_
  have HM := Lib.hid hm
  have HG := Lib.hid hg
  have F0 := Lib.hid (G7.add2 hf d a b c (.slice la ln lc) (.slice ra rn rc))
  have hb0 := G7.row F0.out
  have ho0 := D9.op F0.out
  have o0 := ho0.cell 0 rfl
  obtain ⟨h1, h2, h3, h4, h5, h6, h7, h8, h9, h10, h11, h12⟩ := hd
  have HE := Lib.hid (D9.pop F0.out)
  clear hf hm hg hb0 ho0 wa wb wc
  go_enter Tryz.func67, Tryz.ntmps67
  go_wp2_with fail
  exact hR.out _ _ ⟨rfl, p, r, _, _, HM.out, HG.out, HE.out⟩
theorem G7.marked {p' r' : Nat} {m' : Mk} (hM : m'.M = m.M) (hf : Fam w0 w (markedL (G7 bo hb q p r tb ub m m t t tl) 6 bo hb q p' r' tb ub m')) : Fam w0 w (G7 bo hb q p' r' tb ub m' m' t t tl) := by
  have e : markedL (G7 bo hb q p r tb ub m m t t tl) 6 bo hb q p' r' tb ub m' = PH hb m.M :: GH q m.M :: MkA p hb m.col m.list :: GkA r q m.col m.list :: TbA tb t t.ents.length :: TrA ub t :: BR bo hb q p' r' tb ub :: (tl ++ [MkA p' hb m'.col m'.list] ++ [GkA r' q m'.col m'.list]) := rfl
  rw [e] at hf
  refine hf.sel (fun i => if i = 2 then 7 + tl.length else if i = 3 then 8 + tl.length else i) (fun i A h => ?_) (fun i j hi hj hij => ?_)
  · match i, h with
    | 0, h => rw [← h]; simp [G7, hM]
    | 1, h => rw [← h]; simp [G7, hM]
    | 2, h =>
      rw [← h]
      show (_ :: _ :: _ :: _ :: _ :: _ :: _ :: _)[7 + tl.length]? = _
      rw [Nat.add_comm 7]
      simp only [List.getElem?_cons_succ]
      rw [List.getElem?_append_left (by simp), List.getElem?_append_right (Nat.le_refl _), Nat.sub_self]
      rfl
    | 3, h =>
      rw [← h]
      show (_ :: _ :: _ :: _ :: _ :: _ :: _ :: _)[8 + tl.length]? = _
      rw [show 8 + tl.length = (tl.length + 1) + 7 by omega]
      simp only [List.getElem?_cons_succ]
      rw [List.getElem?_append_right (by simp)]
      simp [G7]
    | 4, h => rw [← h]; simp [G7]
    | 5, h => rw [← h]; simp [G7]
    | 6, h => rw [← h]; simp [G7]
    | i + 7, h =>
      replace h : tl[i]? = some A := h
      have hil : i < tl.length := (List.getElem?_eq_some_iff.1 h).1
      rw [if_neg (by omega), if_neg (by omega)]
      show (_ :: _ :: _ :: _ :: _ :: _ :: _ :: _)[i + 7]? = _
      simp only [List.getElem?_cons_succ]
      rw [List.getElem?_append_left (by simp; omega), List.getElem?_append_left hil]
      exact h
  · have e7 : (G7 bo hb q p' r' tb ub m' m' t t tl).length = 7 + tl.length := by simp [G7]; omega
    rw [e7] at hi hj
    try dsimp only
    split <;> split <;> (try split) <;> (try split) <;> omega
theorem tdo_11 (hf : Fam w0 w (G7 bo hb q p r tb ub m m t t tl)) (hm : m.Ok) (hg : t.Good m) (a b c : Int) (wa : wfI a) (wb : wfI b) (wc : wfI c) (la : Option Addr) (ln lc : Nat) (ra : Option Addr) (rn rc : Nat) (rts : List Int) (hrl : rts.length = rn) (hrc : rn ≤ rc) (hrw : ∀ z ∈ rts, wfI z) (hrd : Read w0 (.slice ra rn rc) rts) :
    Calls Tryz.prog 67 #[.pointer (some ⟨bo, 0, none⟩), .agg #[.int .i64 11, .int .i64 a, .int .i64 b, .int .i64 c], .agg #[.slice la ln lc, .slice ra rn rc]] w (TDid w0 bo hb q tb ub tl) := by
  refine calls_abs fun R hR => ?_
  have HM := Lib.hid hm
  have HG := Lib.hid hg
  have F0 := Lib.hid (G7.add2 hf 11 a b c (.slice la ln lc) (.slice ra rn rc))
  have hb0 := G7.row F0.out
  have ho0 := D9.op F0.out
  have HC : Hid (Calls Tryz.prog 145 #[.pointer (some ⟨bo, 0, none⟩), .slice ra rn rc] _ (fun e w' => e = .returned (.bool true) ∧ ∃ p' r', Fam w0 w' (markedL (G7 bo hb q p r tb ub (m) (m) (t) (t) (D9 tl w.heap.size (w.heap.size + 1) 11 a b c (.slice la ln lc) (.slice ra rn rc))) 6 bo hb q p' r' tb ub (Mk.new m.M rts)))) :=
    lmark_any _ (i := 0) (i2 := 1) (kb := 6) F0.out rfl rfl rfl (by decide) (by decide) (by decide) ra rn rc rts hrl hrc hrw (fun w' l' h1 h2 => hrd.only h1.only (by simp))
  have HOK : Hid (Mk.Ok (Mk.new m.M rts)) := Mk.new_ok hm.hf rts
  have HGD : Hid (Tb.Good t (Mk.new m.M rts)) := hg.marker (fun k hk => by rw [Mk.new_M]; exact hk)
  have HPOP : Hid (∀ w' p' r', Fam w0 w' (markedL (G7 bo hb q p r tb ub (m) (m) (t) (t) (D9 tl w.heap.size (w.heap.size + 1) 11 a b c (.slice la ln lc) (.slice ra rn rc))) 6 bo hb q p' r' tb ub (Mk.new m.M rts)) → Fam w0 w' (G7 bo hb q p' r' tb ub (Mk.new m.M rts) (Mk.new m.M rts) t t tl)) := fun w' p' r' h => D9.pop (G7.marked (Mk.new_M _ _) h)
  have o0 := ho0.cell 0 rfl
  have s1 := (D9.st F0.out).cell 1 rfl
  clear hf hm hg hb0 ho0 wa wb wc hrl hrc hrw hrd
  have cm := HC.out
  generalize Mk.new m.M rts = m' at *
  clear HC
  go_enter Tryz.func67, Tryz.ntmps67
  go_wp2_with fail
  refine cm.mono ?_
  rintro e w3 ⟨rfl, p', r', f3⟩
  have HE := Lib.hid (HPOP.out _ _ _ f3)
  clear f3 cm HPOP
  go_wp2_with fail
  exact hR.out _ _ ⟨rfl, p', r', _, _, HOK.out, HGD.out, HE.out⟩
theorem tdo_12 (hf : Fam w0 w (G7 bo hb q p r tb ub m m t t tl)) (hm : m.Ok) (hg : t.Good m) (a b c : Int) (wa : wfI a) (wb : wfI b) (wc : wfI c) (la : Option Addr) (ln lc : Nat) (ra : Option Addr) (rn rc : Nat) :
    Calls Tryz.prog 67 #[.pointer (some ⟨bo, 0, none⟩), .agg #[.int .i64 12, .int .i64 a, .int .i64 b, .int .i64 c], .agg #[.slice la ln lc, .slice ra rn rc]] w (TDid w0 bo hb q tb ub tl) := by
  refine calls_abs fun R hR => ?_
  have HM := Lib.hid hm
  have HG := Lib.hid hg
  have F0 := Lib.hid (G7.add2 hf 12 a b c (.slice la ln lc) (.slice ra rn rc))
  have hb0 := G7.row F0.out
  have ho0 := D9.op F0.out
  have F1 : Hid (Fam w0 (((w.alloc (.cells #[.int .i64 12, .int .i64 a, .int .i64 b, .int .i64 c] 111)).alloc (.cells #[.slice la ln lc, .slice ra rn rc] 25)).alloc (.cells #[.int .i64 a] 3)) ((G7 bo hb q p r tb ub (m) (m) (t) (t) (D9 tl w.heap.size (w.heap.size + 1) 12 a b c (.slice la ln lc) (.slice ra rn rc))) ++ [RowA (w.heap.size + 2) 3 [.int .i64 a]])) := by
    have h := F0.out.addRow 3 [.int .i64 a]
    rw [World.size_alloc, World.size_alloc] at h
    exact h
  have HC : Hid (Calls Tryz.prog 145 #[.pointer (some ⟨bo, 0, none⟩), .slice (some ⟨w.heap.size + 2, 0, none⟩) 1 1] _ (fun e w' => e = .returned (.bool true) ∧ ∃ p' r', Fam w0 w' (markedL ((G7 bo hb q p r tb ub (m) (m) (t) (t) (D9 tl w.heap.size (w.heap.size + 1) 12 a b c (.slice la ln lc) (.slice ra rn rc))) ++ [RowA (w.heap.size + 2) 3 [.int .i64 a]]) 6 bo hb q p' r' tb ub (Mk.new m.M [a])))) :=
    lmark_any _ (i := 0) (i2 := 1) (kb := 6) F1.out rfl rfl rfl (by decide) (by decide) (by decide) _ 1 1 [a] rfl (Nat.le_refl _) (fun z hz => by simp at hz; rw [hz]; exact wa) (fun w' l' h1 h2 => .inl ⟨w.heap.size + 2, 0, 1, rfl, fun i hi => by
      have hi0 : i = 0 := by simp at hi; exact hi
      subst hi0
      have h7 := h1.row (((G7 bo hb q p r tb ub (m) (m) (t) (t) (D9 tl w.heap.size (w.heap.size + 1) 12 a b c (.slice la ln lc) (.slice ra rn rc)))).length) (h2 _ _ (lat_last _ _) (by simp [G7]) (by simp [G7]) (by simp [G7]))
      exact h7.cell 0 rfl⟩)
  have HOK : Hid (Mk.Ok (Mk.new m.M [a])) := Mk.new_ok hm.hf [a]
  have HGD : Hid (Tb.Good t (Mk.new m.M [a])) := hg.marker (fun k hk => by rw [Mk.new_M]; exact hk)
  have HPOP : Hid (∀ w' p' r', Fam w0 w' (markedL ((G7 bo hb q p r tb ub (m) (m) (t) (t) (D9 tl w.heap.size (w.heap.size + 1) 12 a b c (.slice la ln lc) (.slice ra rn rc))) ++ [RowA (w.heap.size + 2) 3 [.int .i64 a]]) 6 bo hb q p' r' tb ub (Mk.new m.M [a])) → Fam w0 w' (G7 bo hb q p' r' tb ub (Mk.new m.M [a]) (Mk.new m.M [a]) t t tl)) := fun w' p' r' h => by
    have h2 : Fam w0 w' (markedL (G7 bo hb q p r tb ub m m t t ((D9 tl w.heap.size (w.heap.size + 1) 12 a b c (.slice la ln lc) (.slice ra rn rc)) ++ [RowA (w.heap.size + 2) 3 [.int .i64 a]])) 6 bo hb q p' r' tb ub (Mk.new m.M [a])) := h
    have h3 := G7.marked (Mk.new_M _ _) h2
    have h4 : Fam w0 w' (G7 bo hb q p' r' tb ub (Mk.new m.M [a]) (Mk.new m.M [a]) t t (D9 tl w.heap.size (w.heap.size + 1) 12 a b c (.slice la ln lc) (.slice ra rn rc)) ++ [RowA (w.heap.size + 2) 3 [.int .i64 a]]) := h3
    exact D9.pop h4.pop
  have o0 := ho0.cell 0 rfl
  have o1 := ho0.cell 1 rfl
  clear hf hm hg hb0 ho0 wa wb wc
  have cm := HC.out
  generalize Mk.new m.M [a] = m' at *
  clear HC
  go_enter Tryz.func67, Tryz.ntmps67
  go_wp2_with fail
  refine cm.mono ?_
  rintro e w3 ⟨rfl, p', r', f3⟩
  have HE := Lib.hid (HPOP.out _ _ _ f3)
  clear f3 cm HPOP
  go_wp2_with fail
  exact hR.out _ _ ⟨rfl, p', r', _, _, HOK.out, HGD.out, HE.out⟩
theorem tdo_any (hf : Fam w0 w (G7 bo hb q p r tb ub m m t t tl)) (hm : m.Ok) (hg : t.Good m) (d a b c : Int) (wa : wfI a) (wb : wfI b) (wc : wfI c) (la : Option Addr) (ln lc : Nat) (ra : Option Addr) (rn rc : Nat) (rts : List Int) (hrl : rts.length = rn) (hrc : rn ≤ rc) (hrw : ∀ z ∈ rts, wfI z) (hrd : Read w0 (.slice ra rn rc) rts) :
    Calls Tryz.prog 67 #[.pointer (some ⟨bo, 0, none⟩), .agg #[.int .i64 d, .int .i64 a, .int .i64 b, .int .i64 c], .agg #[.slice la ln lc, .slice ra rn rc]] w (TDid w0 bo hb q tb ub tl) := by
  by_cases h1 : d = 1
  · subst h1; exact tdo_1 hf hm hg a b c wa wb wc la ln lc ra rn rc
  by_cases h2 : d = 2
  · subst h2; exact tdo_2 hf hm hg a b c wa wb wc la ln lc ra rn rc
  by_cases h3 : d = 3
  · subst h3; exact tdo_3 hf hm hg a b c wa wb wc la ln lc ra rn rc
  by_cases h4 : d = 4
  · subst h4; exact tdo_4 hf hm hg a b c wa wb wc la ln lc ra rn rc
  by_cases h5 : d = 5
  · subst h5; exact tdo_5 hf hm hg a b c wa wb wc la ln lc ra rn rc
  by_cases h6 : d = 6
  · subst h6; exact tdo_6 hf hm hg a b c wa wb wc la ln lc ra rn rc
  by_cases h7 : d = 7
  · subst h7; exact tdo_7 hf hm hg a b c wa wb wc la ln lc ra rn rc
  by_cases h8 : d = 8
  · subst h8; exact tdo_8 hf hm hg a b c wa wb wc la ln lc ra rn rc
  by_cases h9 : d = 9
  · subst h9; exact tdo_9 hf hm hg a b c wa wb wc la ln lc ra rn rc
  by_cases h10 : d = 10
  · subst h10; exact tdo_10 hf hm hg a b c wa wb wc la ln lc ra rn rc
  by_cases h11 : d = 11
  · subst h11; exact tdo_11 hf hm hg a b c wa wb wc la ln lc ra rn rc rts hrl hrc hrw hrd
  by_cases h12 : d = 12
  · subst h12; exact tdo_12 hf hm hg a b c wa wb wc la ln lc ra rn rc
  have ne : ∀ z : Int, d ≠ z → (d == z) = false := fun z h => by simpa using h
  exact tdo_o hf hm hg d ⟨ne _ h1, ne _ h2, ne _ h3, ne _ h4, ne _ h5, ne _ h6, ne _ h7, ne _ h8, ne _ h9, ne _ h10, ne _ h11, ne _ h12⟩ a b c wa wb wc la ln lc ra rn rc
end
end Go.Proofs.YthflghdaejbdkaaGreat
