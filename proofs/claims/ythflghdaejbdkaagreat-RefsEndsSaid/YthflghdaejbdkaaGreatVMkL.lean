/- Lemmas of this claim. -/
import Derived.Test.YthflghdaejbdkaaGreatVTbGD
import Derived.Test.YthflghdaejbdkaaGreatVMkG
namespace Go.Proofs.YthflghdaejbdkaaGreat
open Go.RowKit Go.Maps
set_option maxHeartbeats 6400000
set_option maxRecDepth 100000
set_option linter.unusedVariables false
section
variable {l : List Asn} {i j k q r b : Nat} {m : Mk} {t s : Tb} {w0 w w' : World} {ev qv wv : Value} {nx : Nat} {wl : List Bool}
theorem rtclear_rep (w : World) (T3 : Three l i j k) (hf : Fam w0 w (QL l i j k q r b m s)) (hg : s.Good m) (hs : s.Stl m) (hi : s.nx < s.ents.length) (h3 : s.ph ≠ 3) (hm : m.Ok) : Calls Tryz.prog 153 #[.pointer (some ⟨b, 0, none⟩), .pointer (some ⟨r, 0, none⟩), .int .i64 (s.nx : Int)] w (fun e w' => e = .returned (.tuple #[]) ∧ Fam w0 w' (QL l i j k q r b (s.clear m s.nx).2 (s.clear m s.nx).1)) := by
  have h1 := hs.p1
  have h4 := hg.p4
  by_cases hp : s.ph = 2
  · have ha := (hs.a (.inr hp)).2
    rw [hp] at ha
    exact rtclear_f w T3 hf s.nx hi ha hp (fun hd => hg.fd hp _ (Nat.le_refl _) hi hd) hm hg.b.q20
  · refine rtclear_w w T3 hf s.nx hi ?_ hp hm.hf.ok
    by_cases h5 : s.ph = 1
    · have ha := (hs.a (.inl h5)).2
      rw [h5] at ha
      rw [ha]; decide
    · rw [hs.d (by omega) hi]; decide
theorem Tb.next_at (hg : s.Good m) (hs : s.Stl m) (h3 : s.ph ≠ 3) (hn : NowIs s nx) : nxt s.ents ((if s.ph < 3 then s.ph else 3 : Nat) : Int) nx = s.nx := by
  have h1 := hs.p1
  have h4 := hg.p4
  have : s.ph = 1 ∨ s.ph = 2 ∨ s.ph = 4 := by omega
  rcases this with e | e | e
  · have ha := hs.a (.inl e)
    rw [e] at ha ⊢
    exact (hn.1 e).trans (nxt_here ha.1 ha.2)
  · have ha := hs.a (.inr e)
    rw [e] at ha ⊢
    exact (hn.2.1 e).trans (nxt_here ha.1 ha.2)
  · rw [e]
    refine (hn.2.2 e).trans ?_
    by_cases hi : s.nx < s.ents.length
    · exact nxt_here hi (hs.d e hi)
    · rw [nxt_end (by omega)]
      have := hg.nl
      omega
theorem rtstep_0 (w : World) (T3 : Three l i j k) (hf : Fam w0 w (QL l i j k q r b m t)) (hg : t.Good m) (hm : m.Ok) (hp : t.ph = 0) : Calls Tryz.prog 69 #[.pointer (some ⟨b, 0, none⟩), .pointer (some ⟨r, 0, none⟩)] w (fun e w' => e = .returned (.tuple #[.int .i64 (t.step m).1, .int .i64 (t.step m).2.1, .int .i64 (t.step m).2.2.1]) ∧ Fam w0 w' (QL l i j k q r b (t.step m).2.2.2.2 (t.step m).2.2.2.1)) := by
  refine calls_abs fun R hR => ?_
  obtain ⟨ev, qv, wv, nx, wl, ht⟩ := QL.tr T3 hf
  obtain ⟨z0, z1, z2, z3, z4, zf⟩ := ht.cells
  have HF := Lib.hid hf
  unfold Tb.step at hR
  rw [if_pos hp] at hR
  rw [hp] at z2
  replace z2 : w.cell? ⟨b, 2, none⟩ = some (.int .i64 0) := z2
  clear hf hg hm ht z0 z1 z3 z4 zf hp
  go_enter Tryz.func69, Tryz.ntmps69
  go_wp2_with fail
  refine bodyPost_ret (results_tmp3 rfl _ _ _) rfl ?_
  exact hR.out _ _ ⟨rfl, HF.out⟩
theorem rtstep_3 (w : World) (T3 : Three l i j k) (hf : Fam w0 w (QL l i j k q r b m t)) (hg : t.Good m) (hm : m.Ok) (hp : t.ph ≠ 0) (h3 : (t.settle m).ph = 3) : Calls Tryz.prog 69 #[.pointer (some ⟨b, 0, none⟩), .pointer (some ⟨r, 0, none⟩)] w (fun e w' => e = .returned (.tuple #[.int .i64 (t.step m).1, .int .i64 (t.step m).2.1, .int .i64 (t.step m).2.2.1]) ∧ Fam w0 w' (QL l i j k q r b (t.step m).2.2.2.2 (t.step m).2.2.2.1)) := by
  refine calls_abs fun R hR => ?_
  obtain ⟨ev, qv, wv, nx, wl, ht⟩ := QL.tr T3 hf
  obtain ⟨z0, z1, z2, z3, z4, zf⟩ := ht.cells
  have cs := rtsettle_rep w T3 hf hg (by omega)
  have hp0 : ((t.ph : Int) == 0) = false := by rw [beq_eq_false_iff_ne]; omega
  have HM := Lib.hid hm
  have hgs := hg.settle (m := m) hm.hf.ok
  have hst := Tb.stl_settle (m := m) (t := t) (by omega) hg.p4
  unfold Tb.step at hR
  rw [if_neg hp] at hR
  simp only at hR
  clear hf hg hm ht z0 z1 z3 z4 zf hp
  generalize t.settle m = s at *
  have HGS := Lib.hid hgs
  have HST := Lib.hid hst
  clear hgs hst
  rw [if_pos h3] at hR
  have H3 := Lib.hid h3
  clear h3
  generalize t.ph = ph at *
  go_enter Tryz.func69, Tryz.ntmps69
  go_wp2_with fail
  refine cs.mono ?_
  rintro e w1 ⟨rfl, hf⟩
  clear cs hp0 z2
  obtain ⟨ev, qv, wv, nx, wl, ht⟩ := QL.tr T3 hf
  obtain ⟨z0, z1, z2, z3, z4, zf⟩ := ht.cells
  rw [H3.out] at z2
  replace z2 : w1.cell? ⟨b, 2, none⟩ = some (.int .i64 3) := z2
  have cm := gstep_rep w1 T3.t2 hf HM.out
  clear hf ht zf z0 z1 z3 z4
  go_wp2_with fail
  refine cm.mono ?_
  rintro e w3 ⟨rfl, hf⟩
  have hM := Mk.step_M (m := m)
  have hg3 : s.Good m.step.2.2 := HGS.out.marker (fun k hk => by rw [hM]; exact hk)
  have cs := rtsettle_rep w3 T3 hf hg3 (by have := H3.out; omega)
  clear hf hM hg3 cm
  generalize m.step = rr at *
  obtain ⟨r1, r2, r3⟩ := rr
  go_wp2_with fail
  refine cs.mono ?_
  rintro e w4 ⟨rfl, hf⟩
  have HF := Lib.hid hf
  clear hf cs
  go_wp2_with fail
  refine bodyPost_ret (results_tmp3 rfl _ _ _) rfl ?_
  exact hR.out _ _ ⟨rfl, HF.out⟩
theorem rtstep_over (w : World) (T3 : Three l i j k) (hf : Fam w0 w (QL l i j k q r b m t)) (hg : t.Good m) (hm : m.Ok) (hp : t.ph ≠ 0) (h3 : (t.settle m).ph ≠ 3) (hl : (t.settle m).ents.length ≤ (t.settle m).nx) : Calls Tryz.prog 69 #[.pointer (some ⟨b, 0, none⟩), .pointer (some ⟨r, 0, none⟩)] w (fun e w' => e = .returned (.tuple #[.int .i64 (t.step m).1, .int .i64 (t.step m).2.1, .int .i64 (t.step m).2.2.1]) ∧ Fam w0 w' (QL l i j k q r b (t.step m).2.2.2.2 (t.step m).2.2.2.1)) := by
  refine calls_abs fun R hR => ?_
  obtain ⟨ev, qv, wv, nx, wl, ht⟩ := QL.tr T3 hf
  obtain ⟨z0, z1, z2, z3, z4, zf⟩ := ht.cells
  have cs := rtsettle_rep w T3 hf hg (by omega)
  have hp0 : ((t.ph : Int) == 0) = false := by rw [beq_eq_false_iff_ne]; omega
  have HM := Lib.hid hm
  have hgs := hg.settle (m := m) hm.hf.ok
  have hst := Tb.stl_settle (m := m) (t := t) (by omega) hg.p4
  unfold Tb.step at hR
  rw [if_neg hp] at hR
  simp only at hR
  clear hf hg hm ht z0 z1 z3 z4 zf hp
  generalize t.settle m = s at *
  have HGS := Lib.hid hgs
  have HST := Lib.hid hst
  clear hgs hst
  rw [if_neg h3, if_pos hl] at hR
  have H3 := Lib.hid h3
  have hp4 : s.ph = 4 := by
    have h1 := HST.out.p1
    have h4 := HGS.out.p4
    by_cases e : s.ph = 1 ∨ s.ph = 2
    · have := (HST.out.a e).1; omega
    · omega
  have H4 := Lib.hid hp4
  have HL := Lib.hid hl
  clear h3 hl hp4
  generalize t.ph = ph at *
  go_enter Tryz.func69, Tryz.ntmps69
  go_wp2_with fail
  refine cs.mono ?_
  rintro e w1 ⟨rfl, hf⟩
  clear cs hp0 z2
  obtain ⟨ev, qv, wv, nx, wl, ht⟩ := QL.tr T3 hf
  obtain ⟨z0, z1, z2, z3, z4, zf⟩ := ht.cells
  have h31 : ((s.ph : Int) == 3) = false := by rw [beq_eq_false_iff_ne]; have := H3.out; omega
  have hna := Tb.next_at HGS.out HST.out H3.out ht.now
  have cl := rtleft_rep w1 ht HGS.out.b.le (if s.ph < 3 then s.ph else 3) nx
  rw [hna] at cl
  rw [H4.out] at z2 cl
  replace z2 : w1.cell? ⟨b, 2, none⟩ = some (.int .i64 4) := z2
  have hlt : ¬ s.nx < s.ents.length := by have := HL.out; omega
  rw [if_neg hlt, decide_eq_false hlt] at cl
  replace cl : Calls Tryz.prog 152 #[.pointer (some ⟨b, 0, none⟩), .int .i64 3, .int .i64 (nx : Int)] w1 _ := cl
  have HF2 : Hid (Fam w0 (w1.setCell ⟨b, 2, none⟩ (.int .i64 0)) (QL l i j k q r b m (s.at 0 0))) := QL.setNow T3 hf 0 (by omega) 0 (fun _ _ _ _ _ _ => ⟨fun e => by simp [Tb.at] at e, fun e => by simp [Tb.at] at e, fun e => by simp [Tb.at] at e⟩)
  have f2 := zf 2
  clear hf ht zf z0 z1 z4 hna hlt h31
  go_wp2_with fail
  refine cl.mono ?_
  rintro e _ ⟨rfl, rfl⟩
  clear cl
  go_wp2_with fail
  refine bodyPost_ret (results_tmp3 rfl _ _ _) rfl ?_
  exact hR.out _ _ ⟨rfl, HF2.out⟩
theorem rtstep_on (w : World) (T3 : Three l i j k) (hf : Fam w0 w (QL l i j k q r b m t)) (hg : t.Good m) (hm : m.Ok) (hp : t.ph ≠ 0) (h3 : (t.settle m).ph ≠ 3) (hl : ¬ (t.settle m).ents.length ≤ (t.settle m).nx) : Calls Tryz.prog 69 #[.pointer (some ⟨b, 0, none⟩), .pointer (some ⟨r, 0, none⟩)] w (fun e w' => e = .returned (.tuple #[.int .i64 (t.step m).1, .int .i64 (t.step m).2.1, .int .i64 (t.step m).2.2.1]) ∧ Fam w0 w' (QL l i j k q r b (t.step m).2.2.2.2 (t.step m).2.2.2.1)) := by
  refine calls_abs fun R hR => ?_
  obtain ⟨ev, qv, wv, nx, wl, ht⟩ := QL.tr T3 hf
  obtain ⟨z0, z1, z2, z3, z4, zf⟩ := ht.cells
  have cs := rtsettle_rep w T3 hf hg (by omega)
  have hp0 : ((t.ph : Int) == 0) = false := by rw [beq_eq_false_iff_ne]; omega
  have HM := Lib.hid hm
  have hgs := hg.settle (m := m) hm.hf.ok
  have hst := Tb.stl_settle (m := m) (t := t) (by omega) hg.p4
  unfold Tb.step at hR
  rw [if_neg hp] at hR
  simp only at hR
  clear hf hg hm ht z0 z1 z3 z4 zf hp
  generalize t.settle m = s at *
  have HGS := Lib.hid hgs
  have HST := Lib.hid hst
  clear hgs hst
  rw [if_neg h3, if_neg hl] at hR
  have H3 := Lib.hid h3
  have HL := Lib.hid hl
  clear h3 hl
  generalize t.ph = ph at *
  go_enter Tryz.func69, Tryz.ntmps69
  go_wp2_with fail
  refine cs.mono ?_
  rintro e w1 ⟨rfl, hf⟩
  clear cs hp0 z2
  obtain ⟨ev, qv, wv, nx, wl, ht⟩ := QL.tr T3 hf
  obtain ⟨z0, z1, z2, z3, z4, zf⟩ := ht.cells
  have h31 : ((s.ph : Int) == 3) = false := by rw [beq_eq_false_iff_ne]; have := H3.out; omega
  have hna := Tb.next_at HGS.out HST.out H3.out ht.now
  have cl := rtleft_rep w1 ht HGS.out.b.le (if s.ph < 3 then s.ph else 3) nx
  rw [hna] at cl
  have hlt : s.nx < s.ents.length := by have := HL.out; omega
  rw [if_pos hlt, decide_eq_true hlt] at cl
  have HCC : Hid (Calls Tryz.prog 153 #[.pointer (some ⟨b, 0, none⟩), .pointer (some ⟨r, 0, none⟩), .int .i64 (s.nx : Int)] w1 (fun e w' => e = .returned (.tuple #[]) ∧ Fam w0 w' (QL l i j k q r b (s.clear m s.nx).2 (s.clear m s.nx).1))) := rtclear_rep w1 T3 hf HGS.out HST.out hlt H3.out HM.out
  have HCG := Lib.hid (Tb.Good.clear HGS.out HST.out hlt H3.out HM.out)
  have HCP : Hid ((s.clear m s.nx).1.ph = s.ph) := (Tb.clear_facts HGS.out HST.out hlt H3.out HM.out.hf.ok).2.2.2.1
  have HP1 := Lib.hid HST.out.p1
  have h20 : s.nx < 20 := by have := HGS.out.b.le; omega
  obtain ⟨sp, hsp⟩ : ∃ z, z = s.ph := ⟨_, rfl⟩
  have HSP := Lib.hid hsp
  rw [← hsp] at z2 h31 cl
  have hsp14 : sp = 1 ∨ sp = 2 ∨ sp = 4 := by
    have h1 := HST.out.p1
    have h4 := HGS.out.p4
    have := H3.out
    omega
  clear hf ht zf z0 z1 z4 hna hlt hsp HGS HST H3 HL HM
  generalize s.nx = sx at *
  have hend : ∀ w5, Fam w0 w5 (QL l i j k q r b (s.clear m sx).2 (s.clear m sx).1) → (∃ nx5, w5.cell? ⟨b, 3, none⟩ = some (.int .i64 ((nx5 : Nat) : Int))) ∧ w5.frozen? ⟨b, 3, none⟩ = false ∧ Calls Tryz.prog 76 #[.pointer (some ⟨b, 0, none⟩), .pointer (some ⟨r, 0, none⟩)] (w5.setCell ⟨b, 3, none⟩ (.int .i64 ((sx : Int) + 1))) (fun e w' => e = .returned (.tuple #[]) ∧ Fam w0 w' (QL l i j k q r b (s.clear m sx).2 (((s.clear m sx).1.at s.ph (sx + 1)).settle (s.clear m sx).2))) := fun w5 hf5 => by
    obtain ⟨_, _, _, _, _, ht5⟩ := QL.tr T3 hf5
    have hf6 := QL.setNext T3 hf5 (sx + 1) (sx + 1) (NowIs.self _)
    rw [HCP.out] at hf6
    have e1 : ((sx + 1 : Nat) : Int) = (sx : Int) + 1 := by omega
    have c := rtsettle_rep _ T3 hf6 HCG.out HP1.out
    rw [e1] at c
    exact ⟨⟨_, ht5.cells.2.2.2.1⟩, ht5.cells.2.2.2.2.2 3, c⟩
  have HEND := Lib.hid hend
  clear hend HCG HCP HP1
  have hcc := HCC.out
  clear HCC
  rcases hsp14 with rfl | rfl | rfl
  · as_aux_lemma =>
    replace z2 : w1.cell? ⟨b, 2, none⟩ = some (.int .i64 1) := z2
    replace cl : Calls Tryz.prog 152 #[.pointer (some ⟨b, 0, none⟩), .int .i64 1, .int .i64 (nx : Int)] w1 _ := cl
    clear h31
    go_wp2_with fail
    refine cl.mono ?_
    rintro e _ ⟨rfl, rfl⟩
    clear cl z2 z3
    go_wp2_with fail
    refine hcc.mono ?_
    rintro e w5 ⟨rfl, hf5⟩
    obtain ⟨⟨nx5, y3⟩, yf3, cs⟩ := HEND.out w5 hf5
    clear hcc hf5 HEND
    go_wp2_with fail
    refine cs.mono ?_
    rintro e w6 ⟨rfl, hf6⟩
    have HF6 := Lib.hid hf6
    clear cs hf6 y3 yf3
    go_wp2_with fail
    refine bodyPost_ret (results_tmp3 rfl _ _ _) rfl ?_
    have hs := HSP.out
    rw [← hs] at hR
    have h6 := HF6.out
    rw [← hs] at h6
    exact hR.out _ _ ⟨rfl, h6⟩
  · as_aux_lemma =>
    replace z2 : w1.cell? ⟨b, 2, none⟩ = some (.int .i64 2) := z2
    replace cl : Calls Tryz.prog 152 #[.pointer (some ⟨b, 0, none⟩), .int .i64 2, .int .i64 (nx : Int)] w1 _ := cl
    clear h31
    go_wp2_with fail
    refine cl.mono ?_
    rintro e _ ⟨rfl, rfl⟩
    clear cl z2 z3
    go_wp2_with fail
    refine hcc.mono ?_
    rintro e w5 ⟨rfl, hf5⟩
    obtain ⟨⟨nx5, y3⟩, yf3, cs⟩ := HEND.out w5 hf5
    clear hcc hf5 HEND
    go_wp2_with fail
    refine cs.mono ?_
    rintro e w6 ⟨rfl, hf6⟩
    have HF6 := Lib.hid hf6
    clear cs hf6 y3 yf3
    go_wp2_with fail
    refine bodyPost_ret (results_tmp3 rfl _ _ _) rfl ?_
    have hs := HSP.out
    rw [← hs] at hR
    have h6 := HF6.out
    rw [← hs] at h6
    exact hR.out _ _ ⟨rfl, h6⟩
  · as_aux_lemma =>
    replace z2 : w1.cell? ⟨b, 2, none⟩ = some (.int .i64 4) := z2
    replace cl : Calls Tryz.prog 152 #[.pointer (some ⟨b, 0, none⟩), .int .i64 3, .int .i64 (nx : Int)] w1 _ := cl
    clear h31
    go_wp2_with fail
    refine cl.mono ?_
    rintro e _ ⟨rfl, rfl⟩
    clear cl z2 z3
    go_wp2_with fail
    refine hcc.mono ?_
    rintro e w5 ⟨rfl, hf5⟩
    obtain ⟨⟨nx5, y3⟩, yf3, cs⟩ := HEND.out w5 hf5
    clear hcc hf5 HEND
    go_wp2_with fail
    refine cs.mono ?_
    rintro e w6 ⟨rfl, hf6⟩
    have HF6 := Lib.hid hf6
    clear cs hf6 y3 yf3
    go_wp2_with fail
    refine bodyPost_ret (results_tmp3 rfl _ _ _) rfl ?_
    have hs := HSP.out
    rw [← hs] at hR
    have h6 := HF6.out
    rw [← hs] at h6
    exact hR.out _ _ ⟨rfl, h6⟩
theorem rtstep_rep (w : World) (T3 : Three l i j k) (hf : Fam w0 w (QL l i j k q r b m t)) (hg : t.Good m) (hm : m.Ok) : Calls Tryz.prog 69 #[.pointer (some ⟨b, 0, none⟩), .pointer (some ⟨r, 0, none⟩)] w (fun e w' => e = .returned (.tuple #[.int .i64 (t.step m).1, .int .i64 (t.step m).2.1, .int .i64 (t.step m).2.2.1]) ∧ Fam w0 w' (QL l i j k q r b (t.step m).2.2.2.2 (t.step m).2.2.2.1)) := by
  by_cases hp : t.ph = 0
  · exact rtstep_0 w T3 hf hg hm hp
  by_cases h3 : (t.settle m).ph = 3
  · exact rtstep_3 w T3 hf hg hm hp h3
  by_cases hl : (t.settle m).ents.length ≤ (t.settle m).nx
  · exact rtstep_over w T3 hf hg hm hp h3 hl
  · exact rtstep_on w T3 hf hg hm hp h3 hl
theorem rtfinish_rep (w : World) (T3 : Three l i j k) (hf : Fam w0 w (QL l i j k q r b m t)) (hg : t.Good m) (hm : m.Ok) : Calls Tryz.prog 16 #[.pointer (some ⟨b, 0, none⟩), .pointer (some ⟨r, 0, none⟩)] w (fun e w' => e = .returned (.tuple #[.int .i64 (t.finish m).1, .int .i64 (t.finish m).2.1]) ∧ Fam w0 w' (QL l i j k q r b (t.finish m).2.2.2 (t.finish m).2.2.1)) := by
  refine calls_abs fun R hR => ?_
  obtain ⟨ev, qv, wv, nx, wl, ht⟩ := QL.tr T3 hf
  obtain ⟨z0, z1, z2, z3, z4, zf⟩ := ht.cells
  have HF := Lib.hid hf
  unfold Tb.finish at hR
  by_cases hp : t.ph = 0
  · rw [if_pos hp] at hR
    rw [hp] at z2
    replace z2 : w.cell? ⟨b, 2, none⟩ = some (.int .i64 0) := z2
    clear hf hg hm hp ht z0 z1 z3 z4 zf
    go_enter Tryz.func16, Tryz.ntmps16
    go_wp2_with fail
    exact hR.out _ _ ⟨rfl, HF.out⟩
  · rw [if_neg hp] at hR
    have hp0 : ((t.ph : Int) == 0) = false := by rw [beq_eq_false_iff_ne]; omega
    have HS := Lib.hid (Tb.fins_spec hg hm hp)
    have HST : Hid (∀ k, (Tb.steps k (t, m)).1.Good (Tb.steps k (t, m)).2 ∧ (Tb.steps k (t, m)).2.Ok ∧ (Tb.steps k (t, m)).2.M = m.M) := fun k => hg.steps hm k
    have HON : Hid (∀ k, (∀ j, j < k → ¬ Tb.over (Tb.steps j (t, m))) → (Tb.steps k (t, m)).1.ph ≠ 0) := fun k hk => (Tb.steps_on hg hm hp k hk).1
    clear hf hg hm hp ht z0 z1 z3 z4 zf
    generalize t.ph = ph at *
    go_enter Tryz.func16, Tryz.ntmps16
    go_wp2_with fail
    clear z2 hp0
    go_loopw [6] (fun iv wr => ∃ n : Nat, n ≤ t.fins m ∧ iv = .int .i64 n ∧ Fam w0 wr (QL l i j k q r b (Tb.steps n (t, m)).2 (Tb.steps n (t, m)).1)) (fun iv _ => t.fins m - (intOf iv).toNat)
    case atStart => exact ⟨0, by omega, rfl, HF.out⟩
    case round =>
      clear HF
      obtain ⟨n, hn, rfl, hf⟩ := hrel
      obtain ⟨h1, h2, h1500⟩ := HS.out
      obtain ⟨hg, hm, _⟩ := HST.out n
      have hph := HON.out n (fun j hj => h2 j (by omega))
      have c := rtstep_rep wr T3 hf hg hm
      have hk := (hg.step hm).2.2.2 hph
      by_cases hlt : n < t.fins m
      · have hno := h2 n hlt
        have he : ((Tb.steps n (t, m)).1.step (Tb.steps n (t, m)).2).2.2.1 = 0 := Classical.not_not.1 hno
        have HNX : Hid ((Tb.steps (n + 1) (t, m)) = (((Tb.steps n (t, m)).1.step (Tb.steps n (t, m)).2).2.2.2.1, ((Tb.steps n (t, m)).1.step (Tb.steps n (t, m)).2).2.2.2.2)) := rfl
        rw [he] at c
        clear hf hg hm hph hk hno he h1 h2
        generalize (Tb.steps n (t, m)).1.step (Tb.steps n (t, m)).2 = rr at *
        obtain ⟨r1, r2, r3, r4, r5⟩ := rr
        generalize t.fins m = fi at *
        go_wp2_with fail
        refine c.mono ?_
        rintro e w2 ⟨rfl, hf⟩
        have HF2 : Hid (Fam w0 w2 (QL l i j k q r b (Tb.steps (n + 1) (t, m)).2 (Tb.steps (n + 1) (t, m)).1)) := by rw [HNX.out]; exact hf
        clear c hf
        go_wp2_with fail
        exact ⟨⟨n + 1, by omega, by go_num, HF2.out⟩, by simp [intOf]; omega⟩
      · obtain rfl : n = t.fins m := by omega
        have he : ((Tb.steps (t.fins m) (t, m)).1.step (Tb.steps (t.fins m) (t, m)).2).2.2.1 = 3 := by
          rcases hk with hk | hk
          · exact absurd hk.1 h1
          · exact hk.1
        have HNX : Hid ((Tb.steps (t.fins m + 1) (t, m)) = (((Tb.steps (t.fins m) (t, m)).1.step (Tb.steps (t.fins m) (t, m)).2).2.2.2.1, ((Tb.steps (t.fins m) (t, m)).1.step (Tb.steps (t.fins m) (t, m)).2).2.2.2.2)) := rfl
        rw [he] at c
        clear hf hg hm hph hk he h1 h2 hlt
        generalize (Tb.steps (t.fins m) (t, m)).1.step (Tb.steps (t.fins m) (t, m)).2 = rr at *
        obtain ⟨r1, r2, r3, r4, r5⟩ := rr
        generalize t.fins m = fi at *
        go_wp2_with fail
        refine c.mono ?_
        rintro e w2 ⟨rfl, hf⟩
        have HF2 : Hid (Fam w0 w2 (QL l i j k q r b (Tb.steps (fi + 1) (t, m)).2 (Tb.steps (fi + 1) (t, m)).1)) := by rw [HNX.out]; exact hf
        clear c hf
        go_wp2_with fail
        exact hR.out _ _ ⟨rfl, HF2.out⟩
end
end Go.Proofs.YthflghdaejbdkaaGreat
namespace Go.Proofs.YthflghdaejbdkaaGreat
open Go.RowKit Go.Maps
set_option maxHeartbeats 6400000
set_option maxRecDepth 100000
set_option linter.unusedVariables false
def listF (n : Nat) (f : Nat → Int) : List Int := (List.range n).map f
theorem listF_at {n : Nat} {f : Nat → Int} {i : Nat} (h : i < n) : gI (listF n f) i = f i := by
  unfold gI listF
  rw [List.getElem?_map, List.getElem?_range h]
  rfl
theorem numsRead {w : World} {a : Option Addr} {len cap : Nat} {f : Nat → Int} (h : Nums w a len f) : Read w (.slice a len cap) (listF len f) := by
  have hl : (listF len f).length = len := by simp [listF]
  rcases h.2 with h | ⟨b, o, e, hc⟩
  · subst h
    exact .inr ⟨a, cap, rfl, rfl⟩
  · refine .inl ⟨b, o, cap, by rw [hl, e], fun i hi => ?_⟩
    rw [hl] at hi
    rw [listF_at hi]
    exact (hc i hi).1
theorem numsWf {w : World} {a : Option Addr} {len : Nat} {f : Nat → Int} (h : Nums w a len f) : ∀ x, x ∈ listF len f → wfI x := by
  intro x hx
  obtain ⟨i, hi, rfl⟩ := mem_gI.1 hx
  have hl : (listF len f).length = len := by simp [listF]
  rw [hl] at hi
  rw [listF_at hi]
  rcases h.2 with h | ⟨b, o, e, hc⟩
  · omega
  · exact (hc i hi).2
end Go.Proofs.YthflghdaejbdkaaGreat
namespace Go.Proofs.YthflghdaejbdkaaGreat
open Go.RowKit Go.Maps
set_option maxHeartbeats 12800000
set_option maxRecDepth 100000
set_option linter.unusedVariables false
end Go.Proofs.YthflghdaejbdkaaGreat
namespace Go.Proofs.YthflghdaejbdkaaGreat
open Go.RowKit Go.Maps
set_option maxHeartbeats 12800000
set_option maxRecDepth 100000
set_option linter.unusedVariables false
theorem barg_nil (w : World) : BArg w (.slice none 0 0) [] := .inl ⟨rfl, rfl⟩
def FB (hb q p r : Nat) (m : Mk) : List Asn := [PH hb m.M, GH q m.M, MkA p hb m.col m.list, GkA r q m.col m.list]
end Go.Proofs.YthflghdaejbdkaaGreat
