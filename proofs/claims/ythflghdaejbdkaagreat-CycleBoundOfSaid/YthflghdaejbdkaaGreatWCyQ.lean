/- Lemmas of this claim. -/
import Derived.Test.YthflghdaejbdkaaGreatWCyP
namespace Go.Proofs.YthflghdaejbdkaaGreat
open Go.RowKit Go.Maps
set_option maxHeartbeats 6400000
set_option maxRecDepth 100000
set_option linter.unusedVariables false
def CDid (w0 : World) (l : List Asn) (b : Nat) (r : Int × Co) (e : Ending) (w' : World) : Prop := e = .returned (.int .i64 r.1) ∧ ∃ x' : CX, x'.ok r.2 ∧ Fam w0 w' (C5 b r.2 x' ++ l)
section
variable {w0 w : World} {l : List Asn} {b : Nat} {c : Co} {x : CX} {i : Nat}
theorem C5.alloc (hf : Fam w0 w (C5 b c x ++ l)) (o : Obj) : Fam w0 (w.alloc o) (C5 b c x ++ l) := Fam.alloc hf o
theorem C5.setPh (hf : Fam w0 w (C5 b c x ++ l)) (n : Nat) : Fam w0 (w.setCell ⟨b, 5, none⟩ (.int .i64 (n : Int))) (C5 b { c with ph := n } x ++ l) := hf.setRowC 4 rfl 5 _
theorem C5.setCr (hf : Fam w0 w (C5 b c x ++ l)) (n : Int) : Fam w0 (w.setCell ⟨b, 6, none⟩ (.int .i64 n)) (C5 b { c with cr := n } x ++ l) := hf.setRowC 4 rfl 6 _
theorem C5.setOv (hf : Fam w0 w (C5 b c x ++ l)) (v : Bool) : Fam w0 (w.setCell ⟨b, 7, none⟩ (.bool v)) (C5 b c { x with ov := v } ++ l) := hf.setRowC 4 rfl 7 _
theorem C5.setMv (hf : Fam w0 w (C5 b c x ++ l)) (n : Nat) : Fam w0 (w.setCell ⟨b, 9, none⟩ (.int .i64 (n : Int))) (C5 b c { x with mv := n } ++ l) := hf.setRowC 4 rfl 9 _
theorem C5.setSw {w1 : World} (hf : Fam w0 w (C5 b c x ++ l)) (ho : Only [] w w1) {v : Value} {s : List Int} (hi : Ints w1 w.heap.size v s) : Fam w0 (w1.setCell ⟨b, 8, none⟩ v) (C5 b { c with sw := s } { x with sv := v } ++ l) := by
  have h1 : Fam w0 w1 ((C5 b c x ++ l) ++ [IntsA v s]) := hf.addInts ho hi
  have h2 := h1.setRowC 4 rfl 8 v
  have hl5 : (C5 b c x ++ l).length = 5 + l.length := by rw [List.length_append]; rfl
  refine h2.selC (fun k => if k = 3 then 5 + l.length else k) (fun k A hk => ?_) (fun j k hj hk hne => ?_)
  · by_cases e : k = 3
    · rw [if_pos e]
      subst e
      have e2 : A = IntsA v s := by
        have h3 : (C5 b { c with sw := s } { x with sv := v } ++ l)[3]? = some (IntsA v s) := rfl
        rw [h3] at hk
        exact (Option.some.inj hk).symm
      rw [e2, List.getElem?_set_ne (by omega), List.getElem?_append_right (by omega), show 5 + l.length - (C5 b c x ++ l).length = 0 by omega]
      rfl
    · rw [if_neg e]
      have hlt := (List.getElem?_eq_some_iff.1 hk).1
      have hlen : (C5 b { c with sw := s } { x with sv := v } ++ l).length = 5 + l.length := by rw [List.length_append]; rfl
      by_cases e4 : k = 4
      · subst e4
        have h3 : (C5 b { c with sw := s } { x with sv := v } ++ l)[4]? = some (RowA b 142 (CRow b { c with sw := s } { x with sv := v })) := rfl
        rw [h3] at hk
        rw [← Option.some.inj hk]
        rw [List.getElem?_set_self (by rw [List.length_append, hl5]; omega)]
        rfl
      · rw [List.getElem?_set_ne (fun e => e4 e.symm), List.getElem?_append_left (by omega)]
        rw [← hk]
        match k, e, e4 with
        | 0, _, _ => rfl
        | 1, _, _ => rfl
        | 2, _, _ => rfl
        | k + 5, _, _ => rfl
  · have hlen : (C5 b { c with sw := s } { x with sv := v } ++ l).length = 5 + l.length := by rw [List.length_append]; rfl
    rw [hlen] at hj hk
    by_cases e : j = 3
    · rw [if_pos e]
      by_cases e2 : k = 3
      · omega
      · rw [if_neg e2]; omega
    · rw [if_neg e]
      by_cases e2 : k = 3
      · rw [if_pos e2]; omega
      · rw [if_neg e2]; exact hne
theorem C5.last {g T : Nat} {cs : List Value} (hf : Fam w0 w (C5 b c x ++ (l ++ [RowA g T cs]))) : Row w g T cs := by
  refine hf.row (5 + l.length) ?_
  have h5 : (C5 b c x).length = 5 := rfl
  rw [List.getElem?_append_right (by omega), List.getElem?_append_right (by omega), show 5 + l.length - (C5 b c x).length - l.length = 0 by omega]
  rfl
theorem step_wf {m : Mk} (h : m.Ok) : wfI m.step.1 := by
  unfold Mk.step
  cases e : m.list with
  | nil => show wfI 0; exact wfI_mk (by decide)
  | cons y t =>
    show wfI y
    have := h.inR (x := y) (by rw [e]; simp)
    exact wfI_mk (by omega)
theorem wf192 {y : Int} (h : 1 ≤ y ∧ y ≤ 192) : wfI y := wfI_mk (by omega)
theorem markdo_rep (w : World) (hf : Fam w0 w (C5 b c x ++ l)) (hx : x.ok c) (hm : c.m.Ok) : Calls Tryz.prog 298 #[.agg #[], .pointer (some ⟨b, 0, none⟩)] w (CDid w0 l b c.mark) := by
  refine calls_abs fun R hR => ?_
  have HF := Lib.hid hf
  have HM := Lib.hid hm
  have HX := Lib.hid hx
  have HW := Lib.hid (step_wf hm)
  have hlr := len_range (by have := hm.hf.ok; rw [← Mk.step_M (m := c.m)] at this; exact this : c.m.step.2.2.M.Ok) c.m.step.1
  have HR : Hid (∀ w', Fam w0 w' (C5 b (c.setM c.m.step.2.2) x ++ l) → R (.returned (.int .i64 (1 + c.m.step.2.2.M.len c.m.step.1))) w') := fun w' h => hR.out _ _ ⟨by show _ = Ending.returned (.int .i64 (1 + c.m.M.len c.m.step.1)); rw [← Mk.step_M (m := c.m)], x, ⟨hx.ov, hx.mv, hx.mv2⟩, h⟩
  clear hR hf hm hx
  go_enter Tryz.func298, Tryz.ntmps298
  go_upto_region 1 with fail
  have F1 := Lib.hid (C5.alloc HF.out (.cells #[] 157))
  obtain ⟨_, _, _, _, x4, _⟩ := CRow.cells F1.out
  have cs := mstep_rep _ (C5.t2 (b := b) (c := c) (x := x) (l := l)) (hb := x.hb) (p := x.p) F1.out HM.out
  generalize w.alloc (.cells #[] 157) = w1 at *
  go_wp2_with fail
  refine cs.mono ?_
  rintro e w2 ⟨rfl, hf⟩
  have F2 : Hid (Fam w0 w2 (C5 b (c.setM c.m.step.2.2) x ++ l)) := hf
  have cl := clength_rep w2 F2.out c.m.step.1 HW.out
  replace cl : Calls Tryz.prog 114 #[.pointer (some ⟨b, 0, none⟩), .int .i64 c.m.step.1] w2 (Same w2 (.int .i64 (c.m.step.2.2.M.len c.m.step.1))) := cl
  clear cs hf x4 F1
  generalize c.m.step.2.2.M.len c.m.step.1 = n at *
  go_wp2_with fail
  refine cl.mono ?_
  rintro e _ ⟨rfl, k, rfl⟩
  have F3 := Lib.hid (F2.out.drewN k)
  clear cl F2
  go_wp2_with fail
  exact HR.out _ F3.out
theorem hset_rep (w : World) (hf : Fam w0 w (C5 b c x ++ l)) (h s v : Int) (hh : wfI h) (hv : wfI v) : Calls Tryz.prog 127 #[.pointer (some ⟨x.hb, 0, none⟩), .int .i64 h, .int .i64 s, .int .i64 v] w (fun e w' => e = .returned (.int .i64 (c.m.M.set h s v).1) ∧ Fam w0 w' (C5 b (c.setM (c.m.put (c.m.M.set h s v).2)) x ++ l)) :=
  hf.pstep 0 rfl (M' := (c.m.M.set h s v).2) (fun hk => hk.set h s v) (fun L X hr hk => set_rep w hr hk h s v hh hv)
theorem cblank_rep (w : World) (hf : Fam w0 w (C5 b c x ++ l)) (h : Int) (hh : wfI h) : Calls Tryz.prog 304 #[.pointer (some ⟨b, 0, none⟩), .int .i64 h] w (fun e w' => e = .returned (.tuple #[]) ∧ Fam w0 w' (C5 b (c.setM (c.m.put (c.m.M.blank h))) x ++ l)) := by
  refine calls_abs fun R hR => ?_
  have HF := Lib.hid hf
  have HW := Lib.hid hh
  have cl := clength_rep w hf h hh
  have hlr := len_range (C5.ph hf).1 h
  obtain ⟨n, hn⟩ : ∃ n : Nat, c.m.M.len h = (n : Int) := ⟨(c.m.M.len h).toNat, by omega⟩
  have HB : Hid (c.m.M.blank h = c.m.M.blankS h n) := by show _ = _; unfold Hp.blank; rw [hn]; rfl
  rw [hn] at cl hlr
  rw [HB.out] at hR
  clear hf hh hn HB
  go_enter Tryz.func304, Tryz.ntmps304
  go_wp2_with fail
  refine cl.mono ?_
  rintro e _ ⟨rfl, k0, rfl⟩
  have F1 := Lib.hid (HF.out.drewN k0)
  generalize w.drewN k0 = w1 at *
  clear cl HF
  go_wp2_with fail
  go_loopw [10] (fun iv wr => ∃ k : Nat, k ≤ n ∧ iv = .int .i64 k ∧ Fam w0 wr (C5 b (c.setM (c.m.put (c.m.M.blankS h k))) x ++ l)) (fun iv _ => n - (intOf iv).toNat)
  case atStart => exact ⟨0, by omega, rfl, F1.out⟩
  case round => as_aux_lemma =>
    clear F1
    obtain ⟨k, hk, rfl, hf⟩ := hrel
    have HF := Lib.hid hf
    by_cases hlt : k < n
    · have hlt1 : (k : Int) < (n : Int) := by omega
      obtain ⟨_, _, x2, _⟩ := CRow.cells hf
      obtain ⟨hok, L, X, hp⟩ := C5.ph hf
      have c1 := isRef_rep wr hp hok h (k : Int) HW.out
      have HB : Hid (c.m.M.blankS h (k + 1) = if ((c.m.M.blankS h k).isRef h (k : Int)).1 = true then ((c.m.M.blankS h k).set h (k : Int) 0).2 else c.m.M.blankS h k) := rfl
      have c2 := hset_rep wr hf h (k : Int) 0 HW.out (wfI_mk (by decide))
      replace c1 : Calls Tryz.prog 125 #[.pointer (some ⟨x.hb, 0, none⟩), .int .i64 h, .int .i64 (k : Int)] wr (Exact wr (.tuple #[.bool ((c.m.M.blankS h k).isRef h (k : Int)).1, .int .i64 ((c.m.M.blankS h k).isRef h (k : Int)).2])) := c1
      replace c2 : Calls Tryz.prog 127 #[.pointer (some ⟨x.hb, 0, none⟩), .int .i64 h, .int .i64 (k : Int), .int .i64 0] wr (fun e w' => e = .returned (.int .i64 ((c.m.M.blankS h k).set h (k : Int) 0).1) ∧ Fam w0 w' (C5 b (c.setM (c.m.put ((c.m.M.blankS h k).set h (k : Int) 0).2)) x ++ l)) := c2
      clear hf hok hp
      cases hr : ((c.m.M.blankS h k).isRef h (k : Int)).1 with
      | true =>
        rw [hr] at c1
        have HB2 : Hid (c.m.M.blankS h (k + 1) = ((c.m.M.blankS h k).set h (k : Int) 0).2) := by show _ = _; rw [HB.out, if_pos hr]
        rw [← HB2.out] at c2
        clear HB HB2 hr
        generalize ((c.m.M.blankS h k).isRef h (k : Int)).2 = y1 at *
        generalize ((c.m.M.blankS h k).set h (k : Int) 0).1 = y2 at *
        go_wp2_with fail
        refine c1.mono ?_
        rintro e _ ⟨rfl, rfl⟩
        clear c1
        go_wp2_with fail
        refine c2.mono ?_
        rintro e w2 ⟨rfl, hf⟩
        have F2 := Lib.hid hf
        clear c2 hf HF x2
        go_wp2_with fail
        exact ⟨⟨k + 1, by omega, by go_num, F2.out⟩, by simp [intOf]; omega⟩
      | false =>
        rw [hr] at c1
        have HB2 : Hid (c.m.M.blankS h (k + 1) = c.m.M.blankS h k) := by show _ = _; rw [HB.out, if_neg (by rw [hr]; decide)]
        clear c2 HB hr
        generalize ((c.m.M.blankS h k).isRef h (k : Int)).2 = y1 at *
        go_wp2_with fail
        refine c1.mono ?_
        rintro e _ ⟨rfl, rfl⟩
        clear c1
        go_wp2_with fail
        exact ⟨⟨k + 1, by omega, by go_num, by rw [HB2.out]; exact HF.out⟩, by simp [intOf]; omega⟩
    · obtain rfl : k = n := by omega
      have hlt1 : ¬ (k : Int) < (k : Int) := by omega
      clear hf
      go_wp2_with fail
      go_end0
      exact hR.out _ _ ⟨rfl, HF.out⟩
theorem begins2_rep (w : World) (hf : Fam w0 w (C5 b c x ++ l)) (hx : x.ok c) (h : c.Okc) (hp : c.ph = 1) (hl : c.m.list = []) : Calls Tryz.prog 302 #[.agg #[.int .i64 2], .pointer (some ⟨b, 0, none⟩)] w (CDid w0 l b c.refsB) := by
  refine calls_abs fun R hR => ?_
  have F0 : Hid (Fam w0 (w.alloc (.cells #[.int .i64 2] 163)) (C5 b c x ++ (l ++ [RowA w.heap.size 163 [.int .i64 2]]))) := hf.addRow 163 [.int .i64 2]
  have HG := Lib.hid h.tg
  have hb := Pst.begin h.tg (h.mo (.inl hp)) (h.t0 (by omega)) hl
  have hmv2 := hx.mv2
  have HR : Hid (∀ w', Fam w0 w' (C5 b c.refsB.2 { x with ov := false } ++ l) → R (.returned (.int .i64 1)) w') := fun w' h2 => hR.out _ _ ⟨rfl, { x with ov := false }, ⟨fun _ => (decide_eq_false hb.1).symm, fun e => by (cases e), hmv2⟩, h2⟩
  clear hf h hb hl hp hR hx hmv2
  go_enter Tryz.func302, Tryz.ntmps302
  go_upto_region 1 with fail
  obtain ⟨g, hg⟩ : ∃ g, g = w.heap.size := ⟨_, rfl⟩
  rw [← hg] at F0 ⊢
  have r0 := C5.last F0.out
  have y0 := r0.cell 0 rfl
  obtain ⟨_, _, _, _, _, _, _, _, _, _, xf⟩ := CRow.cells F0.out
  have x5f := xf 5
  have F1 : Hid (Fam w0 ((w.alloc (.cells #[.int .i64 2] 163)).setCell ⟨b, 5, none⟩ (.int .i64 2)) (C5 b { c with ph := 2 } x ++ (l ++ [RowA g 163 [.int .i64 2]]))) := C5.setPh F0.out 2
  have r1 := C5.last F1.out
  have y1 := r1.cell 0 rfl
  have x7f := (CRow.cells F1.out).2.2.2.2.2.2.2.2.2.2 7
  have F2 : Hid (Fam w0 (((w.alloc (.cells #[.int .i64 2] 163)).setCell ⟨b, 5, none⟩ (.int .i64 2)).setCell ⟨b, 7, none⟩ (.bool false)) (C5 b { c with ph := 2 } { x with ov := false } ++ (l ++ [RowA g 163 [.int .i64 2]]))) := C5.setOv F1.out false
  generalize w.alloc (.cells #[.int .i64 2] 163) = w1 at *
  clear r0 r1 xf hg
  go_upto_region 5 with fail
  generalize (w1.setCell ⟨b, 5, none⟩ (.int .i64 2)).setCell ⟨b, 7, none⟩ (.bool false) = w2 at *
  clear y0 y1 x5f x7f F0 F1
  have HC : Hid (∀ wx, Fam w0 wx (C5 b { c with ph := 2 } { x with ov := false } ++ (l ++ [RowA g 163 [.int .i64 2]])) → Calls Tryz.prog 20 #[.pointer (some ⟨x.tb, 0, none⟩), .pointer (some ⟨x.p, 0, none⟩)] wx (fun e w' => e = .returned (.int .i64 (c.t.begin c.m).1) ∧ Fam w0 w' (C5 b { c with ph := 2, t := (c.t.begin c.m).2 } { x with ov := false } ++ (l ++ [RowA g 163 [.int .i64 2]])))) := fun wx hx => tbegin_rep wx (C5.t3 (b := b) (c := { c with ph := 2 }) (x := { x with ov := false })) (hb := x.hb) (p := x.p) (b := x.tb) (m := c.m) (t := c.t) hx HG.out
  go_region_held3 (fun w' => w'.cell? ⟨b, 3, none⟩ = some (.pointer (some ⟨x.tb, 0, none⟩)) ∧ w'.cell? ⟨b, 4, none⟩ = some (.pointer (some ⟨x.p, 0, none⟩)))
    (first | (exact ⟨(C5.row F2.out).cell 3 rfl, (C5.row F2.out).cell 4 rfl⟩) | (exact ⟨(C5.row f3).cell 3 rfl, (C5.row f3).cell 4 rfl⟩))
    (first | (go_at_call 20; refine (HC.out _ F2.out.drew).mono ?_; rintro e w3 ⟨rfl, f3⟩))
  have F3 : Hid (Fam w0 w3 (C5 b c.refsB.2 { x with ov := false } ++ l)) := by
    have f4 : Fam w0 w3 ((C5 b { c with ph := 2, t := (c.t.begin c.m).2 } { x with ov := false } ++ l) ++ [RowA g 163 [.int .i64 2]]) := f3
    exact f4.pop
  clear f3 HC F2
  go_wp2_with fail
  exact HR.out _ F3.out
end
end Go.Proofs.YthflghdaejbdkaaGreat
