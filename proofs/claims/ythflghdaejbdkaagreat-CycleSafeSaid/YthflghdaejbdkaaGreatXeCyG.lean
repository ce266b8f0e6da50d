/- Lemmas of this claim. -/
import Derived.Test.YthflghdaejbdkaaGreatXeCyP
import Derived.Test.YthflghdaejbdkaaGreatXeTbPC
import Derived.Test.YthflghdaejbdkaaGreatXeOFam
import Derived.Deep.RegionLaw
import Derived.Test.YthflghdaejbdkaaGreatXeTbGood
import Derived.Deep.Upon
import Derived.Test.YthflghdaejbdkaaGreatXeCyGiv
namespace Go.Proofs.YthflghdaejbdkaaGreat
open Go.RowKit Go.Maps
set_option maxHeartbeats 6400000
set_option maxRecDepth 100000
set_option linter.unusedVariables false
def CDid (w0 : World) (l : List Asn) (b : Nat) (r : Int × Co) (e : Ending) (w' : World) : Prop := e = .returned (.int .i64 r.1) ∧ ∃ x' : CX, x'.ok r.2 ∧ Fam w0 w' (C5 b r.2 x' ++ l)
section
variable {w0 w : World} {l : List Asn} {b : Nat} {c : Co} {x : CX} {i : Nat}
theorem C5.alloc (hf : Fam w0 w (C5 b c x ++ l)) (o : Obj) : Fam w0 (w.alloc o) (C5 b c x ++ l) := Fam.alloc hf o
theorem C5.setPh (hf : Fam w0 w (C5 b c x ++ l)) (n : Nat) : Fam w0 (w.setCell ⟨b, 5, none⟩ (.int .i64 (n : Int))) (C5 b { c with ph := n } x ++ l) := hf.setRowC 4 rfl 5 _
theorem C5.setCr (hf : Fam w0 w (C5 b c x ++ l)) (n : Int) : Fam w0 (w.setCell ⟨b, 6, none⟩ (.int .i64 n)) (C5 b { c with cr := n } x ++ l) := hf.setRowC 4 rfl 6 _
theorem C5.setOv (hf : Fam w0 w (C5 b c x ++ l)) (v : Bool) : Fam w0 (w.setCell ⟨b, 7, none⟩ (.bool v)) (C5 b c { x with ov := v } ++ l) := hf.setRowC 4 rfl 7 _
theorem C5.setMv (hf : Fam w0 w (C5 b c x ++ l)) (n : Nat) : Fam w0 (w.setCell ⟨b, 9, none⟩ (.int .i64 (n : Int))) (C5 b c { x with mv := n } ++ l) := hf.setRowC 4 rfl 9 _
theorem C5.setSw {w1 : World} (hf : Fam w0 w (C5 b c x ++ l)) (ho : Only [] w w1) {v : Value} {s : List Int} (hi : Ints w1 w.heap.size v s) : Fam w0 (w1.setCell ⟨b, 8, none⟩ v) (C5 b { c with sw := s } { x with sv := v } ++ l) := by
  have h1 : Fam w0 w1 ((C5 b c x ++ l) ++ [IntsA v s]) := hf.addInts ho hi
  have h2 := h1.setRowC 4 rfl 8 v
  have hl5 : (C5 b c x ++ l).length = 5 + l.length := by rw [List.length_append]; rfl
  refine h2.selC (fun k => if k = 3 then 5 + l.length else k) (fun k A hk => ?_) (fun j k hj hk hne => ?_)
  · by_cases e : k = 3
    · rw [if_pos e]
      subst e
      have e2 : A = IntsA v s := by
        have h3 : (C5 b { c with sw := s } { x with sv := v } ++ l)[3]? = some (IntsA v s) := rfl
        rw [h3] at hk
        exact (Option.some.inj hk).symm
      rw [e2, List.getElem?_set_ne (by omega), List.getElem?_append_right (by omega), show 5 + l.length - (C5 b c x ++ l).length = 0 by omega]
      rfl
    · rw [if_neg e]
      have hlt := (List.getElem?_eq_some_iff.1 hk).1
      have hlen : (C5 b { c with sw := s } { x with sv := v } ++ l).length = 5 + l.length := by rw [List.length_append]; rfl
      by_cases e4 : k = 4
      · subst e4
        have h3 : (C5 b { c with sw := s } { x with sv := v } ++ l)[4]? = some (RowA b 142 (CRow b { c with sw := s } { x with sv := v })) := rfl
        rw [h3] at hk
        rw [← Option.some.inj hk]
        rw [List.getElem?_set_self (by rw [List.length_append, hl5]; omega)]
        rfl
      · rw [List.getElem?_set_ne (fun e => e4 e.symm), List.getElem?_append_left (by omega)]
        rw [← hk]
        match k, e, e4 with
        | 0, _, _ => rfl
        | 1, _, _ => rfl
        | 2, _, _ => rfl
        | k + 5, _, _ => rfl
  · have hlen : (C5 b { c with sw := s } { x with sv := v } ++ l).length = 5 + l.length := by rw [List.length_append]; rfl
    rw [hlen] at hj hk
    by_cases e : j = 3
    · rw [if_pos e]
      by_cases e2 : k = 3
      · omega
      · rw [if_neg e2]; omega
    · rw [if_neg e]
      by_cases e2 : k = 3
      · rw [if_pos e2]; omega
      · rw [if_neg e2]; exact hne
theorem C5.last {g T : Nat} {cs : List Value} (hf : Fam w0 w (C5 b c x ++ (l ++ [RowA g T cs]))) : Row w g T cs := by
  refine hf.row (5 + l.length) ?_
  have h5 : (C5 b c x).length = 5 := rfl
  rw [List.getElem?_append_right (by omega), List.getElem?_append_right (by omega), show 5 + l.length - (C5 b c x).length - l.length = 0 by omega]
  rfl
theorem step_wf {m : Mk} (h : m.Ok) : wfI m.step.1 := by
  unfold Mk.step
  cases e : m.list with
  | nil => show wfI 0; exact wfI_mk (by decide)
  | cons y t =>
    show wfI y
    have := h.inR (x := y) (by rw [e]; simp)
    exact wfI_mk (by omega)
theorem wf192 {y : Int} (h : 1 ≤ y ∧ y ≤ 192) : wfI y := wfI_mk (by omega)
theorem markdo_rep (w : World) (hf : Fam w0 w (C5 b c x ++ l)) (hx : x.ok c) (hm : c.m.Ok) : Calls Tryz.prog 298 #[.agg #[], .pointer (some ⟨b, 0, none⟩)] w (CDid w0 l b c.mark) := by
  refine calls_abs fun R hR => ?_
  have HF := Lib.hid hf
  have HM := Lib.hid hm
  have HX := Lib.hid hx
  have HW := Lib.hid (step_wf hm)
  have hlr := len_range (by have := hm.hf.ok; rw [← Mk.step_M (m := c.m)] at this; exact this : c.m.step.2.2.M.Ok) c.m.step.1
  have HR : Hid (∀ w', Fam w0 w' (C5 b (c.setM c.m.step.2.2) x ++ l) → R (.returned (.int .i64 (1 + c.m.step.2.2.M.len c.m.step.1))) w') := fun w' h => hR.out _ _ ⟨by show _ = Ending.returned (.int .i64 (1 + c.m.M.len c.m.step.1)); rw [← Mk.step_M (m := c.m)], x, ⟨hx.ov, hx.mv, hx.mv2⟩, h⟩
  clear hR hf hm hx
  go_enter Tryz.func298, Tryz.ntmps298
  go_upto_region 1 with fail
  have F1 := Lib.hid (C5.alloc HF.out (.cells #[] 157))
  obtain ⟨_, _, _, _, x4, _⟩ := CRow.cells F1.out
  have cs := mstep_rep _ (C5.t2 (b := b) (c := c) (x := x) (l := l)) (hb := x.hb) (p := x.p) F1.out HM.out
  generalize w.alloc (.cells #[] 157) = w1 at *
  go_wp2_with fail
  refine cs.mono ?_
  rintro e w2 ⟨rfl, hf⟩
  have F2 : Hid (Fam w0 w2 (C5 b (c.setM c.m.step.2.2) x ++ l)) := hf
  have cl := clength_rep w2 F2.out c.m.step.1 HW.out
  replace cl : Calls Tryz.prog 114 #[.pointer (some ⟨b, 0, none⟩), .int .i64 c.m.step.1] w2 (Same w2 (.int .i64 (c.m.step.2.2.M.len c.m.step.1))) := cl
  clear cs hf x4 F1
  generalize c.m.step.2.2.M.len c.m.step.1 = n at *
  go_wp2_with fail
  refine cl.mono ?_
  rintro e _ ⟨rfl, k, rfl⟩
  have F3 := Lib.hid (F2.out.drewN k)
  clear cl F2
  go_wp2_with fail
  exact HR.out _ F3.out
theorem hset_rep (w : World) (hf : Fam w0 w (C5 b c x ++ l)) (h s v : Int) (hh : wfI h) (hv : wfI v) : Calls Tryz.prog 127 #[.pointer (some ⟨x.hb, 0, none⟩), .int .i64 h, .int .i64 s, .int .i64 v] w (fun e w' => e = .returned (.int .i64 (c.m.M.set h s v).1) ∧ Fam w0 w' (C5 b (c.setM (c.m.put (c.m.M.set h s v).2)) x ++ l)) :=
  hf.pstep 0 rfl (M' := (c.m.M.set h s v).2) (fun hk => hk.set h s v) (fun L X hr hk => set_rep w hr hk h s v hh hv)
theorem cblank_rep (w : World) (hf : Fam w0 w (C5 b c x ++ l)) (h : Int) (hh : wfI h) : Calls Tryz.prog 304 #[.pointer (some ⟨b, 0, none⟩), .int .i64 h] w (fun e w' => e = .returned (.tuple #[]) ∧ Fam w0 w' (C5 b (c.setM (c.m.put (c.m.M.blank h))) x ++ l)) := by
  refine calls_abs fun R hR => ?_
  have HF := Lib.hid hf
  have HW := Lib.hid hh
  have cl := clength_rep w hf h hh
  have hlr := len_range (C5.ph hf).1 h
  obtain ⟨n, hn⟩ : ∃ n : Nat, c.m.M.len h = (n : Int) := ⟨(c.m.M.len h).toNat, by omega⟩
  have HB : Hid (c.m.M.blank h = c.m.M.blankS h n) := by show _ = _; unfold Hp.blank; rw [hn]; rfl
  rw [hn] at cl hlr
  rw [HB.out] at hR
  clear hf hh hn HB
  go_enter Tryz.func304, Tryz.ntmps304
  go_wp2_with fail
  refine cl.mono ?_
  rintro e _ ⟨rfl, k0, rfl⟩
  have F1 := Lib.hid (HF.out.drewN k0)
  generalize w.drewN k0 = w1 at *
  clear cl HF
  go_wp2_with fail
  go_loopw [10] (fun iv wr => ∃ k : Nat, k ≤ n ∧ iv = .int .i64 k ∧ Fam w0 wr (C5 b (c.setM (c.m.put (c.m.M.blankS h k))) x ++ l)) (fun iv _ => n - (intOf iv).toNat)
  case atStart => exact ⟨0, by omega, rfl, F1.out⟩
  case round => as_aux_lemma =>
    clear F1
    obtain ⟨k, hk, rfl, hf⟩ := hrel
    have HF := Lib.hid hf
    by_cases hlt : k < n
    · have hlt1 : (k : Int) < (n : Int) := by omega
      obtain ⟨_, _, x2, _⟩ := CRow.cells hf
      obtain ⟨hok, L, X, hp⟩ := C5.ph hf
      have c1 := isRef_rep wr hp hok h (k : Int) HW.out
      have HB : Hid (c.m.M.blankS h (k + 1) = if ((c.m.M.blankS h k).isRef h (k : Int)).1 = true then ((c.m.M.blankS h k).set h (k : Int) 0).2 else c.m.M.blankS h k) := rfl
      have c2 := hset_rep wr hf h (k : Int) 0 HW.out (wfI_mk (by decide))
      replace c1 : Calls Tryz.prog 125 #[.pointer (some ⟨x.hb, 0, none⟩), .int .i64 h, .int .i64 (k : Int)] wr (Exact wr (.tuple #[.bool ((c.m.M.blankS h k).isRef h (k : Int)).1, .int .i64 ((c.m.M.blankS h k).isRef h (k : Int)).2])) := c1
      replace c2 : Calls Tryz.prog 127 #[.pointer (some ⟨x.hb, 0, none⟩), .int .i64 h, .int .i64 (k : Int), .int .i64 0] wr (fun e w' => e = .returned (.int .i64 ((c.m.M.blankS h k).set h (k : Int) 0).1) ∧ Fam w0 w' (C5 b (c.setM (c.m.put ((c.m.M.blankS h k).set h (k : Int) 0).2)) x ++ l)) := c2
      clear hf hok hp
      cases hr : ((c.m.M.blankS h k).isRef h (k : Int)).1 with
      | true =>
        rw [hr] at c1
        have HB2 : Hid (c.m.M.blankS h (k + 1) = ((c.m.M.blankS h k).set h (k : Int) 0).2) := by show _ = _; rw [HB.out, if_pos hr]
        rw [← HB2.out] at c2
        clear HB HB2 hr
        generalize ((c.m.M.blankS h k).isRef h (k : Int)).2 = y1 at *
        generalize ((c.m.M.blankS h k).set h (k : Int) 0).1 = y2 at *
        go_wp2_with fail
        refine c1.mono ?_
        rintro e _ ⟨rfl, rfl⟩
        clear c1
        go_wp2_with fail
        refine c2.mono ?_
        rintro e w2 ⟨rfl, hf⟩
        have F2 := Lib.hid hf
        clear c2 hf HF x2
        go_wp2_with fail
        exact ⟨⟨k + 1, by omega, by go_num, F2.out⟩, by simp [intOf]; omega⟩
      | false =>
        rw [hr] at c1
        have HB2 : Hid (c.m.M.blankS h (k + 1) = c.m.M.blankS h k) := by show _ = _; rw [HB.out, if_neg (by rw [hr]; decide)]
        clear c2 HB hr
        generalize ((c.m.M.blankS h k).isRef h (k : Int)).2 = y1 at *
        go_wp2_with fail
        refine c1.mono ?_
        rintro e _ ⟨rfl, rfl⟩
        clear c1
        go_wp2_with fail
        exact ⟨⟨k + 1, by omega, by go_num, by rw [HB2.out]; exact HF.out⟩, by simp [intOf]; omega⟩
    · obtain rfl : k = n := by omega
      have hlt1 : ¬ (k : Int) < (k : Int) := by omega
      clear hf
      go_wp2_with fail
      go_end0
      exact hR.out _ _ ⟨rfl, HF.out⟩
theorem begins2_rep (w : World) (hf : Fam w0 w (C5 b c x ++ l)) (hx : x.ok c) (h : c.Okc) (hp : c.ph = 1) (hl : c.m.list = []) : Calls Tryz.prog 302 #[.agg #[.int .i64 2], .pointer (some ⟨b, 0, none⟩)] w (CDid w0 l b c.refsB) := by
  refine calls_abs fun R hR => ?_
  have F0 : Hid (Fam w0 (w.alloc (.cells #[.int .i64 2] 163)) (C5 b c x ++ (l ++ [RowA w.heap.size 163 [.int .i64 2]]))) := hf.addRow 163 [.int .i64 2]
  have HG := Lib.hid h.tg
  have hb := Pst.begin h.tg (h.mo (.inl hp)) (h.t0 (by omega)) hl
  have hmv2 := hx.mv2
  have HR : Hid (∀ w', Fam w0 w' (C5 b c.refsB.2 { x with ov := false } ++ l) → R (.returned (.int .i64 1)) w') := fun w' h2 => hR.out _ _ ⟨rfl, { x with ov := false }, ⟨fun _ => (decide_eq_false hb.1).symm, fun e => by (cases e), hmv2⟩, h2⟩
  clear hf h hb hl hp hR hx hmv2
  go_enter Tryz.func302, Tryz.ntmps302
  go_upto_region 1 with fail
  obtain ⟨g, hg⟩ : ∃ g, g = w.heap.size := ⟨_, rfl⟩
  rw [← hg] at F0 ⊢
  have r0 := C5.last F0.out
  have y0 := r0.cell 0 rfl
  obtain ⟨_, _, _, _, _, _, _, _, _, _, xf⟩ := CRow.cells F0.out
  have x5f := xf 5
  have F1 : Hid (Fam w0 ((w.alloc (.cells #[.int .i64 2] 163)).setCell ⟨b, 5, none⟩ (.int .i64 2)) (C5 b { c with ph := 2 } x ++ (l ++ [RowA g 163 [.int .i64 2]]))) := C5.setPh F0.out 2
  have r1 := C5.last F1.out
  have y1 := r1.cell 0 rfl
  have x7f := (CRow.cells F1.out).2.2.2.2.2.2.2.2.2.2 7
  have F2 : Hid (Fam w0 (((w.alloc (.cells #[.int .i64 2] 163)).setCell ⟨b, 5, none⟩ (.int .i64 2)).setCell ⟨b, 7, none⟩ (.bool false)) (C5 b { c with ph := 2 } { x with ov := false } ++ (l ++ [RowA g 163 [.int .i64 2]]))) := C5.setOv F1.out false
  generalize w.alloc (.cells #[.int .i64 2] 163) = w1 at *
  clear r0 r1 xf hg
  go_upto_region 5 with fail
  generalize (w1.setCell ⟨b, 5, none⟩ (.int .i64 2)).setCell ⟨b, 7, none⟩ (.bool false) = w2 at *
  clear y0 y1 x5f x7f F0 F1
  have HC : Hid (∀ wx, Fam w0 wx (C5 b { c with ph := 2 } { x with ov := false } ++ (l ++ [RowA g 163 [.int .i64 2]])) → Calls Tryz.prog 20 #[.pointer (some ⟨x.tb, 0, none⟩), .pointer (some ⟨x.p, 0, none⟩)] wx (fun e w' => e = .returned (.int .i64 (c.t.begin c.m).1) ∧ Fam w0 w' (C5 b { c with ph := 2, t := (c.t.begin c.m).2 } { x with ov := false } ++ (l ++ [RowA g 163 [.int .i64 2]])))) := fun wx hx => tbegin_rep wx (C5.t3 (b := b) (c := { c with ph := 2 }) (x := { x with ov := false })) (hb := x.hb) (p := x.p) (b := x.tb) (m := c.m) (t := c.t) hx HG.out
  go_region_held3 (fun w' => w'.cell? ⟨b, 3, none⟩ = some (.pointer (some ⟨x.tb, 0, none⟩)) ∧ w'.cell? ⟨b, 4, none⟩ = some (.pointer (some ⟨x.p, 0, none⟩)))
    (first | (exact ⟨(C5.row F2.out).cell 3 rfl, (C5.row F2.out).cell 4 rfl⟩) | (exact ⟨(C5.row f3).cell 3 rfl, (C5.row f3).cell 4 rfl⟩))
    (first | (go_at_call 20; refine (HC.out _ F2.out.drew).mono ?_; rintro e w3 ⟨rfl, f3⟩))
  have F3 : Hid (Fam w0 w3 (C5 b c.refsB.2 { x with ov := false } ++ l)) := by
    have f4 : Fam w0 w3 ((C5 b { c with ph := 2, t := (c.t.begin c.m).2 } { x with ov := false } ++ l) ++ [RowA g 163 [.int .i64 2]]) := f3
    exact f4.pop
  clear f3 HC F2
  go_wp2_with fail
  exact HR.out _ F3.out
end
end Go.Proofs.YthflghdaejbdkaaGreat
namespace Go.Proofs.YthflghdaejbdkaaGreat
open Go.RowKit Go.Maps
set_option maxHeartbeats 3200000
set_option maxRecDepth 100000
set_option linter.unusedVariables false
section
variable {l : List Asn} {i j k q r b : Nat} {m : Mk} {t : Tb} {w0 w w' : World}
theorem TrAt.cells {ev qv wv : Value} {nx : Nat} {wl : List Bool} (h : TrAt w b ev qv wv nx wl t) : w.cell? ⟨b, 0, none⟩ = some ev ∧ w.cell? ⟨b, 1, none⟩ = some qv ∧ w.cell? ⟨b, 2, none⟩ = some (.int .i64 (t.ph : Int)) ∧ w.cell? ⟨b, 3, none⟩ = some (.int .i64 (nx : Int)) ∧ w.cell? ⟨b, 4, none⟩ = some wv ∧ ∀ k, w.frozen? ⟨b, k, none⟩ = false := by
  obtain ⟨U, h⟩ := h.row
  exact ⟨h.cell 0 rfl, h.cell 1 rfl, h.cell 2 rfl, h.cell 3 rfl, h.cell 4 rfl, fun k => h.free k⟩
theorem TrAt.same {ev qv wv ev2 qv2 wv2 : Value} {nx nx2 : Nat} {wl wl2 : List Bool} {t2 : Tb} (h : TrAt w b ev qv wv nx wl t) (h2 : TrAt w b ev2 qv2 wv2 nx2 wl2 t2) : ev2 = ev ∧ qv2 = qv ∧ wv2 = wv := by
  have e1 := h.cells.1.symm.trans h2.cells.1
  have e2 := h.cells.2.1.symm.trans h2.cells.2.1
  have e3 := h.cells.2.2.2.2.1.symm.trans h2.cells.2.2.2.2.1
  simp only [Option.some.injEq] at e1 e2 e3
  exact ⟨e1.symm, e2.symm, e3.symm⟩
def trS (b : Nat) (ev qv wv : Value) (x : Nat) : Prop := x = b ∨ ev.ownBlock = some x ∨ qv.ownBlock = some x ∨ wv.ownBlock = some x
theorem TrAt.rest {ev qv wv : Value} {nx : Nat} {wl : List Bool} (h : TrAt w b ev qv wv nx wl t) (ho : Only [b] w w') : Ents w' 48 0 ev t.ents ∧ Ints w' 0 qv t.q ∧ Bls w' 0 wv wl :=
  ⟨h.ents.only ho (fun g hg x => (h.n1 g hg).1 (by simpa using x)), h.q.only ho (fun g hg x => (h.n2 g hg).1 (by simpa using x)), h.wh.only ho (fun g hg x => h.n3 (by simp at x; rw [← x]; exact hg))⟩
theorem TrAt.only0 {ev qv wv : Value} {nx : Nat} {wl : List Bool} (h : TrAt w b ev qv wv nx wl t) (ho : Only [] w w') : TrAt w' b ev qv wv nx wl t := by
  obtain ⟨h1, h2, h3⟩ := h.rest (ho.mono (by simp))
  exact ⟨h.row.imp fun U x => ho.row x (by simp), h1, h2, h3, h.now, h.two, h.n1, h.n2, h.n3⟩
theorem NowIs.self (t : Tb) : NowIs t t.nx := ⟨fun _ => rfl, fun _ => rfl, fun _ => rfl⟩
end
end Go.Proofs.YthflghdaejbdkaaGreat
namespace Go.Proofs.YthflghdaejbdkaaGreat
open Go.RowKit Go.Maps
set_option maxHeartbeats 12800000
set_option maxRecDepth 100000
set_option linter.unusedVariables false
def gCells (F : Nat → Nat → Value) : Nat → List Value
  | 0 => []
  | m + 1 => gCells F m ++ [F m 0, F m 1, F m 2, F m 3, F m 4]
theorem gCells_len (F : Nat → Nat → Value) (m : Nat) : (gCells F m).length = m * 5 := by
  induction m with
  | zero => rfl
  | succ m ih => unfold gCells; rw [List.length_append, ih]; simp; omega
theorem gCells_at {F : Nat → Nat → Value} {m i j : Nat} (hi : i < m) (hj : j < 5) : (gCells F m)[i * 5 + j]? = some (F i j) := by
  induction m with
  | zero => omega
  | succ m ih =>
    unfold gCells
    by_cases e : i = m
    · subst e
      rw [List.getElem?_append_right (by rw [gCells_len]; omega), gCells_len, show i * 5 + j - i * 5 = j by omega]
      match j, hj with
      | 0, _ => rfl
      | 1, _ => rfl
      | 2, _ => rfl
      | 3, _ => rfl
      | 4, _ => rfl
      | j + 5, hj => omega
    · rw [List.getElem?_append_left (by rw [gCells_len]; omega)]
      exact ih (by omega)
structure GPt (w : World) (base : Nat) (L : Nat → Option Gb) (rv sv bv : Int → Value) (ogv : Value) (ob : Int → Option Th) (m : Nat) : Prop where
  row : w.ownsRow base 217 5 ogv m (gCells (fun i j => gFld (ob i) (rv i) (sv i) (bv i) j) m)
  og : ∀ g, ogv.ownBlock = some g → L g = none
  lt : ∀ k, L k ≠ none → base ≤ k ∧ k < w.heap.size
  th : ∀ i : Nat, i < m → ∀ o, ob i = some o → GTh w L i (rv i) (sv i) (bv i) o
section
variable {w w' : World} {base : Nat} {L : Nat → Option Gb} {rv sv bv : Int → Value} {ogv ogv' r s b : Value} {ob : Int → Option Th} {m : Nat}
theorem GPt.done {q k c l hb T : Nat} {P : Pl} {v : Nat} (h : GPt w base L rv sv bv ogv ob 193) (hk : ∀ h o, ob h = some o → 1 ≤ h ∧ h ≤ 192) (hp : RRep w q k c l P) (hr : Row w hb T [ogv, .pointer (some ⟨q, 0, none⟩)])
    (h1 : v ≤ q ∧ v ≤ k ∧ v ≤ c ∧ v ≤ l ∧ v ≤ hb) (h2 : q < base ∧ k < base ∧ c < base ∧ l < base ∧ hb < base) (d1 : q ≠ hb ∧ k ≠ hb ∧ c ≠ hb ∧ l ≠ hb) :
    ∃ L' X', GRep w L' hb ⟨P, ob⟩ X' ∧ (∀ k, L' k ≠ none → v ≤ k) := by
  obtain ⟨n1, n2, n3, n4, n5, n6⟩ := hp.ne
  obtain ⟨_, _, _, _, _, _, _, _, _, f1, f2, f3, f4⟩ := hp.facts
  obtain ⟨e1, e2, e3, e4⟩ := d1
  rcases h.row.2 with ⟨_, h0⟩ | ⟨og, oc, cur, rfl, hog, hh, hcc, hm, hs, ht⟩
  · omega
  have hol := (Array.getElem?_eq_some_iff.1 hh).1
  obtain ⟨L', hL'⟩ : ∃ L' : Nat → Option Gb, L' = fun j => if j = hb then some .mem else if j = og then some .objs else if j = q then some .pq else if j = k then some .pk else if j = c then some .pc else if j = l then some .pl else L j := ⟨_, rfl⟩
  have hin : ∀ j, L' j ≠ none → j = hb ∨ j = og ∨ j = q ∨ j = k ∨ j = c ∨ j = l ∨ L j ≠ none := fun j hj => by
    rw [hL'] at hj
    simp only at hj
    by_cases a1 : j = hb
    · exact .inl a1
    · by_cases a2 : j = og
      · exact .inr (.inl a2)
      · by_cases a3 : j = q
        · exact .inr (.inr (.inl a3))
        · by_cases a4 : j = k
          · exact .inr (.inr (.inr (.inl a4)))
          · by_cases a5 : j = c
            · exact .inr (.inr (.inr (.inr (.inl a5))))
            · by_cases a6 : j = l
              · exact .inr (.inr (.inr (.inr (.inr (.inl a6)))))
              · simp only [a1, a2, a3, a4, a5, a6, if_false] at hj
                exact .inr (.inr (.inr (.inr (.inr (.inr hj)))))
  have hlab : ∀ j, L j ≠ none → L' j = L j := fun j hj => by
    have hjb := h.lt j hj
    have hjo : j ≠ og := fun e => hj (by rw [e]; exact h.og og rfl)
    rw [hL']
    simp only
    rw [if_neg (by omega), if_neg hjo, if_neg (by omega), if_neg (by omega), if_neg (by omega), if_neg (by omega)]
  have hne1 : og ≠ hb ∧ q ≠ og ∧ k ≠ og ∧ c ≠ og ∧ l ≠ og := ⟨by omega, by omega, by omega, by omega, by omega⟩
  obtain ⟨o1, o2, o3, o4, o5⟩ := hne1
  have hrb := hr.lt
  refine ⟨L', ⟨q, k, c, l, og, oc, rv, sv, bv⟩, ⟨fun j hj => ?_, ⟨T, hr⟩, by rw [hL']; simp, hp, by rw [hL']; simp [*], by rw [hL']; simp [*, Ne.symm n1], by rw [hL']; simp [*, Ne.symm n2, Ne.symm n4], by rw [hL']; simp [*, Ne.symm n3, Ne.symm n5, Ne.symm n6], ⟨217, cur.toList, ?_, fun i hi j hj => ?_⟩, by rw [hL']; simp [*], fun x o hx => ?_⟩, fun j hj => ?_⟩
  · rcases hin j hj with rfl | rfl | rfl | rfl | rfl | rfl | e
    · assumption
    · assumption
    · assumption
    · assumption
    · assumption
    · assumption
    · exact (h.lt j e).2
  · unfold Row
    rw [hh]
  · have hg := gCells_at (F := fun i j => gFld (ob i) (rv i) (sv i) (bv i) j) hi hj
    rw [← ht, List.getElem?_take_of_lt (by omega)] at hg
    exact hg
  · obtain ⟨a1, a2⟩ := hk x o hx
    obtain ⟨i, rfl⟩ : ∃ i : Nat, x = i := ⟨x.toNat, by omega⟩
    exact (h.th i (by omega) o hx).lab hlab
  · rcases hin j hj with rfl | rfl | rfl | rfl | rfl | rfl | e
    · exact h1.2.2.2.2
    · omega
    · exact h1.1
    · exact h1.2.1
    · exact h1.2.2.1
    · exact h1.2.2.2.1
    · have := (h.lt j e).1; omega
end
theorem wpList_icpy {w : World} {ops : Array Oper} {rest : List Oper} {o : Oper} {a : Act} {Q : Exit → Act → World → Prop} (hgd : o.guard = none) (s x : Operand)
    (ho : o.op = .call { callee := .builtin .append, args := #[s, x], argTypes := #[23, 23] }) (w0 : World) (hO : Only [] w0 w)
    (gs : Nat) (hs : a.eval s = .slice (some ⟨gs, 0, none⟩) 0 0) (hown : Ints w w0.heap.size (.slice (some ⟨gs, 0, none⟩) 0 0) []) (va : Option Addr) (n vc : Nat) (l : List Int) (hx : a.eval x = .slice va n vc) (hl : l.length = n) (hv : Read w0 (.slice va n vc) l) (hb : n ≤ 1000000)
    (h : ∀ g cap w', Hid (Ints w' w0.heap.size (.slice (some ⟨g, 0, none⟩) n cap) l) → Hid (Only [] w0 w') → wpList Tryz.prog ops Q rest (a.put o.dst (.slice (some ⟨g, 0, none⟩) n cap)) w') : wpList Tryz.prog ops Q (o :: rest) a w := by
  refine wpList_plain hgd fun K hK => ?_
  obtain ⟨i0, hi0, hz0, hz1, hz2⟩ := info_parts infoInt
  by_cases h0 : n = 0
  · subst h0
    have hnil : l = [] := List.eq_nil_of_length_eq_zero hl
    subst hnil
    have hsrc : Src Tryz.prog i0.size 23 (.slice va 0 vc) 0 [] w := by
      cases va with
      | none => exact Src.ofNil w Tryz.underlying23 vc
      | some a => exact Src.ofSlice w Tryz.underlying23 a 0 vc [] (by simp) (fun j u hu => by simp at hu) (fun u hu => by simp at hu)
    have hr := run_append_nothing (P := Tryz.prog) w 23 23 o.type 3 i0 Tryz.underlying23 hi0 (some ⟨gs, 0, none⟩) 0 0 (Nat.le_refl _) (.slice va 0 vc) hsrc
    unfold Oper.wp execOp
    simp only [ho, resolve, invoke, builtin, Sem.run_bind, Sem.run_pure, Result.andThen_ok, List.map_toArray, List.map_cons, List.map_nil, hs, hx, hr]
    exact hK _ _ (h gs 0 w hown hO)
  · rcases hv with ⟨rb, ro, rc, e1, e2⟩ | ⟨oa, rc, e1, e2⟩
    · simp only [Value.slice.injEq] at e1
      obtain ⟨rfl, _, rfl⟩ := e1
      refine wp_append_lies _ s x 23 ho w0.heap.size 3 i0 _ 1 8 Tryz.underlying23 hi0 hz0 hz1 hz2 rfl (by omega) _ 0 [] hs hown ⟨rb, ro, none⟩ n vc (l.map (.int .i64)) hx (by simp [hl]) (fun j u hu => ?_) (fun u hu => ?_) (by omega) (by simp only [maxLen]; omega) (by omega) hO.size w.heap.size rfl ?_
      · simp only [List.getElem?_map, Option.map_eq_some_iff] at hu
        obtain ⟨y, hy, rfl⟩ := hu
        have hj := (List.getElem?_eq_some_iff.1 hy).1
        have := e2 j hj
        rw [gI, hy] at this
        rw [addr_add]
        exact hO.cell this (by simp)
      · simp only [List.mem_map] at hu
        obtain ⟨y, _, rfl⟩ := hu
        rfl
      · intro g cap w' h1 h2 h3 h4
        rw [Nat.zero_add] at h1 ⊢
        refine hK _ _ (h g cap w' ?_ (hO.grown h2 (fun k hk => .inr (hown.own k hk).1)))
        show Ints _ _ _ _
        unfold Ints
        rw [hl]
        simpa using h1
    · exact absurd (by rw [← hl, e2]; rfl) h0
section
variable {L : Nat → Option Gb} {hb : Nat} {M : Hp} {X : GX}
end
end Go.Proofs.YthflghdaejbdkaaGreat
namespace Go.Proofs.YthflghdaejbdkaaGreat
open Go.RowKit Go.Maps
set_option maxHeartbeats 6400000
set_option maxRecDepth 100000
set_option linter.unusedVariables false
theorem rtnew_any (w : World) : Calls Tryz.prog 90 #[] w (fun e w' => e = .returned (.pointer (some ⟨w.heap.size, 0, none⟩)) ∧ w' = w.alloc (.cells #[.slice none 0 0, .slice none 0 0, .int .i64 0, .int .i64 0, .slice none 0 0] 52)) := by
  refine calls_abs fun R hR => ?_
  go_enter Tryz.func90, Tryz.ntmps90
  go_wp2_with fail
  exact hR.out _ _ ⟨rfl, rfl⟩
theorem tr_born (w : World) : Born w (w.alloc (.cells #[.slice none 0 0, .slice none 0 0, .int .i64 0, .int .i64 0, .slice none 0 0] 52)) (TrA w.heap.size Tb.new) :=
  ⟨(Only.refl [] w).alloc _, fun k => k = w.heap.size ∨ (Value.slice none 0 0).ownBlock = some k ∨ (Value.slice none 0 0).ownBlock = some k ∨ (Value.slice none 0 0).ownBlock = some k, ⟨.slice none 0 0, .slice none 0 0, .slice none 0 0, 0, [], ⟨⟨_, Row.new w _ _⟩, Ents.nil _ _ _, Ints.nil _ _, Bls.nil _ _, NowIs.self _, ⟨Nat.zero_le _, fun h => by simp [Tb.new] at h⟩, fun g hg => by (cases hg), fun g hg => by (cases hg), fun e => by (cases e)⟩, fun k => Iff.rfl⟩, fun k hk => by
    rcases hk with hk | hk | hk | hk
    · omega
    · cases hk
    · cases hk
    · cases hk⟩
section
variable {l : List Asn} {i j k q r b : Nat} {m : Mk} {t : Tb} {w0 w w' : World} {ev qv wv : Value} {nx : Nat} {wl : List Bool}
end
end Go.Proofs.YthflghdaejbdkaaGreat
namespace Go.Proofs.YthflghdaejbdkaaGreat
open Go.RowKit Go.Maps
set_option maxHeartbeats 3200000
set_option maxRecDepth 100000
set_option linter.unusedVariables false
section
variable {w w' : World}
theorem only_a1 (w : World) (o : Obj) : Only [] w (w.alloc o).drew := ((Only.refl [] w).alloc o).drew
theorem only_a2 (w : World) (o o' : Obj) : Only [] w ((w.alloc o).alloc o').drew := (((Only.refl [] w).alloc o).alloc o').drew
theorem Only.cell0 {w0 wl : World} (h : Only [] w0 wl) {a : Addr} {v : Value} (hc : w0.cell? a = some v) : wl.cell? a = some v := h.cell hc (by simp)
theorem Only.frozen0 {w0 wl : World} (h : Only [] w0 wl) {a : Addr} {v : Value} (hc : w0.cell? a = some v) (hf : w0.frozen? a = false) : wl.frozen? a = false := by
  rw [World.frozen?_of_block (h.block a.block (World.block_lt_of_cell? w0 _ hc) (by simp))]
  exact hf
end
end Go.Proofs.YthflghdaejbdkaaGreat
namespace Go.Proofs.YthflghdaejbdkaaGreat
open Go.RowKit Go.Maps
set_option maxHeartbeats 6400000
set_option maxRecDepth 100000
set_option linter.unusedVariables false
section
variable {w0 w w' : World} {l : List Asn} {b : Nat} {c : Co} {x : GX5} {i : Nat} {m : Mk} {t : Tb}
theorem GoA.open (h : Fam w0 w l) (hi : l[i]? = some (GoA b c)) : ∃ x : GX5, x.ok c ∧ Fam w0 w (G5 b c x ++ l.set i NoA) := h.open1 hi
theorem GoA.born (hx : x.ok c) (h : Fam w0 w (G5 b c x ++ l)) : Fam w0 w (l ++ [GoA b c]) := h.close2 (P := fun x => GX5.ok x c) (F := G5 b c) x hx rfl
theorem G5.row (h : Fam w0 w (G5 b c x ++ l)) : Row w b 99 (GRow5 b c x) := h.row 4 rfl
theorem GRow5.cells (h : Fam w0 w (G5 b c x ++ l)) : w.cell? ⟨b, 0, none⟩ = some (.pointer (some ⟨x.q, 0, none⟩)) ∧ w.cell? ⟨b, 1, none⟩ = some (.pointer (some ⟨x.ub, 0, none⟩)) ∧ w.cell? ⟨b, 2, none⟩ = some (.pointer (if x.on then some ⟨x.r, 0, none⟩ else none)) ∧ w.cell? ⟨b, 3, none⟩ = some (.int .i64 (c.ph : Int)) ∧ w.cell? ⟨b, 4, none⟩ = some (.int .i64 c.cr) ∧ w.cell? ⟨b, 5, none⟩ = some (.int .i64 c.rate) ∧ w.cell? ⟨b, 6, none⟩ = some (.int .i64 (c.pages : Int)) ∧ w.cell? ⟨b, 7, none⟩ = some (.int .i64 (x.mv : Int)) ∧ w.cell? ⟨b, 8, none⟩ = some x.sv ∧ ∀ k, w.frozen? ⟨b, k, none⟩ = false := by
  have r := G5.row h
  exact ⟨r.cell 0 rfl, r.cell 1 rfl, r.cell 2 rfl, r.cell 3 rfl, r.cell 4 rfl, r.cell 5 rfl, r.cell 6 rfl, r.cell 7 rfl, r.cell 8 rfl, fun k => r.free k⟩
theorem G5.m2 (ho : x.on = true) (h : Fam w0 w (G5 b c x ++ l)) : w.cell? ⟨b, 2, none⟩ = some (.pointer (some ⟨x.r, 0, none⟩)) := by
  have := (GRow5.cells h).2.2.1
  rw [ho] at this
  exact this
end
end Go.Proofs.YthflghdaejbdkaaGreat
