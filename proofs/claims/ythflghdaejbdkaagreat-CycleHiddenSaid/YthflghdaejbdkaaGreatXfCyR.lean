/- Lemmas of this claim. -/
import Derived.Test.YthflghdaejbdkaaGreatXfTbPC
import Derived.Test.YthflghdaejbdkaaGreatCloneLay
import Derived.Test.YthflghdaejbdkaaGreatXfCyG
import Derived.Deep.AppendLies
import Derived.Test.YthflghdaejbdkaaGreatXfCyQ
namespace Go.Proofs.YthflghdaejbdkaaGreat
open Go.RowKit Go.Maps Go.Shelf
set_option maxHeartbeats 12800000
set_option maxRecDepth 100000
set_option linter.unusedVariables false
theorem cloneC_any (w : World) (mb : Nat) (col : Int → Int) (h : MapC w mb col) : Calls Tryz.prog 186 #[.map (some mb)] w fun e w' => e = .returned (.map (some w.heap.size)) ∧ MapC w' w.heap.size col ∧ Only [] w w' := by
  obtain ⟨D, hD, h1, h2⟩ := h
  have c := AnyW.maps_Clone_owns Tryz.cloneC 3 (plainElem (H := Unit) Tryz.prog 3) mb 192 D w hD
  change Calls Tryz.prog 186 _ _ _ at c
  exact c.mono fun e w' ⟨he, ho, _, hb⟩ => ⟨he, ⟨D, ho, h1, h2⟩, ⟨hb.os, hb.tape, hb.output, hb.size, fun k hk _ => hb.block k hk⟩⟩
section
variable {w0 w : World} {l : List Asn} {i j hb p q r : Nat} {m : Mk}
theorem mcopyL_rep (w : World) (T2 : Two2 l i j) (hf : Fam w0 w (ML l i j hb p m)) (hm : m.list.length ≤ 192) : Calls Tryz.prog 108 #[.pointer (some ⟨p, 0, none⟩)] w (fun e w' => ∃ q2 p2, e = .returned (.pointer (some ⟨p2, 0, none⟩)) ∧ Fam w0 w' (ML l i j hb p m ++ [PH q2 m.M] ++ [MkA p2 q2 m.col m.list])) := by
  refine calls_abs fun R hR => ?_
  have HF := Lib.hid hf
  obtain ⟨hk, L, X, hp⟩ := ML.ph T2 hf
  have HKF := Lib.hid (hf.phF i (ML.heap T2))
  obtain ⟨mb, v, hg⟩ := ML.mk T2 hf
  have HC1 : Hid (∀ wx, Only [] w wx → Calls Tryz.prog 128 #[.pointer (some ⟨hb, 0, none⟩)] wx (fun e w' => ∃ q L' X', e = .returned (.pointer (some ⟨q, 0, none⟩)) ∧ HRep w' L' q m.M X' ∧ (∀ k, L' k ≠ none → wx.heap.size ≤ k) ∧ Only [] wx w')) := fun wx ho => by
    have c := hcopy_rep wx (hp.only0 ho) hk
    exact c
  have HC2 : Hid (∀ wx, Only [] w wx → Calls Tryz.prog 186 #[.map (some mb)] wx (fun e w' => e = .returned (.map (some wx.heap.size)) ∧ MapC w' wx.heap.size m.col ∧ Only [] wx w')) := fun wx ho => cloneC_any wx mb m.col (hg.map.onlyF ho (by simp))
  have HC3 : Hid (∀ wx, Only [] w wx → Calls Tryz.prog 80 #[v] wx (fun e w' => ∃ v', e = .returned v' ∧ Ints w' wx.heap.size v' m.list ∧ Only [] wx w')) := fun wx ho => clone_ownI wx v m.list (hg.ints.only ho (by simp)) (by have := hm; omega)
  obtain ⟨z0, z1, z2, _⟩ := hg.cells
  have hn := mnone_rep w z0
  have d0 : w.drew.cell? ⟨p, 0, none⟩ = _ := z0
  have d1 : w.drew.cell? ⟨p, 1, none⟩ = _ := z1
  have d2 : w.drew.cell? ⟨p, 2, none⟩ = _ := z2
  obtain ⟨ga, gc, hv⟩ := hg.ints.len
  subst hv
  generalize m.list.length = n at *
  have D0 := Lib.hid (only_d1 w)
  clear hf hk hp hg
  go_enter Tryz.func108, Tryz.ntmps108
  go_wp2_with fail
  refine hn.mono ?_
  rintro e _ ⟨rfl, rfl⟩
  clear hn
  go_wp2_with fail
  go_region_held3 (fun w' => w'.cell? ⟨p, 0, none⟩ = some (.pointer (some ⟨hb, 0, none⟩)) ∧ w'.cell? ⟨p, 1, none⟩ = some (.map (some mb)) ∧ w'.cell? ⟨p, 2, none⟩ = some (.slice ga n gc))
    (first
      | (exact ⟨d0, d1, d2⟩)
      | (exact ⟨hoA.cellN d0, hoA.cellN d1, hoA.cellN d2⟩)
      | (exact ⟨hoB.cellN d0, hoB.cellN d1, hoB.cellN d2⟩)
      | (exact ⟨hoC.cellN d0, hoC.cellN d1, hoC.cellN d2⟩)
      | (exact ⟨hoB.cellN (hoA.cellN d0), hoB.cellN (hoA.cellN d1), hoB.cellN (hoA.cellN d2)⟩)
      | (exact ⟨hoC.cellN (hoB.cellN (hoA.cellN d0)), hoC.cellN (hoB.cellN (hoA.cellN d1)), hoC.cellN (hoB.cellN (hoA.cellN d2))⟩)
      | (exact ⟨(hoC.alloc _).cellN (hoB.cellN (hoA.cellN d0)), (hoC.alloc _).cellN (hoB.cellN (hoA.cellN d1)), (hoC.alloc _).cellN (hoB.cellN (hoA.cellN d2))⟩))
    (first
      | (go_at_call 128; refine (HC1.out _ D0.out).mono ?_; rintro e wA ⟨q2, L2, X2, rfl, hpA, hLA, hoA⟩)
      | (go_at_call 186; refine (HC2.out _ (D0.out.trans hoA (by simp))).mono ?_; rintro e wB ⟨rfl, hmB, hoB⟩)
      | (go_at_call 80; refine (HC3.out _ ((D0.out.trans hoA (by simp)).trans hoB (by simp))).mono ?_; rintro e wC ⟨v2, rfl, hiC, hoC⟩; obtain ⟨va2, vc2, hv2⟩ := hiC.len; subst hv2)
)
  have hFA : Fam w0 wA (ML l i j hb p m ++ [PH q2 m.M]) := HF.out.drew.add (pborn hpA HKF.out hLA hoA)
  have hBC : Only [] wB ((wC.alloc (.cells #[.pointer (some ⟨q2, 0, none⟩), .map (some wA.heap.size), .slice va2 m.list.length vc2] 129))) := hoC.alloc _
  have hsB := hoB.size
  have hsC := hoC.size
  have hmlt := hmB.lt
  have hborn : Born wA (wC.alloc (.cells #[.pointer (some ⟨q2, 0, none⟩), .map (some wA.heap.size), .slice va2 m.list.length vc2] 129)) (MkA wC.heap.size q2 m.col m.list) := by
    refine ⟨hoB.trans hBC (by simp), fun k => k = wC.heap.size ∨ k = wA.heap.size ∨ (Value.slice va2 m.list.length vc2).ownBlock = some k, ⟨wA.heap.size, .slice va2 m.list.length vc2, ⟨⟨129, Row.new wC 129 [_, _, _]⟩, hmB.onlyF hBC (by simp), (hiC.base (Nat.zero_le _)).alloc _, by omega, fun g hg => ?_⟩, fun k => Iff.rfl⟩, fun k hk => ?_⟩
    · have := hiC.own g hg
      exact ⟨by omega, by omega⟩
    · rcases hk with hk | hk | hk
      · omega
      · omega
      · have := hiC.own k hk; omega
  have HFE := Lib.hid (hFA.add hborn)
  clear hFA hBC hborn hmlt hsB hsC hpA hLA hoA hmB hoB hiC hoC d0 d1 d2
  go_wp2_with fail
  exact hR.out _ _ ⟨q2, wC.heap.size, rfl, HFE.out⟩
end
end Go.Proofs.YthflghdaejbdkaaGreat
namespace Go.Proofs.YthflghdaejbdkaaGreat
open Go.RowKit Go.Maps
set_option maxHeartbeats 6400000
set_option maxRecDepth 100000
set_option linter.unusedVariables false
section
variable {w0 w w' : World} {l : List Asn} {b : Nat} {c : Co} {x : GX5} {i : Nat} {m : Mk} {t : Tb}
theorem Fam.rowFront {L : List Asn} (h : Fam w0 w L) (T : Nat) (cs : List Value) : Fam w0 (w.alloc (.cells cs.toArray T)) (RowA w.heap.size T cs :: L) := by
  have h1 := h.addRow T cs
  refine h1.selC (fun k => if k = 0 then L.length else k - 1) (fun k Z hk => ?_) (fun j k hj hk hne => ?_)
  · match k with
    | 0 =>
      show (L ++ [_])[L.length]? = some Z
      rw [lat_last]; exact hk
    | k + 1 =>
      have hk2 : L[k]? = some Z := hk
      simp only [show ¬ (k + 1 = 0) by omega, if_false, Nat.add_sub_cancel]
      exact lat_left hk2
  · rw [List.length_cons] at hj hk
    split <;> split <;> omega
theorem Fam.addNo {L : List Asn} (h : Fam w0 w L) : Fam w0 w (L ++ [NoA]) := h.add ⟨Only.refl _ _, fun _ => False, fun _ hk => hk, fun _ hk => hk.elim⟩
end
end Go.Proofs.YthflghdaejbdkaaGreat
namespace Go.Proofs.YthflghdaejbdkaaGreat
open Go.RowKit Go.Maps
set_option maxHeartbeats 6400000
set_option maxRecDepth 100000
set_option linter.unusedVariables false
section
variable {w0 w : World} {l : List Asn} {b : Nat} {c : Co} {x : CX} {i : Nat}
theorem begins3_rep (w : World) (hf : Fam w0 w (C5 b c x ++ l)) (hx : x.ok c) (h : c.Okc) : Calls Tryz.prog 302 #[.agg #[.int .i64 3], .pointer (some ⟨b, 0, none⟩)] w (CDid w0 l b c.sweepB) := by
  refine calls_abs fun R hR => ?_
  have F0 : Hid (Fam w0 (w.alloc (.cells #[.int .i64 3] 163)) (C5 b c x ++ (l ++ [RowA w.heap.size 163 [.int .i64 3]]))) := hf.addRow 163 [.int .i64 3]
  have hmv2 := hx.mv2
  obtain ⟨s, hs⟩ : ∃ s, s = c.m.white := ⟨_, rfl⟩
  have HS : Hid (s = c.m.white) := hs
  have hwl : s.length ≤ 192 := by rw [hs]; exact white_len c.m
  have HWF : Hid (∀ k, k < s.length → wfI (gI s k)) := fun k hk => wf192 (h.hf.ok.inR ((Mk.mem_white h.hf.ok).1 (by rw [← hs]; exact mem_gI.2 ⟨k, hk, rfl⟩)).1)
  have HSB : Hid (c.sweepB = c.sweepTo s) := by show _ = _; unfold Co.sweepB; rw [hs]
  rw [HSB.out] at hR
  have HR : Hid (∀ w' v, Fam w0 w' (C5 b (c.sweepTo s).2 { x with sv := v } ++ l) → R (.returned (.int .i64 1)) w') := fun w' v h2 => hR.out _ _ ⟨rfl, { x with sv := v }, ⟨fun e => by (cases e), fun e => by (cases e), hmv2⟩, h2⟩
  clear hf h hR hx hmv2 hs HSB
  go_enter Tryz.func302, Tryz.ntmps302
  go_upto_region 1 with fail
  obtain ⟨g, hg⟩ : ∃ g, g = w.heap.size := ⟨_, rfl⟩
  rw [← hg] at F0 ⊢
  have r0 := C5.last F0.out
  have y0 := r0.cell 0 rfl
  obtain ⟨_, _, _, _, _, _, _, _, _, _, xf⟩ := CRow.cells F0.out
  have x5f := xf 5
  have F1 : Hid (Fam w0 ((w.alloc (.cells #[.int .i64 3] 163)).setCell ⟨b, 5, none⟩ (.int .i64 3)) (C5 b { c with ph := 3 } x ++ (l ++ [RowA g 163 [.int .i64 3]]))) := C5.setPh F0.out 3
  have r1 := C5.last F1.out
  have y1 := r1.cell 0 rfl
  have x4 := (CRow.cells F1.out).2.2.2.2.1
  have cw := mwhite_rep _ (C5.t2 (b := b) (c := { c with ph := 3 }) (x := x) (l := l ++ [RowA g 163 [.int .i64 3]])) (hb := x.hb) (p := x.p) (m := c.m) F1.out
  rw [← HS.out] at cw
  generalize w.alloc (.cells #[.int .i64 3] 163) = w1 at *
  clear r0 r1 xf hg
  go_upto_region 7 with fail
  generalize w1.setCell ⟨b, 5, none⟩ (.int .i64 3) = w2 at *
  clear y0 x5f F0
  go_wp2_with fail
  refine cw.mono ?_
  rintro e w3 ⟨v, rfl, hi, ho⟩
  have x8f := ((CRow.cells (F1.out.only0 ho)).2.2.2.2.2.2.2.2.2.2) 8
  have x8fc := (CRow.cells (F1.out.only0 ho)).2.2.2.2.2.2.2.2.1
  have F3 : Hid (Fam w0 (w3.setCell ⟨b, 8, none⟩ v) (C5 b { c with ph := 3, sw := s } { x with sv := v } ++ (l ++ [RowA g 163 [.int .i64 3]]))) := C5.setSw F1.out ho hi
  obtain ⟨va, vc, hv⟩ := hi.len
  subst hv
  have x8 := (CRow.cells F3.out).2.2.2.2.2.2.2.2.1
  have r3 := C5.last F3.out
  have y3 := r3.cell 0 rfl
  clear hi ho cw x4 y1 F1 r3
  obtain ⟨n, hn⟩ : ∃ n, n = s.length := ⟨_, rfl⟩
  have HN := Lib.hid hn
  rw [← hn] at F3 HWF hwl x8 ⊢
  clear hn HS
  go_upto_region 8 with fail
  generalize w3.setCell ⟨b, 8, none⟩ (.slice va n vc) = w4 at *
  clear x8f x8fc
  go_wp2_with fail
  go_loopw [43] (fun iv wr => ∃ k : Nat, k ≤ n ∧ iv = .int .i64 k ∧ Fam w0 wr (C5 b { c with ph := 3, sw := s, m := c.m.put (c.m.M.blankL s k) } { x with sv := .slice va n vc } ++ (l ++ [RowA g 163 [.int .i64 3]]))) (fun iv _ => n - (intOf iv).toNat)
  case atStart => exact ⟨0, by omega, rfl, F3.out⟩
  case round => as_aux_lemma =>
    clear F3 x8 y3
    obtain ⟨k, hk, rfl, hf⟩ := hrel
    by_cases hlt : k < n
    · have hlt1 : (k : Int) < (n : Int) := by omega
      have hk0 : (0 : Int) ≤ (k : Int) := by omega
      have hks : k < s.length := by rw [← HN.out]; exact hlt
      have h43 := (C5.sw hf).read
      obtain ⟨vb, vo, rfl, hcl⟩ := h43.at (k := k) hks
      have cb := cblank_rep wr hf (gI s k) (HWF.out k hlt)
      have HF2 : Hid (∀ w', Fam w0 w' (C5 b ({ c with ph := 3, sw := s, m := c.m.put (c.m.M.blankL s k) }.setM (Mk.put { c with ph := 3, sw := s, m := c.m.put (c.m.M.blankL s k) }.m (Hp.blank { c with ph := 3, sw := s, m := c.m.put (c.m.M.blankL s k) }.m.M (gI s k)))) { x with sv := .slice (some ⟨vb, vo, none⟩) n vc } ++ (l ++ [RowA g 163 [.int .i64 3]])) → Fam w0 w' (C5 b { c with ph := 3, sw := s, m := c.m.put (c.m.M.blankL s (k + 1)) } { x with sv := .slice (some ⟨vb, vo, none⟩) n vc } ++ (l ++ [RowA g 163 [.int .i64 3]]))) := fun w' hw => hw
      clear h43 hf hks
      generalize gI s k = y at *
      go_wp2_with fail
      refine cb.mono ?_
      rintro e w2 ⟨rfl, hf⟩
      have F2 := Lib.hid (HF2.out _ hf)
      clear cb hf HF2 hcl
      go_wp2_with fail
      exact ⟨⟨k + 1, by omega, by go_num, F2.out⟩, by simp [intOf]; omega⟩
    · obtain rfl : k = n := by omega
      have hlt1 : ¬ (k : Int) < (k : Int) := by omega
      have F5 : Hid (Fam w0 wr (C5 b (c.sweepTo s).2 { x with sv := .slice va k vc } ++ l)) := by
        have f4 : Fam w0 wr ((C5 b { c with ph := 3, sw := s, m := c.m.put (c.m.M.blankL s k) } { x with sv := .slice va k vc } ++ l) ++ [RowA g 163 [.int .i64 3]]) := hf
        have f5 := f4.pop
        rw [HN.out] at f5 ⊢
        exact f5
      clear hf
      go_wp2_with fail
      exact HR.out _ _ F5.out
theorem begins4_rep (w : World) (hf : Fam w0 w (C5 b c x ++ l)) (hx : x.ok c) : Calls Tryz.prog 302 #[.agg #[.int .i64 4], .pointer (some ⟨b, 0, none⟩)] w (CDid w0 l b (1, { c with ph := 4, mv := 0 })) := by
  refine calls_abs fun R hR => ?_
  have F0 : Hid (Fam w0 (w.alloc (.cells #[.int .i64 4] 163)) (C5 b c x ++ (l ++ [RowA w.heap.size 163 [.int .i64 4]]))) := hf.addRow 163 [.int .i64 4]
  have HR : Hid (∀ w', Fam w0 w' (C5 b { c with ph := 4, mv := 0 } { x with mv := 0 } ++ l) → R (.returned (.int .i64 1)) w') := fun w' h2 => hR.out _ _ ⟨rfl, _, ⟨fun e => by (cases e), fun e => rfl, Nat.zero_le _⟩, h2⟩
  clear hf hR hx
  go_enter Tryz.func302, Tryz.ntmps302
  go_upto_region 1 with fail
  obtain ⟨g, hg⟩ : ∃ g, g = w.heap.size := ⟨_, rfl⟩
  rw [← hg] at F0 ⊢
  have r0 := C5.last F0.out
  have y0 := r0.cell 0 rfl
  have x5f := ((CRow.cells F0.out).2.2.2.2.2.2.2.2.2.2) 5
  have x5fc := (CRow.cells F0.out).2.2.2.2.2.1
  have F1 : Hid (Fam w0 ((w.alloc (.cells #[.int .i64 4] 163)).setCell ⟨b, 5, none⟩ (.int .i64 4)) (C5 b { c with ph := 4 } x ++ (l ++ [RowA g 163 [.int .i64 4]]))) := C5.setPh F0.out 4
  have r1 := C5.last F1.out
  have y1 := r1.cell 0 rfl
  have x9f := ((CRow.cells F1.out).2.2.2.2.2.2.2.2.2.2) 9
  have x9fc := (CRow.cells F1.out).2.2.2.2.2.2.2.2.2.1
  have F2 : Hid (Fam w0 (((w.alloc (.cells #[.int .i64 4] 163)).setCell ⟨b, 5, none⟩ (.int .i64 4)).setCell ⟨b, 9, none⟩ (.int .i64 0)) (C5 b { c with ph := 4, mv := 0 } { x with mv := 0 } ++ l)) := by
    have f2 : Fam w0 _ ((C5 b { c with ph := 4, mv := 0 } { x with mv := 0 } ++ l) ++ [RowA g 163 [.int .i64 4]]) := C5.setMv F1.out 0
    exact f2.pop
  clear F0 F1 r0 r1 hg
  generalize w.alloc (.cells #[.int .i64 4] 163) = w1 at *
  go_wp2_with fail
  exact HR.out _ F2.out
theorem begins0_rep (w : World) (hf : Fam w0 w (C5 b c x ++ l)) (hx : x.ok c) : Calls Tryz.prog 302 #[.agg #[.int .i64 0], .pointer (some ⟨b, 0, none⟩)] w (CDid w0 l b (1, { c with ph := 0, cr := 0 })) := by
  refine calls_abs fun R hR => ?_
  have F0 : Hid (Fam w0 (w.alloc (.cells #[.int .i64 0] 163)) (C5 b c x ++ (l ++ [RowA w.heap.size 163 [.int .i64 0]]))) := hf.addRow 163 [.int .i64 0]
  have hmv2 := hx.mv2
  have HR : Hid (∀ w', Fam w0 w' (C5 b { c with ph := 0, cr := 0 } x ++ l) → R (.returned (.int .i64 1)) w') := fun w' h2 => hR.out _ _ ⟨rfl, _, ⟨fun e => by (cases e), fun e => by (cases e), hmv2⟩, h2⟩
  clear hf hR hx hmv2
  go_enter Tryz.func302, Tryz.ntmps302
  go_upto_region 1 with fail
  obtain ⟨g, hg⟩ : ∃ g, g = w.heap.size := ⟨_, rfl⟩
  rw [← hg] at F0 ⊢
  have r0 := C5.last F0.out
  have y0 := r0.cell 0 rfl
  have x5f := ((CRow.cells F0.out).2.2.2.2.2.2.2.2.2.2) 5
  have x5fc := (CRow.cells F0.out).2.2.2.2.2.1
  have F1 : Hid (Fam w0 ((w.alloc (.cells #[.int .i64 0] 163)).setCell ⟨b, 5, none⟩ (.int .i64 0)) (C5 b { c with ph := 0 } x ++ (l ++ [RowA g 163 [.int .i64 0]]))) := C5.setPh F0.out 0
  have r1 := C5.last F1.out
  have y1 := r1.cell 0 rfl
  have x6f := ((CRow.cells F1.out).2.2.2.2.2.2.2.2.2.2) 6
  have x6fc := (CRow.cells F1.out).2.2.2.2.2.2.1
  have F2 : Hid (Fam w0 (((w.alloc (.cells #[.int .i64 0] 163)).setCell ⟨b, 5, none⟩ (.int .i64 0)).setCell ⟨b, 6, none⟩ (.int .i64 0)) (C5 b { c with ph := 0, cr := 0 } x ++ l)) := by
    have f2 : Fam w0 _ ((C5 b { c with ph := 0, cr := 0 } x ++ l) ++ [RowA g 163 [.int .i64 0]]) := C5.setCr F1.out 0
    exact f2.pop
  clear F0 F1 r0 r1 hg
  generalize w.alloc (.cells #[.int .i64 0] 163) = w1 at *
  go_wp2_with fail
  exact HR.out _ F2.out
theorem stepT_ok (h : c.Okc) (hp : c.ph = 2) (hx : x.ok c) (ht : c.t.ph ≠ 0) : ((c.t.step c.m).2.2.1 = 0 → x.ok c.stepT) ∧ ((c.t.step c.m).2.2.1 ≠ 0 → CX.ok { x with ov := true } c.stepT) := by
  obtain ⟨h1, h2, h3⟩ := h.stepT hp
  refine ⟨fun e => ⟨fun _ => ?_, fun e => absurd (show c.ph = 4 from e) (by omega), hx.mv2⟩, fun e => ⟨fun _ => (decide_eq_true (h2 e)).symm, fun e => absurd (show c.ph = 4 from e) (by omega), hx.mv2⟩⟩
  rw [hx.ov hp, decide_eq_false ht, decide_eq_false (h3 e)]
theorem tstep_wf {t : Tb} {m : Mk} (h : t.Good m) (hm : m.Ok) : (t.step m).1 = 3 → wfI (t.step m).2.1 := by
  unfold Tb.step
  split
  · intro e; cases e
  simp only
  split
  · intro _; exact step_wf hm
  split
  · intro e; cases e
  · rename_i h3 _
    intro e
    exact absurd (show ((t.settle m).ph : Int) = 3 from e) (by omega)
theorem referdo_rep (w : World) (hf : Fam w0 w (C5 b c x ++ l)) (hx : x.ok c) (h : c.Okc) (hp : c.ph = 2) (ht : c.t.ph ≠ 0) : Calls Tryz.prog 307 #[.agg #[], .pointer (some ⟨b, 0, none⟩)] w (CDid w0 l b c.refs) := by
  refine calls_abs fun R hR => ?_
  obtain ⟨k1, k2, k3⟩ := h.stepT hp
  obtain ⟨o1, o2⟩ := stepT_ok h hp hx ht
  have HF := Lib.hid hf
  have HG := Lib.hid h.tg
  have HM := Lib.hid (h.mo (.inr hp))
  have hwf := tstep_wf h.tg (h.mo (.inr hp))
  have HC : Hid (∀ wx, Fam w0 wx (C5 b c x ++ l) → Calls Tryz.prog 68 #[.pointer (some ⟨x.tb, 0, none⟩), .pointer (some ⟨x.p, 0, none⟩)] wx (fun e w' => e = .returned (.tuple #[.int .i64 (c.t.step c.m).1, .int .i64 (c.t.step c.m).2.1, .int .i64 (c.t.step c.m).2.2.1]) ∧ Fam w0 w' (C5 b c.stepT x ++ l))) := fun wx hx => tstep_rep wx (C5.t3 (b := b) (c := c) (x := x) (l := l)) (hb := x.hb) (p := x.p) (b := x.tb) (m := c.m) (t := c.t) hx HG.out HM.out
  have HP2 : Hid (c.stepT.ph = 2) := hp
  have hMl : c.stepT.m.M.len = c.m.M.len := by rw [show c.stepT.m.M = c.m.M from (h.tg.step (h.mo (.inr hp))).2.2.1]
  rw [Co.refs_eq] at hR
  obtain ⟨s1, hs1⟩ : ∃ s, s = (c.t.step c.m).1 := ⟨_, rfl⟩
  obtain ⟨s2, hs2⟩ : ∃ s, s = (c.t.step c.m).2.1 := ⟨_, rfl⟩
  obtain ⟨s3, hs3⟩ : ∃ s, s = (c.t.step c.m).2.2.1 := ⟨_, rfl⟩
  rw [← hs1, ← hs2, ← hs3] at HC
  rw [← hs1, ← hs2, ← hs3] at hR
  rw [← hs1, ← hs2] at hwf
  rw [← hs3] at k2 k3 o1 o2
  clear hf h hx ht hp hs1 hs2 hs3
  by_cases he : s3 = 0
  · subst he
    rw [if_pos rfl] at hR
    have HO := Lib.hid (o1 rfl)
    have hlr := len_range k1.hf.ok s2
    clear o1 o2 k2 k3
    by_cases h3 : s1 = 3
    · subst h3
      rw [if_pos rfl] at hR
      have HW := Lib.hid (hwf rfl)
      have HR : Hid (∀ w', Fam w0 w' (C5 b c.stepT x ++ l) → R (.returned (.int .i64 (1 + c.stepT.m.M.len s2))) w') := fun w' h2 => hR.out _ _ ⟨by rw [hMl], x, HO.out, h2⟩
      clear hR hwf hMl k1
      generalize hnn : c.stepT.m.M.len s2 = n at *
      have HNN := Lib.hid hnn
      clear hnn
      go_enter Tryz.func307, Tryz.ntmps307
      go_upto_region 1 with fail
      have F1 := Lib.hid (C5.alloc HF.out (.cells #[] 218))
      generalize w.alloc (.cells #[] 218) = w1 at *
      clear HF
      go_region_held3 (fun w' => w'.cell? ⟨b, 3, none⟩ = some (.pointer (some ⟨x.tb, 0, none⟩)) ∧ w'.cell? ⟨b, 4, none⟩ = some (.pointer (some ⟨x.p, 0, none⟩)))
        (first | (exact ⟨(C5.row F1.out).cell 3 rfl, (C5.row F1.out).cell 4 rfl⟩) | (exact ⟨(C5.row f3).cell 3 rfl, (C5.row f3).cell 4 rfl⟩))
        (first | (go_at_call 68; refine (HC.out _ F1.out.drew).mono ?_; rintro e w3 ⟨rfl, f3⟩))
      have F3 := Lib.hid f3
      have cl := clength_rep w3 f3 s2 HW.out
      rw [HNN.out] at cl
      clear f3 HC F1
      go_wp2_with fail
      refine cl.mono ?_
      rintro e _ ⟨rfl, k, rfl⟩
      have F4 := Lib.hid (F3.out.drewN k)
      clear cl F3
      go_wp2_with fail
      exact HR.out _ F4.out
    · rw [if_neg h3] at hR
      have h3b : (s1 == 3) = false := by simpa using h3
      have HR : Hid (∀ w', Fam w0 w' (C5 b c.stepT x ++ l) → R (.returned (.int .i64 1)) w') := fun w' h2 => hR.out _ _ ⟨rfl, x, HO.out, h2⟩
      clear hR hwf hMl k1 h3 hlr
      go_enter Tryz.func307, Tryz.ntmps307
      go_upto_region 1 with fail
      have F1 := Lib.hid (C5.alloc HF.out (.cells #[] 218))
      generalize w.alloc (.cells #[] 218) = w1 at *
      clear HF
      go_region_held3 (fun w' => w'.cell? ⟨b, 3, none⟩ = some (.pointer (some ⟨x.tb, 0, none⟩)) ∧ w'.cell? ⟨b, 4, none⟩ = some (.pointer (some ⟨x.p, 0, none⟩)))
        (first | (exact ⟨(C5.row F1.out).cell 3 rfl, (C5.row F1.out).cell 4 rfl⟩) | (exact ⟨(C5.row f3).cell 3 rfl, (C5.row f3).cell 4 rfl⟩))
        (first | (go_at_call 68; refine (HC.out _ F1.out.drew).mono ?_; rintro e w3 ⟨rfl, f3⟩))
      have F3 := Lib.hid f3
      clear f3 HC F1
      go_wp2_with fail
      exact HR.out _ F3.out
  · rw [if_neg he] at hR
    have heb : (s3 != 0) = true := by simpa using he
    have HO := Lib.hid (o2 he)
    have HT0 := Lib.hid (k2 he)
    have HK1 := Lib.hid k1
    clear o1 o2 k2 k3 k1 hwf hMl
    have HRR := Lib.hid hR.out
    have hnx : c.stepT.nextV = if c.stepT.m.list = [] then .iface 163 (.agg #[.int .i64 3]) else .iface 157 (.agg #[]) := by
      unfold Co.nextV
      rw [if_neg (by rw [HP2.out]; decide), if_pos HP2.out, if_neg (by rw [HT0.out]; exact fun e => e rfl)]
    unfold Co.tail at hR
    by_cases hl : c.stepT.m.list = []
    · rw [if_pos hl] at hR hnx
      have HNX := Lib.hid hnx
      clear hl hnx HRR he
      go_enter Tryz.func307, Tryz.ntmps307
      go_upto_region 1 with fail
      have F1 := Lib.hid (C5.alloc HF.out (.cells #[] 218))
      generalize w.alloc (.cells #[] 218) = w1 at *
      clear HF
      go_region_held3 (fun w' => w'.cell? ⟨b, 3, none⟩ = some (.pointer (some ⟨x.tb, 0, none⟩)) ∧ w'.cell? ⟨b, 4, none⟩ = some (.pointer (some ⟨x.p, 0, none⟩)))
        (first | (exact ⟨(C5.row F1.out).cell 3 rfl, (C5.row F1.out).cell 4 rfl⟩) | (exact ⟨(C5.row f3).cell 3 rfl, (C5.row f3).cell 4 rfl⟩))
        (first | (go_at_call 68; refine (HC.out _ F1.out.drew).mono ?_; rintro e w3 ⟨rfl, f3⟩))
      have x7f := ((CRow.cells f3).2.2.2.2.2.2.2.2.2.2) 7
      have x7fc := (CRow.cells f3).2.2.2.2.2.2.2.1
      have F4 : Hid (Fam w0 (w3.setCell ⟨b, 7, none⟩ (.bool true)) (C5 b c.stepT { x with ov := true } ++ l)) := C5.setOv f3 true
      clear f3 HC F1
      go_upto_region 4 with fail
      generalize w3.setCell ⟨b, 7, none⟩ (.bool true) = w4 at *
      have cn := cnext_rep w4 F4.out HK1.out HO.out (by rw [HP2.out]; decide)
      rw [HNX.out] at cn
      clear x7f x7fc
      go_wp2_with fail
      refine cn.mono ?_
      rintro e _ ⟨rfl, k, rfl⟩
      have F5 := Lib.hid (F4.out.drewN k)
      generalize w4.drewN k = w5 at *
      have cb := begins3_rep w5 F5.out HO.out HK1.out
      clear cn F4
      go_wp2_with fail
      refine cb.mono ?_
      rintro e w6 ⟨rfl, x', hx', hf'⟩
      have HE : Hid (CDid w0 l b c.stepT.sweepB (.returned (.int .i64 c.stepT.sweepB.1)) w6) := ⟨rfl, x', hx', hf'⟩
      clear cb hx' hf' F5
      go_wp2_with fail
      exact hR.out _ _ HE.out
    · rw [if_neg hl] at hR hnx
      have HNX := Lib.hid hnx
      clear hl hnx HRR he
      go_enter Tryz.func307, Tryz.ntmps307
      go_upto_region 1 with fail
      have F1 := Lib.hid (C5.alloc HF.out (.cells #[] 218))
      generalize w.alloc (.cells #[] 218) = w1 at *
      clear HF
      go_region_held3 (fun w' => w'.cell? ⟨b, 3, none⟩ = some (.pointer (some ⟨x.tb, 0, none⟩)) ∧ w'.cell? ⟨b, 4, none⟩ = some (.pointer (some ⟨x.p, 0, none⟩)))
        (first | (exact ⟨(C5.row F1.out).cell 3 rfl, (C5.row F1.out).cell 4 rfl⟩) | (exact ⟨(C5.row f3).cell 3 rfl, (C5.row f3).cell 4 rfl⟩))
        (first | (go_at_call 68; refine (HC.out _ F1.out.drew).mono ?_; rintro e w3 ⟨rfl, f3⟩))
      have x7f := ((CRow.cells f3).2.2.2.2.2.2.2.2.2.2) 7
      have x7fc := (CRow.cells f3).2.2.2.2.2.2.2.1
      have F4 : Hid (Fam w0 (w3.setCell ⟨b, 7, none⟩ (.bool true)) (C5 b c.stepT { x with ov := true } ++ l)) := C5.setOv f3 true
      clear f3 HC F1
      go_upto_region 4 with fail
      generalize w3.setCell ⟨b, 7, none⟩ (.bool true) = w4 at *
      have cn := cnext_rep w4 F4.out HK1.out HO.out (by rw [HP2.out]; decide)
      rw [HNX.out] at cn
      clear x7f x7fc
      go_wp2_with fail
      refine cn.mono ?_
      rintro e _ ⟨rfl, k, rfl⟩
      have F5 := Lib.hid (F4.out.drewN k)
      generalize w4.drewN k = w5 at *
      have cb := markdo_rep w5 F5.out HO.out (HK1.out.mo (.inr HP2.out))
      clear cn F4
      go_wp2_with fail
      refine cb.mono ?_
      rintro e w6 ⟨rfl, x', hx', hf'⟩
      have HE : Hid (CDid w0 l b c.stepT.mark (.returned (.int .i64 c.stepT.mark.1)) w6) := ⟨rfl, x', hx', hf'⟩
      clear cb hx' hf' F5
      go_wp2_with fail
      exact hR.out _ _ HE.out
end
end Go.Proofs.YthflghdaejbdkaaGreat
