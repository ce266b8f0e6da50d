/- Lemmas of this claim. -/
import Derived.Test.YthflghdaejbdkaaGreatXfCyR
import Derived.Test.YthflghdaejbdkaaGreatXfCyGiv
namespace Go.Proofs.YthflghdaejbdkaaGreat
open Go.RowKit Go.Maps
set_option maxHeartbeats 6400000
set_option maxRecDepth 100000
set_option linter.unusedVariables false
section
variable {w0 w : World} {l : List Asn} {b : Nat} {c : Co} {x : CX} {i : Nat}
theorem hrel_rep (w : World) (hf : Fam w0 w (C5 b c x ++ l)) (h : Int) (hh : wfI h) : Calls Tryz.prog 300 #[.pointer (some ⟨x.hb, 0, none⟩), .int .i64 h] w (fun e w' => e = .returned (.int .i64 (c.m.M.release h).1) ∧ Fam w0 w' (C5 b (c.setM (c.m.put (c.m.M.release h).2)) x ++ l)) :=
  hf.pstep 0 rfl (M' := (c.m.M.release h).2) (fun hk => hk.release h) (fun L X hr hk => release_rep w hr hk h hh)
theorem freedo_rep (w : World) (hf : Fam w0 w (C5 b c x ++ l)) (hx : x.ok c) (h : c.Okc) (hp : c.ph = 3) {y : Int} {r : List Int} (e : c.sw = y :: r) : Calls Tryz.prog 299 #[.agg #[.int .i64 y], .pointer (some ⟨b, 0, none⟩)] w (CDid w0 l b c.free) := by
  refine calls_abs fun R hR => ?_
  have F0 : Hid (Fam w0 (w.alloc (.cells #[.int .i64 y] 160)) (C5 b c x ++ (l ++ [RowA w.heap.size 160 [.int .i64 y]]))) := hf.addRow 160 [.int .i64 y]
  have HWY : Hid (wfI y) := wf192 (h.hf.ok.inR (h.su y (by rw [e]; exact List.mem_cons_self)))
  have hbr := blocks_range h.hf.ok y
  have hsl := h.sw_len
  rw [e, List.length_cons] at hsl
  have HR : Hid (∀ w' v, Fam w0 w' (C5 b { c with sw := r, m := c.m.put (c.m.M.release y).2 } { x with sv := v } ++ l) → R (.returned (.int .i64 (1 + ((c.m.M.blocks y).1.length : Int)))) w') := fun w' v h2 => hR.out _ _ (by
    unfold Co.free
    rw [e]
    exact ⟨rfl, { x with sv := v }, ⟨fun e => absurd (show c.ph = 2 from e) (by omega), fun e => absurd (show c.ph = 4 from e) (by omega), hx.mv2⟩, h2⟩)
  have HE := Lib.hid e
  clear hf h hR hx hp e
  go_enter Tryz.func299, Tryz.ntmps299
  go_upto_region 1 with fail
  obtain ⟨g, hg⟩ : ∃ g, g = w.heap.size := ⟨_, rfl⟩
  rw [← hg] at F0 ⊢
  generalize w.alloc (.cells #[.int .i64 y] 160) = w1 at *
  clear hg
  have HC : Hid (∀ wx, Only [] w1 wx → Calls Tryz.prog 115 #[.pointer (some ⟨x.hb, 0, none⟩), .int .i64 y] wx (TwoL wx (c.m.M.blocks y))) := fun wx ho => by
    obtain ⟨hk, L, X, hp⟩ := C5.ph (F0.out.only0 ho)
    exact blocks_rep wx hp hk y HWY.out
  generalize hbn : (c.m.M.blocks y).1.length = bn at *
  have HBN := Lib.hid hbn
  clear hbn
  have HQ0 : Hid (Only [] w1 w1.drew) := (Only.refl [] w1).drew
  go_region_held3 (fun w' => w'.cell? ⟨b, 2, none⟩ = some (.pointer (some ⟨x.hb, 0, none⟩)) ∧ w'.cell? ⟨g, 0, none⟩ = some (.int .i64 y))
    (first | (exact ⟨(C5.row F0.out).cell 2 rfl, (C5.last F0.out).cell 0 rfl⟩) | (exact ⟨(C5.row F2.out).cell 2 rfl, (C5.last F2.out).cell 0 rfl⟩))
    (first | (go_at_call 115; refine (HC.out _ HQ0.out).mono ?_; rintro e w2 ⟨v, rfl, hi, ho⟩; obtain ⟨va, vc, rfl⟩ := hi.len; rw [HBN.out] at *; have F2 := Lib.hid (F0.out.drew.only0 ho); clear hi ho))
  clear HC F0 HQ0
  obtain ⟨_, _, _, _, _, _, _, _, x8, _, xf⟩ := CRow.cells F2.out
  have x8f := xf 8
  have hs := C5.sw F2.out
  rw [HE.out] at hs
  obtain ⟨sa, sc, hv⟩ := hs.len
  rw [hv] at x8 hs
  have HS := Lib.hid hs
  obtain ⟨sb, so, rfl, hcl⟩ := hs.read.at (k := 0) (by simp)
  replace x8 : w2.cell? ⟨b, 8, none⟩ = some (.slice (some ⟨sb, so, none⟩) (r.length + 1) sc) := x8
  have hcap : r.length + 1 ≤ sc := by
    rcases hs.form with ⟨h1, _⟩ | ⟨g, cap, h1, _, _, h3, _⟩
    · cases h1
    · simp only [Value.slice.injEq] at h1
      obtain ⟨_, _, rfl⟩ := h1
      exact h3
  have CL : Hid (∀ o' cc, (o' = so + 1 ∨ r.length = 0) → Calls Tryz.prog 80 #[.slice (some ⟨sb, o', none⟩) r.length cc] w2 (fun e w' => ∃ v, e = .returned v ∧ Ints w' w2.heap.size v r ∧ Only [] w2 w')) := fun o' cc ho => by
    refine (clone_intsO w2 sb o' r.length cc r rfl (by omega) (fun k hk => ?_)).mono (fun e w' ⟨v, h1, h2, h3, _⟩ => ⟨v, h1, h2, h3⟩)
    rcases ho with rfl | h0
    · obtain ⟨b2, o2, e2, h4⟩ := HS.out.read.at (k := k + 1) (by simp; omega)
      cases e2
      rw [show so + 1 + k = so + (k + 1) by omega, h4]
      simp [gI]
    · omega
  have HRL := Lib.hid (rfl : r.length = r.length)
  clear hs hv hcl HS xf
  obtain ⟨n, hn⟩ : ∃ n, n = r.length := ⟨_, rfl⟩
  rw [← hn] at x8 CL hcap hsl
  clear HRL hn
  go_wp2_with fail
  all_goals (
    refine (CL.out _ _ (by first | exact .inl rfl | (right; omega))).mono ?_
    rintro e w3 ⟨v0, rfl, hi1, ho1⟩
    obtain ⟨v1a, v1c, hv1⟩ := hi1.len
    subst hv1
    obtain ⟨n1, hn1⟩ : ∃ n, n = r.length := ⟨_, rfl⟩
    rw [← hn1] at hi1 ⊢
    clear hn1
    have F3 : Hid (Fam w0 (w3.setCell ⟨b, 8, none⟩ (.slice v1a n1 v1c)) (C5 b { c with sw := r } { x with sv := .slice v1a n1 v1c } ++ (l ++ [RowA g 160 [.int .i64 y]]))) := C5.setSw F2.out ho1 hi1
    have y8f := ((CRow.cells (F2.out.only0 ho1)).2.2.2.2.2.2.2.2.2.2) 8
    have y8fc := (CRow.cells (F2.out.only0 ho1)).2.2.2.2.2.2.2.2.1
    clear hi1 ho1 x8 x8f CL F2
    go_upto_region 3 with fail
    generalize w3.setCell ⟨b, 8, none⟩ (.slice v1a n1 v1c) = w4 at *
    clear y8f y8fc
    have HC : Hid (∀ wx, Fam w0 wx (C5 b { c with sw := r } { x with sv := .slice v1a n1 v1c } ++ (l ++ [RowA g 160 [.int .i64 y]])) → Calls Tryz.prog 300 #[.pointer (some ⟨x.hb, 0, none⟩), .int .i64 y] wx (fun e w' => e = .returned (.int .i64 (c.m.M.release y).1) ∧ Fam w0 w' (C5 b { c with sw := r, m := c.m.put (c.m.M.release y).2 } { x with sv := .slice v1a n1 v1c } ++ (l ++ [RowA g 160 [.int .i64 y]])))) := fun wx hx => hrel_rep wx hx y HWY.out
    go_region_held3 (fun w' => w'.cell? ⟨b, 2, none⟩ = some (.pointer (some ⟨x.hb, 0, none⟩)) ∧ w'.cell? ⟨g, 0, none⟩ = some (.int .i64 y))
      (first | (exact ⟨(C5.row F3.out).cell 2 rfl, (C5.last F3.out).cell 0 rfl⟩) | (exact ⟨(C5.row f5).cell 2 rfl, (C5.last f5).cell 0 rfl⟩))
      (first | (go_at_call 300; refine (HC.out _ F3.out.drew).mono ?_; rintro e w5 ⟨rfl, f5⟩))
    have F6 : Hid (Fam w0 w5 (C5 b { c with sw := r, m := c.m.put (c.m.M.release y).2 } { x with sv := .slice v1a n1 v1c } ++ l)) := by
      have f6 : Fam w0 w5 ((C5 b { c with sw := r, m := c.m.put (c.m.M.release y).2 } { x with sv := .slice v1a n1 v1c } ++ l) ++ [RowA g 160 [.int .i64 y]]) := f5
      exact f6.pop
    clear f5 F3 HC
    go_wp2_with fail
    exact HR.out _ _ F6.out)
theorem hmv_rep (w : World) (hf : Fam w0 w (C5 b c x ++ l)) : Calls Tryz.prog 309 #[.pointer (some ⟨x.hb, 0, none⟩)] w (fun e w' => e = .returned (.tuple #[.int .i64 c.m.M.move.1, .int .i64 c.m.M.move.2.1]) ∧ Fam w0 w' (C5 b (c.setM (c.m.put c.m.M.move.2.2)) x ++ l)) :=
  hf.pstep 0 rfl (M' := c.m.M.move.2.2) (fun hk => hk.move) (fun L X hr hk => hmove_rep w hr hk)
theorem hcp_rep (w : World) (hf : Fam w0 w (C5 b c x ++ l)) : Calls Tryz.prog 128 #[.pointer (some ⟨x.hb, 0, none⟩)] w (fun e w' => ∃ q, e = .returned (.pointer (some ⟨q, 0, none⟩)) ∧ Only [] w w' ∧ Fam w0 w' (C5 b c x ++ (l ++ [PH q c.m.M]))) := by
  obtain ⟨hk, L, X, hp⟩ := C5.ph hf
  have hkF := hf.phF 0 rfl
  refine (hcopy_rep w hp hk).mono ?_
  rintro e w' ⟨q, L', X', he, h1, h2, h3⟩
  exact ⟨q, he, h3, hf.add (pborn h1 hkF h2 h3)⟩
theorem C5.lastPH {q : Nat} {M : Hp} (hf : Fam w0 w (C5 b c x ++ (l ++ [PH q M]))) : M.Ok ∧ ∃ L X, HRep w L q M X := by
  refine hf.ph (5 + l.length) ?_
  have h5 : (C5 b c x).length = 5 := rfl
  rw [List.getElem?_append_right (by omega), List.getElem?_append_right (by omega), show 5 + l.length - (C5 b c x).length - l.length = 0 by omega]
  rfl
theorem move_err (M : Hp) : M.move.2.1 = M.P.move.2.2.1 := by
  unfold Hp.move
  split
  · rename_i e
    split
    · rw [e]
    · rw [e]
  · rfl
theorem cmove_bad {M : Hp} (he : M.P.move.2.2.1 ≠ 0) : M.move = (0, M.P.move.2.2.1, M) := by unfold Hp.move; rw [if_neg he]
theorem movedo_rep (w : World) (hf : Fam w0 w (C5 b c x ++ l)) (hx : x.ok c) (h : c.Okc) (hp : c.ph = 4) (hm : c.mv ≠ 8 * c.pages) : Calls Tryz.prog 308 #[.agg #[], .pointer (some ⟨b, 0, none⟩)] w (CDid w0 l b c.move) := by
  refine calls_abs fun R hR => ?_
  have F0 : Hid (Fam w0 (w.alloc (.cells #[] 219)) (C5 b c x ++ l)) := C5.alloc hf _
  by_cases he : c.m.M.P.move.2.2.1 = 0
  · obtain ⟨y, o, ho, hpl, hmv, hob, hne, hcl⟩ := h.hf.move_what he
    have hmvx := hx.mv hp
    have hmv192 := h.mv
    have hpg := h.pg
    have HWY : Hid (wfI y) := wf192 (h.hf.ok.hr y o ho)
    have hbl := h.hf.ok.blen ho
    have hrg := move_class h.hf.ok.p he
    have hn24 := h.hf.ok.n24
    have HCO : Hid (c.move = (4 + (bsz (c.m.M.P.class (c.m.M.P.move.1.tdiv 16)).1 : Int), { c with m := c.m.put c.m.M.move.2.2, mv := c.mv + 1 })) := by
      show _ = _
      unfold Co.move
      rw [if_neg (fun e => by rcases e with e | e; exact hm e; exact e he)]
    have HR : Hid (∀ w', Fam w0 w' (C5 b { c with m := c.m.put c.m.M.move.2.2, mv := c.mv + 1 } { x with mv := c.mv + 1 } ++ l) → R (.returned (.int .i64 (4 + (bsz (c.m.M.P.class (c.m.M.P.move.1.tdiv 16)).1 : Int)))) w') := fun w' h2 => hR.out _ _ (by
      rw [HCO.out]
      exact ⟨rfl, { x with mv := c.mv + 1 }, ⟨fun e => absurd (show c.ph = 2 from e) (by omega), fun e => rfl, by show c.mv + 1 ≤ 192; omega⟩, h2⟩)
    have hm1 : c.m.M.move.1 = y := by rw [hmv]
    have hm2 : c.m.M.move.2.1 = 0 := by rw [hmv]
    -- the blocks before and behind
    have HB1 : Hid ((c.m.M.blocks y).1 = o.blocks) := by show _ = _; unfold Hp.blocks; rw [ho]
    have HB2 : Hid ((c.m.M.move.2.2.blocks y).1 = o.blocks.set (o.place c.m.M.P.move.1) c.m.M.P.move.2.1) := by show _ = _; unfold Hp.blocks; rw [hob]; rfl
    have hcle : (c.m.M.P.class (c.m.M.P.move.1.tdiv 16)).1 ≤ 2 := class_le h.hf.ok.p _
    have hok' := h.hf.move
    rw [← hcl] at hcle
    have hcge : 0 ≤ (c.m.M.move.2.2.P.class (c.m.M.P.move.2.1.tdiv 16)).1 := by
      rw [hcl]
      have hb := h.hf.ok.bk y o ho _ hpl
      have hc := h.hf.ok.isC ho (m := o.place c.m.M.P.move.1) hpl
      rw [Th.place_lt hpl] at hb
      obtain ⟨i, k, e1, hh⟩ := hb
      have hblk := hc.blk hh.kb
      have hs := hc.sz
      have hhi := hh.hi
      rw [e1, show (((16 * i + k * bsz (gI (needs o.slots.length) (o.place c.m.M.P.move.1)) : Nat) : Int)).tdiv 16 = (i : Int) by rw [Int.tdiv_eq_ediv_of_nonneg (by omega)]; omega]
      unfold Pl.class
      rw [if_neg (by omega), Int.toNat_natCast, hh.cls]
      rcases hc with e | e | e <;> omega
    rw [← hcl] at HR
    obtain ⟨k0, hk0⟩ : ∃ k, k = o.place c.m.M.P.move.1 := ⟨_, rfl⟩
    obtain ⟨to1, hto⟩ : ∃ t, t = c.m.M.P.move.2.1 := ⟨_, rfl⟩
    rw [← hk0] at hpl hne HB2
    rw [← hto] at hne HB2 hrg hcle hcge HR
    obtain ⟨cl, hcl2⟩ : ∃ k, k = (c.m.M.move.2.2.P.class (to1.tdiv 16)).1 := ⟨_, rfl⟩
    have HCL := Lib.hid hcl2
    rw [← hcl2] at hcle hcge HR
    have hto0 : 0 ≤ to1 := hrg.2.2.1
    have hto1 : to1 < 384 := by have := hrg.2.2.2.2.1; omega
    have hkl : k0 < 7 := by omega
    have HMV : Hid (c.mv ≤ 191) := by show c.mv ≤ 191; omega
    clear hf hR hx hp hm hob hmv hcl ho hk0 hto hcl2 hrg hn24 hmv192 hpg HCO hok'
    have HH := Lib.hid h
    clear h
    generalize hbs : o.blocks = bs at *
    clear hbs
    go_enter Tryz.func308, Tryz.ntmps308
    go_upto_region 1 with fail
    generalize w.alloc (.cells #[] 219) = w1 at *
    have x2 := (CRow.cells F0.out).2.2.1
    have cc := hcp_rep w1 F0.out
    go_wp2_with fail
    refine cc.mono ?_
    rintro e w2 ⟨q, rfl, ho2, hf2⟩
    have F2 := Lib.hid hf2
    have y2 := (CRow.cells hf2).2.2.1
    have cm := hmv_rep w2 hf2
    rw [hm1, hm2] at cm
    clear cc ho2 hf2 x2 F0
    go_wp2_with fail
    refine cm.mono ?_
    rintro e w3 ⟨rfl, hf3⟩
    have F3 : Hid (Fam w0 w3 (C5 b { c with m := c.m.put c.m.M.move.2.2 } x ++ (l ++ [PH q c.m.M]))) := hf3
    obtain ⟨_, _, _, _, _, _, _, _, _, x9, xf⟩ := CRow.cells F3.out
    rw [hmvx] at x9
    have x9f := xf 9
    have F4 : Hid (Fam w0 (w3.setCell ⟨b, 9, none⟩ (.int .i64 ((c.mv + 1 : Nat) : Int))) (C5 b { c with m := c.m.put c.m.M.move.2.2, mv := c.mv + 1 } { x with mv := c.mv + 1 } ++ (l ++ [PH q c.m.M]))) := C5.setMv F3.out (c.mv + 1)
    have hmv1 := HMV.out
    clear cm hf3 xf y2 F2
    generalize hmve : c.mv = mv at *
    go_upto_region 6 with fail
    have hcast : ((mv : Int) + 1) = ((mv + 1 : Nat) : Int) := by omega
    rw [hcast]
    generalize w3.setCell ⟨b, 9, none⟩ (.int .i64 ((mv + 1 : Nat) : Int)) = w4 at *
    clear x9 x9f F3 hcast
    obtain ⟨hkq, Lq, Xq, hq⟩ := C5.lastPH F4.out
    have c1 := blocks_rep w4 hq hkq y HWY.out
    clear hkq hq
    go_wp2_with fail
    refine c1.mono ?_
    rintro e w5 ⟨v1, rfl, hi1, ho1⟩
    have F5 := Lib.hid (F4.out.only0 ho1)
    obtain ⟨hk5, L5, X5, hp5⟩ := C5.ph F5.out
    have x2 := (CRow.cells F5.out).2.2.1
    have c2 := blocks_rep w5 hp5 hk5 y HWY.out
    have HI1 := Lib.hid hi1
    clear c1 hi1 ho1 hk5 hp5 F4
    go_wp2_with fail
    refine c2.mono ?_
    rintro e w6 ⟨v2, rfl, hi2, ho2⟩
    have F6 := Lib.hid (F5.out.only0 ho2)
    have HRD : Hid (∀ wx, Only [] w6 wx → Read wx v1 bs ∧ Read wx v2 (bs.set k0 to1)) := fun wx ho => by
      have h1 := (HI1.out.only ho2 (by simp)).only ho (by simp)
      have h2 := hi2.only ho (by simp)
      rw [HB1.out] at h1
      have h3 : (({ c with m := c.m.put c.m.M.move.2.2, mv := mv + 1 } : Co).m.M.blocks y).1 = bs.set k0 to1 := HB2.out
      rw [h3] at h2
      exact ⟨h1.read, h2.read⟩
    obtain ⟨n, hn⟩ : ∃ n, n = bs.length := ⟨_, rfl⟩
    have HN := Lib.hid hn
    obtain ⟨va2, vc2, hv2⟩ : ∃ a c, v2 = .slice a n c := by
      obtain ⟨a, c9, e⟩ := hi2.len
      have h3 : (({ c with m := c.m.put c.m.M.move.2.2, mv := mv + 1 } : Co).m.M.blocks y).1 = bs.set k0 to1 := HB2.out
      rw [h3, List.length_set, ← hn] at e
      exact ⟨a, c9, e⟩
    obtain ⟨va1, vc1, hv1⟩ : ∃ a c, v1 = .slice a n c := by
      obtain ⟨a, c9, e⟩ := HI1.out.len
      rw [HB1.out, ← hn] at e
      exact ⟨a, c9, e⟩
    subst hv1 hv2
    have hne2 : (to1 != gI bs k0) = true := by simpa using hne
    rw [← hn] at hpl
    clear c2 hi2 ho2 HI1 F5 x2 HB1 HB2 hn hm1 hm2 hne
    go_wp2_with fail
    have HZ := Lib.hid (Only.refl [] w6)
    go_loopw [58] (fun iv wr => ∃ k : Nat, k ≤ k0 ∧ iv = .int .i64 k ∧ Only [] w6 wr) (fun iv _ => 8 - (intOf iv).toNat)
    case atStart => exact ⟨0, by omega, rfl, HZ.out⟩
    case round => as_aux_lemma =>
      clear HZ
      obtain ⟨k, hk, rfl, ho⟩ := hrel
      have HO := Lib.hid ho
      have hkn : k < bs.length := by rw [← HN.out]; omega
      obtain ⟨hr1, hr2⟩ := HRD.out wr ho
      obtain ⟨b1, o1, rfl, h1⟩ := hr1.at hkn
      obtain ⟨b2, o2, rfl, h2⟩ := hr2.at (k := k) (by rw [List.length_set]; exact hkn)
      rw [gI_set (by rw [← HN.out]; omega)] at h2
      have hlt1 : (k : Int) < (n : Int) := by omega
      have hk0' : (0 : Int) ≤ (k : Int) := by omega
      clear ho hr1 hr2 hkn
      by_cases hkk : k = k0
      · subst hkk
        rw [if_pos rfl] at h2
        generalize gI bs k = old at *
        have F7 := Lib.hid (F6.out.only0 HO.out)
        obtain ⟨hk7, L7, X7, hp7⟩ := C5.ph F7.out
        have x2 := (CRow.cells F7.out).2.2.1
        have cp := hpool_rep wr hp7
        have hd : (to1.tdiv 16) = to1.tdiv 16 := rfl
        obtain ⟨d, hd2⟩ : ∃ d, d = to1.tdiv 16 := ⟨_, rfl⟩
        have hdr : 0 ≤ d ∧ d ≤ 24 := by rw [hd2, Int.tdiv_eq_ediv_of_nonneg hto0]; omega
        have HCL2 : Hid ((({ c with m := c.m.put c.m.M.move.2.2, mv := mv + 1 } : Co).m.M.P.class d).1 = cl) := by rw [hd2]; exact HCL.out.symm
        have hq16 : to1.tdiv 16 = d := hd2.symm
        clear hk7 hp7 hd hd2
        go_wp2_with fail
        refine cp.mono ?_
        rintro e w8 ⟨p', b', rfl, hpr, ho8, _, _⟩
        have HO8 : Hid (Only [] w6 w8) := HO.out.trans ho8 (by simp)
        have ccl := classOf_rep w8 p' b' _ hpr d
        rw [HCL2.out] at ccl
        clear cp ho8 hpr x2
        generalize (({ c with m := c.m.put c.m.M.move.2.2, mv := mv + 1 } : Co).m.M.P.class d).2 = ce at *
        have F8 : Hid (Fam w0 w8 (C5 b { c with m := c.m.put c.m.M.move.2.2, mv := mv + 1 } { x with mv := mv + 1 } ++ l)) := by
          have f8 : Fam w0 w8 ((C5 b { c with m := c.m.put c.m.M.move.2.2, mv := mv + 1 } { x with mv := mv + 1 } ++ l) ++ [PH q c.m.M]) := F6.out.only0 HO8.out
          exact f8.pop
        have hc3 : cl = 0 ∨ cl = 1 ∨ cl = 2 := by omega
        rcases hc3 with rfl | rfl | rfl
        all_goals
          go_wp2_with fail
          refine ccl.mono ?_
          rintro e _ ⟨rfl, rfl⟩
          go_wp2_with fail
          exact HR.out _ F8.out
      · rw [if_neg hkk] at h2
        generalize gI bs k = old at *
        have hlt2 : k < k0 := by omega
        go_wp2_with fail
        exact ⟨⟨k + 1, by omega, by go_num, HO.out⟩, by simp [intOf]; omega⟩
  · have hmb := cmove_bad he
    have HCO : Hid (c.move = (1, { c with ph := 0, cr := 0 })) := by
      show _ = _
      unfold Co.move
      rw [if_pos (.inr he)]
    have HX := Lib.hid hx
    have heb : (c.m.M.P.move.2.2.1 != 0) = true := by simpa using he
    have hm1 : c.m.M.move.2.1 = c.m.M.P.move.2.2.1 := move_err _
    have hm2 : c.m.put c.m.M.move.2.2 = c.m := by rw [hmb]; rfl
    rw [HCO.out] at hR
    clear hf h hx hp hm he hmb
    go_enter Tryz.func308, Tryz.ntmps308
    go_upto_region 1 with fail
    generalize w.alloc (.cells #[] 219) = w1 at *
    have x2 := (CRow.cells F0.out).2.2.1
    have cc := hcp_rep w1 F0.out
    go_wp2_with fail
    refine cc.mono ?_
    rintro e w2 ⟨q, rfl, ho2, hf2⟩
    have F2 := Lib.hid hf2
    have y2 := (CRow.cells hf2).2.2.1
    have cm := hmv_rep w2 hf2
    rw [hm1, hm2] at cm
    clear cc ho2 hf2 x2 F0 hm1 hm2
    generalize c.m.M.P.move.2.2.1 = er at *
    generalize c.m.M.move.1 = er1 at *
    go_wp2_with fail
    refine cm.mono ?_
    rintro e w3 ⟨rfl, hf3⟩
    have F3 : Hid (Fam w0 w3 (C5 b c x ++ (l ++ [PH q c.m.M]))) := hf3
    have cb := begins0_rep w3 F3.out HX.out
    clear cm hf3 y2 F2
    go_wp2_with fail
    refine cb.mono ?_
    rintro e w4 ⟨rfl, x', hx', hf4⟩
    have HE : Hid (CDid w0 l b (1, { c with ph := 0, cr := 0 }) (.returned (.int .i64 1)) w4) := ⟨rfl, x', hx', by
      have f5 : Fam w0 w4 ((C5 b { c with ph := 0, cr := 0 } x' ++ l) ++ [PH q c.m.M]) := hf4
      exact f5.pop⟩
    clear cb hx' hf4 F3
    go_wp2_with fail
    exact hR.out _ _ HE.out
end
end Go.Proofs.YthflghdaejbdkaaGreat
