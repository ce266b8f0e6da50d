/- Lemmas of this claim. -/
import Derived.Test.YtkacgbigeobncaaGreatTaSnI
import Derived.Test.YtkacgbigeobncaaGreatTaInv
import Derived.StillTail
namespace Go.Proofs.YtkacgbigeobncaaGreat
open Go.RowKit Go.Maps
set_option maxHeartbeats 6400000
set_option maxRecDepth 100000
set_option linter.unusedVariables false
set_option linter.unusedSimpArgs false
theorem tyFr : TyZ 111 149 5 (.agg #[.int .i64 0, .slice none 0 0, .slice none 0 0, .int .i64 0, .slice none 0 0]) 88 := ⟨Tryz.underlying111, by kernel_rfl, rfl, by decide⟩
theorem rowFr : RowZ (fun _ : Unit => fR (.slice none 0 0) (.slice none 0 0) 0) 5 := ⟨fun _ => rfl, fun x u hu => by simp [fR] at hu; rcases hu with rfl | rfl | rfl | rfl <;> rfl⟩
theorem tyJb : TyZ 98 114 6 (.agg #[.slice none 0 0, .slice none 0 0, .bool false, .bool false, .int .i64 0, .int .i64 0]) 72 := ⟨Tryz.underlying98, by kernel_rfl, rfl, by decide⟩
theorem rowJb : RowZ (fun _ : Unit => jR (.slice none 0 0) false) 6 := ⟨fun _ => rfl, fun x u hu => by simp [jR] at hu; rcases hu with rfl | rfl | rfl <;> rfl⟩
section
variable (w : World) (bw bm cm bc cc bj cj : Nat) (td : Value)
theorem wenter (h : WS w bw bm cm bc cc (.slice (some ⟨bj, 0, none⟩) 1 cj) td) (hj : Blk w bj (jR (.slice none 0 0) false)) (hn : bj ≠ bw ∧ bj ≠ bm ∧ bj ≠ bc) :
    Calls Tryz.prog 43 #[.pointer (some ⟨bw, 0, none⟩), .int .i64 0, .int .i64 0, .slice none 0 0] w
      fun e w' => e = .returned (.tuple #[]) ∧ ∃ bf cf, JS w' ⟨bw, bm, cm, bc, cc, bj, cj, bf, cf⟩ 1 false (.slice none 0 0) (.slice none 0 0) 0 td ∧ w.heap.size ≤ bf ∧ Only [bj] w w' := by
  refine calls_abs fun R hR => ?_
  have H := Lib.hid h
  have HJ := Lib.hid hj
  have HN := Lib.hid hn
  have cl := locals_good w _ helloM h.1.modA hello_valid 0 (by decide) (by decide) (by decide) (by decide)
  have c0 := fun w => clone0Val w
  unfold modV hX at cl
  dsimp only at cl
  obtain ⟨-, -, -, pl, cp, hp, sc, L, -, hr⟩ := h
  have a0 := hr.cell 0 rfl
  have a1 := hr.cell 1 rfl
  have a2 := hr.cell 2 rfl
  have a3 := hr.cell 3 rfl
  clear hj hn hr
  go_enter Tryz.func43, Tryz.ntmps43
  go_wp2_with fail
  refine cl.mono ?_
  rintro e w2 ⟨v, rfl, hv, ho⟩
  obtain ⟨va, vc, rfl⟩ := hv.len
  rw [show (helloM.localsOf 0).length = 0 from rfl]
  have HO2 := Lib.hid ho
  have HVC := Lib.hid (hv.rd rowTy)
  clear cl hv ho a0 a1 a2 a3
  go_wp2_with fail
  refine (c0 _).mono ?_
  rintro e w3 ⟨rfl, e3⟩
  subst e3
  clear c0
  go_wp2_with fail
  go_loopw [30, 10] (fun i l wr => i = .int .i64 0 ∧ l = .slice none 0 0 ∧ wr = w2) (fun _ _ _ => 0)
  case atStart => exact ⟨rfl, rfl, rfl⟩
  case round =>
    obtain ⟨rfl, rfl, e4⟩ := hrel
    subst e4
    have H2 := Lib.hid (H.out.only HO2.out (by simp) (by simp) (by simp))
    have HJ2 := Lib.hid (HJ.out.only0 HO2.out)
    obtain ⟨cp2, -, -, a7, -⟩ := H2.out.cells
    have j0 := HJ2.out.at_ 0 _ rfl
    go_wp2_with (at_builtin; refine append_own tyFr rowFr rfl _ _ rfl 0 _ [] rfl Own.nil _ [()] rfl (rd_one rowFr wr 149 ()) ?c1 ?c2 ?c3 ?c4)
    case c1 => simp
    case c2 => simp
    case c3 => omega
    case c4 =>
      intro v w5 hv ho hbk
      obtain ⟨bf, cf, rfl, -, hcf, -, hB⟩ := Own.blk rowFr (by decide) hv (by simp)
      have hOA := ((Only.refl [] wr).alloc (.cells (fR (.slice none 0 0) (.slice none 0 0) 0).toArray 149)).trans ho (by simp [Value.ownBlock])
      have hge : wr.heap.size ≤ bf := by
        rcases hbk with h | h
        · simp [Value.ownBlock] at h
        · simp [Value.ownBlock] at h; omega
      have H5 := Lib.hid (H2.out.only hOA (by simp) (by simp) (by simp))
      have hj5 := HJ2.out.only0 hOA
      have HJ5 := Lib.hid hj5
      have j0 := hj5.at_ 0 _ rfl
      have g0 := hj5.fr 0
      have HB5 := Lib.hid (hB.cast (show ([()].flatMap fun _ => fR (.slice none 0 0) (.slice none 0 0) 0) = fR (.slice none 0 0) (.slice none 0 0) 0 by simp))
      have HO5 := Lib.hid (HO2.out.trans hOA (by simp))
      have HGE := Lib.hid (show w.heap.size ≤ bf by have := HO2.out.size; omega)
      clear hv ho hbk hcf hB hOA hge hj5
      go_wp2_with fail
      go_end0
      have l1 : bw < w.heap.size := by obtain ⟨_, _, _, _, _, _, _, _, _, hr⟩ := H.out; exact hr.lt
      have l2 : bm < w.heap.size := H.out.1.m.lt
      have l3 : bc < w.heap.size := H.out.1.c.lt
      have l4 : bj < w.heap.size := HJ.out.lt
      have hge := HGE.out
      exact hR.out _ _ ⟨rfl, bf, cf, ⟨H5.out.blk (cs := []) 0 _ HN.out.1 HN.out.2.1 HN.out.2.2, (HJ5.out.set 0 _).cast rfl, HB5.out.other (a := ⟨bj, 0, none⟩) (by simp; omega) _, ⟨by simp; omega, HN.out.1, HN.out.2.1, HN.out.2.2⟩, ⟨by simp; omega, by simp; omega, by simp; omega⟩⟩, hge, (HO5.out.mono (by simp)).set (.inl (by simp)) _⟩
end
section
variable (w : World) (bw bm cm bc cc : Nat) (td : Value)
theorem wstart (h : WS w bw bm cm bc cc (.slice none 0 0) td) :
    Calls Tryz.prog 24 #[.pointer (some ⟨bw, 0, none⟩), .int .i64 0, .slice none 0 0] w
      fun e w' => e = .returned (.tuple #[.int .i64 0, .int .i64 0]) ∧ ∃ bj cj bf cf, JS w' ⟨bw, bm, cm, bc, cc, bj, cj, bf, cf⟩ 1 false (.slice none 0 0) (.slice none 0 0) 0 td ∧ (w.heap.size ≤ bj ∧ w.heap.size ≤ bf) ∧ Only [bw] w w' := by
  refine calls_abs fun R hR => ?_
  have H := Lib.hid h
  have cn := wnone w _ _ _ _ _ _ _ h
  have ct := fun w f => containsT0 w f
  have ci := fun w f => contains0 w f
  obtain ⟨cp, a2, -, a7, -⟩ := h.cells
  have m1 := h.1.m.at_ 1 _ rfl
  have m2 := h.1.m.at_ 2 _ rfl
  clear h
  have hst : (store ⟨w.heap.size, 0, none⟩ (.func (.func 39) #[] #[])).run Tryz.prog (w.alloc (.cells #[.nilFunc] 104)) = .ok () ((w.alloc (.cells #[.nilFunc] 104)).setCell ⟨w.heap.size, 0, none⟩ (.func (.func 39) #[] #[])) := by
    rw [run_store _ _ _ _ _ rfl, (Row.new w 104 [.nilFunc]).cell 0 rfl, (Row.new w 104 [.nilFunc]).free 0]
    rfl
  have HO1 := Lib.hid ((Only.refl [] w).alloc (.cells #[.func (.func 39) #[] #[]] 104))
  go_enter Tryz.func24, Tryz.ntmps24
  go_wp2_with fail
  refine cn.mono ?_
  rintro e w2 ⟨rfl, e2⟩
  subst e2
  clear cn
  go_upto_region 5 with fail
  generalize w.alloc (.cells #[.func (.func 39) #[] #[]] 104) = w1 at *
  have H1 := Lib.hid (H.out.only HO1.out (by simp) (by simp) (by simp))
  obtain ⟨cp1, a2, -, a7, -, -, g7⟩ := H1.out.cells
  have g7 := g7 7
  replace m1 := H1.out.1.m.at_ 1 _ rfl
  replace m2 := H1.out.1.m.at_ 2 _ rfl
  clear hst
  go_wp2_with fail
  refine (ct _ _).mono ?_
  rintro e w3 ⟨rfl, e3⟩
  subst e3
  clear ct
  go_wp2_with fail
  refine (ci _ _).mono ?_
  rintro e w3 ⟨rfl, e3⟩
  subst e3
  clear ci
  go_wp2_with fail
  go_loopw [78, 12] (fun i l wr => i = .int .i64 0 ∧ l = .slice none 0 0 ∧ wr = w1) (fun _ _ _ => 0)
  case atStart => exact ⟨rfl, rfl, rfl⟩
  case round =>
    obtain ⟨rfl, rfl, e4⟩ := hrel
    subst e4
    go_wp2_with (at_builtin; refine append_own tyJb rowJb rfl _ _ rfl 0 _ [] rfl Own.nil _ [()] rfl (rd_one rowJb wr 114 ()) ?c1 ?c2 ?c3 ?c4)
    case c1 => simp
    case c2 => simp
    case c3 => omega
    case c4 =>
      intro v w5 hv ho hbk
      obtain ⟨bj, cj, rfl, -, hcj, -, hB⟩ := Own.blk rowJb (by decide) hv (by simp)
      have hOA := ((Only.refl [] wr).alloc (.cells (jR (.slice none 0 0) false).toArray 114)).trans ho (by simp [Value.ownBlock])
      have hge : wr.heap.size ≤ bj := by
        rcases hbk with h | h
        · simp [Value.ownBlock] at h
        · simp [Value.ownBlock] at h; omega
      have h5 := H1.out.only hOA (by simp) (by simp) (by simp)
      obtain ⟨cp5, -, -, a7, -, -, g7⟩ := h5.cells
      replace g7 := g7 7
      have H5 := Lib.hid h5
      have HB5 := Lib.hid (hB.cast (show ([()].flatMap fun _ => jR (.slice none 0 0) false) = jR (.slice none 0 0) false by simp))
      have HO5 := Lib.hid (HO1.out.trans hOA (by simp))
      have HGE := Lib.hid (show w.heap.size ≤ bj by have := HO1.out.size; omega)
      have HNB := Lib.hid (show bj ≠ bw ∧ bj ≠ bm ∧ bj ≠ bc by
        have l1 : bw < w.heap.size := by obtain ⟨_, _, _, _, _, _, _, _, _, hr⟩ := H.out; exact hr.lt
        have l2 : bm < w.heap.size := H.out.1.m.lt
        have l3 : bc < w.heap.size := H.out.1.c.lt
        have l4 := HGE.out
        omega)
      clear hv ho hbk hcj hB hOA hge h5 a2 m1 m2
      simp only [List.length_nil, List.length_cons, List.nil_append, Nat.zero_add]
      go_upto_region 18 with fail
      have H6 := Lib.hid (H5.out.setJ (.slice (some ⟨bj, 0, none⟩) 1 cj))
      have HB6 := Lib.hid (HB5.out.other (a := ⟨bw, 7, none⟩) (by simpa using HNB.out.1.symm) (.slice (some ⟨bj, 0, none⟩) 1 cj))
      have HO6 := Lib.hid ((HO5.out.mono (G := [bw]) (by simp)).set (p := ⟨bw, 7, none⟩) (.inl (by simp)) (.slice (some ⟨bj, 0, none⟩) 1 cj))
      generalize w5.setCell ⟨bw, 7, none⟩ (.slice (some ⟨bj, 0, none⟩) 1 cj) = w6 at *
      obtain ⟨cp6, -, -, a7, -⟩ := H6.out.cells
      have ce := wenter w6 bw bm cm bc cc bj cj td H6.out HB6.out HNB.out
      clear g7
      go_wp2_with fail
      refine ce.mono ?_
      rintro e w7 ⟨rfl, bf, cf, h7, hbf, ho7⟩
      have HBF := Lib.hid (show w.heap.size ≤ bf by have := HO6.out.size; omega)
      have cs := settleA w7 ⟨bw, bm, cm, bc, cc, bj, cj, bf, cf⟩ (.slice none 0 0) (.slice none 0 0) td 0 h7 (.inl rfl)
      have H7 := Lib.hid h7
      have HO7 := Lib.hid (HO6.out.trans ho7 (fun x hx => .inr (by simp at hx; have := HGE.out; omega)))
      clear ce h7 ho7 a7 hbf
      go_wp2_with fail
      refine cs.mono ?_
      rintro e w8 ⟨rfl, ho8⟩
      have HO8 := Lib.hid (HO7.out.trans ho8 (by simp))
      have H8 := Lib.hid (H7.out.only0 ho8)
      clear cs ho8
      go_wp2_with fail
      exact hR.out _ _ ⟨rfl, bj, cj, bf, cf, H8.out, ⟨HGE.out, HBF.out⟩, HO8.out⟩
end
end Go.Proofs.YtkacgbigeobncaaGreat
namespace Go.Proofs.YtkacgbigeobncaaGreat
open Go.RowKit
set_option linter.unusedVariables false
set_option linter.unusedSimpArgs false
section
variable {P : Program} {ops : Array Oper} {Q : Exit → Act → World → Prop} {md : Region.Mode} {m : Nat} {S : World → Prop}
def wpAnyG (P : Program) (md : Region.Mode) (ops : Array Oper) (Q : Exit → Act → World → Prop) (m : Nat) (S : World → Prop) : Nat → Array Bool → Act → World → Prop
  | 0, l, a, w => Region.ready md ops l = [] ∧ Q .normal a w
  | n + 1, l, a, w => (Region.ready md ops l = [] → Q .normal a w) ∧
      ∀ i ∈ Region.ready md ops l, wpOp P ops Q i (fun a' w' => ((l.setIfInBounds i true).getD m true = false → S w') ∧ wpAnyG P md ops Q m S n (l.setIfInBounds i true) a' w') a w
theorem anyOfG : ∀ (n : Nat) (l : Array Bool) (a : Act) (w : World), wpAnyG P md ops Q m S n l a w → wpAny P md ops Q n l a w
  | 0, _, _, _, h => h
  | n + 1, _, _, _, h => ⟨h.1, fun i hi => wpOp_mono (fun _ _ x => anyOfG n _ _ _ x.2) (h.2 i hi)⟩
theorem setD_ne {l : Array Bool} {i k : Nat} {b : Bool} (h : i ≠ k) : (l.setIfInBounds i true).getD k b = l.getD k b := by
  rw [Array.getD_eq_getD_getElem?, Array.getD_eq_getD_getElem?, Array.getElem?_setIfInBounds, if_neg h]
theorem wpG_first {i : Nat} {oi : Oper} {v : Value} (hi : ops[i]? = some oi) (hs : Region.noSelect ops = true) (him : i ≠ m) (hwt : Region.waitsFor md ops m i = true)
    (hQ : ∀ c a w, Q (.panic c) (a.put oi.dst v) w → Q (.panic c) a w) :
    ∀ (n : Nat) (l : Array Bool) (a : Act) (w : World),
      (∀ j oj, ops[j]? = some oj → j ≠ i → l.getD j true = false → (∀ e ∈ oj.after, Region.binds md e = true → e.on ≠ i) → oi.apart ops oj = true) →
      i ∈ Region.ready md ops l → l.getD m true = false → YieldsIf P ops S oi v a → S w →
      wpAnyG P md ops Q m S n (l.setIfInBounds i true) (a.put oi.dst v) w → wpAnyG P md ops Q m S (n + 1) l a w := by
  have hsel := Region.noSelect_spec hs
  intro n
  induction n with
  | zero =>
    intro l a w hfree hr hm hy hS H
    refine ⟨(fun e => by rw [e] at hr; cases hr), fun j hj => ?_⟩
    by_cases e : j = i
    · subst e
      exact hy.wpOp hi hS ⟨fun _ => hS, H⟩
    · have h0 := ready_mono hj e
      rw [H.1] at h0
      cases h0
  | succ n ih =>
    intro l a w hfree hr hm hy hS H
    refine ⟨(fun e => by rw [e] at hr; cases hr), fun j hj => ?_⟩
    by_cases e : j = i
    · subst e
      exact hy.wpOp hi hS ⟨fun _ => hS, H⟩
    · obtain ⟨hjl, oj, hoj, hall⟩ := mem_ready.1 hj
      have hil := (mem_ready.1 hr).1
      have hno : ∀ x ∈ oj.after, Region.binds md x = true → x.on ≠ i := fun x hx hb hxi => by
        have h2 := hall x hx hb
        rw [hxi] at h2
        rw [Array.getD_eq_getD_getElem?] at hil h2
        cases hli : l[i]? with
        | none => rw [hli] at h2; cases h2
        | some b => rw [hli] at hil h2; simp only [Option.getD_some] at hil h2; rw [hil] at h2; cases h2
      have hjm : j ≠ m := by
        rintro rfl
        obtain ⟨om, hom, x, hx, hb, hxi⟩ := Region.waitsFor_spec hwt
        rw [hoj] at hom
        cases hom
        exact hno x hx hb hxi
      have h1 := H.2 j (ready_mono hj e)
      have h2 := wpOp_putIf hoj (hfree j oj hoj e hjl hno) (fun cs b => hsel i oi cs b hi) (fun cs b => hsel j oj cs b hoj) hQ hy h1
      refine wpOp_mono (fun a' w' h3 => ?_) h2
      have hm2 : ((l.setIfInBounds i true).setIfInBounds j true).getD m true = false := by rw [setD_ne hjm, setD_ne him]; exact hm
      have hS2 := h3.2.1 hm2
      refine ⟨fun _ => hS2, ih _ a' w' (fun k ok hk hki hkl hkn => hfree k ok hk hki ?_ hkn) (ready_mono hr (fun q => e q.symm)) (by rw [setD_ne hjm]; exact hm) h3.1 hS2 ?_⟩
      · by_cases ejk : j = k
        · subst ejk; exact hjl
        · rw [setD_ne ejk] at hkl; exact hkl
      · rw [Array.setIfInBounds_comm _ _ e]
        exact h3.2.2
theorem wpG_take {i : Nat} {oi : Oper} {v : Value} {n : Nat} {l : Array Bool} {a : Act} {w : World} (hi : ops[i]? = some oi) (hs : Region.noSelect ops = true) (hf : Region.free md ops l i = true) (hr : (Region.ready md ops l).contains i = true)
    (him : i ≠ m) (hwt : Region.waitsFor md ops m i = true) (hm : l.getD m true = false) (hQ : ∀ c a w, Q (.panic c) (a.put oi.dst v) w → Q (.panic c) a w) (hy : ∀ w, S w → (execOp a.eval oi).run P w = .ok (.value v) w)
    (hw : Region.wanted oi (yielded ops a.tmps) = true) (hS : S w) (h : wpAnyG P md ops Q m S n (l.setIfInBounds i true) (a.put oi.dst v) w) : wpAnyG P md ops Q m S (n + 1) l a w :=
  wpG_first hi hs him hwt hQ n l a w (Region.free_spec hi hf) (by simpa using hr) hm (.inl ⟨hw, hy⟩) hS h
theorem wpG_one {i : Nat} {o : Oper} {n : Nat} {l : Array Bool} {a : Act} {w : World} (hr : Region.ready md ops l = [i]) (ho : ops[i]? = some o)
    (h : ∀ K : Act → World → Prop, (∀ a' w', ((l.setIfInBounds i true).getD m true = false → S w') → wpAnyG P md ops Q m S n (l.setIfInBounds i true) a' w' → K a' w') → if Region.wanted o (yielded ops a.tmps) = true then Oper.wp P o a w K Q else K (a.put o.dst undef) w) :
    wpAnyG P md ops Q m S (n + 1) l a w := by
  refine ⟨(fun e => by rw [hr] at e; cases e), fun j hj => ?_⟩
  rw [hr, List.mem_singleton] at hj
  subst hj
  refine wpOp_step ho fun K' hK => h K' fun a' w' h1 h2 => hK a' w' ⟨h1, h2⟩
theorem wpG_done {l : Array Bool} {a : Act} {w : World} (hr : Region.ready md ops l = []) (h : Q .normal a w) : ∀ n, wpAnyG P md ops Q m S n l a w
  | 0 => ⟨hr, h⟩
  | n + 1 => ⟨fun _ => h, by rw [hr]; simp⟩
theorem wp_regionG (m : Nat) (S : World → Prop) {id : Nat} {a : Act} {w : World} (hm : P.follows .mixedOrders = true) (h : wpAnyG P .any ops Q m S ops.size (Array.replicate ops.size false) a w.drew) : (Code.region id ops true).wp P Q a w :=
  wp_region_any hm (anyOfG _ _ _ _ h)
end
end Go.Proofs.YtkacgbigeobncaaGreat
