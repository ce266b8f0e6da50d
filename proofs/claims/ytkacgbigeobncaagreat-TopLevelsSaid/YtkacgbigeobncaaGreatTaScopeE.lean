/- Lemmas of this claim. -/
import Derived.Test.YtkacgbigeobncaaGreatTaScopeD
namespace Go.Proofs.YtkacgbigeobncaaGreat
open Go.RowKit Go.Maps
set_option maxHeartbeats 1600000
set_option maxRecDepth 100000
set_option linter.unusedVariables false
section
variable {L : Nat → Option Lb} {p : Nat} {P : Pm} {X : PX} {w : World}
theorem enter_bad (w : World) (h : PRep w L p P X) (hok : P.ok) (t a : Int) (hb : (isT t && P.isA a) = false) : Calls Tryz.prog 5 #[.pointer (some ⟨p, 0, none⟩), .int .i64 t, .int .i64 a] w (Exact w (.int .i64 1)) := by
  refine calls_abs fun R hR => ?_
  have hi := isThread_any w t
  have hA := isArea_rep w h hok a
  cases hT : isT t
  · rw [hT] at hi
    clear hT hok hA hb
    go_enter Tryz.func5, Tryz.ntmps5
    go_wp2_with fail
    refine (none_rep _ h).mono ?_
    rintro e _ ⟨rfl, rfl⟩
    go_wp2_with fail
    refine hi.mono ?_
    rintro e _ ⟨rfl, rfl⟩
    go_wp2_with fail
    exact hR.out _ _ ⟨rfl, rfl⟩
  · rw [hT] at hi hb
    have hb2 : P.isA a = false := by simpa using hb
    rw [hb2] at hA
    clear hT hok hb hb2
    go_enter Tryz.func5, Tryz.ntmps5
    go_wp2_with fail
    refine (none_rep _ h).mono ?_
    rintro e _ ⟨rfl, rfl⟩
    go_wp2_with fail
    refine hi.mono ?_
    rintro e _ ⟨rfl, rfl⟩
    go_wp2_with fail
    refine hA.mono ?_
    rintro e _ ⟨rfl, rfl⟩
    go_wp2_with fail
    exact hR.out _ _ ⟨rfl, rfl⟩
theorem pushed_end {w1 w2 : World} {o : Obj} {t l g cap gg cap2 : Nat} {a : Int} (H1 : PRep w1 L p P X) (ht : t < 5) (hv : X.sv t = .slice (some ⟨g, 0, none⟩) l cap) (hl : l = (P.stk t).length) (hgrow : ((w1.alloc o).drew).grownBy w2 (Value.slice (some ⟨g, 0, none⟩) l cap).ownBlock)
    (hown2 : w2.ownsRow 0 3 1 (.slice (some ⟨gg, 0, none⟩) (l + 1) cap2) (l + 1) ((P.stk t).map (Value.int .i64) ++ [.int .i64 a])) (hat : (Value.slice (some ⟨g, 0, none⟩) l cap).ownBlock = some gg ∨ gg = w1.heap.size + 1) (hlt : gg < w2.heap.size) :
    ∃ L' X', PRep (w2.setCell ⟨p, 1 + t, none⟩ (.slice (some ⟨gg, 0, none⟩) (l + 1) cap2)) L' p (P.pushed t a) X' ∧ (∀ k, L' k ≠ none → L k ≠ none ∨ w1.heap.size ≤ k) ∧ OnlyP (fun k => L k ≠ none) w1 (w2.setCell ⟨p, 1 + t, none⟩ (.slice (some ⟨gg, 0, none⟩) (l + 1) cap2)) := by
  have hO : Only (X.sv t).ownBlock.toList w1 w2 := (((Only.refl _ w1).alloc o).drew).grown hgrow (fun k hk => .inl (by rw [hv]; rw [hk]; simp))
  have hI : Ints w2 0 (.slice (some ⟨gg, 0, none⟩) (l + 1) cap2) (P.stk t ++ [a]) := by
    unfold Ints
    rw [List.length_append, List.map_append, ← hl]
    exact hown2
  obtain ⟨L', X', h1, h2, h3, _⟩ := H1.stacked ht hO hI (fun k hk => by
    simp [Value.ownBlock] at hk
    subst hk
    rcases hat with h1 | h1
    · exact .inl (by rw [hv]; exact h1)
    · exact .inr ⟨by omega, hlt⟩)
  refine ⟨L', X', h1, h2, ?_⟩
  refine OnlyP.set (hO.toP (fun x hx => .inl ?_)) (.inl (by rw [H1.Lm]; simp)) _
  cases e : (X.sv t).ownBlock with
  | none => rw [e] at hx; simp at hx
  | some b => rw [e] at hx; simp at hx; subst hx; rw [(H1.st t ht).2 _ e]; simp
theorem enter_low (w : World) (h : PRep w L p P X) (hok : P.ok) (t : Nat) (ht : t < 5) (a : Int) (hA : P.isA a = true) (h2 : a < 2) :
    Calls Tryz.prog 5 #[.pointer (some ⟨p, 0, none⟩), .int .i64 t, .int .i64 a] w (Did w L p (.int .i64 (if 8 ≤ (P.stk t).length then 2 else 0)) (if 8 ≤ (P.stk t).length then P else P.pushed t a)) := by
  refine calls_abs fun R hR => ?_
  have hi := isThread_any w t
  have hA' := isArea_rep w h hok a
  rw [hA] at hA'
  rw [show isT (t : Int) = true by unfold isT; simp; omega] at hi
  have hs := scope_low w (.pointer (some ⟨p, 0, none⟩)) a h2
  obtain ⟨g, cap, e1, hg, hlg, hc⟩ := h.stk hok ht
  have hn := nearest_any w g cap (P.stk t) (by have := (hok.s1 t ht).2; omega) hc hg
  have c1 := h.cells.2.1 t ht
  rw [e1] at c1
  have hl := hok.s1 t ht
  have b1 : (0 : Int) ≤ t := by omega
  have b2 : (t : Int) < 5 := by omega
  have H := Lib.hid h
  have HE := Lib.hid e1
  clear hA hok h e1 hc
  obtain ⟨l, hl2⟩ : ∃ l, l = (P.stk t).length := ⟨_, rfl⟩
  have HL := Lib.hid hl2
  have HE2 : Hid (X.sv t = .slice (some ⟨g, 0, none⟩) l cap) := by show _ = _; rw [HE.out, hl2]
  rw [← hl2] at c1 hn hl hR
  clear hl2
  by_cases h8 : 8 ≤ l
  · rw [if_pos h8, if_pos h8] at hR
    go_enter Tryz.func5, Tryz.ntmps5
    go_wp2_with fail
    refine (none_rep _ H.out).mono ?_
    rintro e _ ⟨rfl, rfl⟩
    go_wp2_with fail
    refine hi.mono ?_
    rintro e _ ⟨rfl, rfl⟩
    go_wp2_with fail
    refine hA'.mono ?_
    rintro e _ ⟨rfl, rfl⟩
    go_wp2_with fail
    refine hs.mono ?_
    rintro e _ ⟨rfl, rfl⟩
    go_wp2_with fail
    refine hn.mono ?_
    rintro e w1 ⟨rfl, hb⟩
    have H1 : PRep w1 L p P X := H.out.only (S := fun _ => False) (OnlyP.ofBelow hb) (fun _ x => x.elim)
    have c1 : w1.cell? ⟨p, 1 + t, none⟩ = some (.slice (some ⟨g, 0, none⟩) l cap) := by rw [H1.cells.2.1 t ht, HE.out, ← HL.out]
    go_wp2_with fail
    exact hR.out _ _ ⟨rfl, L, X, H1, fun k hk => .inl hk, OnlyP.ofBelow hb⟩
  · rw [if_neg h8, if_neg h8] at hR
    go_enter Tryz.func5, Tryz.ntmps5
    go_wp2_with fail
    refine (none_rep _ H.out).mono ?_
    rintro e _ ⟨rfl, rfl⟩
    go_wp2_with fail
    refine hi.mono ?_
    rintro e _ ⟨rfl, rfl⟩
    go_wp2_with fail
    refine hA'.mono ?_
    rintro e _ ⟨rfl, rfl⟩
    go_wp2_with fail
    refine hs.mono ?_
    rintro e _ ⟨rfl, rfl⟩
    go_wp2_with fail
    refine hn.mono ?_
    rintro e w1 ⟨rfl, hb⟩
    have H1 : PRep w1 L p P X := H.out.only (S := fun _ => False) (OnlyP.ofBelow hb) (fun _ x => x.elim)
    have c1 : w1.cell? ⟨p, 1 + t, none⟩ = some (.slice (some ⟨g, 0, none⟩) l cap) := by rw [H1.cells.2.1 t ht, HE.out, ← HL.out]
    have f1 := H1.cells.2.2.2.2 (1 + t)
    obtain ⟨hI, hLb⟩ := H1.st t ht
    rw [HE.out] at hI
    have HI : Hid (w1.ownsRow 0 3 1 (.slice (some ⟨g, 0, none⟩) l cap) l ((P.stk t).map (Value.int .i64))) := by show World.ownsRow _ _ _ _ _ _ _; have := hI; unfold Ints at this; rw [← HL.out] at this; exact this
    have H1' := Lib.hid H1
    obtain ⟨i0, hi0, hz0, hz1, hz2⟩ := info_parts infoInt
    have I0 := Lib.hid hi0
    have I1 := Lib.hid hz0
    have I2 := Lib.hid hz1
    have I3 := Lib.hid hz2
    have hgp : g ≠ p := by
      rintro rfl
      have := hLb g (by rw [HE.out]; rfl)
      rw [H1.Lm] at this; cases this
    have hpl : p < w1.heap.size := H1.lt p (by rw [H1.Lm]; simp)
    have HB := Lib.hid hb
    clear H1 hI hLb hi0 hz0 hz1 hz2 hb
    go_wp2_with fail
    go_region_law ((refine step_append_lies _ (by rfl) _ _ 22 (by rfl) 0 3 i0 _ 1 8 Tryz.underlying22 I0.out I1.out I2.out I3.out rfl (by omega) _ l _ (by rfl) ((HI.out.alloc _).drew) ⟨w1.heap.size, 0, none⟩ 1 1 [.int .i64 a] (by rfl) (by rfl) (World.news_of_block (cs := #[.int .i64 a]) (t := 3) (fr := (0, 0)) (heap_alloc_new w1 _)) (by simp [Value.oneCell']) (by omega) (by simp only [maxLen]; omega) (by omega) (by simp) (w1.heap.size + 1) (by simp) ?_; intro gg cap2 w2 hown2 hgrow hat hlt1; have cp2 := (hgrow.cell_far ⟨p, 1 + t, none⟩ (by simp; omega) (by simp [Value.ownBlock]; exact Ne.symm hgp)).trans (by simp [World.cell?_alloc_past _ _ _ hpl]; exact c1); have fp2 := (hgrow.frozen_far ⟨p, 1 + t, none⟩ (by simp; omega) (by simp [Value.ownBlock]; exact Ne.symm hgp)).trans (by simp [World.frozen?_alloc_past _ _ _ hpl]; exact f1)))
    all_goals (
      obtain ⟨L', X', e3, e4, e5⟩ := pushed_end H1'.out ht HE2.out HL.out hgrow hown2 hat hlt1
      have E3 := Lib.hid e3
      have E4 := Lib.hid e4
      have E5 := Lib.hid e5
      clear e3 e4 e5 hgrow hown2 hat hlt1
      go_wp2_with fail
      exact hR.out _ _ ⟨rfl, L', X', E3.out, fun k hk => (E4.out k hk).imp id (fun h => by have := HB.out.size; omega), (OnlyP.ofBelow HB.out).trans E5.out (fun x hx => .inl hx)⟩)
theorem enter_high (w : World) (h : PRep w L p P X) (hok : P.ok) (t : Nat) (ht : t < 5) (a : Int) (hA : P.isA a = true) (h2 : 2 ≤ a) :
    Calls Tryz.prog 5 #[.pointer (some ⟨p, 0, none⟩), .int .i64 t, .int .i64 a] w (Did w L p (.int .i64 (P.enter t a).1) (P.enter t a).2) := by
  refine calls_abs fun R hR => ?_
  have hi := isThread_any w t
  have hA' := isArea_rep w h hok a
  have hAn := (isA_lt2 hA).2
  have hTt : isT (t : Int) = true := by unfold isT; simp; omega
  rw [hA] at hA'
  rw [hTt] at hi
  obtain ⟨j, g', capS, ej, hj, ej2, eS, hlS, _⟩ := h.sp5 h2 hAn
  have m0 := h.cells.1
  rw [eS] at m0
  have hs := scope_at w p g' P.n capS j a m0 ej hj hok.n6
  obtain ⟨g, cap, e1, hg, hlg, hc⟩ := h.stk hok ht
  have hn := nearest_any w g cap (P.stk t) (by have := (hok.s1 t ht).2; omega) hc hg
  have c1 := h.cells.2.1 t ht
  rw [e1] at c1
  have hl := hok.s1 t ht
  have b1 : (0 : Int) ≤ t := by omega
  have b2 : (t : Int) < 5 := by omega
  have hsp := hok.sp a h2 hAn
  have hd0 : Hid (P.enter t a = if 2 ≤ a ∧ 0 < (P.sp a).users ∧ (P.sp a).parent ≠ under (P.stk t) then (17, P) else if 8 ≤ (P.stk t).length then (2, P) else (0, ((if 2 ≤ a then P.setSp a { P.sp a with parent := under (P.stk t), users := (P.sp a).users + 1 } else P).pushed t a))) := by
    show _ = _
    unfold Pm.enter
    rw [hTt, hA]
    rfl
  have hfac : ∀ w1, PRep w1 L p P X → w1.cell? ⟨g', j * 5 + 2, none⟩ = some (.int .i64 (P.sp a).users) ∧ w1.cell? ⟨g', j * 5 + 3, none⟩ = some (.int .i64 (P.sp a).parent) ∧ w1.frozen? ⟨g', j * 5 + 2, none⟩ = false ∧ w1.frozen? ⟨g', j * 5 + 3, none⟩ = false := by
    intro w1 hw
    obtain ⟨j', g2, cap2, q1, _, _, q3, _, _, _, k2, k3, _, kf⟩ := hw.sp5 h2 hAn
    obtain rfl : j' = j := by omega
    rw [eS] at q3
    simp only [Value.slice.injEq, Option.some.injEq, Addr.mk.injEq] at q3
    obtain ⟨⟨rfl, _⟩, _⟩ := q3
    exact ⟨k2, k3, kf 2 (by omega), kf 3 (by omega)⟩
  have HF := Lib.hid hfac
  have H := Lib.hid h
  have HE := Lib.hid e1
  have HS := Lib.hid eS
  have HJ2 := Lib.hid ej2
  clear hA hok h e1 hc ej ej2 hfac m0 eS hTt
  obtain ⟨l, hl2⟩ : ∃ l, l = (P.stk t).length := ⟨_, rfl⟩
  have HL := Lib.hid hl2
  have HE2 : Hid (X.sv t = .slice (some ⟨g, 0, none⟩) l cap) := by show _ = _; rw [HE.out, hl2]
  rw [← hl2] at c1 hn hl hd0
  clear hl2
  obtain ⟨b, hb⟩ : ∃ b, b = under (P.stk t) := ⟨_, rfl⟩
  rw [← hb] at hd0 hn
  obtain ⟨u, hu⟩ : ∃ u, u = (P.sp a).users := ⟨_, rfl⟩
  obtain ⟨q, hq⟩ : ∃ q, q = (P.sp a).parent := ⟨_, rfl⟩
  rw [← hu, ← hq] at hd0 HF hsp
  have HU := Lib.hid hu
  have HQ := Lib.hid hq
  clear hu hq hb
  by_cases hc17 : 0 < u ∧ q ≠ b
  · obtain ⟨k1, k2⟩ := hc17
    have hr : Hid (P.enter t a = (17, P)) := by show _ = _; rw [hd0.out, if_pos ⟨h2, k1, k2⟩]
    have k2' : (q != b) = true := by simpa using k2
    clear k2 hd0
    go_enter Tryz.func5, Tryz.ntmps5
    go_wp2_with fail
    refine (none_rep _ H.out).mono ?_
    rintro e _ ⟨rfl, rfl⟩
    go_wp2_with fail
    refine hi.mono ?_
    rintro e _ ⟨rfl, rfl⟩
    go_wp2_with fail
    refine hA'.mono ?_
    rintro e _ ⟨rfl, rfl⟩
    go_wp2_with fail
    refine hs.mono ?_
    rintro e _ ⟨rfl, rfl⟩
    go_wp2_with fail
    refine hn.mono ?_
    rintro e w1 ⟨rfl, hb⟩
    have H1 : PRep w1 L p P X := H.out.only (S := fun _ => False) (OnlyP.ofBelow hb) (fun _ x => x.elim)
    obtain ⟨k3, k4, _⟩ := HF.out w1 H1
    go_wp2_with fail
    refine hR.out _ _ ⟨by rw [hr.out] <;> rfl, L, X, by rw [hr.out]; exact H1, fun k hk => .inl hk, OnlyP.ofBelow hb⟩
  · have hnc : ¬ (2 ≤ a ∧ 0 < u ∧ q ≠ b) := fun x => hc17 x.2
    have hd1 : Hid (P.enter t a = if 8 ≤ l then (2, P) else (0, (P.setSp a { P.sp a with parent := b, users := u + 1 }).pushed t a)) := by show _ = _; rw [hd0.out, if_neg hnc, if_pos h2]
    have hcs : (u = 0) ∨ (0 < u ∧ q = b) := by
      by_cases k : 0 < u
      · by_cases k2 : q = b
        · exact .inr ⟨k, k2⟩
        · exact absurd ⟨k, k2⟩ hc17
      · exact .inl (by omega)
    clear hnc hc17 hd0
    by_cases h8 : 8 ≤ l
    · have hr : Hid (P.enter t a = (2, P)) := by show _ = _; rw [hd1.out, if_pos h8]
      clear hd1
      rcases hcs with rfl | ⟨k, rfl⟩
      all_goals (
        go_enter Tryz.func5, Tryz.ntmps5
        go_wp2_with fail
        refine (none_rep _ H.out).mono ?_
        rintro e _ ⟨rfl, rfl⟩
        go_wp2_with fail
        refine hi.mono ?_
        rintro e _ ⟨rfl, rfl⟩
        go_wp2_with fail
        refine hA'.mono ?_
        rintro e _ ⟨rfl, rfl⟩
        go_wp2_with fail
        refine hs.mono ?_
        rintro e _ ⟨rfl, rfl⟩
        go_wp2_with fail
        refine hn.mono ?_
        rintro e w1 ⟨rfl, hb⟩
        have H1 : PRep w1 L p P X := H.out.only (S := fun _ => False) (OnlyP.ofBelow hb) (fun _ x => x.elim)
        obtain ⟨k3, k4, _⟩ := HF.out w1 H1
        have c1 : w1.cell? ⟨p, 1 + t, none⟩ = some (.slice (some ⟨g, 0, none⟩) l cap) := by rw [H1.cells.2.1 t ht, HE.out, ← HL.out]
        go_wp2_with fail
        refine hR.out _ _ ⟨by rw [hr.out] <;> rfl, L, X, by rw [hr.out]; exact H1, fun k hk => .inl hk, OnlyP.ofBelow hb⟩)
    · have hr : Hid (P.enter t a = (0, (P.setSp a { P.sp a with parent := b, users := u + 1 }).pushed t a)) := by show _ = _; rw [hd1.out, if_neg h8]
      clear hd1
      have hpg : p ≠ g' := by rintro rfl; have := H.out.Lm; rw [hlS] at this; cases this
      rcases hcs with hu0 | ⟨k, rfl⟩
      · go_enter Tryz.func5, Tryz.ntmps5
        go_wp2_with fail
        refine (none_rep _ H.out).mono ?_
        rintro e _ ⟨rfl, rfl⟩
        go_wp2_with fail
        refine hi.mono ?_
        rintro e _ ⟨rfl, rfl⟩
        go_wp2_with fail
        refine hA'.mono ?_
        rintro e _ ⟨rfl, rfl⟩
        go_wp2_with fail
        refine hs.mono ?_
        rintro e _ ⟨rfl, rfl⟩
        go_wp2_with fail
        refine hn.mono ?_
        rintro e w1 ⟨rfl, hb⟩
        have H1 : PRep w1 L p P X := H.out.only (S := fun _ => False) (OnlyP.ofBelow hb) (fun _ x => x.elim)
        obtain ⟨k3, k4, f3, f4⟩ := HF.out w1 H1
        have c1 : w1.cell? ⟨p, 1 + t, none⟩ = some (.slice (some ⟨g, 0, none⟩) l cap) := by rw [H1.cells.2.1 t ht, HE.out, ← HL.out]
        go_wp2_with fail
        have H3 : PRep ((w1.setCell ⟨g', j * 5 + 3, none⟩ (.int .i64 b)).setCell ⟨g', j * 5 + 2, none⟩ (.int .i64 (1))) L p (P.setSp a { P.sp a with parent := b, users := 1 }) X := by
          have := PRep.field (H1.field (x := b) (s := { P.sp a with parent := b }) HS.out hj HJ2.out hlS (r := 3) (by omega) rfl (fun q hq hne => by
            match q, hq with | 0, _ => rfl | 1, _ => rfl | 2, _ => rfl | 3, _ => exact absurd rfl hne | 4, _ => rfl)) (a := a) (s := { P.sp a with parent := b, users := 1 }) (x := 1) (by rw [setSp_n]; exact HS.out) (by rw [setSp_n]; exact hj) HJ2.out hlS (r := 2) (by omega) rfl (fun q hq hne => by
            rw [setSp_sp _ (by rw [HJ2.out]; exact hj)]
            match q, hq with | 0, _ => rfl | 1, _ => rfl | 2, _ => exact absurd rfl hne | 3, _ => rfl | 4, _ => rfl)
          rw [setSp_twice] at this
          exact this
        have O3 : OnlyP (fun k => L k ≠ none) w ((w1.setCell ⟨g', j * 5 + 3, none⟩ (.int .i64 b)).setCell ⟨g', j * 5 + 2, none⟩ (.int .i64 (1))) := ((OnlyP.ofBelow hb).set (.inl (by rw [hlS]; simp)) _).set (.inl (by rw [hlS]; simp)) _
        generalize ((w1.setCell ⟨g', j * 5 + 3, none⟩ (.int .i64 b)).setCell ⟨g', j * 5 + 2, none⟩ (.int .i64 (1))) = w3 at H3 O3 ⊢
        clear H1 k3 k4 f3 f4 c1 hb
        have c1 : w3.cell? ⟨p, 1 + t, none⟩ = some (.slice (some ⟨g, 0, none⟩) l cap) := by rw [H3.cells.2.1 t ht, HE.out, ← HL.out]
        have f1 := H3.cells.2.2.2.2 (1 + t)
        have hI := (H3.st t ht).1
        rw [HE.out] at hI
        have HI : Hid (w3.ownsRow 0 3 1 (.slice (some ⟨g, 0, none⟩) l cap) l ((P.stk t).map (Value.int .i64))) := by show World.ownsRow _ _ _ _ _ _ _; have := hI; unfold Ints at this; rw [show (P.setSp a { P.sp a with parent := b, users := 1 }).stk t = P.stk t from rfl, ← HL.out] at this; exact this
        have H3' := Lib.hid H3
        have HO3 := Lib.hid O3
        obtain ⟨i0, hi0, hz0, hz1, hz2⟩ := info_parts infoInt
        have I0 := Lib.hid hi0
        have I1 := Lib.hid hz0
        have I2 := Lib.hid hz1
        have I3 := Lib.hid hz2
        have hgp : g ≠ p := by
          rintro rfl
          have := (H3.st t ht).2 g (by rw [HE.out]; rfl)
          rw [H3.Lm] at this; cases this
        have hpl : p < w3.heap.size := H3.lt p (by rw [H3.Lm]; simp)
        clear H3 hI hi0 hz0 hz1 hz2 O3
        go_region_law ((refine step_append_lies _ (by rfl) _ _ 22 (by rfl) 0 3 i0 _ 1 8 Tryz.underlying22 I0.out I1.out I2.out I3.out rfl (by omega) _ l _ (by rfl) ((HI.out.alloc _).drew) ⟨w3.heap.size, 0, none⟩ 1 1 [.int .i64 a] (by rfl) (by rfl) (World.news_of_block (cs := #[.int .i64 a]) (t := 3) (fr := (0, 0)) (heap_alloc_new w3 _)) (by simp [Value.oneCell']) (by omega) (by simp only [maxLen]; omega) (by omega) (by simp) (w3.heap.size + 1) (by simp) ?_; intro gg cap2 w2 hown2 hgrow hat hlt1; have cp2 := (hgrow.cell_far ⟨p, 1 + t, none⟩ (by simp; omega) (by simp [Value.ownBlock]; exact Ne.symm hgp)).trans (by simp [World.cell?_alloc_past _ _ _ hpl]; exact c1); have fp2 := (hgrow.frozen_far ⟨p, 1 + t, none⟩ (by simp; omega) (by simp [Value.ownBlock]; exact Ne.symm hgp)).trans (by simp [World.frozen?_alloc_past _ _ _ hpl]; exact f1)))
        all_goals (
          obtain ⟨L', X', e3, e4, e5⟩ := pushed_end H3'.out ht HE2.out HL.out hgrow hown2 hat hlt1
          have E3 := Lib.hid e3
          have E4 := Lib.hid e4
          have E5 := Lib.hid e5
          clear e3 e4 e5 hgrow hown2 hat hlt1
          go_wp2_with fail
          refine hR.out _ _ ⟨by rw [hr.out] <;> rfl, L', X', ?_, fun k hk => (E4.out k hk).imp id (fun h => by have := HO3.out.size; omega), HO3.out.trans E5.out (fun x hx => .inl hx)⟩
          rw [hr.out, hu0]; exact E3.out)
      · go_enter Tryz.func5, Tryz.ntmps5
        go_wp2_with fail
        refine (none_rep _ H.out).mono ?_
        rintro e _ ⟨rfl, rfl⟩
        go_wp2_with fail
        refine hi.mono ?_
        rintro e _ ⟨rfl, rfl⟩
        go_wp2_with fail
        refine hA'.mono ?_
        rintro e _ ⟨rfl, rfl⟩
        go_wp2_with fail
        refine hs.mono ?_
        rintro e _ ⟨rfl, rfl⟩
        go_wp2_with fail
        refine hn.mono ?_
        rintro e w1 ⟨rfl, hb⟩
        have H1 : PRep w1 L p P X := H.out.only (S := fun _ => False) (OnlyP.ofBelow hb) (fun _ x => x.elim)
        obtain ⟨k3, k4, f3, f4⟩ := HF.out w1 H1
        have c1 : w1.cell? ⟨p, 1 + t, none⟩ = some (.slice (some ⟨g, 0, none⟩) l cap) := by rw [H1.cells.2.1 t ht, HE.out, ← HL.out]
        go_wp2_with fail
        have H3 : PRep ((w1.setCell ⟨g', j * 5 + 3, none⟩ (.int .i64 q)).setCell ⟨g', j * 5 + 2, none⟩ (.int .i64 (u + 1))) L p (P.setSp a { P.sp a with parent := q, users := u + 1 }) X := by
          have := PRep.field (H1.field (x := q) (s := { P.sp a with parent := q }) HS.out hj HJ2.out hlS (r := 3) (by omega) rfl (fun q hq hne => by
            match q, hq with | 0, _ => rfl | 1, _ => rfl | 2, _ => rfl | 3, _ => exact absurd rfl hne | 4, _ => rfl)) (a := a) (s := { P.sp a with parent := q, users := u + 1 }) (x := u + 1) (by rw [setSp_n]; exact HS.out) (by rw [setSp_n]; exact hj) HJ2.out hlS (r := 2) (by omega) rfl (fun q hq hne => by
            rw [setSp_sp _ (by rw [HJ2.out]; exact hj)]
            match q, hq with | 0, _ => rfl | 1, _ => rfl | 2, _ => exact absurd rfl hne | 3, _ => rfl | 4, _ => rfl)
          rw [setSp_twice] at this
          exact this
        have O3 : OnlyP (fun k => L k ≠ none) w ((w1.setCell ⟨g', j * 5 + 3, none⟩ (.int .i64 q)).setCell ⟨g', j * 5 + 2, none⟩ (.int .i64 (u + 1))) := ((OnlyP.ofBelow hb).set (.inl (by rw [hlS]; simp)) _).set (.inl (by rw [hlS]; simp)) _
        generalize ((w1.setCell ⟨g', j * 5 + 3, none⟩ (.int .i64 q)).setCell ⟨g', j * 5 + 2, none⟩ (.int .i64 (u + 1))) = w3 at H3 O3 ⊢
        clear H1 k3 k4 f3 f4 c1 hb
        have c1 : w3.cell? ⟨p, 1 + t, none⟩ = some (.slice (some ⟨g, 0, none⟩) l cap) := by rw [H3.cells.2.1 t ht, HE.out, ← HL.out]
        have f1 := H3.cells.2.2.2.2 (1 + t)
        have hI := (H3.st t ht).1
        rw [HE.out] at hI
        have HI : Hid (w3.ownsRow 0 3 1 (.slice (some ⟨g, 0, none⟩) l cap) l ((P.stk t).map (Value.int .i64))) := by show World.ownsRow _ _ _ _ _ _ _; have := hI; unfold Ints at this; rw [show (P.setSp a { P.sp a with parent := q, users := u + 1 }).stk t = P.stk t from rfl, ← HL.out] at this; exact this
        have H3' := Lib.hid H3
        have HO3 := Lib.hid O3
        obtain ⟨i0, hi0, hz0, hz1, hz2⟩ := info_parts infoInt
        have I0 := Lib.hid hi0
        have I1 := Lib.hid hz0
        have I2 := Lib.hid hz1
        have I3 := Lib.hid hz2
        have hgp : g ≠ p := by
          rintro rfl
          have := (H3.st t ht).2 g (by rw [HE.out]; rfl)
          rw [H3.Lm] at this; cases this
        have hpl : p < w3.heap.size := H3.lt p (by rw [H3.Lm]; simp)
        clear H3 hI hi0 hz0 hz1 hz2 O3
        go_region_law ((refine step_append_lies _ (by rfl) _ _ 22 (by rfl) 0 3 i0 _ 1 8 Tryz.underlying22 I0.out I1.out I2.out I3.out rfl (by omega) _ l _ (by rfl) ((HI.out.alloc _).drew) ⟨w3.heap.size, 0, none⟩ 1 1 [.int .i64 a] (by rfl) (by rfl) (World.news_of_block (cs := #[.int .i64 a]) (t := 3) (fr := (0, 0)) (heap_alloc_new w3 _)) (by simp [Value.oneCell']) (by omega) (by simp only [maxLen]; omega) (by omega) (by simp) (w3.heap.size + 1) (by simp) ?_; intro gg cap2 w2 hown2 hgrow hat hlt1; have cp2 := (hgrow.cell_far ⟨p, 1 + t, none⟩ (by simp; omega) (by simp [Value.ownBlock]; exact Ne.symm hgp)).trans (by simp [World.cell?_alloc_past _ _ _ hpl]; exact c1); have fp2 := (hgrow.frozen_far ⟨p, 1 + t, none⟩ (by simp; omega) (by simp [Value.ownBlock]; exact Ne.symm hgp)).trans (by simp [World.frozen?_alloc_past _ _ _ hpl]; exact f1)))
        all_goals (
          obtain ⟨L', X', e3, e4, e5⟩ := pushed_end H3'.out ht HE2.out HL.out hgrow hown2 hat hlt1
          have E3 := Lib.hid e3
          have E4 := Lib.hid e4
          have E5 := Lib.hid e5
          clear e3 e4 e5 hgrow hown2 hat hlt1
          go_wp2_with fail
          refine hR.out _ _ ⟨by rw [hr.out] <;> rfl, L', X', ?_, fun k hk => (E4.out k hk).imp id (fun h => by have := HO3.out.size; omega), HO3.out.trans E5.out (fun x hx => .inl hx)⟩
          rw [hr.out]; exact E3.out)
theorem enter_rep (w : World) (h : PRep w L p P X) (hok : P.ok) (t a : Int) :
    Calls Tryz.prog 5 #[.pointer (some ⟨p, 0, none⟩), .int .i64 t, .int .i64 a] w (Did w L p (.int .i64 (P.enter t a).1) (P.enter t a).2) := by
  cases hb : (isT t && P.isA a)
  · refine (enter_bad w h hok t a hb).mono ?_
    rintro e _ ⟨rfl, rfl⟩
    have hr : P.enter t a = (1, P) := by unfold Pm.enter; rw [hb]; rfl
    rw [hr]
    exact Did.none h (Drew.refl _)
  · have hb2 := hb
    simp only [Bool.and_eq_true] at hb2
    obtain ⟨n, rfl, hn⟩ := isT_nat hb2.1
    by_cases h2 : 2 ≤ a
    · exact enter_high w h hok n hn a hb2.2 h2
    · have hr : P.enter n a = if 8 ≤ (P.stk n).length then (2, P) else (0, P.pushed n a) := by
        unfold Pm.enter
        rw [hb, if_pos rfl, if_neg (fun x => h2 x.1), if_neg h2]
        rfl
      rw [hr]
      refine (enter_low w h hok n hn a hb2.2 (by omega)).mono fun e w' hd => ?_
      by_cases h8 : 8 ≤ (P.stk n).length
      · rw [if_pos h8] at hd ⊢; rw [if_pos h8] at hd; exact hd
      · rw [if_neg h8] at hd ⊢; rw [if_neg h8] at hd; exact hd
end
end Go.Proofs.YtkacgbigeobncaaGreat
