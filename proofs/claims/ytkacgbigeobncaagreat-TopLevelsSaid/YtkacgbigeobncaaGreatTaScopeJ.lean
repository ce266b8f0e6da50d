/- Lemmas of this claim. -/
import Derived.Test.YtkacgbigeobncaaGreatTaScopeI
import Derived.IntWalk
namespace Go.Proofs.YtkacgbigeobncaaGreat
open Go.RowKit Go.Maps
set_option maxHeartbeats 3200000
set_option maxRecDepth 100000
set_option linter.unusedVariables false
section
variable {L : Nat → Option Lb} {p : Nat} {P : Pm} {X : PX} {w : World}
def DidN (w : World) (L : Nat → Option Lb) (p : Nat) (r : Int × Int × Pm) (e : Ending) (w' : World) : Prop := Did w L p (.tuple #[.int .i64 r.1, .int .i64 r.2.1]) r.2.2 e w'
theorem leave_bad (w : World) (h : PRep w L p P X) (t : Int) (hT : isT t = false) : Calls Tryz.prog 6 #[.pointer (some ⟨p, 0, none⟩), .int .i64 t] w (Exact w (.tuple #[.int .i64 0, .int .i64 1])) := by
  refine calls_abs fun R hR => ?_
  have hi := isThread_any w t
  rw [hT] at hi
  clear hT
  go_enter Tryz.func6, Tryz.ntmps6
  go_wp2_with fail
  refine (none_rep _ h).mono ?_
  rintro e _ ⟨rfl, rfl⟩
  go_wp2_with fail
  refine hi.mono ?_
  rintro e _ ⟨rfl, rfl⟩
  go_wp2_with fail
  exact hR.out _ _ ⟨rfl, rfl⟩
theorem leave_one (w : World) (h : PRep w L p P X) (hok : P.ok) (t : Nat) (ht : t < 5) (h1 : (P.stk t).length = 1) : Calls Tryz.prog 6 #[.pointer (some ⟨p, 0, none⟩), .int .i64 t] w (Exact w (.tuple #[.int .i64 0, .int .i64 13])) := by
  refine calls_abs fun R hR => ?_
  have hi := isThread_any w t
  rw [show isT (t : Int) = true by unfold isT; simp; omega] at hi
  have c1 := h.cells.2.1 t ht
  obtain ⟨g, cap, e1, _⟩ := h.stk hok ht
  rw [e1, h1] at c1
  have b1 : (0 : Int) ≤ t := by omega
  have b2 : (t : Int) < 5 := by omega
  clear h1 e1 hok
  go_enter Tryz.func6, Tryz.ntmps6
  go_wp2_with fail
  refine (none_rep _ h).mono ?_
  rintro e _ ⟨rfl, rfl⟩
  go_wp2_with fail
  refine hi.mono ?_
  rintro e _ ⟨rfl, rfl⟩
  go_wp2_with fail
  exact hR.out _ _ ⟨rfl, rfl⟩
theorem PRep.pop (h : PRep w L p P X) {t : Nat} (ht : t < 5) {g l cap : Nat} (hl : (P.stk t).length = l + 1) (hv : X.sv t = .slice (some ⟨g, 0, none⟩) (l + 1) cap) :
    ∃ X', PRep (w.setCell ⟨p, 1 + t, none⟩ (.slice (some ⟨g, 0, none⟩) l cap)) L p (P.popped t) X' ∧ X'.scv = X.scv := by
  have hI := (h.st t ht).1
  rw [hv] at hI
  have h2 : Ints w 0 (.slice (some ⟨g, 0, none⟩) l cap) (P.stk t).dropLast := by
    have := hI.take (n := l) (by omega)
    rw [List.dropLast_eq_take, hl, Nat.add_sub_cancel]
    exact this
  obtain ⟨L', X', h3, h4, h5, h6, h7⟩ := h.stacked (w1 := w) ht (Only.refl _ _) h2 (fun g' hg' => by
    simp [Value.ownBlock] at hg'
    subst hg'
    exact .inl (by rw [hv]; rfl))
  obtain rfl := h6 (fun g' hg' => by rw [hv]; exact hg')
  exact ⟨X', h3, h7⟩
theorem Pm.ok.popped_fewer (hok : P.ok) {t : Nat} (ht : t < 5) (h1 : (P.stk t).length ≠ 1) {a : Int} (h0 : 0 ≤ (P.sp a).users - 1) : ((P.popped t).fewer a).ok := by
  have hn : ((P.popped t).fewer a).n = P.n := by unfold Pm.fewer; rw [setSp_n]; rfl
  have hsp : ∀ b, 2 ≤ b → b < (P.n : Int) + 2 → ((P.popped t).fewer a).sp b = P.sp b ∨ (((P.popped t).fewer a).sp b = { P.sp a with users := (P.sp a).users - 1 } ∧ P.sp b = P.sp a) := fun b h2 hb => by
    by_cases e : b.toNat - 2 = a.toNat - 2
    · right
      have e1 : P.sp b = P.sp a := by unfold Pm.sp; rw [e]
      refine ⟨?_, e1⟩
      have : ((P.popped t).fewer a).sp b = ((P.popped t).fewer a).sp a := by unfold Pm.sp; rw [e]
      rw [this]
      unfold Pm.fewer
      rw [setSp_sp _ (show a.toNat - 2 < (P.popped t).n by rw [← e]; show _ < P.n; omega)]
      rfl
    · left
      unfold Pm.fewer Pm.setSp Pm.popped Pm.sp
      simp only
      rw [List.getElem?_set, if_neg (Ne.symm e)]
  refine ⟨by unfold Pm.fewer Pm.setSp Pm.popped; simp; exact hok.n6, fun b h2 hb => ?_, fun s hs => ?_, fun s hs x hx => ?_, hok.md, fun k th hk => by rw [hn]; exact hok.th k th hk, ?_⟩
  · rw [hn] at hb ⊢
    have h3 := hok.sp b h2 hb
    rcases hsp b h2 hb with e | ⟨e, e2⟩
    · rw [e]; exact h3
    · rw [e]
      rw [e2] at h3
      obtain ⟨q1, q2, q3, q4, q5, q6, q7, q8⟩ := h3
      exact ⟨q1, q2, q3, q4, h0, by show (P.sp a).users - 1 ≤ 40; omega, q7, q8⟩
  · show 1 ≤ (upd P.stk t (P.stk t).dropLast s).length ∧ _
    by_cases e : s = t
    · subst e
      have := hok.s1 s hs
      simp only [upd_same, List.length_dropLast]
      have h4 : (((P.popped s).fewer a).stk s).length = (P.stk s).length - 1 := by
        show (upd P.stk s (P.stk s).dropLast s).length = _
        rw [upd_same, List.length_dropLast]
      omega
    · have h4 : ((P.popped t).fewer a).stk s = P.stk s := upd_other _ _ e
      rw [upd_other _ _ e, h4]
      exact hok.s1 s hs
  · rw [hn]
    have hx : x ∈ upd P.stk t (P.stk t).dropLast s := hx
    by_cases e : s = t
    · subst e
      rw [upd_same] at hx
      exact hok.sa s hs x (List.dropLast_subset _ hx)
    · rw [upd_other _ _ e] at hx
      exact hok.sa s hs x hx
  · obtain ⟨rk, h6, hr⟩ := hok.rk
    refine ⟨rk, h6, fun b h2 hb hu hp => ?_⟩
    rw [hn] at hb
    rcases hsp b h2 hb with e | ⟨e, e2⟩
    · rw [e] at hu hp ⊢; exact hr b h2 hb hu hp
    · rw [e] at hu hp ⊢
      simp only at hu hp ⊢
      rw [← e2] at hu hp ⊢
      exact hr b h2 hb (by omega) hp
theorem leave_more (w : World) (h : PRep w L p P X) (hok : P.ok) (t : Nat) (ht : t < 5) (h1 : (P.stk t).length ≠ 1) :
    Calls Tryz.prog 6 #[.pointer (some ⟨p, 0, none⟩), .int .i64 t] w (DidN w L p (P.leave t)) := by
  refine calls_abs fun R hR => ?_
  have hi := isThread_any w t
  have hTt : isT (t : Int) = true := by unfold isT; simp; omega
  rw [hTt] at hi
  have c1 := h.cells.2.1 t ht
  have f1 := h.cells.2.2.2.2 (1 + t)
  obtain ⟨g, cap, e1, hg, hlg, hc⟩ := h.stk hok ht
  have hl8 := hok.s1 t ht
  obtain ⟨q, hl⟩ : ∃ q, (P.stk t).length = q + 1 := ⟨(P.stk t).length - 1, by omega⟩
  have hI := (h.st t ht).1
  rw [e1] at hI
  obtain ⟨_, _, _, _, _, hcap, _⟩ := hI.row
  have hcap : q + 1 ≤ cap := by omega
  obtain ⟨s, hs⟩ : ∃ s, s = q + 1 := ⟨_, rfl⟩
  rw [← hs] at hl
  rw [e1, hl] at c1
  have HS := Lib.hid hs
  have HL := Lib.hid hl
  have HE : Hid (X.sv t = .slice (some ⟨g, 0, none⟩) (q + 1) cap) := by show _ = _; rw [e1, hl, hs]
  have b1 : (0 : Int) ≤ t := by omega
  have b2 : (t : Int) < 5 := by omega
  have b3 : (s : Int) - 1 = (q : Int) := by omega

  have b10 : (q : Int) ≤ 8 := by omega
  have b5 : (0 : Int) ≤ q := by omega
  have b6 : (q : Int) ≤ cap := by omega
  have b7 : ((s : Int) == 1) = false := by rw [beq_eq_false_iff_ne]; omega
  have b8 : (q : Int).toNat = q := by omega
  have hcu0 := current_rep w h hok t ht
  generalize htp : top (P.stk t) = a at hcu0
  have HTP := Lib.hid htp
  have H := Lib.hid h
  clear hs hl hl8 e1 hI hc htp h
  go_enter Tryz.func6, Tryz.ntmps6
  go_wp2_with fail
  refine (none_rep _ H.out).mono ?_
  rintro e _ ⟨rfl, rfl⟩
  go_wp2_with fail
  refine hi.mono ?_
  rintro e _ ⟨rfl, rfl⟩
  go_wp2_with fail
  refine hcu0.mono ?_
  rintro e _ ⟨rfl, m, rfl⟩
  go_wp2_with fail
  have c1 : (w.drewN m).cell? ⟨p, 1 + t, none⟩ = some (.slice (some ⟨g, 0, none⟩) s cap) := c1
  have f1 : (w.drewN m).frozen? ⟨p, 1 + t, none⟩ = false := f1
  have H1 := Lib.hid (H.out.drewN m)
  have HO1 := Lib.hid ((OnlyP.refl (fun k => L k ≠ none) w).drewN m)
  generalize w.drewN m = w1 at *
  have b4 : IntKind.i64.wrap (q : Int) = (q : Int) := IntWalk.i64_in _ (by omega)
  go_still_tail 20, (by kernel_rfl)
  repeat (first | still_step)
  change wpList _ _ _ _ _ w1.drew
  clear b4
  go_wp2_with fail
  have H2p : ∃ X', PRep ((w1.setCell ⟨p, 1 + t, none⟩ (.slice (some ⟨g, 0, none⟩) q cap)).drew) L p (P.popped t) X' ∧ X'.scv = X.scv := by
    obtain ⟨X', q1, q2⟩ := H1.out.pop ht (l := q) (by rw [HL.out, HS.out]) HE.out
    exact ⟨X', q1.drew, q2⟩
  have O2 : OnlyP (fun k => L k ≠ none) w ((w1.setCell ⟨p, 1 + t, none⟩ (.slice (some ⟨g, 0, none⟩) q cap)).drew) := (HO1.out.set (.inl (by rw [H1.out.Lm]; simp)) _).drew
  obtain ⟨X2, H2, e2⟩ := H2p
  generalize ((w1.setCell ⟨p, 1 + t, none⟩ (.slice (some ⟨g, 0, none⟩) q cap)).drew) = w2 at *
  have HO2 := Lib.hid O2
  clear c1 f1 b3 b5 b6 b7 b8 O2
  by_cases h2 : 2 ≤ a
  · have han : a < (P.n : Int) + 2 := by
      have := (hok.sa t ht a (by rw [← HTP.out]; exact top_mem (hok.s1 t ht).1)).2
      exact this
    have hnn : (P.popped t).n = P.n := rfl
    obtain ⟨j, g', capS, ej, hj, ej2, eS, hlS, c0, k1, k2, k3, k4, kf⟩ := H2.sp5 h2 (by rw [hnn]; exact han)
    have m0 := H2.cells.1
    rw [eS] at m0
    have hs := scope_at w2 p g' (P.popped t).n capS j a m0 ej hj hok.n6
    have f2 := kf 2 (by omega)
    have hsp : (P.popped t).sp a = P.sp a := rfl
    rw [hsp] at k2
    have hub := hok.sp a h2 han
    obtain ⟨u, hu⟩ : ∃ u, u = (P.sp a).users := ⟨_, rfl⟩
    rw [← hu] at k2 hub
    have HU := Lib.hid hu
    have H22 := Lib.hid H2
    have HSS := Lib.hid eS
    have HJ := Lib.hid ej2
    have HOK := Lib.hid hok
    clear ej eS ej2 m0 c0 k1 k3 k4 kf hu H2 hnn hsp hok e2
    by_cases hu1 : u = 1
    · have hr : Hid (P.leave t = (a, 0, ((P.popped t).fewer a).reset a)) := by
        show _ = _
        unfold Pm.leave
        rw [hTt, if_pos rfl, Int.toNat_natCast, if_neg h1, HTP.out, if_pos h2, ← HU.out, if_pos (by omega)]
      subst hu1
      go_wp2_with fail
      refine hs.mono ?_
      rintro e _ ⟨rfl, rfl⟩
      go_wp2_with fail
      have H3 : PRep (w2.setCell ⟨g', j * 5 + 2, none⟩ (.int .i64 0)) L p ((P.popped t).fewer a) X2 := H22.out.field HSS.out hj HJ.out hlS (r := 2) (by omega) (s := { (P.popped t).sp a with users := ((P.popped t).sp a).users - 1 }) (by show (P.sp a).users - 1 = 0; rw [← HU.out]; rfl) (fun q hq hne => by
        match q, hq with | 0, _ => rfl | 1, _ => rfl | 2, _ => exact absurd rfl hne | 3, _ => rfl | 4, _ => rfl)
      have O3 : OnlyP (fun k => L k ≠ none) w (w2.setCell ⟨g', j * 5 + 2, none⟩ (.int .i64 0)) := HO2.out.set (.inl (by rw [hlS]; simp)) _
      generalize (w2.setCell ⟨g', j * 5 + 2, none⟩ (.int .i64 0)) = w3 at *
      have hok3 := HOK.out.popped_fewer ht h1 (a := a) (by rw [← HU.out]; omega)
      have hre := reset_rep w3 H3 hok3 a h2 (by unfold Pm.fewer; rw [setSp_n]; exact han)
      refine hre.mono ?_
      rintro e w4 ⟨⟨v, rfl⟩, X', H4, O4⟩
      have HH4 := Lib.hid H4
      have HO4 := Lib.hid (O3.trans O4 (fun x hx => .inl hx))
      clear H4 O4 O3 H3 hok3 hre
      go_wp2_with fail
      refine hR.out _ _ ⟨by rw [hr.out] <;> rfl, L, X', by rw [hr.out]; exact HH4.out, fun k hk => .inl hk, HO4.out⟩
    · have hu0 : (u - 1 == 0) = false := by rw [beq_eq_false_iff_ne]; omega
      have hr : Hid (P.leave t = (a, 0, (P.popped t).fewer a)) := by
        show _ = _
        unfold Pm.leave
        rw [hTt, if_pos rfl, Int.toNat_natCast, if_neg h1, HTP.out, if_pos h2, ← HU.out, if_neg (by omega)]
      go_wp2_with fail
      refine hs.mono ?_
      rintro e _ ⟨rfl, rfl⟩
      go_wp2_with fail
      have H3 : PRep (w2.setCell ⟨g', j * 5 + 2, none⟩ (.int .i64 (u - 1))) L p ((P.popped t).fewer a) X2 := H22.out.field HSS.out hj HJ.out hlS (r := 2) (by omega) (s := { (P.popped t).sp a with users := ((P.popped t).sp a).users - 1 }) (by show (P.sp a).users - 1 = u - 1; rw [← HU.out]) (fun q hq hne => by
        match q, hq with | 0, _ => rfl | 1, _ => rfl | 2, _ => exact absurd rfl hne | 3, _ => rfl | 4, _ => rfl)
      refine hR.out _ _ ⟨by rw [hr.out] <;> rfl, L, X2, by rw [hr.out]; exact H3, fun k hk => .inl hk, HO2.out.set (.inl (by rw [hlS]; simp)) _⟩
  · have hr : Hid (P.leave t = (a, 0, P.popped t)) := by
      show _ = _
      unfold Pm.leave
      rw [hTt, if_pos rfl, Int.toNat_natCast, if_neg h1, HTP.out, if_neg h2]
    have hs := scope_low w2 (.pointer (some ⟨p, 0, none⟩)) a (by omega)
    refine hs.mono ?_
    rintro e _ ⟨rfl, rfl⟩
    go_wp2_with fail
    refine hR.out _ _ ⟨by rw [hr.out] <;> rfl, L, X2, by rw [hr.out]; exact H2, fun k hk => .inl hk, HO2.out⟩
theorem leave_rep (w : World) (h : PRep w L p P X) (hok : P.ok) (t : Int) :
    Calls Tryz.prog 6 #[.pointer (some ⟨p, 0, none⟩), .int .i64 t] w (DidN w L p (P.leave t)) := by
  cases hT : isT t
  · refine (leave_bad w h t hT).mono ?_
    rintro e _ ⟨rfl, rfl⟩
    have hr : P.leave t = (0, 1, P) := by unfold Pm.leave; rw [hT]; rfl
    rw [hr]
    exact Did.none h (Drew.refl _)
  · obtain ⟨n, rfl, hn⟩ := isT_nat hT
    by_cases h1 : (P.stk n).length = 1
    · refine (leave_one w h hok n hn h1).mono ?_
      rintro e _ ⟨rfl, rfl⟩
      have hr : P.leave n = (0, 13, P) := by unfold Pm.leave; rw [hT, if_pos rfl, Int.toNat_natCast, if_pos h1]
      rw [hr]
      exact Did.none h (Drew.refl _)
    · exact leave_more w h hok n hn h1
end
end Go.Proofs.YtkacgbigeobncaaGreat
