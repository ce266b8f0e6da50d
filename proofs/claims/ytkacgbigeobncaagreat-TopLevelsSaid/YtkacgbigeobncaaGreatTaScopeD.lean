/- Lemmas of this claim. -/
import Derived.Test.YtkacgbigeobncaaGreatTaScopeB
namespace Go.Proofs.YtkacgbigeobncaaGreat
open Go.RowKit Go.Maps
set_option maxHeartbeats 800000
set_option maxRecDepth 100000
set_option linter.unusedVariables false
theorem Pm.outerN_low {P : Pm} {n : Nat} {a q : Int} (ha : 2 ≤ a) (hq : q < 2) : P.outerN (n + 1) a q = false := by
  unfold Pm.outerN
  rw [if_neg (show ¬ (a < 2 ∨ a = q) by omega), if_pos (.inl hq)]
def rkm (rk : Int → Nat) (c : Int) : Nat := if c < 2 then 0 else rk c + 1
theorem rkm_lt {rk : Int → Nat} {q c : Int} (hc : 2 ≤ c) (h : 2 ≤ q → rk q < rk c) : rkm rk q < rkm rk c := by
  unfold rkm
  by_cases h2 : q < 2
  · rw [if_pos h2, if_neg (show ¬ c < 2 by omega)]; omega
  · rw [if_neg h2, if_neg (show ¬ c < 2 by omega)]; have := h (by omega); omega
theorem Pm.outerN_more {P : Pm} (hok : P.ok) {rk : Int → Nat} (hr : ∀ a, 2 ≤ a → a < (P.n : Int) + 2 → 0 < (P.sp a).users → 2 ≤ (P.sp a).parent → rk (P.sp a).parent < rk a) {n m : Nat} {a b : Int} (hb : b < (P.n : Int) + 2) (hn : rk b + 1 < n) (hm : rk b + 1 < m) :
    P.outerN n a b = P.outerN m a b := by
  induction n generalizing m b with
  | zero => omega
  | succ n ih =>
    cases m with
    | zero => omega
    | succ m =>
      unfold Pm.outerN
      split
      · rfl
      · rename_i h1
        split
        · rfl
        · rename_i h2
          have h3 := hok.sp b (by omega) hb
          by_cases h4 : 2 ≤ (P.sp b).parent
          · have := hr b (by omega) hb (by omega) h4
            exact ih h3.2.2.2.2.2.2.2 (by omega) (by omega)
          · cases n with
            | zero => omega
            | succ n =>
              cases m with
              | zero => omega
              | succ m =>
                rw [Pm.outerN_low (by omega) (by omega), Pm.outerN_low (by omega) (by omega)]
theorem Pm.ok.outer_step {P : Pm} (hok : P.ok) {a b : Int} (h1 : ¬ (a < 2 ∨ a = b)) (h2 : 2 ≤ b) (hb : b < (P.n : Int) + 2) (hu : (P.sp b).users ≠ 0) : P.outerN 8 a b = P.outerN 8 a (P.sp b).parent := by
  obtain ⟨rk, h6, hr⟩ := hok.rk
  have h3 := hok.sp b h2 hb
  have e : P.outerN 8 a b = P.outerN 7 a (P.sp b).parent := by
    show (if a < 2 ∨ a = b then true else if b < 2 ∨ (P.sp b).users = 0 then false else P.outerN 7 a (P.sp b).parent) = _
    rw [if_neg h1, if_neg (by omega)]
  rw [e]
  by_cases h4 : 2 ≤ (P.sp b).parent
  · have := hr b h2 hb (by omega) h4
    have := h6 b
    exact Pm.outerN_more hok hr h3.2.2.2.2.2.2.2 (by omega) (by omega)
  · rw [Pm.outerN_low (by omega) (by omega), Pm.outerN_low (by omega) (by omega)]
theorem Pm.outer_yes {P : Pm} {a b : Int} (h1 : a < 2 ∨ a = b) : P.outerN 8 a b = true := if_pos h1
theorem Pm.outer_no {P : Pm} {a b : Int} (h1 : ¬ (a < 2 ∨ a = b)) (h2 : b < 2 ∨ (P.sp b).users = 0) : P.outerN 8 a b = false := by
  show (if a < 2 ∨ a = b then true else if b < 2 ∨ (P.sp b).users = 0 then false else P.outerN 7 a (P.sp b).parent) = _
  rw [if_neg h1, if_pos h2]
section
variable {L : Nat → Option Lb} {p : Nat} {P : Pm} {X : PX} {w : World}
theorem outer_rep (w : World) (h : PRep w L p P X) (hok : P.ok) (a b : Int) (hb : b < (P.n : Int) + 2) :
    Calls Tryz.prog 21 #[.pointer (some ⟨p, 0, none⟩), .int .i64 a, .int .i64 b] w (Exact w (.bool (P.outerN 8 a b))) := by
  refine calls_abs fun R hR => ?_
  obtain ⟨rk, h6, hr⟩ := hok.rk
  have HOK := Lib.hid hok
  have HRK := Lib.hid hr
  have H := Lib.hid h
  have HB := Lib.hid hb
  clear hr hok h hb
  go_enter Tryz.func21, Tryz.ntmps21
  go_wp2_with fail
  go_loop [2, 7] (fun bv _ => ∃ c : Int, bv = .int .i64 c ∧ c < (P.n : Int) + 2 ∧ Hid (P.outerN 8 a b = P.outerN 8 a c)) (fun bv _ => rkm rk (intOf bv))
  case atStart => exact ⟨b, rfl, HB.out, rfl⟩
  case round =>
    obtain ⟨c, rfl, hc, he⟩ := hrel
    by_cases h1 : a < 2 ∨ a = c
    · have hv : Hid (P.outerN 8 a b = true) := by show _ = _; rw [he.out, Pm.outer_yes h1]
      by_cases h2 : a < 2
      · clear h1
        go_wp2_with fail
        exact hR.out _ _ ⟨by rw [hv.out] <;> rfl, rfl⟩
      · obtain rfl : a = c := h1.resolve_left h2
        clear h1
        go_wp2_with fail
        exact hR.out _ _ ⟨by rw [hv.out] <;> rfl, rfl⟩
    · have ha2 : 2 ≤ a := by omega
      have hac : (a != c) = true := by simp; omega
      by_cases h2 : c < 2
      · have hv : Hid (P.outerN 8 a b = false) := by show _ = _; rw [he.out, Pm.outer_no h1 (.inl h2)]
        have hs := scope_low w (.pointer (some ⟨p, 0, none⟩)) c h2
        clear h1
        go_wp2_with fail
        refine hs.mono ?_
        rintro e _ ⟨rfl, rfl⟩
        go_wp2_with fail
        exact hR.out _ _ ⟨by rw [hv.out] <;> rfl, rfl⟩
      · obtain ⟨j, g, cap, e1, hj, _, e2, _, c0, c1, c2, c3, c4, _⟩ := H.out.sp5 (a := c) (by omega) hc
        have m0 := H.out.cells.1
        rw [e2] at m0
        have hs := scope_at w p g P.n cap j c m0 e1 hj HOK.out.n6
        have hsp := HOK.out.sp c (by omega) hc
        cases hu : ((P.sp c).users == 0)
        · have hu' : (P.sp c).users ≠ 0 := by simpa using hu
          have hst : Hid (P.outerN 8 a b = P.outerN 8 a (P.sp c).parent) := by show _ = _; rw [he.out, HOK.out.outer_step h1 (by omega) hc hu']
          have hlt : 2 ≤ (P.sp c).parent → rk (P.sp c).parent < rk c := fun h4 => HRK.out c (by omega) hc (by omega) h4
          obtain ⟨q, hq⟩ : ∃ q, q = (P.sp c).parent := ⟨_, rfl⟩
          rw [← hq] at c3 hsp hst hlt
          have HM : Hid (rkm rk q < rkm rk c) := rkm_lt (by omega) hlt
          clear h1 e1 hq hu' m0 hlt
          go_wp2_with fail
          refine hs.mono ?_
          rintro e _ ⟨rfl, rfl⟩
          go_wp2_with fail
          go_round
          case rel => exact ⟨q, rfl, hsp.2.2.2.2.2.2.2, hst⟩
          case measure => exact HM.out
        · have hu' : (P.sp c).users = 0 := by simpa using hu
          have hv : Hid (P.outerN 8 a b = false) := by show _ = _; rw [he.out, Pm.outer_no h1 (.inr hu')]
          rw [hu'] at c2
          clear h1 e1 hu' m0 hu
          go_wp2_with fail
          refine hs.mono ?_
          rintro e _ ⟨rfl, rfl⟩
          go_wp2_with fail
          exact hR.out _ _ ⟨by rw [hv.out] <;> rfl, rfl⟩
theorem may_rep (w : World) (h : PRep w L p P X) (hok : P.ok) (x y : Int) (hx : wfI x) (hy : wfI y) : Calls Tryz.prog 8 #[.pointer (some ⟨p, 0, none⟩), .int .i64 x, .int .i64 y] w (TwoB w (P.may x y)) := by
  refine calls_abs fun R hR => ?_

  cases ho : P.ob x with
  | none =>
    have hr : Hid (P.may x y = (false, 3)) := by show _ = _; unfold Pm.may; rw [ho]
    have hf := find_none w h hok x hx ho
    clear ho hok
    go_enter Tryz.func8, Tryz.ntmps8
    go_wp2_with fail
    refine (hf).mono ?_
    rintro e _ ⟨rfl, rfl⟩
    go_wp2_with fail
    exact hR.out _ _ ⟨by rw [hr.out] <;> rfl, Drew.refl _⟩

  | some t =>
    have hf := find_some w h hok x hx t ho
    cases ho2 : P.ob y with
    | none =>
      have hr : Hid (P.may x y = (false, 3)) := by show _ = _; unfold Pm.may; rw [ho, ho2]
      have hg := find_none w h hok y hy ho2
      clear ho ho2 hok
      go_enter Tryz.func8, Tryz.ntmps8
      go_wp2_with fail
      refine (hf).mono ?_
      rintro e _ ⟨rfl, rfl⟩
      go_wp2_with fail
      refine (hg).mono ?_
      rintro e _ ⟨rfl, rfl⟩
      go_wp2_with fail
      exact hR.out _ _ ⟨by rw [hr.out] <;> rfl, Drew.refl _⟩

    | some u =>
      have hr : Hid (P.may x y = (P.outerN 8 u.area t.area, 0)) := by show _ = _; unfold Pm.may; rw [ho, ho2]
      have hg := find_some w h hok y hy u ho2
      obtain ⟨⟨T1, hrow1⟩, _⟩ := h.th x t ho
      obtain ⟨⟨T2, hrow2⟩, _⟩ := h.th y u ho2
      have c0 := hrow1.cell 0 rfl
      have c1 := hrow2.cell 0 rfl
      have hta := (hok.th x t ho).2.2.2.1
      have hq := fun n => outer_rep (w.drewN n) (h.drewN n) hok u.area t.area hta
      generalize P.outerN 8 u.area t.area = v at *
      generalize u.area = ua at *
      generalize t.area = ta at *
      clear ho ho2 hrow1 hrow2 hta
      go_enter Tryz.func8, Tryz.ntmps8
      go_wp2_with fail
      refine (hf).mono ?_
      rintro e _ ⟨rfl, rfl⟩
      go_wp2_with fail
      refine (hg).mono ?_
      rintro e _ ⟨rfl, rfl⟩
      go_wp2_with fail
      go_quiet (first | (go_at_call 21; with_reducible exact quiet_exact (hq _)))
      go_wp2_with fail
      exact hR.out _ _ ⟨by rw [hr.out] <;> rfl, Drew.of _ _⟩
end
end Go.Proofs.YtkacgbigeobncaaGreat
namespace Go.Proofs.YtkacgbigeobncaaGreat
open Go.RowKit Go.Maps
set_option maxHeartbeats 1600000
set_option maxRecDepth 100000
set_option linter.unusedVariables false
section
variable {L : Nat → Option Lb} {p : Nat} {P : Pm} {X : PX} {w : World}
def Did (w : World) (L : Nat → Option Lb) (p : Nat) (r : Value) (P' : Pm) (e : Ending) (w' : World) : Prop :=
  e = .returned r ∧ ∃ L' X', PRep w' L' p P' X' ∧ (∀ k, L' k ≠ none → L k ≠ none ∨ w.heap.size ≤ k) ∧ OnlyP (fun k => L k ≠ none) w w'
theorem Did.none {r : Value} {w' : World} (h : PRep w L p P X) (ho : Drew w w') : Did w L p r P (.returned r) w' := by
  obtain ⟨n, rfl⟩ := ho
  exact ⟨rfl, L, X, h.drewN n, fun k hk => .inl hk, (OnlyP.refl _ _).drewN n⟩
theorem ScAt.set {v : Value} {l : List Sp} (h : ScAt w L v l) {j g cap n : Nat} (hv : v = .slice (some ⟨g, 0, none⟩) n cap) (hj : j < l.length) {r : Nat} (hr : r < 5) {x : Int} {s : Sp} (hs : s.fld r = x) (ho : ∀ q, q < 5 → q ≠ r → s.fld q = l[j].fld q) :
    ScAt (w.setCell ⟨g, j * 5 + r, none⟩ (.int .i64 x)) L v (l.set j s) := by
  rcases h with ⟨h, _⟩ | ⟨g', cap', T, cs, h1, h2, h3, h4⟩
  · subst h; simp at hj
  · rw [hv] at h1
    simp only [Value.slice.injEq, Option.some.injEq, Addr.mk.injEq] at h1
    obtain ⟨⟨rfl, _⟩, rfl, rfl⟩ := h1
    refine .inr ⟨g, cap, T, _, by rw [hv, List.length_set], h2.set _ _, h3, fun i t hi q hq => ?_⟩
    have hl : j * 5 + r < cs.length := by
      have := (List.getElem?_eq_some_iff.1 (h4 j l[j] (List.getElem?_eq_getElem hj) r hr)).1
      exact this
    rw [List.getElem?_set] at hi
    by_cases e : j = i
    · subst e
      rw [if_pos rfl, if_pos hj] at hi
      cases hi
      rw [List.getElem?_set]
      by_cases e2 : q = r
      · subst e2
        rw [if_pos rfl, if_pos hl, hs]
      · rw [if_neg (by omega), ho q hq e2]
        exact h4 j l[j] (List.getElem?_eq_getElem hj) q hq
    · rw [if_neg e] at hi
      rw [List.getElem?_set, if_neg (by omega)]
      exact h4 i t hi q hq
theorem PRep.turnSc {w' : World} {scs : List Sp} (h : PRep w L p P X) (hg : OnlyP (fun k => L k = some .scp) w w') (hs : ScAt w' L X.scv scs) : PRep w' L p { P with scs := scs } X := by
  have hne : ∀ k ℓ, ℓ ≠ Lb.scp → L k = some .scp → L k ≠ some ℓ := fun k ℓ h1 hk e => by rw [hk] at e; cases e; exact h1 rfl
  refine ⟨fun k hk => Nat.lt_of_lt_of_le (h.lt k hk) hg.size, ?_, h.Lm, hs, fun t ht => ⟨(h.st t ht).1.onlyP hg (fun g hgv x => hne g (.stk t) (by simp) x ((h.st t ht).2 g hgv)), (h.st t ht).2⟩,
    h.mp.only hg (fun x => hne _ .map (by simp) x h.Lp), h.Lp, fun k t hk => (h.th k t hk).only hg (fun x hx => ⟨hne x _ (by simp) hx, hne x _ (by simp) hx⟩)⟩
  obtain ⟨T, hr⟩ := h.mem
  exact ⟨T, hg.row hr (fun x => hne _ .mem (by simp) x h.Lm)⟩
theorem PRep.field (h : PRep w L p P X) {a : Int} {g cap j : Nat} (hv : X.scv = .slice (some ⟨g, 0, none⟩) P.n cap) (hj : j < P.n) (ej : a.toNat - 2 = j) (hg : L g = some .scp) {r : Nat} (hr : r < 5) {x : Int} {s : Sp} (hs : s.fld r = x) (ho : ∀ q, q < 5 → q ≠ r → s.fld q = (P.sp a).fld q) :
    PRep (w.setCell ⟨g, j * 5 + r, none⟩ (.int .i64 x)) L p (P.setSp a s) X := by
  have hj' : j < P.scs.length := hj
  have e : P.sp a = P.scs[j] := by unfold Pm.sp; rw [ej, List.getElem?_eq_getElem hj']; rfl
  rw [e] at ho
  have := h.turnSc ((OnlyP.refl (fun k => L k = some .scp) w).set (p := ⟨g, j * 5 + r, none⟩) (.inl hg) (.int .i64 x)) (h.sc.set hv hj' hr hs ho)
  unfold Pm.setSp
  rw [ej]
  exact this
theorem setSp_n (P : Pm) (a : Int) (s : Sp) : (P.setSp a s).n = P.n := by simp [Pm.setSp, Pm.n]
theorem setSp_sp {P : Pm} {a : Int} (s : Sp) (h : a.toNat - 2 < P.n) : (P.setSp a s).sp a = s := by
  have : a.toNat - 2 < P.scs.length := h
  simp [Pm.setSp, Pm.sp, this]
theorem setSp_twice (P : Pm) (a : Int) (s t : Sp) : (P.setSp a s).setSp a t = P.setSp a t := by simp [Pm.setSp]
theorem PRep.stacked {w1 : World} (h : PRep w L p P X) {t : Nat} (ht : t < 5) {v : Value} {l : List Int} (hg : Only (X.sv t).ownBlock.toList w w1) (hi : Ints w1 0 v l) (hb : ∀ g, v.ownBlock = some g → (X.sv t).ownBlock = some g ∨ (w.heap.size ≤ g ∧ g < w1.heap.size)) :
    ∃ L' X', PRep (w1.setCell ⟨p, 1 + t, none⟩ v) L' p { P with stk := upd P.stk t l } X' ∧ (∀ k, L' k ≠ none → L k ≠ none ∨ w.heap.size ≤ k) ∧ (∀ k, L k ≠ none → L' k = L k) ∧ ((∀ g, v.ownBlock = some g → (X.sv t).ownBlock = some g) → L' = L) ∧ X'.scv = X.scv := by
  obtain ⟨L', hL'⟩ : ∃ L' : Nat → Option Lb, L' = fun k => if v.ownBlock = some k then some (.stk t) else L k := ⟨_, rfl⟩
  have hst := (h.st t ht).2
  have hlab : ∀ k, L k ≠ none → L' k = L k := fun k hk => by
    rw [hL']
    by_cases e : v.ownBlock = some k
    · rcases hb k e with h1 | h1
      · simp only [e, if_true]; exact (hst k h1).symm
      · exact absurd (h.lt k hk) (by omega)
    · simp only [e, if_false]
  have hS : OnlyP (fun k => L k = some (.stk t)) w w1 := hg.toP (fun x hx => .inl (by
    cases e : (X.sv t).ownBlock with
    | none => rw [e] at hx; simp at hx
    | some b => rw [e] at hx; simp at hx; subst hx; exact hst _ e))
  have hne : ∀ k ℓ, ℓ ≠ Lb.stk t → L k = some (.stk t) → L k ≠ some ℓ := fun k ℓ h1 hk e => by rw [hk] at e; cases e; exact h1 rfl
  have hO : OnlyP (fun k => L k = some (.stk t) ∨ L k = some .mem) w (w1.setCell ⟨p, 1 + t, none⟩ v) := (hS.mono (fun x hx => .inl (.inl hx))).set (.inl (.inr h.Lm)) v
  have hne2 : ∀ k ℓ, ℓ ≠ Lb.stk t → ℓ ≠ .mem → (L k = some (.stk t) ∨ L k = some .mem) → L k ≠ some ℓ := fun k ℓ h1 h2 hk e => by
    rcases hk with hk | hk
    · rw [hk] at e; cases e; exact h1 rfl
    · rw [hk] at e; cases e; exact h2 rfl
  have hvne : v.ownBlock ≠ some p := fun e => by
    rcases hb p e with h1 | h1
    · have := hst p h1; rw [h.Lm] at this; cases this
    · have := h.lt p (by rw [h.Lm]; simp); omega
  refine ⟨L', { X with sv := upd X.sv t v }, ⟨fun k hk => ?_, ?_, lab_of hlab h.Lm, (h.sc.only hO (fun k hk => hne2 k .scp (by simp) (by simp) hk)).lab hlab, fun s hs => ?_, h.mp.only hO (fun x => hne2 _ .map (by simp) (by simp) x h.Lp), lab_of hlab h.Lp,
    fun k th hk => ((h.th k th hk).only hO (fun x hx => ⟨hne2 x _ (by simp) (by simp) hx, hne2 x _ (by simp) (by simp) hx⟩)).lab hlab⟩, fun k hk => ?_, hlab, fun hs => ?_, rfl⟩
  · rw [hL'] at hk
    have h1 : (w1.setCell ⟨p, 1 + t, none⟩ v).heap.size = w1.heap.size := by simp [World.setCell]
    rw [h1]
    by_cases e : v.ownBlock = some k
    · rcases hb k e with h2 | h2
      · exact Nat.lt_of_lt_of_le (h.lt k (by rw [hst k h2]; simp)) hg.size
      · exact h2.2
    · simp only [e, if_false] at hk
      exact Nat.lt_of_lt_of_le (h.lt k hk) hg.size
  · obtain ⟨T, hr⟩ := h.mem
    have hr1 := hS.row hr (fun x => hne p .mem (by simp) x h.Lm)
    refine ⟨T, ?_⟩
    have hr2 := hr1.set (1 + t) v
    have e : (memRow X P.made).set (1 + t) v = memRow { X with sv := upd X.sv t v } P.made := by
      unfold memRow
      match t, ht with
      | 0, _ => rfl
      | 1, _ => rfl
      | 2, _ => rfl
      | 3, _ => rfl
      | 4, _ => rfl
    rw [e] at hr2
    exact hr2
  · show Ints _ 0 (upd X.sv t v s) (upd P.stk t l s) ∧ ∀ g, (upd X.sv t v s).ownBlock = some g → L' g = some (.stk s)
    by_cases e : s = t
    · subst e
      simp only [upd_same]
      refine ⟨hi.only ((Only.refl [p] w1).set (p := ⟨p, 1 + s, none⟩) (by simp) v) (fun k hk => by simp; rintro rfl; exact hvne hk), fun g hgv => ?_⟩
      rw [hL']; simp [hgv]
    · simp only [upd_other _ _ e]
      refine ⟨(h.st s hs).1.onlyP hO (fun g hgv x => hne2 g (.stk s) (by simp [e]) (by simp) x ((h.st s hs).2 g hgv)), fun g hgv => lab_of hlab ((h.st s hs).2 g hgv)⟩
  · rw [hL'] at hk
    by_cases e : v.ownBlock = some k
    · rcases hb k e with h1 | h1
      · exact .inl (by rw [hst k h1]; simp)
      · exact .inr h1.1
    · simp only [e, if_false] at hk
      exact .inl hk
  · rw [hL']
    funext k
    by_cases e : v.ownBlock = some k
    · simp only [e, if_true]; exact (hst k (hs k e)).symm
    · simp only [e, if_false]
end
end Go.Proofs.YtkacgbigeobncaaGreat
