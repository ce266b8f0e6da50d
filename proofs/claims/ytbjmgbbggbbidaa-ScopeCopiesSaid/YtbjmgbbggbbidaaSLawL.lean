/- Layer 15's laws: play, with the memory that it yields (printed by wip/gen/slawl.py from XSLawD). Law ScopeCopies: the walk. -/
import Derived.Test.YtbjmgbbggbbidaaSLawE
import Derived.Test.YtbjmgbbggbbidaaSCopyB
namespace Go.Proofs.Ytbjmgbbggbbidaa
open Go.ChangeShapes Go.WideShapes Go.Deep
open Go.RowKit Go.Maps
set_option maxHeartbeats 3200000
set_option maxRecDepth 100000
set_option linter.unusedVariables false
/-- The first k deeds. -/
def Sc.plays (M : Sc) (f : Nat → Nat → Int) : Nat → Sc
  | 0 => M
  | k + 1 => ((M.plays f k).do (f k 0) (f k 1) (f k 2)).2.2
def Sc.playd (M : Sc) (f : Nat → Nat → Int) (n most : Nat) : Sc := M.plays f (min n most)
theorem play_goodM (w : World) (l : List Int) (a : Option Addr) (len cap : Nat) (hr : Read w (.slice a len cap) l) (h20 : len ≤ 20) (hb : goodSizes l = true) (b : Option Addr) (n cap2 : Nat) (f : Nat → Nat → Int) (hd : Recs 3 w b n f) :
    Calls Try.prog 12 #[.slice a len cap, .slice b n cap2] w (fun e w' => ∃ p q, e = .returned (.tuple #[.pointer (some ⟨p, 0, none⟩), .pointer (some ⟨q, 0, none⟩), .bool true]) ∧ Half w' w.heap.size p q (Sc.playd (Sc.new l) f n 80) (Sc.playd (Sc.new l) f n 80) ∧ Only [] w w') := by
  refine calls_abs fun R hR => ?_
  have c1 := new_good w _ l hr hb
  have HRD := Lib.hid hr
  have HD := Lib.hid hd
  have HGS := Lib.hid hb
  clear hr hb hd
  go_enter Try.func12, Try.ntmps12
  go_wp2_with fail
  refine c1.mono ?_
  rintro e w1 ⟨p, L, X, rfl, hp, hL, ho⟩
  have O1 := Lib.hid ho
  have HP := Lib.hid hp
  have HL := Lib.hid hL
  clear hp hL ho c1
  have c2 := rnew_good w1 _ l (HRD.out.only O1.out (by simp)) HGS.out
  go_wp2_with fail
  refine c2.mono ?_
  rintro e w2 ⟨q, K, Y, rfl, hq, hK, ho⟩
  have O2 := Lib.hid (O1.out.trans ho (by simp))
  have HB : Hid (Half w2 w.heap.size p q (Sc.new l) (Sc.new l)) := by
    refine ⟨L, K, X, Y, HP.out.only0 ho, hq, Sc.Ok.new HGS.out, Sc.Ok.new HGS.out, fun k hk => ?_, HL.out, fun k hk => Nat.le_trans O1.out.size (hK k hk)⟩
    cases e : K k with
    | none => rfl
    | some ℓ => have := hK k (by rw [e]; simp); have := HP.out.lt k hk; omega
  clear hq hK ho c2 HP HL
  go_wp2_with fail
  go_loopw [11] (fun iv wr => ∃ (x : Nat) (M : Sc), x ≤ n ∧ x ≤ 80 ∧ iv = .int .i64 x ∧ Half wr w.heap.size p q M M ∧ Hid (M = Sc.plays (Sc.new l) f x) ∧ Only [] w wr) (fun iv _ => n - (intOf iv).toNat)
  case atStart => exact ⟨0, Sc.new l, by omega, by omega, rfl, HB.out, rfl, O2.out⟩
  case round =>
    obtain ⟨x, M, hx, hx80, rfl, hB, HLO, hO⟩ := hrel
    have HB := Lib.hid hB
    have HO := Lib.hid hO
    clear hB hO
    by_cases hlt : x < n ∧ x < 80
    · obtain ⟨hlt, hl8⟩ := hlt
      have hlt1 : (x : Int) < n := by omega
      have hl81 : (x : Int) < 80 := by omega
      rcases HD.out.2 with h0 | ⟨bb, oo, rfl, hc⟩
      · omega
      have c0 := HO.out.cell (hc x (by omega) 0 (by omega)).1 (by simp)
      have c1 := HO.out.cell (hc x (by omega) 1 (by omega)).1 (by simp)
      have c2 := HO.out.cell (hc x (by omega) 2 (by omega)).1 (by simp)
      rw [Nat.add_zero] at c0
      rw [← Nat.add_assoc] at c1 c2
      have wa := (hc x (by omega) 1 (by omega)).2
      have wb := (hc x (by omega) 2 (by omega)).2
      obtain ⟨d0, hd0⟩ : ∃ z, z = f x 0 := ⟨_, rfl⟩
      obtain ⟨d1, hd1⟩ : ∃ z, z = f x 1 := ⟨_, rfl⟩
      obtain ⟨d2, hd2⟩ : ∃ z, z = f x 2 := ⟨_, rfl⟩
      rw [← hd0] at c0
      rw [← hd1] at c1 wa
      rw [← hd2] at c2 wb
      have hbase : w.heap.size ≤ wr.heap.size := HO.out.size
      have hc1 : Calls Try.prog _ _ wr _ := HB.out.pstep (M' := (M.do d0 d1 d2).2.2) (F := 38) (args := #[.pointer (some ⟨p, 0, none⟩), .agg #[.int .i64 d0, .int .i64 d1, .int .i64 d2]]) (r := .tuple #[.int .i64 (M.do d0 d1 d2).1, .int .i64 (M.do d0 d1 d2).2.1]) hbase (HB.out.okp.do _ _ _) (fun L X hp => by
        have := do_rep wr hp HB.out.okp.toP d0 d1 d2 wa wb
        rw [HB.out.okp.toP_do] at this
        exact this)
      have hc2 : Hid (∀ w3, w.heap.size ≤ w3.heap.size → Half w3 w.heap.size p q (M.do d0 d1 d2).2.2 M → Calls Try.prog 45 #[.pointer (some ⟨q, 0, none⟩), .agg #[.int .i64 d0, .int .i64 d1, .int .i64 d2]] w3 (fun e w4 => e = .returned (.tuple #[.int .i64 (M.do d0 d1 d2).1, .int .i64 (M.do d0 d1 d2).2.1]) ∧ Half w4 w.heap.size p q (M.do d0 d1 d2).2.2 (M.do d0 d1 d2).2.2 ∧ OnlyP (fun k => w.heap.size ≤ k) w3 w4)) := fun w3 hb3 h3 =>
        h3.rstep hb3 (HB.out.okp.do _ _ _) (fun K Y hq => rdo_rep w3 hq HB.out.okr d0 d1 d2)
      have HL2 : Hid ((M.do d0 d1 d2).2.2 = Sc.plays (Sc.new l) f (x + 1)) := by show _ = _; unfold Sc.plays; rw [← HLO.out, ← hd0, ← hd1, ← hd2]
      generalize M.do d0 d1 d2 = res at *
      obtain ⟨r0, r1, M'⟩ := res
      have CC0 : Hid (w.cell? ⟨bb, oo + x * 3, none⟩ = some (.int .i64 d0)) := by
        have := (hc x (by omega) 0 (by omega)).1; rw [Nat.add_zero, ← hd0] at this; exact this
      have CC1 : Hid (w.cell? ⟨bb, oo + x * 3 + 1, none⟩ = some (.int .i64 d1)) := by
        have := (hc x (by omega) 1 (by omega)).1; rw [← Nat.add_assoc, ← hd1] at this; exact this
      have CC2 : Hid (w.cell? ⟨bb, oo + x * 3 + 2, none⟩ = some (.int .i64 d2)) := by
        have := (hc x (by omega) 2 (by omega)).1; rw [← Nat.add_assoc, ← hd2] at this; exact this
      clear hc hd0 hd1 hd2 wa wb
      go_wp2_with fail
      refine hc1.mono ?_
      rintro e w3 ⟨rfl, hB3, ho3⟩
      have HO3 := Lib.hid (HO.out.past ho3)
      have hc2 := hc2.out w3 HO3.out.size hB3
      clear hB3 ho3 hc1 c0 c1 c2
      have c0 := HO3.out.cell CC0.out (by simp)
      have c1 := HO3.out.cell CC1.out (by simp)
      have c2 := HO3.out.cell CC2.out (by simp)
      go_wp2_with fail
      refine hc2.mono ?_
      rintro e w4 ⟨rfl, hB4, ho4⟩
      have HO4 := Lib.hid (HO3.out.past ho4)
      have HB4 := Lib.hid hB4
      clear hB4 ho4 hc2 c0 c1 c2
      go_wp2_with fail
      exact ⟨⟨x + 1, M', by omega, by omega, by go_num, HB4.out, HL2, HO4.out⟩, by simp [intOf]; omega⟩
    · by_cases h1 : x < n
      · have hl81 : (80 : Int) ≤ x := by omega
        have HE : Hid (M = Sc.playd (Sc.new l) f n 80) := by show _ = _; unfold Sc.playd; rw [HLO.out, show x = min n 80 by omega]
        have hlt1 : (x : Int) < n := by omega
        go_wp2_with fail
        refine bodyPost_ret (results_tmp3 rfl _ _ _) rfl ?_
        exact hR.out _ _ ⟨p, q, rfl, by rw [← HE.out]; exact HB.out, HO.out⟩
      · obtain rfl : x = n := by omega
        have HE : Hid (M = Sc.playd (Sc.new l) f x 80) := by show _ = _; unfold Sc.playd; rw [HLO.out, show min x 80 = x by omega]
        go_wp2_with fail
        refine bodyPost_ret (results_tmp3 rfl _ _ _) rfl ?_
        exact hR.out _ _ ⟨p, q, rfl, by rw [← HE.out]; exact HB.out, HO.out⟩
/-- What play yields of given arguments. -/
def PlayedIs (w : World) (base : Nat) (vp vq : Value) (o : Option Sc) : Prop := (o = none ∧ vp = .pointer none ∧ vq = .pointer none) ∨ ∃ p q M, o = some M ∧ vp = .pointer (some ⟨p, 0, none⟩) ∧ vq = .pointer (some ⟨q, 0, none⟩) ∧ Half w base p q M M
theorem play_anyM (w0 : World) (f : Nat → Int) (a : Option Addr) (len cap : Nat) (hf0 : Numk w0 a len cap f) (b : Option Addr) (n cap2 : Nat) (g : Nat → Nat → Int) (hd0 : Recs 3 w0 b n g) : ∃ o : Option Sc, ∀ w, Only [] w0 w →
    Calls Try.prog 12 #[.slice a len cap, .slice b n cap2] w (fun e w' => ∃ vp vq, e = .returned (.tuple #[vp, vq, .bool true]) ∧ PlayedIs w' w.heap.size vp vq o ∧ Only [] w w') := by
  have hf : ∀ w, Only [] w0 w → Numk w a len cap f := fun w ho => by
    obtain ⟨⟨h1, h2⟩, h3⟩ := hf0
    refine ⟨⟨h1, ?_⟩, h3⟩
    rcases h2 with h2 | ⟨b, o, e, hc⟩
    · exact .inl h2
    · exact .inr ⟨b, o, e, fun i hi => ⟨ho.cell (hc i hi).1 (by simp), (hc i hi).2⟩⟩
  have hd : ∀ w, Only [] w0 w → Recs 3 w b n g := fun w ho => by
    obtain ⟨h1, h2⟩ := hd0
    refine ⟨h1, ?_⟩
    rcases h2 with h2 | ⟨b, o, e, hc⟩
    · exact .inl h2
    · exact .inr ⟨b, o, e, fun i hi j hj => ⟨ho.cell (hc i hi j hj).1 (by simp), (hc i hi j hj).2⟩⟩
  by_cases h20 : len ≤ 20
  · have hr : ∀ w, Only [] w0 w → Read w (.slice a len cap) (listOf len f) := fun w ho => (hf w ho).1.read (Nat.le_refl _)
    cases hb : goodSizes (listOf len f)
    · refine ⟨none, fun w ho => (play_bad w _ a len cap (hr w ho) h20 hb b n cap2).mono ?_⟩
      rintro e _ ⟨rfl, rfl⟩
      exact ⟨_, _, rfl, .inl ⟨rfl, rfl, rfl⟩, Only.refl _ _⟩
    · refine ⟨some (Sc.playd (Sc.new (listOf len f)) g n 80), fun w ho => (play_goodM w _ a len cap (hr w ho) h20 hb b n cap2 g (hd w ho)).mono ?_⟩
      rintro e w' ⟨p, q, rfl, h1, h2⟩
      exact ⟨_, _, rfl, .inr ⟨p, q, _, rfl, rfl, rfl, h1⟩, h2⟩
  · refine ⟨none, fun w ho => (play_cut w f a len cap (hf w ho) (by omega) b n cap2).mono ?_⟩
    rintro e _ ⟨rfl, rfl⟩
    exact ⟨_, _, rfl, .inl ⟨rfl, rfl, rfl⟩, Only.refl _ _⟩
/-- One more object makes two memories differ. -/
theorem alloc_none {M : Sc} {t b : Int} (h : (M.alloc t b).2.1 ≠ 0) : (M.alloc t b).2.2 = M := by
  unfold Sc.alloc at h ⊢
  split
  · rename_i h1
    rw [if_pos h1] at h
    split
    · rfl
    · rename_i h2
      rw [if_neg h2] at h
      split
      · rfl
      · rename_i h3
        rw [if_neg h3] at h
        exact absurd rfl h
  · rfl
theorem alloc_some' {M : Sc} (hok : M.Ok) {t b : Int} (h : (M.alloc t b).2.1 = 0) : ¬ SameP M.toP (M.alloc t b).2.2.toP := by
  intro hs
  have h3 := hs.2.2 ((M.obs.length : Int) + 1) (wfI_mk (by have := hok.ob; omega))
  rw [Sc.toP_ob, Sc.toP_ob] at h3
  have h4 : M.inn ((M.obs.length : Int) + 1) = false := by
    unfold Sc.inn innL
    have : decide (1 ≤ (M.obs.length : Int) + 1 ∧ (M.obs.length : Int) + 1 ≤ (M.obs.length : Int)) = false := by simp; omega
    rw [this]; rfl
  rw [h4] at h3
  have h5 : ∃ o : Ob, o.gone = false ∧ (M.alloc t b).2.2.obs = M.obs ++ [o] := by
    unfold Sc.alloc at h ⊢
    split
    · rename_i h1
      rw [if_pos h1] at h
      split
      · rename_i h2; rw [if_pos h2] at h; simp at h
      · rename_i h2
        rw [if_neg h2] at h
        split
        · rename_i h6; rw [if_pos h6] at h; simp at h
        · exact ⟨⟨top (M.stk t.toNat), b, [], false⟩, rfl, rfl⟩
    · rename_i h1; rw [if_neg h1] at h; simp at h
  obtain ⟨o, hg, he⟩ := h5
  have h6 : (M.alloc t b).2.2.inn ((M.obs.length : Int) + 1) = true := by
    unfold Sc.inn innL obI
    rw [he]
    have e1 : ((M.obs.length : Int) + 1).toNat - 1 = M.obs.length := by omega
    rw [e1]
    simp [hg]
    omega
  rw [h6] at h3
  simp at h3
section
variable {w : World} {base p q b2 p2 q2 : Nat} {M M2 N N2 : Sc}
theorem Half.same (h : Half w base p q M N) (h2 : Half w b2 p2 q2 M2 N2) : Calls Try.prog 23 #[.pointer (some ⟨p, 0, none⟩), .pointer (some ⟨p2, 0, none⟩)] w fun e w' => ∃ r, e = .returned (.bool r) ∧ (r = true ↔ SameP M.toP M2.toP) ∧ Only [] w w' := by
  obtain ⟨L, K, X, Y, h⟩ := h
  obtain ⟨L2, K2, X2, Y2, h2⟩ := h2
  exact same_rep w h.hp h.okp.toP h2.hp h2.okp.toP
theorem same_yes {P : Program} {f : FuncId} {args : Array Value} {w : World} {p : Prop} (h : Calls P f args w fun e w'' => ∃ r, e = .returned (.bool r) ∧ (r = true ↔ p) ∧ Only [] w w'') (hp : p) : Calls P f args w fun e w'' => e = .returned (.bool true) ∧ Only [] w w'' :=
  h.mono fun e w'' ⟨r, he, hr, hd⟩ => by obtain rfl := hr.2 hp; exact ⟨he, hd⟩
theorem same_no {P : Program} {f : FuncId} {args : Array Value} {w : World} {p : Prop} (h : Calls P f args w fun e w'' => ∃ r, e = .returned (.bool r) ∧ (r = true ↔ p) ∧ Only [] w w'') (hp : ¬ p) : Calls P f args w fun e w'' => e = .returned (.bool false) ∧ Only [] w w'' :=
  h.mono fun e w'' ⟨r, he, hr, hd⟩ => by cases r with | true => exact absurd (hr.1 rfl) hp | false => exact ⟨he, hd⟩
theorem Half.palloc (h : Half w base p q M N) (hbase : base ≤ w.heap.size) (t b : Int) : Calls Try.prog 24 #[.pointer (some ⟨p, 0, none⟩), .int .i64 t, .int .i64 b] w (fun e w1 => e = .returned (.tuple #[.int .i64 (M.alloc t b).1, .int .i64 (M.alloc t b).2.1]) ∧ Half w1 base p q (M.alloc t b).2.2 N ∧ OnlyP (fun k => base ≤ k) w w1) :=
  h.pstep (M' := (M.alloc t b).2.2) hbase (h.okp.alloc t b) (fun L X hp => by
    have := alloc_rep w hp h.okp.toP t b
    rw [h.okp.toP_alloc] at this
    exact this)
theorem Half.copy (h : Half w base p q M N) : Calls Try.prog 42 #[.pointer (some ⟨p, 0, none⟩)] w fun e w' => ∃ c L' X', e = .returned (.pointer (some ⟨c, 0, none⟩)) ∧ PRep w' L' c M.toP X' ∧ (∀ k, L' k ≠ none → w.heap.size ≤ k) ∧ Only [] w w' := by
  obtain ⟨L, K, X, Y, h⟩ := h
  exact copy_rep w h.hp h.okp.toP
end
theorem walk_ScopeSame (a0 : Option Addr) (len0 cap0 : Nat) (f0 : Nat → Int) (a1 : Option Addr) (len1 cap1 : Nat) (f1 : Nat → Nat → Int) (t : Int) (w : World) (w0 : Numk w a0 len0 cap0 f0) (w1 : Recs 3 w a1 len1 f1) :
    Calls Try.prog 6 #[.slice a0 len0 cap0, .slice a1 len1 cap1, .int .i64 t] w fun e w' => e = .returned (.bool true) ∧ Below w.heap.size w w' := by
  refine calls_abs fun R hR => ?_
  obtain ⟨o, hpl⟩ := play_anyM w f0 a0 len0 cap0 w0 a1 len1 cap1 f1 w1
  have HPL := Lib.hid hpl
  clear w0 w1 hpl
  have c := HPL.out w (Only.refl _ _)
  go_enter Try.func6, Try.ntmps6
  go_wp2_with fail
  refine c.mono ?_
  rintro e w2 ⟨vp, vq, rfl, hP, ho⟩
  have HO := Lib.hid ho
  have HP := Lib.hid hP
  clear c ho hP
  have c := HPL.out w2 HO.out
  go_wp2_with fail
  refine c.mono ?_
  rintro e w3 ⟨vp2, vq2, rfl, hP2, ho⟩
  have HO3 := Lib.hid (HO.out.trans ho (by simp))
  have HO23 := Lib.hid ho
  clear c ho
  rcases HP.out with ⟨rfl, rfl, rfl⟩ | ⟨p, q, M, rfl, rfl, rfl, hH⟩
  · have hv : vp2 = .pointer none := by
      rcases hP2 with ⟨_, h, _⟩ | ⟨p, q, M, h, _⟩
      · exact h
      · cases h
    subst hv
    have c1 := same_left w3 (.pointer none) (.pointer none) (.inl rfl) true (none_any w3 _ (.inl rfl))
    clear hP2
    go_wp2_with fail
    refine c1.mono ?_
    rintro e _ ⟨rfl, rfl⟩
    clear c1
    have c3 := sane_any w3
    go_wp2_with fail
    refine c3.mono ?_
    rintro e w5 ⟨rfl, ho⟩
    have HO5 := Lib.hid (HO3.out.trans ho (by simp))
    clear c3 ho
    go_wp2_with fail
    exact hR.out _ _ ⟨rfl, HO5.out.bel⟩
  · have hH2 : ∃ p2 q2, vp2 = .pointer (some ⟨p2, 0, none⟩) ∧ Half w3 w2.heap.size p2 q2 M M := by
      rcases hP2 with ⟨h, _⟩ | ⟨p2, q2, M2, h, h1, h2, h3⟩
      · cases h
      · cases h; exact ⟨p2, q2, h1, h3⟩
    obtain ⟨p2, q2, rfl, hH2⟩ := hH2
    have OK := Lib.hid hH.okp
    have HA := Lib.hid (hH.only0 HO23.out)
    have HB := Lib.hid hH2
    have HH := Lib.hid hH
    clear hP2 hH hH2 HP
    have c1 := same_yes (HA.out.same HB.out) (SameP.refl _)
    go_wp2_with fail
    refine c1.mono ?_
    rintro e w4 ⟨rfl, ho⟩
    have HO4 := Lib.hid (HO3.out.trans ho (by simp))
    have HO24 := Lib.hid (HO23.out.trans ho (by simp))
    have HB4 := Lib.hid (HB.out.only0 ho)
    clear c1 ho HA HB
    have c1 := HB4.out.palloc HO24.out.size t 1
    have HAN : Hid ((M.alloc t 1).2.1 ≠ 0 → (M.alloc t 1).2.2 = M) := alloc_none
    have HAS : Hid ((M.alloc t 1).2.1 = 0 → ¬ SameP M.toP (M.alloc t 1).2.2.toP) := alloc_some' OK.out
    generalize M.alloc t 1 = res at *
    obtain ⟨r0, r1, M'⟩ := res
    go_wp2_with fail
    refine c1.mono ?_
    rintro e w5 ⟨rfl, hB, ho⟩
    have HO25 := Lib.hid (HO24.out.past ho)
    have HO5 := Lib.hid (HO.out.trans HO25.out (by simp))
    have HB5 := Lib.hid hB
    clear c1 ho hB HB4
    have HA5 := Lib.hid (HH.out.only0 HO25.out)
    by_cases h0 : r1 = 0
    · have c1 := same_no (HA5.out.same HB5.out) (HAS.out h0)
      subst h0
      go_wp2_with fail
      refine c1.mono ?_
      rintro e w6 ⟨rfl, ho⟩
      have HO6 := Lib.hid (HO5.out.trans ho (by simp))
      have HA6 := Lib.hid (HA5.out.only0 ho)
      clear c1 ho
      have hs1 : Calls Try.prog 23 #[.pointer (some ⟨p, 0, none⟩), .pointer none] w6 (Exact w6 (.bool false)) := by
        obtain ⟨L, K, X, Y, h⟩ := HA6.out
        exact same_right w6 (.pointer none) h.hp (.inl rfl)
      have hs2 : Calls Try.prog 23 #[.pointer none, .pointer (some ⟨p, 0, none⟩)] w6 (Exact w6 (.bool false)) := by
        obtain ⟨L, K, X, Y, h⟩ := HA6.out
        exact same_left w6 (.pointer none) _ (.inl rfl) false (none_rep w6 h.hp)
      go_wp2_with fail
      refine hs1.mono ?_
      rintro e _ ⟨rfl, rfl⟩
      go_wp2_with fail
      refine hs2.mono ?_
      rintro e _ ⟨rfl, rfl⟩
      clear hs1 hs2
      have c3 := sane_any w6
      go_wp2_with fail
      refine c3.mono ?_
      rintro e w7 ⟨rfl, ho⟩
      have HO7 := Lib.hid (HO6.out.trans ho (by simp))
      clear c3 ho
      go_wp2_with fail
      exact hR.out _ _ ⟨rfl, HO7.out.bel⟩
    · have hM : M' = M := HAN.out h0
      subst hM
      have c1 := same_yes (HA5.out.same HB5.out) (SameP.refl _)
      have hne : (r1 != 0) = true := by simpa using h0
      clear h0
      go_wp2_with fail
      refine c1.mono ?_
      rintro e w6 ⟨rfl, ho⟩
      have HO6 := Lib.hid (HO5.out.trans ho (by simp))
      have HA6 := Lib.hid (HA5.out.only0 ho)
      clear c1 ho
      have hs1 : Calls Try.prog 23 #[.pointer (some ⟨p, 0, none⟩), .pointer none] w6 (Exact w6 (.bool false)) := by
        obtain ⟨L, K, X, Y, h⟩ := HA6.out
        exact same_right w6 (.pointer none) h.hp (.inl rfl)
      have hs2 : Calls Try.prog 23 #[.pointer none, .pointer (some ⟨p, 0, none⟩)] w6 (Exact w6 (.bool false)) := by
        obtain ⟨L, K, X, Y, h⟩ := HA6.out
        exact same_left w6 (.pointer none) _ (.inl rfl) false (none_rep w6 h.hp)
      go_wp2_with fail
      refine hs1.mono ?_
      rintro e _ ⟨rfl, rfl⟩
      go_wp2_with fail
      refine hs2.mono ?_
      rintro e _ ⟨rfl, rfl⟩
      clear hs1 hs2
      have c3 := sane_any w6
      go_wp2_with fail
      refine c3.mono ?_
      rintro e w7 ⟨rfl, ho⟩
      have HO7 := Lib.hid (HO6.out.trans ho (by simp))
      clear c3 ho
      go_wp2_with fail
      exact hR.out _ _ ⟨rfl, HO7.out.bel⟩
end Go.Proofs.Ytbjmgbbggbbidaa
namespace Go.Proofs.Ytbjmgbbggbbidaa
open Go.ChangeShapes Go.WideShapes Go.Deep
open Go.RowKit Go.Maps
set_option maxHeartbeats 3200000
set_option maxRecDepth 100000
set_option linter.unusedVariables false
theorem walk_ScopeCopies (a0 : Option Addr) (len0 cap0 : Nat) (f0 : Nat → Int) (a1 : Option Addr) (len1 cap1 : Nat) (f1 : Nat → Nat → Int) (b : Option Addr) (n cap2 : Nat) (f : Nat → Nat → Int) (w : World) (w0 : Numk w a0 len0 cap0 f0) (w1 : Recs 3 w a1 len1 f1) (hd : Recs 3 w b n f) :
    Calls Try.prog 11 #[.slice a0 len0 cap0, .slice a1 len1 cap1, .slice b n cap2] w fun e w' => e = .returned (.bool true) ∧ Below w.heap.size w w' := by
  refine calls_abs fun R hR => ?_
  have c := play_any w f0 a0 len0 cap0 w0 a1 len1 cap1 f1 w1
  have HD := Lib.hid hd
  clear w0 w1 hd
  go_enter Try.func11, Try.ntmps11
  go_wp2_with fail
  refine c.mono ?_
  rintro e w2 ⟨vp, vq, rfl, hP, ho⟩
  have HO := Lib.hid ho
  clear c ho
  rcases hP with ⟨rfl, rfl⟩ | ⟨p, q, M, rfl, rfl, hH⟩
  · have c1 := copy_nope w2 (.pointer none) (.inl rfl)
    have c3 := sane_any w2
    go_wp2_with fail
    refine c1.mono ?_
    rintro e _ ⟨rfl, rfl⟩
    go_wp2_with fail
    refine c3.mono ?_
    rintro e w5 ⟨rfl, ho⟩
    have HO5 := Lib.hid (HO.out.trans ho (by simp))
    clear c3 ho c1
    go_wp2_with fail
    exact hR.out _ _ ⟨rfl, HO5.out.bel⟩
  · have HH := Lib.hid hH
    have OK := Lib.hid hH.okp
    have c1 := hH.copy
    clear hH
    go_wp2_with fail
    refine c1.mono ?_
    rintro e w3 ⟨cc, L, X, rfl, hp, hL, ho⟩
    have HO3 := Lib.hid (HO.out.trans ho (by simp))
    have HO23 := Lib.hid ho
    have HP := Lib.hid hp
    have HL : Hid (∀ j, L j ≠ none → w2.heap.size ≤ j) := hL
    clear c1 hp hL ho
    have c1 : Calls Try.prog 23 #[.pointer (some ⟨p, 0, none⟩), .pointer (some ⟨cc, 0, none⟩)] w3 fun e w' => e = .returned (.bool true) ∧ Only [] w3 w' := by
      obtain ⟨L', K', X', Y', h⟩ := HH.out.only0 HO23.out
      exact same_yes (same_rep w3 h.hp h.okp.toP HP.out OK.out.toP) (SameP.refl _)
    go_wp2_with fail
    refine c1.mono ?_
    rintro e w4 ⟨rfl, ho⟩
    have HO4 := Lib.hid (HO3.out.trans ho (by simp))
    have HO24 := Lib.hid (HO23.out.trans ho (by simp))
    have HP4 := Lib.hid (HP.out.only0 ho)
    clear c1 ho HP
    go_wp2_with fail
    go_loopw [11] (fun iv wr => ∃ (x : Nat) (Mc : Sc) (L : Nat → Option Lb) (X : PX), x ≤ n ∧ x ≤ 80 ∧ iv = .int .i64 x ∧ PRep wr L cc Mc.toP X ∧ Hid (∀ j, L j ≠ none → w2.heap.size ≤ j) ∧ Mc.Ok ∧ Only [] w2 wr) (fun iv _ => n - (intOf iv).toNat)
    case atStart => exact ⟨0, M, L, X, by omega, by omega, rfl, HP4.out, HL, OK.out, HO24.out⟩
    case round =>
      clear HP4 HL L X HO23 HO24 HO3 HO4
      obtain ⟨x, Mc, L, X, hx, hx80, rfl, hp, HL, hok, ho⟩ := hrel
      have HP := Lib.hid hp
      have HOK := Lib.hid hok
      have HO2 := Lib.hid ho
      clear hp hok ho
      by_cases hlt : x < n ∧ x < 80
      · obtain ⟨hlt, hl8⟩ := hlt
        have hlt1 : (x : Int) < n := by omega
        have hx0 : (0 : Int) ≤ x := by omega
        have hl81 : (x : Int) < 80 := by omega
        rcases HD.out.2 with h0 | ⟨bb, oo, rfl, hc⟩
        · omega
        have HOw := Lib.hid (HO.out.trans HO2.out (by simp))
        have c0 := HOw.out.cell (hc x (by omega) 0 (by omega)).1 (by simp)
        have c1 := HOw.out.cell (hc x (by omega) 1 (by omega)).1 (by simp)
        have c2 := HOw.out.cell (hc x (by omega) 2 (by omega)).1 (by simp)
        rw [Nat.add_zero] at c0
        rw [← Nat.add_assoc] at c1 c2
        have wa := (hc x (by omega) 1 (by omega)).2
        have wb := (hc x (by omega) 2 (by omega)).2
        obtain ⟨d0, hd0⟩ : ∃ z, z = f x 0 := ⟨_, rfl⟩
        obtain ⟨d1, hd1⟩ : ∃ z, z = f x 1 := ⟨_, rfl⟩
        obtain ⟨d2, hd2⟩ : ∃ z, z = f x 2 := ⟨_, rfl⟩
        rw [← hd0] at c0
        rw [← hd1] at c1 wa
        rw [← hd2] at c2 wb
        have hdo : Calls Try.prog 38 #[.pointer (some ⟨cc, 0, none⟩), .agg #[.int .i64 d0, .int .i64 d1, .int .i64 d2]] wr (Did wr L cc (.tuple #[.int .i64 (Mc.do d0 d1 d2).1, .int .i64 (Mc.do d0 d1 d2).2.1]) (Mc.do d0 d1 d2).2.2.toP) := by
          have := do_rep wr HP.out HOK.out.toP d0 d1 d2 wa wb
          rw [HOK.out.toP_do] at this
          exact this
        have HOK2 := Lib.hid (HOK.out.do d0 d1 d2)
        generalize Mc.do d0 d1 d2 = res at *
        obtain ⟨r0, r1, M'⟩ := res
        clear hc hd0 hd1 hd2 wa wb
        go_wp2_with fail
        refine hdo.mono ?_
        rintro e w5 ⟨rfl, L', X', h1, h2, h3⟩
        have HP5 := Lib.hid h1
        have HL5 : Hid (∀ j, L' j ≠ none → w2.heap.size ≤ j) := fun j hj => by
          rcases h2 j hj with h4 | h4
          · exact HL.out j h4
          · have := HO2.out.size; omega
        have HO5 : Hid (Only [] w2 w5) := HO2.out.past ⟨h3.os, h3.tape, h3.output, h3.size, fun k hk hn => h3.block k hk (fun x => hn (HL.out k x))⟩
        clear h1 h2 h3 hdo c0 c1 c2
        go_wp2_with fail
        exact ⟨⟨x + 1, M', L', X', by omega, by omega, by go_num, HP5.out, HL5, HOK2.out, HO5.out⟩, by simp [intOf]; omega⟩
      · have HX : Hid (n ≤ x ∨ 80 ≤ x) := by show _ ∨ _; omega
        have hH := HH.out.only0 HO2.out
        have HHr := Lib.hid hH
        have HOr := Lib.hid (HO.out.trans HO2.out (by simp))
        have c1 := areas_any wr _ _ _ (agreeO_half hH)
        clear hH
        by_cases h1 : x < n
        all_goals (
          first | (have hl81 : (80 : Int) ≤ x := by omega) | skip
          first | (have hlt1 : (x : Int) < n := by omega) | (obtain rfl : x = n := by omega)
          go_wp2_with fail
          refine c1.mono ?_
          rintro e w5 ⟨rfl, ho⟩
          have HH5 := Lib.hid (HHr.out.only0 ho)
          have HO5 := Lib.hid (HOr.out.trans ho (by simp))
          clear c1 ho
          have c1 := objects_any w5 _ _ _ (agreeO_half HH5.out)
          go_wp2_with fail
          refine c1.mono ?_
          rintro e w6 ⟨rfl, ho⟩
          have HH6 := Lib.hid (HH5.out.only0 ho)
          have HO6 := Lib.hid (HO5.out.trans ho (by simp))
          clear c1 ho
          have c1 := same_yes (HH6.out.same HH6.out) (SameP.refl _)
          go_wp2_with fail
          refine c1.mono ?_
          rintro e w7 ⟨rfl, ho⟩
          have HO7 := Lib.hid (HO6.out.trans ho (by simp))
          clear c1 ho
          have c1 := sane_any w7
          go_wp2_with fail
          refine c1.mono ?_
          rintro e w8 ⟨rfl, ho⟩
          have HO8 := Lib.hid (HO7.out.trans ho (by simp))
          clear c1 ho
          go_wp2_with fail
          exact hR.out _ _ ⟨rfl, HO8.out.bel⟩)
end Go.Proofs.Ytbjmgbbggbbidaa
