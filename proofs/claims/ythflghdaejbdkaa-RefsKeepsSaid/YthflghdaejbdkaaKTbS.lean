/- Lemmas of this claim. -/
import Derived.Test.YthflghdaejbdkaaKTbL
namespace Go.Proofs.Ythflghdaejbdkaa
open Go.RowKit Go.Maps
set_option maxHeartbeats 12800000
set_option maxRecDepth 100000
set_option linter.unusedVariables false
theorem rints_same (w : World) (v1 v2 : Value) (l : List Int) (h1 : Read w v1 l) (h2 : Read w v2 l) (hl : l.length ≤ 1000) :
    Calls Try.prog 13 #[v1, v2] w (fun e w' => e = .returned (.bool true) ∧ Drew w w') := by
  refine calls_abs fun R hR => ?_
  obtain ⟨a1, c1, rfl⟩ := h1.len
  obtain ⟨a2, c2, rfl⟩ := h2.len
  have H1 := Lib.hid h1
  have H2 := Lib.hid h2
  obtain ⟨n, hn⟩ : ∃ n, n = l.length := ⟨_, rfl⟩
  rw [← hn] at hl H1 H2 ⊢
  have HN := Lib.hid hn
  clear h1 h2 hn
  go_enter Try.func13, Try.ntmps13
  go_wp2_with fail
  go_loopw [5] (fun iv wr => ∃ k m : Nat, k ≤ n ∧ iv = .int .i64 k ∧ wr = w.drewN m) (fun iv _ => n - (intOf iv).toNat)
  case atStart => exact ⟨0, 0, by omega, rfl, rfl⟩
  case round =>
    obtain ⟨k, m, hk, rfl, rfl⟩ := hrel
    by_cases hlt : k < n
    · have hlt' : k < l.length := by have := HN.out; omega
      rcases H1.out with ⟨b1, o1, d1, f1, g1⟩ | ⟨oa, d, f1, g1⟩
      rotate_left
      · rw [g1] at hlt'; simp at hlt'
      rcases H2.out with ⟨b2, o2, d2, f2, g2⟩ | ⟨oa, d, f2, g2⟩
      rotate_left
      · rw [g2] at hlt'; simp at hlt'
      have e1 : a1 = some ⟨b1, o1, none⟩ := by cases f1; rfl
      have e2 : a2 = some ⟨b2, o2, none⟩ := by cases f2; rfl
      subst e1 e2
      have k1 := g1 k hlt'
      have k2 := g2 k hlt'
      have hb1 : (0 : Int) ≤ k := by omega
      have hb2 : (k : Int) < n := by omega
      generalize gI l k = z at *
      clear g1 g2 f1 f2
      go_wp2_with fail
      go_quiet (fail)
      go_wp2_with fail
      exact ⟨⟨k + 1, _, by omega, by go_num, rfl⟩, by simp [intOf]; omega⟩
    · obtain rfl : k = n := by omega
      go_wp2_with fail
      exact hR.out _ _ ⟨rfl, m, rfl⟩
def sM0 : Hp := Hp.new 2
def sM1 : Hp := (sM0.newObject 0 []).2.2
def sm : Mk := (Mk.start sM1).shades []
def sT1 : Tb := (Tb.new.add sm 1 1 5).2.2
def sT2 : Tb := (sT1.add sm 2 1 6).2.2
def sT3 : Tb := (sT2.begin sm).2
def sS (k : Nat) : Tb × Mk := Tb.steps k (sT3, sm)
theorem ssane_r : (sM0.newObject 0 []).1 = 1 ∧ (sM0.newObject 0 []).2.1 = 0 ∧ (Tb.new.add sm 1 1 5).1 = 0 ∧ (Tb.new.add sm 1 1 5).2.1 = 0 ∧ (sT1.add sm 2 1 6).1 = 1 ∧ (sT1.add sm 2 1 6).2.1 = 0 ∧ (sT2.begin sm).1 = 0 ∧ sT3.ph = 1 := by decide +kernel
theorem ssane_s : ((sS 0).1.step (sS 0).2).2.2.1 = 0 ∧ ((sS 1).1.step (sS 1).2).2.2.1 = 0 ∧ ((sS 2).1.step (sS 2).2).2.2.1 = 0 ∧ ((sS 3).1.step (sS 3).2).2.2.1 = 3 ∧ (sS 4).1.target 0 = (0, 0) ∧ (sS 4).1.q = [6] := by decide +kernel
theorem ssane_ok : sM0.OkF ∧ sM1.OkF ∧ sm.Ok ∧ sT1.Good sm ∧ sT2.Good sm ∧ sT3.Good sm := by
  have h0 : sM0.OkF := Hp.OkF.new (by decide) (by decide)
  have h1 : sM1.OkF := h0.newObject 0 []
  have h2 : sm.Ok := Mk.Ok.shades _ _ (Mk.Ok.start h1)
  have h3 : sT1.Good sm := Tb.Good.new.add 1 1 5
  have h4 : sT2.Good sm := h3.add 2 1 6
  exact ⟨h0, h1, h2, h3, h4, h4.begin h2.hf.ok⟩
theorem ssane_fin : sT3.finish sm = (3, 0, (sS 4).1, (sS 4).2) := by
  obtain ⟨_, _, _, _, _, _, _, hp⟩ := ssane_r
  obtain ⟨s0, s1, s2, s3, _, _⟩ := ssane_s
  have hp0 : sT3.ph ≠ 0 := by rw [hp]; decide
  have h3 : 3 = sT3.fins sm := Tb.fins_eq ssane_ok.2.2.2.2.2 ssane_ok.2.2.1 hp0 (fun j hj => by
    unfold Tb.over
    match j, hj with
    | 0, _ => exact fun h => h s0
    | 1, _ => exact fun h => h s1
    | 2, _ => exact fun h => h s2) (by
    unfold Tb.over
    intro h
    have h2 : ((sS 3).1.step (sS 3).2).2.2.1 = 0 := h
    rw [s3] at h2
    cases h2)
  unfold Tb.finish
  rw [if_neg hp0, ← h3]
  rfl
theorem ssane_any (w : World) : Calls Try.prog 15 #[] w (fun e w' => e = .returned (.bool true) ∧ Only [] w w') := by
  refine calls_abs fun R hR => ?_
  obtain ⟨r1, r2, r3, r4, r5, r6, r7, _⟩ := ssane_r
  have hn := hnew_good w 2 (by decide) (by decide)
  go_enter Try.func15, Try.ntmps15
  go_wp2_with fail
  refine hn.mono ?_
  rintro e w1 ⟨hb, L, X, rfl, hp, hL, ho⟩
  have HF1 : Hid (Fam w w1 [PH hb sM0]) := (Fam.nil w).add (pborn hp ssane_ok.1 hL ho)
  have c2 := HF1.out.pstep 0 rfl (M' := sM1) (fun hk => hk.newObject 0 []) (fun L X hr hk => newObject_rep _ hr hk 0 (.slice none 0 0) [] (barg_nil _) (by decide))
  rw [r1, r2] at c2
  clear hn hp hL ho r1 r2
  go_wp2_with fail
  refine c2.mono ?_
  rintro e w2 ⟨rfl, f2⟩
  have HF2 : Hid (Fam w w2 [PH hb sM1]) := f2
  have c3 := mbegin_rep w2 HF2.out (i := 0) rfl none 0 0 [] rfl (by decide) (fun x hx => by simp at hx) (.inr ⟨none, 0, rfl, rfl⟩) (fun p w' m' h7 => .inr ⟨none, 0, rfl, rfl⟩)
  clear c2 f2 HF1
  go_wp2_with fail
  refine c3.mono ?_
  rintro e w3 (⟨hbad, _, _⟩ | ⟨_, p, rfl, f3⟩)
  · obtain ⟨x, hx, _⟩ := hbad; simp at hx
  have HF3 : Hid (Fam w w3 [PH hb sm.M, MkA p hb sm.col sm.list]) := f3
  have c4 := tnew_any w3
  clear c3 f3 HF2
  go_wp2_with fail
  refine c4.mono ?_
  rintro e w4 ⟨rfl, rfl⟩
  have HF4 : Hid (Fam w _ [PH hb sm.M, MkA p hb sm.col sm.list, TbA w3.heap.size Tb.new 0]) := HF3.out.add (tb_born w3)
  clear c4 HF3
  generalize w3.alloc _ = w4 at *
  generalize w3.heap.size = tb at *
  have T3 : Three [PH hb sm.M, MkA p hb sm.col sm.list, TbA tb Tb.new 0] 0 1 2 := ⟨⟨by simp, by simp, by decide⟩, by simp, by decide, by decide⟩
  have HT3 := Lib.hid T3
  have c5 := tadd_rep w4 T3 (m := sm) (t := Tb.new) (kk := 0) (b := tb) (hb := hb) (p := p) HF4.out 1 1 5 (by decide)
  rw [r3, r4] at c5
  clear r3 r4 T3
  go_wp2_with fail
  refine c5.mono ?_
  rintro e w5 ⟨rfl, f5⟩
  have c6 := tadd_rep w5 HT3.out (m := sm) (t := sT1) (kk := 0) f5 2 1 6 (by decide)
  rw [r5, r6] at c6
  clear c5 f5 r5 r6 HF4
  go_wp2_with fail
  refine c6.mono ?_
  rintro e w6 ⟨rfl, f6⟩
  have f6' : Fam w w6 (PT [PH hb sm.M, MkA p hb sm.col sm.list, TbA tb Tb.new 0] 0 1 2 hb p tb sm sT2) := PL.anyK HT3.out f6 (by decide +kernel) _ _
  have c7 := tbegin_rep w6 HT3.out f6' ssane_ok.2.2.2.2.1
  rw [r7] at c7
  clear c6 f6 f6' r7
  go_wp2_with fail
  refine c7.mono ?_
  rintro e w7 ⟨rfl, f7⟩
  have c8 := tfinish_rep w7 HT3.out (t := sT3) f7 ssane_ok.2.2.2.2.2 ssane_ok.2.2.1
  rw [ssane_fin] at c8
  clear c7 f7
  go_wp2_with fail
  refine c8.mono ?_
  rintro e w8 ⟨rfl, f8⟩
  obtain ⟨ev, qv, mo, ht⟩ := PL.tb HT3.out f8
  have HF8 := Lib.hid f8
  have c9 := ttarget_rep w8 ht 0
  rw [ssane_s.2.2.2.2.1] at c9
  clear c8 f8
  go_wp2_with fail
  refine c9.mono ?_
  rintro e w9 ⟨rfl, ho⟩
  have HO9 : Hid (Only [] w w9) := (HF8.out.only0 ho).only
  have ht9 := ht.only0 ho
  have c10 := tqueue_rep w9 ht9 (by rw [show (sS 4).1.q = [6] from ssane_s.2.2.2.2.2]; decide)
  clear c9 ho ht ht9 HF8
  rw [show (sS 4).1.q = [6] from ssane_s.2.2.2.2.2] at c10
  go_wp2_with fail
  refine c10.mono ?_
  rintro e w10 ⟨v, rfl, hi, ho⟩
  have hi2 := hi.alloc (.cells #[.int .i64 6] 3)
  have HO10 : Hid (Only [] w (w10.alloc (.cells #[.int .i64 6] 3))) := (HO9.out.trans ho (by simp)).alloc _
  have c11 := rints_same (w10.alloc (.cells #[.int .i64 6] 3)) v (.slice (some ⟨w10.heap.size, 0, none⟩) 1 1) [6] hi2.read (.inl ⟨w10.heap.size, 0, 1, rfl, fun i hi => by
    match i, hi with
    | 0, _ => exact (Row.new w10 3 [.int .i64 6]).cell 0 rfl⟩) (by decide)
  clear c10 hi hi2 ho HO9
  go_wp2_with fail
  refine c11.mono ?_
  rintro e w12 ⟨rfl, hd⟩
  have HO12 : Hid (Only [] w w12) := HO10.out.trans (hd.only []) (by simp)
  clear c11 hd HO10
  go_wp2_with fail
  exact hR.out _ _ ⟨rfl, HO12.out⟩
end Go.Proofs.Ythflghdaejbdkaa
