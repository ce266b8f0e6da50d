/- Lemmas of this claim. -/
import Derived.Test.YthflghdaejbdkaaKTbP
import Derived.StillTailTactics
namespace Go.Proofs.Ythflghdaejbdkaa
open Go.RowKit Go.Maps
set_option maxHeartbeats 3200000
set_option maxRecDepth 100000
set_option linter.unusedVariables false
section
variable {l : List Asn} {i j k hb p b : Nat} {m : Mk} {t : Tb} {kk : Nat} {w0 w : World}
theorem ttarget_rep (w : World) {ev qv : Value} {mo : Option Nat} (h : TbAt w b ev qv mo t kk) (n : Int) : Calls Try.prog 11 #[.pointer (some ⟨b, 0, none⟩), .int .i64 n] w (fun e w' => e = .returned (.tuple #[.int .i64 (t.target n).1, .int .i64 (t.target n).2]) ∧ Only [] w w') := by
  refine calls_abs fun R hR => ?_
  have hE : t.target n = ((t.entry n).1.tgt, (t.entry n).2) := by unfold Tb.target Tb.entry; split <;> rfl
  rw [hE] at hR
  have ca := tat_rep w h n
  unfold enV at ca
  clear hE h
  generalize t.entry n = r at *
  obtain ⟨en, er⟩ := r
  obtain ⟨c0, c1, c2⟩ := en
  go_enter Try.func11, Try.ntmps11
  go_wp2_with fail
  refine ca.mono ?_
  rintro e w1 ⟨rfl, ho⟩
  have HO3 := Lib.hid (ho.alloc (.cells #[.int .i64 c0, .int .i64 c1, .int .i64 c2] 81))
  have y0 := (Row.new w1 81 [.int .i64 c0, .int .i64 c1, .int .i64 c2]).cell 0 rfl
  have y1 := (Row.new w1 81 [.int .i64 c0, .int .i64 c1, .int .i64 c2]).cell 1 rfl
  clear ho ca
  go_wp2_with fail
  exact hR.out _ _ ⟨rfl, HO3.out⟩
theorem kindOf_any (w : World) (n : Nat) : Calls Try.prog 57 #[.int .i64 (n : Int)] w (Exact w (.int .i64 (if n = 4 then 3 else n : Nat))) := by
  refine calls_abs fun R hR => ?_
  by_cases h : n = 4
  · subst h
    go_enter Try.func57, Try.ntmps57
    go_wp2_with fail
    exact hR.out _ _ ⟨rfl, rfl⟩
  · rw [if_neg h] at hR
    have h2 : ((n : Int) == 4) = false := by rw [beq_eq_false_iff_ne]; omega
    go_enter Try.func57, Try.ntmps57
    go_wp2_with fail
    exact hR.out _ _ ⟨rfl, rfl⟩
theorem Mk.isW_eq (hk : m.M.Ok) (x : Int) : m.isW x = (decide (x ≠ 0) && (decide ((m.color x).2 = 0) && decide ((m.color x).1 = 0))) := by
  unfold Mk.isW Mk.color
  by_cases h0 : x = 0
  · subst h0; rw [fst_zero hk]; simp
  · cases h : (m.M.ob x).isSome <;> simp [h0]
theorem isWhite_rep (w : World) (T2 : Two2 l i j) (hf : Fam w0 w (ML l i j hb p m)) (x : Int) (hx : wfI x) : Calls Try.prog 58 #[.pointer (some ⟨p, 0, none⟩), .int .i64 x] w (Same w (.bool (m.isW x))) := by
  refine calls_abs fun R hR => ?_
  have cc := mcolor_rep w T2 hf x hx
  obtain ⟨hk, _⟩ := ML.ph T2 hf
  rw [Mk.isW_eq hk] at hR
  clear hk hf
  generalize m.color x = r at *
  obtain ⟨c, e⟩ := r
  by_cases h0 : x = 0
  · have hh : (decide (x ≠ 0) && (decide (e = 0) && decide (c = 0))) = false := by simp [h0]
    simp only at hR
    rw [hh] at hR
    subst h0
    go_enter Try.func58, Try.ntmps58
    go_wp2_with fail
    refine cc.mono ?_
    rintro e _ ⟨rfl, n, rfl⟩
    clear cc hh
    go_wp2_with fail
    exact hR.out _ _ ⟨rfl, n, rfl⟩
  · have hx0 : (x != 0) = true := by simp [h0]
    by_cases h1 : e = 0
    · by_cases h2 : c = 0
      · have hh : (decide (x ≠ 0) && (decide (e = 0) && decide (c = 0))) = true := by simp [h0, h1, h2]
        simp only at hR
        rw [hh] at hR
        subst h1 h2
        go_enter Try.func58, Try.ntmps58
        go_wp2_with fail
        refine cc.mono ?_
        rintro e _ ⟨rfl, n, rfl⟩
        clear cc hh
        go_wp2_with fail
        exact hR.out _ _ ⟨rfl, n, rfl⟩
      · have hh : (decide (x ≠ 0) && (decide (e = 0) && decide (c = 0))) = false := by simp [h2]
        simp only at hR
        rw [hh] at hR
        subst h1
        have hc : (c == 0) = false := by rw [beq_eq_false_iff_ne]; exact h2
        go_enter Try.func58, Try.ntmps58
        go_wp2_with fail
        refine cc.mono ?_
        rintro e _ ⟨rfl, n, rfl⟩
        clear cc hh
        go_wp2_with fail
        exact hR.out _ _ ⟨rfl, n, rfl⟩
    · have hh : (decide (x ≠ 0) && (decide (e = 0) && decide (c = 0))) = false := by simp [h1]
      simp only at hR
      rw [hh] at hR
      have hc : (e == 0) = false := by rw [beq_eq_false_iff_ne]; exact h1
      go_enter Try.func58, Try.ntmps58
      go_wp2_with fail
      refine cc.mono ?_
      rintro e _ ⟨rfl, n, rfl⟩
      clear cc hh
      go_wp2_with fail
      exact hR.out _ _ ⟨rfl, n, rfl⟩
end
end Go.Proofs.Ythflghdaejbdkaa
