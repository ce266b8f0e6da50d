/- Lemmas of this claim. -/
import Derived.Test.YthflghdaejbdkaaGreatXfCyY
namespace Go.Proofs.YthflghdaejbdkaaGreat
open Go.RowKit Go.Maps
set_option maxHeartbeats 6400000
set_option maxRecDepth 100000
set_option linter.unusedVariables false
section
variable {w0 w : World} {l : List Asn} {b : Nat} {c : Co} {x : CX} {i : Nat}
theorem newArr_bad3 (w : World) (hf : Fam w0 w (C5 b c x ++ l)) (hx : x.ok c) (a n : Int) (h : a ≠ 0) : Calls Tryz.prog 46 #[.pointer (some ⟨b, 0, none⟩), .int .i64 3, .int .i64 a, .int .i64 n] w (TDid2 w0 l b (0, 1, c)) := by
  refine calls_abs fun R hR => ?_
  obtain ⟨_, _, x2, _⟩ := CRow.cells hf
  have cn := cnone_rep w x2
  have HE : Hid (TDid2 w0 l b (0, 1, c) (.returned (.tuple #[.int .i64 0, .int .i64 1])) w) := ⟨rfl, x, hx, hf⟩
  have e1 : (a == 0) = false := by simpa using h
  clear h
  clear hf hx
  go_enter Tryz.func46, Tryz.ntmps46
  go_wp2_with fail
  refine cn.mono ?_
  rintro e _ ⟨rfl, rfl⟩
  clear cn
  go_wp2_with fail
  exact hR.out _ _ HE.out
theorem newArr_bad4l (w : World) (hf : Fam w0 w (C5 b c x ++ l)) (hx : x.ok c) (a n : Int) (h : a < 0) : Calls Tryz.prog 46 #[.pointer (some ⟨b, 0, none⟩), .int .i64 4, .int .i64 a, .int .i64 n] w (TDid2 w0 l b (0, 1, c)) := by
  refine calls_abs fun R hR => ?_
  obtain ⟨_, _, x2, _⟩ := CRow.cells hf
  have cn := cnone_rep w x2
  have HE : Hid (TDid2 w0 l b (0, 1, c) (.returned (.tuple #[.int .i64 0, .int .i64 1])) w) := ⟨rfl, x, hx, hf⟩
  clear hf hx
  go_enter Tryz.func46, Tryz.ntmps46
  go_wp2_with fail
  refine cn.mono ?_
  rintro e _ ⟨rfl, rfl⟩
  clear cn
  go_wp2_with fail
  exact hR.out _ _ HE.out
theorem newArr_bad4h (w : World) (hf : Fam w0 w (C5 b c x ++ l)) (hx : x.ok c) (a n : Int) (h : 10 ≤ a) : Calls Tryz.prog 46 #[.pointer (some ⟨b, 0, none⟩), .int .i64 4, .int .i64 a, .int .i64 n] w (TDid2 w0 l b (0, 1, c)) := by
  refine calls_abs fun R hR => ?_
  obtain ⟨_, _, x2, _⟩ := CRow.cells hf
  have cn := cnone_rep w x2
  have HE : Hid (TDid2 w0 l b (0, 1, c) (.returned (.tuple #[.int .i64 0, .int .i64 1])) w) := ⟨rfl, x, hx, hf⟩
  have h0 : 0 ≤ a := by omega
  clear hf hx
  go_enter Tryz.func46, Tryz.ntmps46
  go_wp2_with fail
  refine cn.mono ?_
  rintro e _ ⟨rfl, rfl⟩
  clear cn
  go_wp2_with fail
  exact hR.out _ _ HE.out
theorem newArr_bado (w : World) (hf : Fam w0 w (C5 b c x ++ l)) (hx : x.ok c) (k a n : Int) (h3 : k ≠ 3) (h4 : k ≠ 4) : Calls Tryz.prog 46 #[.pointer (some ⟨b, 0, none⟩), .int .i64 k, .int .i64 a, .int .i64 n] w (TDid2 w0 l b (0, 1, c)) := by
  refine calls_abs fun R hR => ?_
  obtain ⟨_, _, x2, _⟩ := CRow.cells hf
  have cn := cnone_rep w x2
  have HE : Hid (TDid2 w0 l b (0, 1, c) (.returned (.tuple #[.int .i64 0, .int .i64 1])) w) := ⟨rfl, x, hx, hf⟩
  have e1 : (k == 3) = false := by simpa using h3
  have e2 : (k == 4) = false := by simpa using h4
  clear h3 h4
  clear hf hx
  go_enter Tryz.func46, Tryz.ntmps46
  go_wp2_with fail
  refine cn.mono ?_
  rintro e _ ⟨rfl, rfl⟩
  clear cn
  go_wp2_with fail
  exact hR.out _ _ HE.out
theorem newArr_len3l (w : World) (hf : Fam w0 w (C5 b c x ++ l)) (hx : x.ok c) (n : Int)  (h : n < 0) : Calls Tryz.prog 46 #[.pointer (some ⟨b, 0, none⟩), .int .i64 3, .int .i64 0, .int .i64 n] w (TDid2 w0 l b (0, 1, c)) := by
  refine calls_abs fun R hR => ?_
  obtain ⟨_, _, x2, _⟩ := CRow.cells hf
  have cn := cnone_rep w x2
  have HE : Hid (TDid2 w0 l b (0, 1, c) (.returned (.tuple #[.int .i64 0, .int .i64 1])) w) := ⟨rfl, x, hx, hf⟩
  clear hf hx
  go_enter Tryz.func46, Tryz.ntmps46
  go_wp2_with fail
  refine cn.mono ?_
  rintro e _ ⟨rfl, rfl⟩
  clear cn
  go_wp2_with fail
  exact hR.out _ _ HE.out
theorem newArr_len3h (w : World) (hf : Fam w0 w (C5 b c x ++ l)) (hx : x.ok c) (n : Int)  (h : 48 < n) : Calls Tryz.prog 46 #[.pointer (some ⟨b, 0, none⟩), .int .i64 3, .int .i64 0, .int .i64 n] w (TDid2 w0 l b (0, 1, c)) := by
  refine calls_abs fun R hR => ?_
  obtain ⟨_, _, x2, _⟩ := CRow.cells hf
  have cn := cnone_rep w x2
  have HE : Hid (TDid2 w0 l b (0, 1, c) (.returned (.tuple #[.int .i64 0, .int .i64 1])) w) := ⟨rfl, x, hx, hf⟩
  have h0 : ¬ n < 0 := by omega
  clear hf hx
  go_enter Tryz.func46, Tryz.ntmps46
  go_wp2_with fail
  refine cn.mono ?_
  rintro e _ ⟨rfl, rfl⟩
  clear cn
  go_wp2_with fail
  exact hR.out _ _ HE.out
theorem newArr_ok3s (w : World) (hf : Fam w0 w (C5 b c x ++ l)) (hx : x.ok c) (h0 : c.Ok) (n : Int)  (hn0 : 0 ≤ n) (hn48 : n ≤ 48) (h : n < 8) : Calls Tryz.prog 46 #[.pointer (some ⟨b, 0, none⟩), .int .i64 3, .int .i64 0, .int .i64 n] w (TDid2 w0 l b ((c.give (c.rate * arrN n)).2.newArr 3 0 n)) := by
  refine calls_abs fun R hR => ?_
  obtain ⟨_, x1, x2, _⟩ := CRow.cells hf
  have cn := cnone_rep w x2
  have hP : c.rate * arrN n = c.rate := by unfold arrN; rw [if_neg (by omega), Int.mul_one]
  have hP0 := h0.k.rt
  rw [hP] at hR
  obtain ⟨P, hPP⟩ : ∃ P, P = c.rate := ⟨_, rfl⟩
  have e3 : P * 1 = P := Int.mul_one P
  rw [← hPP] at hR hP0
  have HOK := Lib.hid (h0.give (n := P) (by omega))
  have cg := cgive_any w hf hx h0 P ⟨by omega, by omega⟩
  rw [← hPP] at x1
  have n1 : ¬ n < 0 := by omega
  have n2 : ¬ 48 < n := by omega
  clear hf hx h0 hP hPP
  obtain ⟨d, hd⟩ : ∃ d, d = (c.give P).2 := ⟨_, rfl⟩
  rw [← hd] at cg HOK hR
  generalize (c.give P).1 = gn at *
  clear hd
  go_enter Tryz.func46, Tryz.ntmps46
  go_wp2_with fail
  refine cn.mono ?_
  rintro e _ ⟨rfl, rfl⟩
  clear cn
  go_wp2_with fail
  refine cg.mono ?_
  rintro e w1 ⟨rfl, x1', hx1, hf1⟩
  have cb := cbarrier_rep w1 hf1 HOK.out.k
  obtain ⟨_, _, z2, _, z4, _⟩ := CRow.cells hf1
  have HX1 := Lib.hid hx1
  unfold Co.newArr at hR
  cases hb : d.bar with
  | true =>
    rw [hb] at cb hR
    have HR : Hid (∀ w', Fam w0 w' (C5 b { d with m := (d.m.newArray 3 0 n).2.2 } x1' ++ l) → R (.returned (.tuple #[.int .i64 (d.m.newArray 3 0 n).1, .int .i64 (d.m.newArray 3 0 n).2.1])) w') := fun w' h2 => hR.out _ _ ⟨rfl, x1', ⟨HX1.out.ov, HX1.out.mv, HX1.out.mv2⟩, h2⟩
    have cm : Calls Tryz.prog 119 #[.pointer (some ⟨x1'.p, 0, none⟩), .int .i64 3, .int .i64 0, .int .i64 n] w1 (fun e w' => e = .returned (.tuple #[.int .i64 (d.m.newArray 3 0 n).1, .int .i64 (d.m.newArray 3 0 n).2.1]) ∧ Fam w0 w' (C5 b { d with m := (d.m.newArray 3 0 n).2.2 } x1' ++ l)) := mnewArray_rep w1 (C5.t2 (b := b) (c := d) (x := x1') (l := l)) (hb := x1'.hb) (p := x1'.p) (m := d.m) hf1 (HOK.out.k.mo (bar_iff.1 hb)) 3 0 n
    clear hR hb hf1 hx1 cg
    generalize d.m.newArray 3 0 n = r at *
    obtain ⟨r1, r2, r3⟩ := r
    go_wp2_with fail
    refine cb.mono ?_
    rintro e _ ⟨rfl, rfl⟩
    clear cb
    go_wp2_with fail
    refine cm.mono ?_
    rintro e w2 ⟨rfl, hf2⟩
    have HE := Lib.hid hf2
    clear cm hf2
    go_wp2_with fail
    exact HR.out _ HE.out
  | false =>
    rw [hb] at cb hR
    have HR : Hid (∀ w', Fam w0 w' (C5 b { d with m := d.m.put (d.m.M.newArray 3 0 n).2.2 } x1' ++ l) → R (.returned (.tuple #[.int .i64 (d.m.M.newArray 3 0 n).1, .int .i64 (d.m.M.newArray 3 0 n).2.1])) w') := fun w' h2 => hR.out _ _ ⟨rfl, x1', ⟨HX1.out.ov, HX1.out.mv, HX1.out.mv2⟩, h2⟩
    have cm : Calls Tryz.prog 120 #[.pointer (some ⟨x1'.hb, 0, none⟩), .int .i64 3, .int .i64 0, .int .i64 n] w1 (fun e w' => e = .returned (.tuple #[.int .i64 (d.m.M.newArray 3 0 n).1, .int .i64 (d.m.M.newArray 3 0 n).2.1]) ∧ Fam w0 w' (C5 b { d with m := d.m.put (d.m.M.newArray 3 0 n).2.2 } x1' ++ l)) := hnewA_rep w1 hf1 3 0 n
    clear hR hb hf1 hx1 cg
    generalize d.m.M.newArray 3 0 n = r at *
    obtain ⟨r1, r2, r3⟩ := r
    go_wp2_with fail
    refine cb.mono ?_
    rintro e _ ⟨rfl, rfl⟩
    clear cb
    go_wp2_with fail
    refine cm.mono ?_
    rintro e w2 ⟨rfl, hf2⟩
    have HE := Lib.hid hf2
    clear cm hf2
    go_wp2_with fail
    exact HR.out _ HE.out
theorem newArr_ok3b (w : World) (hf : Fam w0 w (C5 b c x ++ l)) (hx : x.ok c) (h0 : c.Ok) (n : Int)  (hn0 : 0 ≤ n) (hn48 : n ≤ 48) (h : 8 ≤ n) : Calls Tryz.prog 46 #[.pointer (some ⟨b, 0, none⟩), .int .i64 3, .int .i64 0, .int .i64 n] w (TDid2 w0 l b ((c.give (c.rate * arrN n)).2.newArr 3 0 n)) := by
  refine calls_abs fun R hR => ?_
  obtain ⟨_, x1, x2, _⟩ := CRow.cells hf
  have cn := cnone_rep w x2
  obtain ⟨q, hq⟩ : ∃ q, q = (n + 7).tdiv 8 := ⟨_, rfl⟩
  have hqr : 1 ≤ q ∧ q ≤ 6 := by rw [hq, Int.tdiv_eq_ediv_of_nonneg (by omega)]; omega
  have hP : c.rate * arrN n = c.rate * (1 + q) := by unfold arrN; rw [if_pos (by omega), hq]
  have hP0 : 0 ≤ c.rate * (1 + q) ∧ c.rate * (1 + q) ≤ 700 := by
    have := h0.k.rt
    have h7 : c.rate * (1 + q) ≤ 100 * 7 := Int.mul_le_mul this.2 (by omega) (by omega) (by omega)
    exact ⟨Int.mul_nonneg this.1 (by omega), by omega⟩
  have e1 : (n + 8 - 1).tdiv 8 = q := by rw [hq, show n + 8 - 1 = n + 7 by omega]
  have e2 : (n + 7).tdiv 8 = q := hq.symm
  rw [hP] at hR
  obtain ⟨P, hPP⟩ : ∃ P, P = c.rate * (1 + q) := ⟨_, rfl⟩
  have e3 : c.rate * (1 + q) = P := hPP.symm
  rw [← hPP] at hR hP0
  have HOK := Lib.hid (h0.give (n := P) (by omega))
  have cg := cgive_any w hf hx h0 P ⟨by omega, by omega⟩
  have n1 : ¬ n < 0 := by omega
  have n2 : ¬ 48 < n := by omega
  clear hf hx h0 hP hPP hq
  obtain ⟨d, hd⟩ : ∃ d, d = (c.give P).2 := ⟨_, rfl⟩
  rw [← hd] at cg HOK hR
  generalize (c.give P).1 = gn at *
  clear hd
  generalize c.rate = rt at *
  go_enter Tryz.func46, Tryz.ntmps46
  go_wp2_with fail
  refine cn.mono ?_
  rintro e _ ⟨rfl, rfl⟩
  clear cn
  go_wp2_with fail
  refine cg.mono ?_
  rintro e w1 ⟨rfl, x1', hx1, hf1⟩
  have cb := cbarrier_rep w1 hf1 HOK.out.k
  obtain ⟨_, _, z2, _, z4, _⟩ := CRow.cells hf1
  have HX1 := Lib.hid hx1
  unfold Co.newArr at hR
  cases hb : d.bar with
  | true =>
    rw [hb] at cb hR
    have HR : Hid (∀ w', Fam w0 w' (C5 b { d with m := (d.m.newArray 3 0 n).2.2 } x1' ++ l) → R (.returned (.tuple #[.int .i64 (d.m.newArray 3 0 n).1, .int .i64 (d.m.newArray 3 0 n).2.1])) w') := fun w' h2 => hR.out _ _ ⟨rfl, x1', ⟨HX1.out.ov, HX1.out.mv, HX1.out.mv2⟩, h2⟩
    have cm : Calls Tryz.prog 119 #[.pointer (some ⟨x1'.p, 0, none⟩), .int .i64 3, .int .i64 0, .int .i64 n] w1 (fun e w' => e = .returned (.tuple #[.int .i64 (d.m.newArray 3 0 n).1, .int .i64 (d.m.newArray 3 0 n).2.1]) ∧ Fam w0 w' (C5 b { d with m := (d.m.newArray 3 0 n).2.2 } x1' ++ l)) := mnewArray_rep w1 (C5.t2 (b := b) (c := d) (x := x1') (l := l)) (hb := x1'.hb) (p := x1'.p) (m := d.m) hf1 (HOK.out.k.mo (bar_iff.1 hb)) 3 0 n
    clear hR hb hf1 hx1 cg
    generalize d.m.newArray 3 0 n = r at *
    obtain ⟨r1, r2, r3⟩ := r
    go_wp2_with fail
    refine cb.mono ?_
    rintro e _ ⟨rfl, rfl⟩
    clear cb
    go_wp2_with fail
    refine cm.mono ?_
    rintro e w2 ⟨rfl, hf2⟩
    have HE := Lib.hid hf2
    clear cm hf2
    go_wp2_with fail
    exact HR.out _ HE.out
  | false =>
    rw [hb] at cb hR
    have HR : Hid (∀ w', Fam w0 w' (C5 b { d with m := d.m.put (d.m.M.newArray 3 0 n).2.2 } x1' ++ l) → R (.returned (.tuple #[.int .i64 (d.m.M.newArray 3 0 n).1, .int .i64 (d.m.M.newArray 3 0 n).2.1])) w') := fun w' h2 => hR.out _ _ ⟨rfl, x1', ⟨HX1.out.ov, HX1.out.mv, HX1.out.mv2⟩, h2⟩
    have cm : Calls Tryz.prog 120 #[.pointer (some ⟨x1'.hb, 0, none⟩), .int .i64 3, .int .i64 0, .int .i64 n] w1 (fun e w' => e = .returned (.tuple #[.int .i64 (d.m.M.newArray 3 0 n).1, .int .i64 (d.m.M.newArray 3 0 n).2.1]) ∧ Fam w0 w' (C5 b { d with m := d.m.put (d.m.M.newArray 3 0 n).2.2 } x1' ++ l)) := hnewA_rep w1 hf1 3 0 n
    clear hR hb hf1 hx1 cg
    generalize d.m.M.newArray 3 0 n = r at *
    obtain ⟨r1, r2, r3⟩ := r
    go_wp2_with fail
    refine cb.mono ?_
    rintro e _ ⟨rfl, rfl⟩
    clear cb
    go_wp2_with fail
    refine cm.mono ?_
    rintro e w2 ⟨rfl, hf2⟩
    have HE := Lib.hid hf2
    clear cm hf2
    go_wp2_with fail
    exact HR.out _ HE.out
theorem newArr_len4l (w : World) (hf : Fam w0 w (C5 b c x ++ l)) (hx : x.ok c) (a n : Int) (a1 : 0 ≤ a) (a2 : a < 10) (h : n < 0) : Calls Tryz.prog 46 #[.pointer (some ⟨b, 0, none⟩), .int .i64 4, .int .i64 a, .int .i64 n] w (TDid2 w0 l b (0, 1, c)) := by
  refine calls_abs fun R hR => ?_
  obtain ⟨_, _, x2, _⟩ := CRow.cells hf
  have cn := cnone_rep w x2
  have HE : Hid (TDid2 w0 l b (0, 1, c) (.returned (.tuple #[.int .i64 0, .int .i64 1])) w) := ⟨rfl, x, hx, hf⟩
  clear hf hx
  go_enter Tryz.func46, Tryz.ntmps46
  go_wp2_with fail
  refine cn.mono ?_
  rintro e _ ⟨rfl, rfl⟩
  clear cn
  go_wp2_with fail
  exact hR.out _ _ HE.out
theorem newArr_len4h (w : World) (hf : Fam w0 w (C5 b c x ++ l)) (hx : x.ok c) (a n : Int) (a1 : 0 ≤ a) (a2 : a < 10) (h : 48 < n) : Calls Tryz.prog 46 #[.pointer (some ⟨b, 0, none⟩), .int .i64 4, .int .i64 a, .int .i64 n] w (TDid2 w0 l b (0, 1, c)) := by
  refine calls_abs fun R hR => ?_
  obtain ⟨_, _, x2, _⟩ := CRow.cells hf
  have cn := cnone_rep w x2
  have HE : Hid (TDid2 w0 l b (0, 1, c) (.returned (.tuple #[.int .i64 0, .int .i64 1])) w) := ⟨rfl, x, hx, hf⟩
  have h0 : ¬ n < 0 := by omega
  clear hf hx
  go_enter Tryz.func46, Tryz.ntmps46
  go_wp2_with fail
  refine cn.mono ?_
  rintro e _ ⟨rfl, rfl⟩
  clear cn
  go_wp2_with fail
  exact hR.out _ _ HE.out
theorem newArr_ok4s (w : World) (hf : Fam w0 w (C5 b c x ++ l)) (hx : x.ok c) (h0 : c.Ok) (a n : Int) (a1 : 0 ≤ a) (a2 : a < 10) (hn0 : 0 ≤ n) (hn48 : n ≤ 48) (h : n < 8) : Calls Tryz.prog 46 #[.pointer (some ⟨b, 0, none⟩), .int .i64 4, .int .i64 a, .int .i64 n] w (TDid2 w0 l b ((c.give (c.rate * arrN n)).2.newArr 4 a n)) := by
  refine calls_abs fun R hR => ?_
  obtain ⟨_, x1, x2, _⟩ := CRow.cells hf
  have cn := cnone_rep w x2
  have hP : c.rate * arrN n = c.rate := by unfold arrN; rw [if_neg (by omega), Int.mul_one]
  have hP0 := h0.k.rt
  rw [hP] at hR
  obtain ⟨P, hPP⟩ : ∃ P, P = c.rate := ⟨_, rfl⟩
  have e3 : P * 1 = P := Int.mul_one P
  rw [← hPP] at hR hP0
  have HOK := Lib.hid (h0.give (n := P) (by omega))
  have cg := cgive_any w hf hx h0 P ⟨by omega, by omega⟩
  rw [← hPP] at x1
  have n1 : ¬ n < 0 := by omega
  have n2 : ¬ 48 < n := by omega
  clear hf hx h0 hP hPP
  obtain ⟨d, hd⟩ : ∃ d, d = (c.give P).2 := ⟨_, rfl⟩
  rw [← hd] at cg HOK hR
  generalize (c.give P).1 = gn at *
  clear hd
  go_enter Tryz.func46, Tryz.ntmps46
  go_wp2_with fail
  refine cn.mono ?_
  rintro e _ ⟨rfl, rfl⟩
  clear cn
  go_wp2_with fail
  refine cg.mono ?_
  rintro e w1 ⟨rfl, x1', hx1, hf1⟩
  have cb := cbarrier_rep w1 hf1 HOK.out.k
  obtain ⟨_, _, z2, _, z4, _⟩ := CRow.cells hf1
  have HX1 := Lib.hid hx1
  unfold Co.newArr at hR
  cases hb : d.bar with
  | true =>
    rw [hb] at cb hR
    have HR : Hid (∀ w', Fam w0 w' (C5 b { d with m := (d.m.newArray 4 a n).2.2 } x1' ++ l) → R (.returned (.tuple #[.int .i64 (d.m.newArray 4 a n).1, .int .i64 (d.m.newArray 4 a n).2.1])) w') := fun w' h2 => hR.out _ _ ⟨rfl, x1', ⟨HX1.out.ov, HX1.out.mv, HX1.out.mv2⟩, h2⟩
    have cm : Calls Tryz.prog 119 #[.pointer (some ⟨x1'.p, 0, none⟩), .int .i64 4, .int .i64 a, .int .i64 n] w1 (fun e w' => e = .returned (.tuple #[.int .i64 (d.m.newArray 4 a n).1, .int .i64 (d.m.newArray 4 a n).2.1]) ∧ Fam w0 w' (C5 b { d with m := (d.m.newArray 4 a n).2.2 } x1' ++ l)) := mnewArray_rep w1 (C5.t2 (b := b) (c := d) (x := x1') (l := l)) (hb := x1'.hb) (p := x1'.p) (m := d.m) hf1 (HOK.out.k.mo (bar_iff.1 hb)) 4 a n
    clear hR hb hf1 hx1 cg
    generalize d.m.newArray 4 a n = r at *
    obtain ⟨r1, r2, r3⟩ := r
    go_wp2_with fail
    refine cb.mono ?_
    rintro e _ ⟨rfl, rfl⟩
    clear cb
    go_wp2_with fail
    refine cm.mono ?_
    rintro e w2 ⟨rfl, hf2⟩
    have HE := Lib.hid hf2
    clear cm hf2
    go_wp2_with fail
    exact HR.out _ HE.out
  | false =>
    rw [hb] at cb hR
    have HR : Hid (∀ w', Fam w0 w' (C5 b { d with m := d.m.put (d.m.M.newArray 4 a n).2.2 } x1' ++ l) → R (.returned (.tuple #[.int .i64 (d.m.M.newArray 4 a n).1, .int .i64 (d.m.M.newArray 4 a n).2.1])) w') := fun w' h2 => hR.out _ _ ⟨rfl, x1', ⟨HX1.out.ov, HX1.out.mv, HX1.out.mv2⟩, h2⟩
    have cm : Calls Tryz.prog 120 #[.pointer (some ⟨x1'.hb, 0, none⟩), .int .i64 4, .int .i64 a, .int .i64 n] w1 (fun e w' => e = .returned (.tuple #[.int .i64 (d.m.M.newArray 4 a n).1, .int .i64 (d.m.M.newArray 4 a n).2.1]) ∧ Fam w0 w' (C5 b { d with m := d.m.put (d.m.M.newArray 4 a n).2.2 } x1' ++ l)) := hnewA_rep w1 hf1 4 a n
    clear hR hb hf1 hx1 cg
    generalize d.m.M.newArray 4 a n = r at *
    obtain ⟨r1, r2, r3⟩ := r
    go_wp2_with fail
    refine cb.mono ?_
    rintro e _ ⟨rfl, rfl⟩
    clear cb
    go_wp2_with fail
    refine cm.mono ?_
    rintro e w2 ⟨rfl, hf2⟩
    have HE := Lib.hid hf2
    clear cm hf2
    go_wp2_with fail
    exact HR.out _ HE.out
theorem newArr_ok4b (w : World) (hf : Fam w0 w (C5 b c x ++ l)) (hx : x.ok c) (h0 : c.Ok) (a n : Int) (a1 : 0 ≤ a) (a2 : a < 10) (hn0 : 0 ≤ n) (hn48 : n ≤ 48) (h : 8 ≤ n) : Calls Tryz.prog 46 #[.pointer (some ⟨b, 0, none⟩), .int .i64 4, .int .i64 a, .int .i64 n] w (TDid2 w0 l b ((c.give (c.rate * arrN n)).2.newArr 4 a n)) := by
  refine calls_abs fun R hR => ?_
  obtain ⟨_, x1, x2, _⟩ := CRow.cells hf
  have cn := cnone_rep w x2
  obtain ⟨q, hq⟩ : ∃ q, q = (n + 7).tdiv 8 := ⟨_, rfl⟩
  have hqr : 1 ≤ q ∧ q ≤ 6 := by rw [hq, Int.tdiv_eq_ediv_of_nonneg (by omega)]; omega
  have hP : c.rate * arrN n = c.rate * (1 + q) := by unfold arrN; rw [if_pos (by omega), hq]
  have hP0 : 0 ≤ c.rate * (1 + q) ∧ c.rate * (1 + q) ≤ 700 := by
    have := h0.k.rt
    have h7 : c.rate * (1 + q) ≤ 100 * 7 := Int.mul_le_mul this.2 (by omega) (by omega) (by omega)
    exact ⟨Int.mul_nonneg this.1 (by omega), by omega⟩
  have e1 : (n + 8 - 1).tdiv 8 = q := by rw [hq, show n + 8 - 1 = n + 7 by omega]
  have e2 : (n + 7).tdiv 8 = q := hq.symm
  rw [hP] at hR
  obtain ⟨P, hPP⟩ : ∃ P, P = c.rate * (1 + q) := ⟨_, rfl⟩
  have e3 : c.rate * (1 + q) = P := hPP.symm
  rw [← hPP] at hR hP0
  have HOK := Lib.hid (h0.give (n := P) (by omega))
  have cg := cgive_any w hf hx h0 P ⟨by omega, by omega⟩
  have n1 : ¬ n < 0 := by omega
  have n2 : ¬ 48 < n := by omega
  clear hf hx h0 hP hPP hq
  obtain ⟨d, hd⟩ : ∃ d, d = (c.give P).2 := ⟨_, rfl⟩
  rw [← hd] at cg HOK hR
  generalize (c.give P).1 = gn at *
  clear hd
  generalize c.rate = rt at *
  go_enter Tryz.func46, Tryz.ntmps46
  go_wp2_with fail
  refine cn.mono ?_
  rintro e _ ⟨rfl, rfl⟩
  clear cn
  go_wp2_with fail
  refine cg.mono ?_
  rintro e w1 ⟨rfl, x1', hx1, hf1⟩
  have cb := cbarrier_rep w1 hf1 HOK.out.k
  obtain ⟨_, _, z2, _, z4, _⟩ := CRow.cells hf1
  have HX1 := Lib.hid hx1
  unfold Co.newArr at hR
  cases hb : d.bar with
  | true =>
    rw [hb] at cb hR
    have HR : Hid (∀ w', Fam w0 w' (C5 b { d with m := (d.m.newArray 4 a n).2.2 } x1' ++ l) → R (.returned (.tuple #[.int .i64 (d.m.newArray 4 a n).1, .int .i64 (d.m.newArray 4 a n).2.1])) w') := fun w' h2 => hR.out _ _ ⟨rfl, x1', ⟨HX1.out.ov, HX1.out.mv, HX1.out.mv2⟩, h2⟩
    have cm : Calls Tryz.prog 119 #[.pointer (some ⟨x1'.p, 0, none⟩), .int .i64 4, .int .i64 a, .int .i64 n] w1 (fun e w' => e = .returned (.tuple #[.int .i64 (d.m.newArray 4 a n).1, .int .i64 (d.m.newArray 4 a n).2.1]) ∧ Fam w0 w' (C5 b { d with m := (d.m.newArray 4 a n).2.2 } x1' ++ l)) := mnewArray_rep w1 (C5.t2 (b := b) (c := d) (x := x1') (l := l)) (hb := x1'.hb) (p := x1'.p) (m := d.m) hf1 (HOK.out.k.mo (bar_iff.1 hb)) 4 a n
    clear hR hb hf1 hx1 cg
    generalize d.m.newArray 4 a n = r at *
    obtain ⟨r1, r2, r3⟩ := r
    go_wp2_with fail
    refine cb.mono ?_
    rintro e _ ⟨rfl, rfl⟩
    clear cb
    go_wp2_with fail
    refine cm.mono ?_
    rintro e w2 ⟨rfl, hf2⟩
    have HE := Lib.hid hf2
    clear cm hf2
    go_wp2_with fail
    exact HR.out _ HE.out
  | false =>
    rw [hb] at cb hR
    have HR : Hid (∀ w', Fam w0 w' (C5 b { d with m := d.m.put (d.m.M.newArray 4 a n).2.2 } x1' ++ l) → R (.returned (.tuple #[.int .i64 (d.m.M.newArray 4 a n).1, .int .i64 (d.m.M.newArray 4 a n).2.1])) w') := fun w' h2 => hR.out _ _ ⟨rfl, x1', ⟨HX1.out.ov, HX1.out.mv, HX1.out.mv2⟩, h2⟩
    have cm : Calls Tryz.prog 120 #[.pointer (some ⟨x1'.hb, 0, none⟩), .int .i64 4, .int .i64 a, .int .i64 n] w1 (fun e w' => e = .returned (.tuple #[.int .i64 (d.m.M.newArray 4 a n).1, .int .i64 (d.m.M.newArray 4 a n).2.1]) ∧ Fam w0 w' (C5 b { d with m := d.m.put (d.m.M.newArray 4 a n).2.2 } x1' ++ l)) := hnewA_rep w1 hf1 4 a n
    clear hR hb hf1 hx1 cg
    generalize d.m.M.newArray 4 a n = r at *
    obtain ⟨r1, r2, r3⟩ := r
    go_wp2_with fail
    refine cb.mono ?_
    rintro e _ ⟨rfl, rfl⟩
    clear cb
    go_wp2_with fail
    refine cm.mono ?_
    rintro e w2 ⟨rfl, hf2⟩
    have HE := Lib.hid hf2
    clear cm hf2
    go_wp2_with fail
    exact HR.out _ HE.out
theorem cnewArray_any (w : World) (hf : Fam w0 w (C5 b c x ++ l)) (hx : x.ok c) (h : c.Ok) (k a n : Int) : Calls Tryz.prog 46 #[.pointer (some ⟨b, 0, none⟩), .int .i64 k, .int .i64 a, .int .i64 n] w (TDid2 w0 l b (c.newArray k a n)) := by
  by_cases hk : (k = 3 ∧ a = 0) ∨ (k = 4 ∧ 0 ≤ a ∧ a < 10)
  · by_cases n0 : n < 0
    · rw [show c.newArray k a n = (0, 1, c) by unfold Co.newArray; rw [if_pos (.inl n0)]]
      rcases hk with ⟨rfl, rfl⟩ | ⟨rfl, a1, a2⟩
      · exact newArr_len3l w hf hx n n0
      · exact newArr_len4l w hf hx a n a1 a2 n0
    · by_cases n4 : 48 < n
      · rw [show c.newArray k a n = (0, 1, c) by unfold Co.newArray; rw [if_pos (.inr (.inl n4))]]
        rcases hk with ⟨rfl, rfl⟩ | ⟨rfl, a1, a2⟩
        · exact newArr_len3h w hf hx n n4
        · exact newArr_len4h w hf hx a n a1 a2 n4
      · rw [show c.newArray k a n = (c.give (c.rate * arrN n)).2.newArr k a n by unfold Co.newArray; rw [if_neg (fun e => by rcases e with e | e | e; exact n0 e; exact n4 e; exact e hk)]]
        by_cases n8 : n < 8
        · rcases hk with ⟨rfl, rfl⟩ | ⟨rfl, a1, a2⟩
          · exact newArr_ok3s w hf hx h n (by omega) (by omega) n8
          · exact newArr_ok4s w hf hx h a n a1 a2 (by omega) (by omega) n8
        · rcases hk with ⟨rfl, rfl⟩ | ⟨rfl, a1, a2⟩
          · exact newArr_ok3b w hf hx h n (by omega) (by omega) (by omega)
          · exact newArr_ok4b w hf hx h a n a1 a2 (by omega) (by omega) (by omega)
  · rw [show c.newArray k a n = (0, 1, c) by unfold Co.newArray; rw [if_pos (.inr (.inr hk))]]
    by_cases h3 : k = 3
    · subst h3
      exact newArr_bad3 w hf hx a n (fun e => hk (.inl ⟨rfl, e⟩))
    · by_cases h4 : k = 4
      · subst h4
        by_cases a0 : a < 0
        · exact newArr_bad4l w hf hx a n a0
        · exact newArr_bad4h w hf hx a n (by have := fun e => hk (.inr ⟨rfl, by omega, e⟩); omega)
      · exact newArr_bado w hf hx k a n h3 h4
end
end Go.Proofs.YthflghdaejbdkaaGreat
