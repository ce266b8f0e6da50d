/- The laws' own functions over both pools: played, alike. -/
import Derived.Test.YtngmiacekcmidaaBLaw
namespace Go.Proofs.Ytngmiacekcmidaa
open Go.RowKit
set_option maxHeartbeats 3200000
set_option maxRecDepth 100000
set_option linter.unusedVariables false

/-- The program's pool and that of the document are the same P. -/
structure BBoth (w : World) (base p b q k c l : Nat) (P : Pl) : Prop where
  hp : PRep w p b P
  hq : RRep w q k c l P
  d : (p ≠ q ∧ p ≠ k ∧ p ≠ c ∧ p ≠ l) ∧ (b ≠ q ∧ b ≠ k ∧ b ≠ c ∧ b ≠ l)
  ge : base ≤ p ∧ base ≤ b ∧ base ≤ q ∧ base ≤ k ∧ base ≤ c ∧ base ≤ l
theorem BBoth.only {w w' : World} {base p b q k c l : Nat} {P : Pl} {F : List Nat} (h : BBoth w base p b q k c l P) (o : Only F w w') (hF : ∀ x ∈ F, x ≠ p ∧ x ≠ b ∧ x ≠ q ∧ x ≠ k ∧ x ≠ c ∧ x ≠ l) : BBoth w' base p b q k c l P :=
  ⟨h.hp.only o (fun hx => (hF _ hx).1 rfl) (fun hx => (hF _ hx).2.1 rfl), h.hq.only o (fun hx => (hF _ hx).2.2.1 rfl) (fun hx => (hF _ hx).2.2.2.1 rfl) (fun hx => (hF _ hx).2.2.2.2.1 rfl) (fun hx => (hF _ hx).2.2.2.2.2 rfl), h.d, h.ge⟩
theorem BBoth.only0 {w w' : World} {base p b q k c l : Nat} {P : Pl} (h : BBoth w base p b q k c l P) (o : Only [] w w') : BBoth w' base p b q k c l P := h.only o (by simp)
theorem BBoth.lt {w : World} {base p b q k c l : Nat} {P : Pl} (h : BBoth w base p b q k c l P) : p < w.heap.size ∧ b < w.heap.size ∧ q < w.heap.size ∧ k < w.heap.size ∧ c < w.heap.size ∧ l < w.heap.size := by
  obtain ⟨_, _, _, _, h1, h2⟩ := h.hp.facts
  obtain ⟨_, _, _, _, _, _, _, _, _, h3, h4, h5, h6⟩ := h.hq.facts
  exact ⟨h1, h2, h3, h4, h5, h6⟩
/-- The program has done something: what the document's pool holds stays. -/
theorem BBoth.ref {w w' : World} {base p b q k c l : Nat} {P : Pl} (h : BBoth w base p b q k c l P) (o : Only [b] w w') : RRep w' q k c l P := by
  obtain ⟨_, d1, d2, d3, d4⟩ := h.d
  exact h.hq.only o (by simpa using d1.symm) (by simpa using d2.symm) (by simpa using d3.symm) (by simpa using d4.symm)
/-- .. and then the document. -/
theorem BBoth.both {w w1 w2 : World} {base p b q k c l : Nat} {P P' : Pl} (h : BBoth w base p b q k c l P) (h1 : PRep w1 p b P') (h2 : RRep w2 q k c l P') (o : Only [k, c, l] w1 w2) : BBoth w2 base p b q k c l P' := by
  obtain ⟨⟨_, c1, c2, c3⟩, _, d1, d2, d3⟩ := h.d
  exact ⟨h1.only o (by simp; omega) (by simp; omega), h2, h.d, h.ge⟩
theorem BBoth.grown {w w1 : World} {base p b q k c l : Nat} {P : Pl} (h : BBoth w base p b q k c l P) {w0 : World} (hw : base = w0.heap.size) (o : Only [] w0 w) (o1 : Only [b] w w1) : Only [] w0 w1 :=
  o.trans o1 (fun x hx => .inr (by simp at hx; have := h.ge.2.1; omega))
theorem BBoth.grown2 {w w1 : World} {base p b q k c l : Nat} {P : Pl} (h : BBoth w base p b q k c l P) {w0 wx : World} (hw : base = w0.heap.size) (o : Only [] w0 wx) (o1 : Only [k, c, l] wx w1) : Only [] w0 w1 :=
  o.trans o1 (fun x hx => .inr (by simp at hx; have := h.ge; omega))

theorem played_no (w : World) (n : Int) (h : n < 1 ∨ 24 < n) (v : Value) :
    Calls Try.prog 12 #[.int .i64 n, v] w (Exact w (.tuple #[.pointer none, .pointer none])) := by
  refine calls_abs fun R hR => ?_
  go_enter Try.func12, Try.ntmps12
  go_wp2_with fail
  refine (new_bad w n h).mono ?_
  rintro e _ ⟨rfl, rfl⟩
  go_wp2_with fail
  refine (rnew_bad w n h).mono ?_
  rintro e _ ⟨rfl, rfl⟩
  go_wp2_with fail
  exact hR.out _ _ ⟨rfl, rfl⟩

theorem played_yes (w : World) (n : Nat) (h1 : 1 ≤ n) (h24 : n ≤ 24) (a : Option Addr) (len cap : Nat) (f : Nat → Nat → Int) (h : Recs 3 w a len f) :
    Calls Try.prog 12 #[.int .i64 n, .slice a len cap] w fun e w' => ∃ p b q k c l P, e = .returned (.tuple #[.pointer (some ⟨p, 0, none⟩), .pointer (some ⟨q, 0, none⟩)]) ∧ BBoth w' w.heap.size p b q k c l P ∧ P.n = n ∧ Only [] w w' := by
  refine calls_abs fun R hR => ?_
  have HREC := Lib.hid h
  clear h
  go_enter Try.func12, Try.ntmps12
  go_wp2_with fail
  refine (new_yes w n h1 h24).mono ?_
  rintro e w1 ⟨p, b, rfl, hp, o1, gp, gb⟩
  go_wp2_with fail
  refine (rnew_yes w1 n h1 h24).mono ?_
  rintro e w2 ⟨q, k, c, l, rfl, hq, o2, gq, gk, gc, gl⟩
  have hs1 := o1.size
  obtain ⟨_, _, _, _, lp, lb⟩ := hp.facts
  have hB : BBoth w2 w.heap.size p b q k c l (Pl.zero n) := ⟨hp.only o2 (by simp) (by simp), hq, ⟨⟨by omega, by omega, by omega, by omega⟩, ⟨by omega, by omega, by omega, by omega⟩⟩, ⟨by omega, by omega, by omega, by omega, by omega, by omega⟩⟩
  have HB := Lib.hid hB
  have O2 := Lib.hid (o1.trans o2 (by simp))
  have HREC2 : Hid (Recs 3 w2 a len f) := by
    obtain ⟨r1, r2⟩ := HREC.out
    refine ⟨r1, ?_⟩
    rcases r2 with r2 | ⟨bb, oo, ha, hc⟩
    · exact .inl r2
    · exact .inr ⟨bb, oo, ha, fun i hi j hj => ⟨O2.out.cell (hc i hi j hj).1 (by simp), (hc i hi j hj).2⟩⟩
  clear hp hq o1 o2 hB hs1
  go_wp2_with fail
  refine (converted_of w2 a len cap f HREC2.out).mono ?_
  rintro e w3 ⟨v, rfl, hd, o3⟩
  have HB3 := Lib.hid (HB.out.only0 o3)
  have O3 := Lib.hid (O2.out.trans o3 (by simp))
  have HD := Lib.hid hd
  have hb2 := HB.out.lt
  have hlen2 : ∃ av cv, v = .slice av (min len 200) cv := by
    rcases hd with ⟨e1, e2⟩ | ⟨g, cp, e1, _⟩
    · exact ⟨none, 0, by rw [e2, e1]⟩
    · exact ⟨_, cp, e1⟩
  obtain ⟨av, cv, rfl⟩ := hlen2
  obtain ⟨m, hm⟩ : ∃ m, m = min len 200 := ⟨_, rfl⟩
  rw [← hm] at HD ⊢
  have hm2 : m ≤ len := by omega
  have hm3 : m ≤ 200 := by omega
  clear hd o3 hm
  go_wp2_with fail
  go_loopw [11] (fun i wr => ∃ (x : Nat) (P : Pl), x ≤ m ∧ i = .int .i64 x ∧ BBoth wr w.heap.size p b q k c l P ∧ P.n = n ∧ DeedsAt wr w2.heap.size (.slice av m cv) f m ∧ Only [] w wr) (fun i _ => m - (intOf i).toNat)
  case atStart => exact ⟨0, Pl.zero n, by omega, rfl, HB3.out, rfl, HD.out, O3.out⟩
  case round =>
    obtain ⟨x, P, hx, rfl, hB, hPn, hD, hO⟩ := hrel
    have HB := Lib.hid hB
    have HPN := Lib.hid hPn
    have HO := Lib.hid hO
    by_cases hlt : x < m
    · rcases hD with ⟨h0, _⟩ | ⟨g, cp, hv, hg, hcell⟩
      · omega
      simp only [Value.slice.injEq] at hv
      obtain ⟨rfl, _, rfl⟩ := hv
      have k0 := hcell x hlt 0 (by omega)
      have k1 := hcell x hlt 1 (by omega)
      have k2 := hcell x hlt 2 (by omega)
      rw [Nat.add_zero] at k0
      have HC := Lib.hid hcell
      rcases HREC.out.2 with h0 | ⟨bb, oo, rfl, hc⟩
      · omega
      have c0 := HO.out.cell (hc x (by omega) 0 (by omega)).1 (by simp)
      have c1 := HO.out.cell (hc x (by omega) 1 (by omega)).1 (by simp)
      have c2 := HO.out.cell (hc x (by omega) 2 (by omega)).1 (by simp)
      rw [Nat.add_zero] at c0
      rw [← Nat.add_assoc] at c1 c2
      have hxl : x < len := by omega
      have hc1 := do_rep wr p b P HB.out.hp (f x 0) (f x 1) (f x 2)
      have hnb := HB.out.ge
      obtain ⟨P', hP'⟩ : ∃ P', P' = P.do (f x 0) (f x 1) (f x 2) := ⟨_, rfl⟩
      have hc2 : Hid (∀ w4, RRep w4 q k c l P → Calls Try.prog 46 #[.pointer (some ⟨q, 0, none⟩), .agg #[.int .i64 (f x 0), .int .i64 (f x 1), .int .i64 (f x 2)]] w4 (RDoPost w4 q k c l P')) := fun w4 h4 => by rw [hP']; exact rdo_rep w4 q k c l P h4 HB.out.hp.ok _ _ _
      have hn' : Hid (P'.2.2.n = n) := by show _ = _; rw [hP', (HB.out.hp.ok.do _ _ _).2]; exact hPn
      rw [← hP'] at hc1
      clear hc hB hO hcell hP' hPn
      go_wp2_with fail
      refine hc1.mono ?_
      rintro e w4 ⟨rfl, g4, o4⟩
      have r4 := HB.out.ref o4
      have hc2 := hc2.out w4 r4
      have O4 := Lib.hid o4
      have G4 := Lib.hid g4
      have hbg : ∀ y, w4.cell? ⟨g, y, none⟩ = wr.cell? ⟨g, y, none⟩ := by
        intro y
        simp only [World.cell?]
        have hgl : g < wr.heap.size := World.block_lt_of_cell? wr _ k0
        rw [o4.block g hgl (by simp; omega)]
      rw [← hbg] at k0 k1 k2
      clear c0 c1 c2 r4 o4 g4 hbg
      go_wp2_with fail
      refine hc2.mono ?_
      rintro e w5 ⟨rfl, g5, o5⟩
      have B5 := Lib.hid (HB.out.both G4.out g5 o5)
      have O5 := Lib.hid (HB.out.grown2 rfl (HB.out.grown rfl HO.out O4.out) o5)
      have D5 : Hid (DeedsAt w5 w2.heap.size (.slice (some ⟨g, 0, none⟩) m cv) f m) := .inr ⟨g, cv, rfl, hg, fun i hi j hj => o5.cell (O4.out.cell (HC.out i hi j hj) (by simp; omega)) (by simp; omega)⟩
      clear k0 k1 k2 o5 g5 hc1 hc2
      go_wp2_with fail
      exact ⟨⟨x + 1, P'.2.2, by omega, by go_num, B5.out, hn'.out, D5.out, O5.out⟩, by simp [intOf]; omega⟩
    · obtain rfl : x = m := by omega
      clear hB hO hD hPn
      go_wp2_with fail
      exact hR.out _ _ ⟨p, b, q, k, c, l, P, rfl, HB.out, HPN.out, HO.out⟩
end Go.Proofs.Ytngmiacekcmidaa
