/- Arguments that are calls of layer 11: four numbers and a slice of bools each. -/
import Derived.Test.YtkjocehdbpekjaaGreatArgs
import Derived.Test.YtkjocehdbpekjaaGreatOMaps
import Derived.Lib.SmallJoins
namespace Go.Proofs.YtkjocehdbpekjaaGreat
open Go.Joins Go.ChangeShapes Go.WideShapes Go.Deep Go.RowKit
set_option linter.unusedVariables false
/-- A call: its numbers, and its slice of bools. -/
structure OpR where
  d : Int
  a : Int
  b : Int
  c : Int
  g : Option Addr
  n : Nat
  k : Nat
  l : List Bool
/-- A slice of bools that came in, with its room. -/
structure BCap (w : World) (g : Option Addr) (n k : Nat) (l : List Bool) : Prop where
  len : l.length = n
  cap : n ≤ k
  max : n ≤ 9223372036854775807
  rd : n = 0 ∨ ∃ b o, g = some ⟨b, o, none⟩ ∧ ∀ i, i < n → w.cell? ⟨b, o + i, none⟩ = some (.bool (gB l i))
  nl : g = none → n = 0 ∧ k = 0
structure OpAt (w : World) (b o : Nat) (r : OpR) : Prop where
  c0 : w.cell? ⟨b, o, none⟩ = some (.int .i64 r.d)
  c1 : w.cell? ⟨b, o + 1, none⟩ = some (.int .i64 r.a)
  c2 : w.cell? ⟨b, o + 2, none⟩ = some (.int .i64 r.b)
  c3 : w.cell? ⟨b, o + 3, none⟩ = some (.int .i64 r.c)
  c4 : w.cell? ⟨b, o + 4, none⟩ = some (.slice r.g r.n r.k)
  wa : (Lit.int .i64 r.a).wf = true
  wb : (Lit.int .i64 r.b).wf = true
  wc : (Lit.int .i64 r.c).wf = true
  ba : BCap w r.g r.n r.k r.l
def Ops (w : World) (a : Option Addr) (len : Nat) (f : Nat → OpR) : Prop :=
  len ≤ 9223372036854775807 ∧ (len = 0 ∨ ∃ b o, a = some ⟨b, o, none⟩ ∧ ∀ i, i < len → OpAt w b (o + i * 5) (f i))
theorem BCap.only {w w' : World} {g : Option Addr} {n k : Nat} {l : List Bool} (h : BCap w g n k l) (ho : Only [] w w') : BCap w' g n k l :=
  ⟨h.len, h.cap, h.max, h.rd.imp id fun ⟨b, o, e, hc⟩ => ⟨b, o, e, fun i hi => ho.cell (hc i hi) (by simp)⟩, h.nl⟩
theorem OpAt.only {w w' : World} {b o : Nat} {r : OpR} (h : OpAt w b o r) (ho : Only [] w w') : OpAt w' b o r :=
  ⟨ho.cell h.c0 (by simp), ho.cell h.c1 (by simp), ho.cell h.c2 (by simp), ho.cell h.c3 (by simp), ho.cell h.c4 (by simp), h.wa, h.wb, h.wc, h.ba.only ho⟩
theorem BCap.read {w : World} {g : Option Addr} {n k : Nat} {l : List Bool} (h : BCap w g n k l) : BRead w (.slice g n k) l := by
  rcases h.rd with h0 | ⟨b, o, rfl, hc⟩
  · subst h0; exact .inr ⟨g, k, rfl, List.eq_nil_of_length_eq_zero h.len⟩
  · exact .inl ⟨b, o, k, by rw [h.len], fun i hi => hc i (by rw [← h.len]; exact hi)⟩
section
variable {H : Type} {enc : TypeId × Value → H} {P : Program} {w : World} {base : Nat} {spare : Nat → Bool} {held : Bool}
theorem bcap_of {t e : TypeId} {fuel : Nat} {v : Value} {x : DataW H × List MemPlace} (ht : P.underlying t = some (.slice e)) (he : P.underlying e = some .bool) (hC : P.cellsOf e = 1)
    (h : DataW.trod enc P w base spare held fuel t [v] = some x) : ∃ g n k l, v = .slice g n k ∧ BCap w g n k l := by
  have key : ∃ g n k, v = .slice g n k ∧ n ≤ k ∧ (g = none → n = 0 ∧ k = 0) := by
    rcases open_slice ht h with ⟨h1, _⟩ | ⟨a', len', cap', m, n, D, Pl, hcs, hb, hl, hm, hmm, hx, hi⟩
    · simp at h1; exact ⟨_, _, _, h1, Nat.le_refl _, fun _ => ⟨rfl, rfl⟩⟩
    · simp at hcs; exact ⟨_, _, _, hcs, hl, fun e => by cases e⟩
  obtain ⟨g, n, k, rfl, hk, hnl⟩ := key
  obtain ⟨f, hf⟩ := bools_of ht he hC h
  refine ⟨g, n, k, (List.range n).map f, rfl, by simp, hk, hf.1, ?_, hnl⟩
  rcases hf.2 with h0 | ⟨b, o, e, hc⟩
  · exact .inl h0
  · exact .inr ⟨b, o, e, fun i hi => by rw [hc i hi]; simp [gB, hi]⟩
theorem okWide_array {r : Reach} {b0 n : Nat} {t e : TypeId} {v : Value} (ht : P.underlying t = some (.array n e)) (h : Value.okWide P w r b0 t v) : ∃ cs, v = .agg cs ∧ cs.size = P.cellsOf t := by
  simp only [Value.okWide, ht] at h
  obtain ⟨cs, h1, h2, _⟩ := h
  exact ⟨cs, h1, h2⟩
theorem open_arr2 {r : Reach} {b0 : Nat} {t e : TypeId} {v : Value} {d : DataW H} {p : List MemPlace} (ht : P.underlying t = some (.array 2 e)) (he : P.underlying e = some (.int .i64)) (hce : P.cellsOf e = 1) (hC : P.cellsOf t = 2)
    (hv : Value.okWide P w r b0 t v) (h : DataW.Trod enc P w base spare held t v d p) : ∃ x y : Int, v = .agg #[.int .i64 x, .int .i64 y] ∧ (Lit.int .i64 x).wf = true ∧ (Lit.int .i64 y).wf = true := by
  obtain ⟨cs, rfl, hsz⟩ := okWide_array ht hv
  rw [hC] at hsz
  obtain ⟨l⟩ := cs
  match l, hsz with
  | [c0, c1], _ =>
    obtain ⟨fuel, hf⟩ := h
    obtain ⟨xs, m, _, _, hl, hxl, hi⟩ := DataW.trod_array ht hf
    have h0 := hi 0 (by omega)
    have h1 := hi 1 (by omega)
    rw [hce, List.getElem?_eq_getElem (by omega)] at h0 h1
    obtain ⟨x, e0, _, w0⟩ := DataW.trod_int he h0
    obtain ⟨y, e1, _, w1⟩ := DataW.trod_int he h1
    simp [Value.cells] at e0 e1
    subst e0 e1
    exact ⟨x, y, rfl, w0, w1⟩
theorem agg5_of {r : Reach} {b0 : Nat} {t : TypeId} {f0 f1 f2 f3 f4 : Field} {v : Value} {d : DataW H} {p : List MemPlace} (hs : P.underlying t = some (.struct #[f0, f1, f2, f3, f4])) (hone : oneCellFields P #[f0, f1, f2, f3, f4] = true) (hC : P.cellsOf t = 5)
    (hv : Value.okWide P w r b0 t v) (h : DataW.Trod enc P w base spare held t v d p) :
    ∃ (v0 v1 v2 v3 v4 : Value) (y0 y1 y2 y3 y4 : DataW H × List MemPlace) (n : Nat), v = .agg #[v0, v1, v2, v3, v4] ∧ d = .agg [y0.1, y1.1, y2.1, y3.1, y4.1] ∧ p = y0.2 ++ (y1.2 ++ (y2.2 ++ (y3.2 ++ y4.2))) ∧
      DataW.trod enc P w base spare held n f0.type [v0] = some y0 ∧ DataW.trod enc P w base spare held n f1.type [v1] = some y1 ∧ DataW.trod enc P w base spare held n f2.type [v2] = some y2 ∧ DataW.trod enc P w base spare held n f3.type [v3] = some y3 ∧ DataW.trod enc P w base spare held n f4.type [v4] = some y4 := by
  obtain ⟨cs, rfl, hsz⟩ := okWide_struct hs hv
  obtain ⟨l⟩ := cs
  match l, hsz.trans hC with
  | [c0, c1, c2, c3, c4], _ =>
    obtain ⟨fuel, hf⟩ := h
    obtain ⟨xs, n, _, hx, _, hlen, hg⟩ := DataW.trod_struct hs hf
    obtain ⟨o0, k0⟩ := hone_of hone 0 f0 rfl
    obtain ⟨o1, k1⟩ := hone_of hone 1 f1 rfl
    obtain ⟨o2, k2⟩ := hone_of hone 2 f2 rfl
    obtain ⟨o3, k3⟩ := hone_of hone 3 f3 rfl
    obtain ⟨o4, k4⟩ := hone_of hone 4 f4 rfl
    match xs, hlen with
    | [y0, y1, y2, y3, y4], _ =>
      simp only [Prod.mk.injEq] at hx
      exact ⟨c0, c1, c2, c3, c4, y0, y1, y2, y3, y4, n, rfl, by simpa using hx.1, by simpa using hx.2, by simpa [Value.cells, o0, k0] using hg 0 f0 rfl, by simpa [Value.cells, o1, k1] using hg 1 f1 rfl, by simpa [Value.cells, o2, k2] using hg 2 f2 rfl, by simpa [Value.cells, o3, k3] using hg 3 f3 rfl, by simpa [Value.cells, o4, k4] using hg 4 f4 rfl⟩
theorem ops_of {t e : TypeId} {f0 f1 f2 f3 f4 : Field} {tb : TypeId} {fuel len cap : Nat} {a : Option Addr} {x : DataW H × List MemPlace} (ht : P.underlying t = some (.slice e)) (he : P.underlying e = some (.struct #[f0, f1, f2, f3, f4]))
    (hone : oneCellFields P #[f0, f1, f2, f3, f4] = true) (hC : P.cellsOf e = 5) (h0 : P.underlying f0.type = some (.int .i64)) (h1 : P.underlying f1.type = some (.int .i64)) (h2 : P.underlying f2.type = some (.int .i64)) (h3 : P.underlying f3.type = some (.int .i64))
    (h4 : P.underlying f4.type = some (.slice tb)) (h5 : P.underlying tb = some .bool) (h6 : P.cellsOf tb = 1)
    (h : DataW.trod enc P w base spare held fuel t [.slice a len cap] = some x) : ∃ f, Ops w a len f := by
  rcases open_slice ht h with ⟨h1, _⟩ | ⟨a', len', cap', m, n, D, Pl, hcs, hb, hl, hm, hmm, hx, hi⟩
  · simp at h1
    obtain ⟨rfl, rfl, rfl⟩ := h1
    exact ⟨fun _ => ⟨0, 0, 0, 0, none, 0, 0, []⟩, by omega, .inl rfl⟩
  · simp at hcs
    obtain ⟨rfl, rfl, rfl⟩ := hcs
    have hlm : len ≤ m := by rw [hmm]; split <;> omega
    have hm' : maxLen = 9223372036854775807 := rfl
    have key : ∀ i, i < len → ∃ d q b c v : Value, w.cell? (a'.add (i * 5)) = some d ∧ w.cell? (a'.add (i * 5 + 1)) = some q ∧ w.cell? (a'.add (i * 5 + 2)) = some b ∧ w.cell? (a'.add (i * 5 + 3)) = some c ∧ w.cell? (a'.add (i * 5 + 4)) = some v ∧
        ∃ y0 y1 y2 y3 y4 fu, DataW.trod enc P w base spare held fu f0.type [d] = some y0 ∧ DataW.trod enc P w base spare held fu f1.type [q] = some y1 ∧ DataW.trod enc P w base spare held fu f2.type [b] = some y2 ∧ DataW.trod enc P w base spare held fu f3.type [c] = some y3 ∧ DataW.trod enc P w base spare held fu f4.type [v] = some y4 := by
      intro i hil
      obtain ⟨cs', hc, ht'⟩ := hi i (by omega)
      rw [hC] at hc
      obtain ⟨ys, n', hn', hy, hlen, hyl, hf⟩ := DataW.trod_struct he ht'
      obtain ⟨_, hcl, hat⟩ := World.cells?_some hc
      match cs', hcl with
      | [d, q, b, c, v], _ =>
        match ys, hyl with
        | [y0, y1, y2, y3, y4], _ =>
          obtain ⟨o0, k0⟩ := hone_of hone 0 f0 rfl
          obtain ⟨o1, k1⟩ := hone_of hone 1 f1 rfl
          obtain ⟨o2, k2⟩ := hone_of hone 2 f2 rfl
          obtain ⟨o3, k3⟩ := hone_of hone 3 f3 rfl
          obtain ⟨o4, k4⟩ := hone_of hone 4 f4 rfl
          have e0 := hat 0 (by omega)
          have e1 := hat 1 (by omega)
          have e2 := hat 2 (by omega)
          have e3 := hat 3 (by omega)
          have e4 := hat 4 (by omega)
          rw [Go.Deep.add_add] at e0 e1 e2 e3 e4
          refine ⟨d, q, b, c, v, e0, e1, e2, e3, e4, y0, y1, y2, y3, y4, n', by simpa [o0, k0] using hf 0 f0 rfl, by simpa [o1, k1] using hf 1 f1 rfl, by simpa [o2, k2] using hf 2 f2 rfl, by simpa [o3, k3] using hf 3 f3 rfl, by simpa [o4, k4] using hf 4 f4 rfl⟩
    rcases Nat.eq_zero_or_pos len with hz | hz
    · exact ⟨fun _ => ⟨0, 0, 0, 0, none, 0, 0, []⟩, by omega, .inl hz⟩
    · obtain ⟨d, _, _, _, _, e0, _⟩ := key 0 hz
      rw [Nat.zero_mul] at e0
      obtain ⟨b, o, rfl⟩ := spot_add e0
      have key2 : ∀ i, i < len → ∃ r : OpR, OpAt w b (o + i * 5) r := by
        intro i hil
        obtain ⟨d, q, b2, c, v, e0, e1, e2, e3, e4, y0, y1, y2, y3, y4, fu, t0, t1, t2, t3, t4⟩ := key i hil
        obtain ⟨dv, hd, _, _⟩ := DataW.trod_int h0 t0
        obtain ⟨qv, hq, _, wq⟩ := DataW.trod_int h1 t1
        obtain ⟨bv, hbv, _, wb⟩ := DataW.trod_int h2 t2
        obtain ⟨cv, hcv, _, wc⟩ := DataW.trod_int h3 t3
        obtain ⟨g, nn, kk, l, hv, hba⟩ := bcap_of h4 h5 h6 t4
        simp at hd hq hbv hcv
        subst hd hq hbv hcv hv
        rw [add_at] at e0 e1 e2 e3 e4
        rw [← Nat.add_assoc] at e1 e2 e3 e4
        exact ⟨⟨dv, qv, bv, cv, g, nn, kk, l⟩, e0, e1, e2, e3, e4, wq, wb, wc, hba⟩
      have hch : ∀ i, ∃ r : OpR, i < len → OpAt w b (o + i * 5) r := fun i => by
        by_cases hil : i < len
        · obtain ⟨r, hr⟩ := key2 i hil; exact ⟨r, fun _ => hr⟩
        · exact ⟨⟨0, 0, 0, 0, none, 0, 0, []⟩, fun h => absurd h hil⟩
      exact ⟨fun i => (hch i).choose, by omega, .inr ⟨b, o, rfl, fun i hil => (hch i).choose_spec hil⟩⟩
end
end Go.Proofs.YtkjocehdbpekjaaGreat
