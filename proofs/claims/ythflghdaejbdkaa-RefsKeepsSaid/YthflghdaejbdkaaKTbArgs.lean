/- Lemmas of this claim. -/
import Derived.Test.YthflghdaejbdkaaKArgs
import Derived.Test.YthflghdaejbdkaaKOMaps
import Derived.Lib.SmallJoins
namespace Go.Proofs.Ythflghdaejbdkaa
open Go.ChangeShapes Go.WideShapes Go.Deep
section
variable {H : Type} {enc : TypeId × Value → H} {P : Program} {w : World} {base : Nat} {spare : Nat → Bool} {held : Bool}
def Numk (w : World) (a : Option Addr) (len cap : Nat) (f : Nat → Int) : Prop := Nums w a len f ∧ len ≤ cap
theorem numk_of {t e : TypeId} {fuel len cap : Nat} {a : Option Addr} {x : DataW H × List MemPlace} (ht : P.underlying t = some (.slice e)) (he : P.underlying e = some (.int .i64)) (hc : P.cellsOf e = 1)
    (h : DataW.trod enc P w base spare held fuel t [.slice a len cap] = some x) : ∃ f, Numk w a len cap f := by
  obtain ⟨f, hf⟩ := nums_of ht he hc h
  refine ⟨f, hf, ?_⟩
  rcases open_ints ht he hc h with ⟨h1, _⟩ | ⟨a', len', cap', zs, hcs, hb, hl, hm, hz, hx, hcell, hwz⟩
  · simp at h1; omega
  · simp at hcs; omega
theorem slice_of {t e : TypeId} {fuel : Nat} {v : Value} {x : DataW H × List MemPlace} (ht : P.underlying t = some (.slice e)) (h : DataW.trod enc P w base spare held fuel t [v] = some x) : ∃ g n k, v = .slice g n k := by
  rcases open_slice ht h with ⟨h1, _⟩ | ⟨a', len', cap', m, n, D, Pl, hcs, hb, hl, hm, hmm, hx, hi⟩
  · simp at h1; exact ⟨_, _, _, h1⟩
  · simp at hcs; exact ⟨_, _, _, hcs⟩
theorem agg2_of {r : Reach} {b0 : Nat} {t : TypeId} {f0 f1 : Field} {v : Value} {d : DataW H} {p : List MemPlace} (hs : P.underlying t = some (.struct #[f0, f1])) (hone : oneCellFields P #[f0, f1] = true) (hC : P.cellsOf t = 2)
    (hv : Value.okWide P w r b0 t v) (h : DataW.Trod enc P w base spare held t v d p) :
    ∃ (v0 v1 : Value) (y0 y1 : DataW H × List MemPlace) (n : Nat), v = .agg #[v0, v1] ∧ d = .agg [y0.1, y1.1] ∧ p = y0.2 ++ y1.2 ∧
      DataW.trod enc P w base spare held n f0.type [v0] = some y0 ∧ DataW.trod enc P w base spare held n f1.type [v1] = some y1 := by
  obtain ⟨cs, rfl, hsz⟩ := okWide_struct hs hv
  obtain ⟨l⟩ := cs
  match l, hsz.trans hC with
  | [c0, c1], _ =>
    obtain ⟨fuel, hf⟩ := h
    obtain ⟨xs, n, _, hx, _, hlen, hg⟩ := DataW.trod_struct hs hf
    obtain ⟨o0, k0⟩ := hone_of hone 0 f0 rfl
    obtain ⟨o1, k1⟩ := hone_of hone 1 f1 rfl
    match xs, hlen with
    | [y0, y1], _ =>
      simp only [Prod.mk.injEq] at hx
      exact ⟨c0, c1, y0, y1, n, rfl, by simpa using hx.1, by simpa using hx.2, by simpa [Value.cells, o0, k0] using hg 0 f0 rfl, by simpa [Value.cells, o1, k1] using hg 1 f1 rfl⟩
theorem recs_arr2_of {t e ei : TypeId} {fuel len cap : Nat} {a : Option Addr} {x : DataW H × List MemPlace} (ht : P.underlying t = some (.slice e)) (he : P.underlying e = some (.array 2 ei)) (hei : P.underlying ei = some (.int .i64)) (hce : P.cellsOf ei = 1) (hC : P.cellsOf e = 2)
    (h : DataW.trod enc P w base spare held fuel t [.slice a len cap] = some x) : ∃ f, Recs 2 w a len f := by
  rcases open_slice ht h with ⟨h1, _⟩ | ⟨a', len', cap', m, n, D, Pl, hcs, hb, hl, hm, hmm, hx, hi⟩
  · simp at h1
    obtain ⟨rfl, rfl, rfl⟩ := h1
    exact ⟨fun _ _ => 0, by omega, .inl rfl⟩
  · simp at hcs
    obtain ⟨rfl, rfl, rfl⟩ := hcs
    have hlm : len ≤ m := by rw [hmm]; split <;> omega
    have key : ∀ i j, i < len → j < 2 → ∃ v, w.cell? (a'.add (i * 2 + j)) = some (.int .i64 v) ∧ (Lit.int .i64 v).wf = true := by
      intro i j hil hjk
      obtain ⟨cs', hc, ht'⟩ := hi i (by omega)
      rw [hC] at hc
      obtain ⟨_, hcl, hat⟩ := World.cells?_some hc
      match cs', hcl with
      | [c0, c1], _ =>
        obtain ⟨xs, m2, _, _, hl2, hxl, hi2⟩ := DataW.trod_array he ht'
        have h0 := hi2 0 (by omega)
        have h1 := hi2 1 (by omega)
        rw [hce, List.getElem?_eq_getElem (by omega)] at h0 h1
        obtain ⟨x0, e0, _, w0⟩ := DataW.trod_int hei h0
        obtain ⟨x1, e1, _, w1⟩ := DataW.trod_int hei h1
        simp at e0 e1
        subst e0 e1
        have a0 := hat 0 (by omega)
        have a1 := hat 1 (by omega)
        rw [Go.Deep.add_add] at a0 a1
        match j, hjk with
        | 0, _ => exact ⟨x0, a0, w0⟩
        | 1, _ => exact ⟨x1, a1, w1⟩
    have hm' : maxLen = 9223372036854775807 := rfl
    rcases Nat.eq_zero_or_pos len with h2 | h2
    · exact ⟨fun _ _ => 0, by omega, .inl h2⟩
    · obtain ⟨v0, h3, _⟩ := key 0 0 h2 (by omega)
      rw [Nat.zero_mul] at h3
      obtain ⟨b, o, rfl⟩ := spot_add h3
      refine ⟨fun i j => match w.cell? ⟨b, o + (i * 2 + j), none⟩ with | some (.int _ q) => q | _ => 0, by omega, .inr ⟨b, o, rfl, fun i hil j hj => ?_⟩⟩
      obtain ⟨v, h4, h5⟩ := key i j hil hj
      rw [add_at] at h4
      simp only [h4]
      exact ⟨trivial, h5⟩
end
end Go.Proofs.Ythflghdaejbdkaa
