/- Lemmas of this claim. -/
import Derived.Deep.Slices
import Derived.Deep.Fields
import Derived.ChangeSame
import Derived.ProofKit
import Derived.OpenShut
namespace Go.Proofs.YthflghdaejbdkaaGreat
open Go.ChangeShapes Go.WideShapes Go.Deep
def Recs (k : Nat) (w : World) (a : Option Addr) (len : Nat) (f : Nat → Nat → Int) : Prop :=
  len ≤ 9223372036854775807 ∧ (len = 0 ∨ ∃ b o, a = some ⟨b, o, none⟩ ∧ ∀ i, i < len → ∀ j, j < k → w.cell? ⟨b, o + (i * k + j), none⟩ = some (.int .i64 (f i j)) ∧ (Lit.int .i64 (f i j)).wf = true)
def Nums (w : World) (a : Option Addr) (len : Nat) (f : Nat → Int) : Prop :=
  len ≤ 9223372036854775807 ∧ (len = 0 ∨ ∃ b o, a = some ⟨b, o, none⟩ ∧ ∀ i, i < len → w.cell? ⟨b, o + i, none⟩ = some (.int .i64 (f i)) ∧ (Lit.int .i64 (f i)).wf = true)
theorem spot_add {w : World} {a : Addr} {v : Value} (h : w.cell? (a.add 0) = some v) : ∃ b o, a = ⟨b, o, none⟩ := by
  obtain ⟨b, o, s⟩ := a
  have := World.cell?_spot h
  simp [Addr.add] at this
  exact ⟨b, o, by rw [this]⟩
theorem add_at (b o n : Nat) : (⟨b, o, none⟩ : Addr).add n = ⟨b, o + n, none⟩ := by unfold Addr.add; split <;> simp_all
section
variable {H : Type} {enc : TypeId × Value → H} {P : Program} {w : World} {base : Nat} {spare : Nat → Bool} {held : Bool}
theorem recs_of {t e : TypeId} {fs : Array Field} {fuel len cap : Nat} {a : Option Addr} {x : DataW H × List MemPlace} (k : Nat) (ht : P.underlying t = some (.slice e)) (he : P.underlying e = some (.struct fs))
    (hk : fs.size = k) (h0 : 0 < k) (hone : oneCellFields P fs = true) (hC : P.cellsOf e = fs.size) (hint : ∀ (j : Nat) (f : Field), fs[j]? = some f → P.underlying f.type = some (.int .i64))
    (h : DataW.trod enc P w base spare held fuel t [.slice a len cap] = some x) : ∃ f, Recs k w a len f := by
  rcases open_slice ht h with ⟨h1, _⟩ | ⟨a', len', cap', m, n, D, Pl, hcs, hb, hl, hm, hmm, hx, hi⟩
  · simp at h1
    obtain ⟨rfl, rfl, rfl⟩ := h1
    exact ⟨fun _ _ => 0, by omega, .inl rfl⟩
  · simp at hcs
    obtain ⟨rfl, rfl, rfl⟩ := hcs
    have hlm : len ≤ m := by rw [hmm]; split <;> omega
    have key : ∀ i j, i < len → j < k → ∃ v, w.cell? (a'.add (i * k + j)) = some (.int .i64 v) ∧ (Lit.int .i64 v).wf = true := by
      intro i j hil hjk
      obtain ⟨cs', hc, ht'⟩ := hi i (by omega)
      rw [hC, hk] at hc
      obtain ⟨ys, n', hn', hy, hlen, hyl, hf⟩ := DataW.trod_struct he ht'
      obtain ⟨_, hcl, hat⟩ := World.cells?_some hc
      have hj : fs[j]? = some fs[j] := Array.getElem?_eq_getElem (by omega)
      obtain ⟨ho, hkk⟩ := hone_of hone j _ hj
      have hcell := hat j hjk
      have h1 := hf j _ hj
      rw [ho, hkk] at h1
      have hone' : (cs'.drop j).take 1 = [cs'[j]'(by omega)] := by
        rw [List.drop_eq_getElem_cons (by omega)]
        rfl
      rw [hone'] at h1
      have hys : ys[j]? = some (ys[j]'(by omega)) := List.getElem?_eq_getElem (by omega)
      obtain ⟨v, hv1, _, hv3⟩ := DataW.trod_int (hint j _ hj) (h1.trans hys)
      simp at hv1
      refine ⟨v, ?_, hv3⟩
      rw [← Go.Deep.add_add, hcell, List.getElem?_eq_getElem (by omega), hv1]
    have hm' : maxLen = 9223372036854775807 := rfl
    rcases Nat.eq_zero_or_pos len with h2 | h2
    · exact ⟨fun _ _ => 0, by omega, .inl h2⟩
    · obtain ⟨v0, h3, _⟩ := key 0 0 h2 h0
      rw [Nat.zero_mul] at h3
      obtain ⟨b, o, rfl⟩ := spot_add h3
      refine ⟨fun i j => match w.cell? ⟨b, o + (i * k + j), none⟩ with | some (.int _ q) => q | _ => 0, by omega, .inr ⟨b, o, rfl, fun i hil j hj => ?_⟩⟩
      obtain ⟨v, h4, h5⟩ := key i j hil hj
      rw [add_at] at h4
      simp only [h4]
      exact ⟨trivial, h5⟩
theorem nums_of {t e : TypeId} {fuel len cap : Nat} {a : Option Addr} {x : DataW H × List MemPlace} (ht : P.underlying t = some (.slice e)) (he : P.underlying e = some (.int .i64)) (hc : P.cellsOf e = 1)
    (h : DataW.trod enc P w base spare held fuel t [.slice a len cap] = some x) : ∃ f, Nums w a len f := by
  rcases open_ints ht he hc h with ⟨h1, _⟩ | ⟨a', len', cap', zs, hcs, hb, hl, hm, hz, hx, hcell, hwz⟩
  · simp at h1
    obtain ⟨rfl, rfl, rfl⟩ := h1
    exact ⟨fun _ => 0, by omega, .inl rfl⟩
  · simp at hcs
    obtain ⟨rfl, rfl, rfl⟩ := hcs
    have hm' : maxLen = 9223372036854775807 := rfl
    have hzl : len ≤ zs.length := by rw [hz]; split <;> omega
    rcases Nat.eq_zero_or_pos len with h2 | h2
    · exact ⟨fun _ => 0, by omega, .inl h2⟩
    · obtain ⟨b, o, rfl⟩ := spot_add (hcell 0 (by omega))
      refine ⟨fun i => zs.getD i 0, by omega, .inr ⟨b, o, rfl, fun i hil => ?_⟩⟩
      have h4 := hcell i (by omega)
      rw [add_at] at h4
      refine ⟨h4, hwz _ ?_⟩
      show zs.getD i 0 ∈ zs
      rw [List.getD_eq_getElem?_getD, List.getElem?_eq_getElem (by omega)]
      exact List.getElem_mem _
end
end Go.Proofs.YthflghdaejbdkaaGreat
