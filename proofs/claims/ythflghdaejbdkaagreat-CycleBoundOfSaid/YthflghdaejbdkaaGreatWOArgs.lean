/- Lemmas of this claim. -/
import Derived.Test.YthflghdaejbdkaaGreatWRObj
import Derived.Deep.AppendLies
import Derived.Deep.Upon
import Derived.Test.YthflghdaejbdkaaGreatWLib
import Derived.Test.YthflghdaejbdkaaGreatWInts
import Derived.Test.YthflghdaejbdkaaGreatWBPlainC
import Derived.Test.YthflghdaejbdkaaGreatWArgs
import Derived.Test.YthflghdaejbdkaaGreatWOMaps
import Derived.Lib.SmallJoins
namespace Go.Proofs.YthflghdaejbdkaaGreat
open Go.RowKit Go.Maps
set_option maxHeartbeats 3200000
set_option maxRecDepth 100000
set_option linter.unusedVariables false
section
variable {L : Nat → Option Gb} {hb : Nat} {X : GX} {P : Pl} {ob : Int → Option Th}
end
end Go.Proofs.YthflghdaejbdkaaGreat
namespace Go.Proofs.YthflghdaejbdkaaGreat
open Go.RowKit Go.Maps
set_option maxHeartbeats 1600000
set_option maxRecDepth 100000
set_option linter.unusedVariables false
def GDid (w : World) (L : Nat → Option Gb) (hb : Nat) (r : Value) (M' : Hp) (e : Ending) (w' : World) : Prop :=
  e = .returned r ∧ ∃ L' X', GRep w' L' hb M' X' ∧ (∀ k, L' k ≠ none → L k ≠ none ∨ w.heap.size ≤ k) ∧ OnlyP (fun k => L k ≠ none) w w'
section
variable {w w' : World} {L L' : Nat → Option Gb} {hb : Nat} {M : Hp} {X X' : GX} {P : Pl} {ob ob' : Int → Option Th}
theorem GDid.none0 {r : Value} (h : GRep w L hb M X) (ho : Only [] w w') : GDid w L hb r M (.returned r) w' :=
  ⟨rfl, L, X, h.only0 ho, fun k hk => .inl hk, ho.toP0⟩
theorem GDid.of {w0 : World} {r : Value} (ho : OnlyP (fun k => L k ≠ none) w0 w') (h : GRep w' L' hb M X) (hL : ∀ k, L' k ≠ none → L k ≠ none ∨ w0.heap.size ≤ k) : GDid w0 L hb r M (.returned r) w' := ⟨rfl, L', X, h, hL, ho⟩
end
end Go.Proofs.YthflghdaejbdkaaGreat
namespace Go.Proofs.YthflghdaejbdkaaGreat
open Go.RowKit Go.Maps
set_option maxHeartbeats 6400000
set_option maxRecDepth 100000
set_option linter.unusedVariables false
section
variable {w0 : World} {L : Nat → Option Gb} {hb : Nat} {M : Hp} {X : GX}
end
end Go.Proofs.YthflghdaejbdkaaGreat
namespace Go.Proofs.YthflghdaejbdkaaGreat
open Go.RowKit Go.Maps
set_option maxHeartbeats 6400000
set_option maxRecDepth 100000
set_option linter.unusedVariables false
section
variable {L : Nat → Option Gb} {hb : Nat} {M : Hp} {X : GX}
theorem Hp.refs_len {M : Hp} (hk : M.Ok) (k : Int) : (M.refs k).1.length ≤ 48 := by
  unfold Hp.refs
  cases ho : M.ob k with
  | none => simp
  | some o => have := o.refsN_len o.slots.length; have := (hk.th k o ho).le; simp only [Th.refsL]; omega
end
end Go.Proofs.YthflghdaejbdkaaGreat
namespace Go.Proofs.YthflghdaejbdkaaGreat
open Go.RowKit Go.Maps
set_option maxHeartbeats 6400000
set_option maxRecDepth 100000
set_option linter.unusedVariables false
theorem GRep.start {w' : World} {hb og q k c l v T T2 : Nat} {P : Pl} {cs : List Value} (hp : RRep w' q k c l P) (hr : Row w' hb T [.slice (some ⟨og, 0, none⟩) 193 193, .pointer (some ⟨q, 0, none⟩)]) (ho : Row w' og T2 cs)
    (hc : ∀ i : Nat, i < 193 → ∀ j, j < 5 → cs[i * 5 + j]? = some (gFld none (.slice none 0 0) (.slice none 0 0) (.slice none 0 0) j))
    (h1 : v ≤ q ∧ v ≤ k ∧ v ≤ c ∧ v ≤ l ∧ v ≤ og ∧ v ≤ hb) (d1 : q ≠ og ∧ k ≠ og ∧ c ≠ og ∧ l ≠ og ∧ q ≠ hb ∧ k ≠ hb ∧ c ≠ hb ∧ l ≠ hb ∧ og ≠ hb) :
    ∃ L' X', GRep w' L' hb ⟨P, fun _ => none⟩ X' ∧ (∀ k, L' k ≠ none → v ≤ k) := by
  obtain ⟨n1, n2, n3, n4, n5, n6⟩ := hp.ne
  obtain ⟨_, _, _, _, _, _, _, _, _, f1, f2, f3, f4⟩ := hp.facts
  obtain ⟨e1, e2, e3, e4, e5, e6, e7, e8, e9⟩ := d1
  have hl1 := hr.lt
  have hl2 := ho.lt
  obtain ⟨L', hL'⟩ : ∃ L' : Nat → Option Gb, L' = fun j => if j = hb then some .mem else if j = og then some .objs else if j = q then some .pq else if j = k then some .pk else if j = c then some .pc else if j = l then some .pl else none := ⟨_, rfl⟩
  have hin : ∀ j, L' j ≠ none → j = hb ∨ j = og ∨ j = q ∨ j = k ∨ j = c ∨ j = l := fun j hj => by
    rw [hL'] at hj
    simp only at hj
    by_cases a1 : j = hb
    · exact .inl a1
    · by_cases a2 : j = og
      · exact .inr (.inl a2)
      · by_cases a3 : j = q
        · exact .inr (.inr (.inl a3))
        · by_cases a4 : j = k
          · exact .inr (.inr (.inr (.inl a4)))
          · by_cases a5 : j = c
            · exact .inr (.inr (.inr (.inr (.inl a5))))
            · by_cases a6 : j = l
              · exact .inr (.inr (.inr (.inr (.inr a6))))
              · simp [a1, a2, a3, a4, a5, a6] at hj
  refine ⟨L', ⟨q, k, c, l, og, 193, fun _ => .slice none 0 0, fun _ => .slice none 0 0, fun _ => .slice none 0 0⟩, ⟨fun j hj => ?_, ⟨T, hr⟩, by rw [hL']; simp, hp, by rw [hL']; simp [*], by rw [hL']; simp [*, Ne.symm n1], by rw [hL']; simp [*, Ne.symm n2, Ne.symm n4], by rw [hL']; simp [*, Ne.symm n3, Ne.symm n5, Ne.symm n6], ⟨T2, cs, ho, hc⟩, by rw [hL']; simp [*], fun h o hk => by cases hk⟩, fun j hj => ?_⟩
  · rcases hin j hj with rfl | rfl | rfl | rfl | rfl | rfl <;> assumption
  · rcases hin j hj with rfl | rfl | rfl | rfl | rfl | rfl <;> omega
end Go.Proofs.YthflghdaejbdkaaGreat
namespace Go.Proofs.YthflghdaejbdkaaGreat
open Go.RowKit Go.Maps
set_option maxHeartbeats 3200000
set_option maxRecDepth 100000
set_option linter.unusedVariables false
theorem Only.bel {w w' : World} (h : Only [] w w') : Below w.heap.size w w' := h.below (Nat.le_refl _) (by simp)
end Go.Proofs.YthflghdaejbdkaaGreat
namespace Go.Proofs.YthflghdaejbdkaaGreat
open Go.Joins Go.ChangeShapes Go.WideShapes Go.Deep Go.RowKit
set_option linter.unusedVariables false
structure OpR where
  d : Int
  a : Int
  b : Int
  c : Int
  g : Option Addr
  n : Nat
  k : Nat
  l : List Bool
structure BCap (w : World) (g : Option Addr) (n k : Nat) (l : List Bool) : Prop where
  len : l.length = n
  cap : n ≤ k
  max : n ≤ 9223372036854775807
  rd : n = 0 ∨ ∃ b o, g = some ⟨b, o, none⟩ ∧ ∀ i, i < n → w.cell? ⟨b, o + i, none⟩ = some (.bool (gB l i))
  nl : g = none → n = 0 ∧ k = 0
structure OpAt (w : World) (b o : Nat) (r : OpR) : Prop where
  c0 : w.cell? ⟨b, o, none⟩ = some (.int .i64 r.d)
  c1 : w.cell? ⟨b, o + 1, none⟩ = some (.int .i64 r.a)
  c2 : w.cell? ⟨b, o + 2, none⟩ = some (.int .i64 r.b)
  c3 : w.cell? ⟨b, o + 3, none⟩ = some (.int .i64 r.c)
  c4 : w.cell? ⟨b, o + 4, none⟩ = some (.slice r.g r.n r.k)
  wa : (Lit.int .i64 r.a).wf = true
  wb : (Lit.int .i64 r.b).wf = true
  wc : (Lit.int .i64 r.c).wf = true
  ba : BCap w r.g r.n r.k r.l
def Ops (w : World) (a : Option Addr) (len : Nat) (f : Nat → OpR) : Prop :=
  len ≤ 9223372036854775807 ∧ (len = 0 ∨ ∃ b o, a = some ⟨b, o, none⟩ ∧ ∀ i, i < len → OpAt w b (o + i * 5) (f i))
theorem BCap.only {w w' : World} {g : Option Addr} {n k : Nat} {l : List Bool} (h : BCap w g n k l) (ho : Only [] w w') : BCap w' g n k l :=
  ⟨h.len, h.cap, h.max, h.rd.imp id fun ⟨b, o, e, hc⟩ => ⟨b, o, e, fun i hi => ho.cell (hc i hi) (by simp)⟩, h.nl⟩
theorem OpAt.only {w w' : World} {b o : Nat} {r : OpR} (h : OpAt w b o r) (ho : Only [] w w') : OpAt w' b o r :=
  ⟨ho.cell h.c0 (by simp), ho.cell h.c1 (by simp), ho.cell h.c2 (by simp), ho.cell h.c3 (by simp), ho.cell h.c4 (by simp), h.wa, h.wb, h.wc, h.ba.only ho⟩
theorem BCap.read {w : World} {g : Option Addr} {n k : Nat} {l : List Bool} (h : BCap w g n k l) : BRead w (.slice g n k) l := by
  rcases h.rd with h0 | ⟨b, o, rfl, hc⟩
  · subst h0; exact .inr ⟨g, k, rfl, List.eq_nil_of_length_eq_zero h.len⟩
  · exact .inl ⟨b, o, k, by rw [h.len], fun i hi => hc i (by rw [← h.len]; exact hi)⟩
section
variable {H : Type} {enc : TypeId × Value → H} {P : Program} {w : World} {base : Nat} {spare : Nat → Bool} {held : Bool}
end
end Go.Proofs.YthflghdaejbdkaaGreat
