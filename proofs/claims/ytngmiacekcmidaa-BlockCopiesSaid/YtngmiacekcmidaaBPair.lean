/- Which page gives, which gets: the steps of the two searches. -/
import Derived.Test.YtngmiacekcmidaaLibB
import Derived.Test.YtngmiacekcmidaaBModelB
namespace Go.Proofs.Ytngmiacekcmidaa
open Go.RowKit

/-- A slot that holds a page's number or -1. -/
def IsO (v : Value) : Option Nat → Prop | none => v = .int .i64 (-1) | some f => v = .int .i64 (f : Int)

theorem frm_next {P : Pl} {c : Int} {k : Nat} {fr : Option Nat} (h : P.frm c k = fr) (hp : (P.pg k).partly c = false) : P.frm c (k + 1) = fr := by
  unfold Pl.frm
  rw [h]
  cases fr <;> simp [hp]
theorem frm_first {P : Pl} {c : Int} {k : Nat} (h : P.frm c k = none) (hp : (P.pg k).partly c = true) : P.frm c (k + 1) = some k := by
  unfold Pl.frm
  rw [h]
  simp [hp]
theorem frm_less {P : Pl} {c : Int} {k f : Nat} (h : P.frm c k = some f) (hp : (P.pg k).partly c = true) (hc : (P.pg k).count ≤ (P.pg f).count) : P.frm c (k + 1) = some k := by
  unfold Pl.frm
  rw [h]
  simp [hp, hc]
theorem frm_more {P : Pl} {c : Int} {k f : Nat} (h : P.frm c k = some f) (hc : ¬ (P.pg k).count ≤ (P.pg f).count) : P.frm c (k + 1) = some f := by
  unfold Pl.frm
  rw [h]
  simp [hc]
theorem too_same {P : Pl} {c : Int} {f t : Option Nat} {k : Nat} (h : P.too c f k = t) (hk : some k = f) : P.too c f (k + 1) = t := by
  unfold Pl.too
  rw [h]
  cases t <;> simp [hk]
theorem too_next {P : Pl} {c : Int} {f t : Option Nat} {k : Nat} (h : P.too c f k = t) (hp : (P.pg k).partly c = false) : P.too c f (k + 1) = t := by
  unfold Pl.too
  rw [h]
  cases t <;> simp [hp]
theorem too_first {P : Pl} {c : Int} {f : Option Nat} {k : Nat} (h : P.too c f k = none) (hk : some k ≠ f) (hp : (P.pg k).partly c = true) : P.too c f (k + 1) = some k := by
  unfold Pl.too
  rw [h]
  simp [hp, hk]
theorem too_more {P : Pl} {c : Int} {f : Option Nat} {k t : Nat} (h : P.too c f k = some t) (hk : some k ≠ f) (hp : (P.pg k).partly c = true) (hc : (P.pg t).count < (P.pg k).count) : P.too c f (k + 1) = some k := by
  unfold Pl.too
  rw [h]
  simp [hp, hk, hc]
theorem too_less {P : Pl} {c : Int} {f : Option Nat} {k t : Nat} (h : P.too c f k = some t) (hc : ¬ (P.pg t).count < (P.pg k).count) : P.too c f (k + 1) = some t := by
  unfold Pl.too
  rw [h]
  simp [hc]

end Go.Proofs.Ytngmiacekcmidaa
