/- Contracts of package object: Alike's function. Contracts of package object: Alike. Contracts of package object: Alike, whole. -/
import Derived.Test.YtkjocehdbpekjaaObjG
namespace Go.Proofs.Ytkjocehdbpekjaa
open Go.RowKit Go.Maps
set_option maxHeartbeats 3200000
set_option maxRecDepth 100000
set_option linter.unusedVariables false
/-- Two things show the same. -/
def likeT (o o2 : Th) : Bool := decide (o.kind = o2.kind) && decide (o.cls = o2.cls) && decide (o.rlist = o2.rlist) && decide (o.slots = o2.slots)
section
variable {L L2 : Nat → Option Lb} {hb hb2 : Nat} {M M2 : Hp} {X X2 : HX}
end
end Go.Proofs.Ytkjocehdbpekjaa
namespace Go.Proofs.Ytkjocehdbpekjaa
open Go.RowKit Go.Maps
set_option maxHeartbeats 3200000
set_option maxRecDepth 100000
set_option linter.unusedVariables false
/-- Two heaps show the same things. -/
def AlikeM (M M2 : Hp) : Prop := ∀ k, wfI k → (M.ob k).isSome = (M2.ob k).isSome ∧ ∀ o o2, M.ob k = some o → M2.ob k = some o2 → likeT o o2 = true
/-- .. at one handle. -/
def likeAt (M M2 : Hp) (k : Int) : Bool := match M.ob k, M2.ob k with | some o, some o2 => likeT o o2 | _, _ => true
section
variable {L L2 : Nat → Option Lb} {hb hb2 : Nat} {M M2 : Hp} {X X2 : HX}
end
end Go.Proofs.Ytkjocehdbpekjaa
namespace Go.Proofs.Ytkjocehdbpekjaa
open Go.RowKit Go.Maps
set_option maxHeartbeats 3200000
set_option maxRecDepth 100000
set_option linter.unusedVariables false
theorem HNope.only {w w' : World} {v : Value} (h : HNope w v) (ho : Only [] w w') : HNope w' v := by
  rcases h with h | ⟨b, h1, h2⟩
  · exact .inl h
  · exact .inr ⟨b, h1, ho.cellN h2⟩
theorem two_box (w : World) (v v2 : Value) : ((w.alloc (.cells #[v] 31)).alloc (.cells #[v2] 31)).cell? ⟨w.heap.size, 0, none⟩ = some v ∧ ((w.alloc (.cells #[v] 31)).alloc (.cells #[v2] 31)).cell? ⟨w.heap.size + 1, 0, none⟩ = some v2 ∧ Only [] w ((w.alloc (.cells #[v] 31)).alloc (.cells #[v2] 31)) := by
  refine ⟨?_, ?_, ((Only.refl [] w).alloc _).alloc _⟩
  · exact ((Row.new w 31 [v]).alloc _).cell 0 rfl
  · have := Row.new (w.alloc (.cells #[v] 31)) 31 [v2]
    rw [World.size_alloc] at this
    exact this.cell 0 rfl
section
variable {L L2 : Nat → Option Lb} {hb hb2 : Nat} {M M2 : Hp} {X X2 : HX}
end
end Go.Proofs.Ytkjocehdbpekjaa
