/- Lemmas of this claim. -/
import Derived.Test.YthflghdaejbdkaaKOFam
import Derived.OwnWalk
import Derived.Test.YthflghdaejbdkaaKOModel
import Derived.Test.YthflghdaejbdkaaKBlockJ
import Derived.Laws.StructEq
import Derived.Test.YthflghdaejbdkaaKRBlockE
import Derived.Shelf.SlIterI.Nil
import Derived.Shelf.SortM.Plain
import Derived.Shelf.SortM.SortNone
import Derived.Test.YthflghdaejbdkaaProg
import Derived.Test.YthflghdaejbdkaaKObjG
import Derived.Lib.SlKeysI
namespace Go.Proofs.Ythflghdaejbdkaa
open Go.RowKit Go.Maps
set_option maxHeartbeats 12800000
set_option maxRecDepth 100000
set_option linter.unusedVariables false
theorem Hp.Ok.wfH {M : Hp} (hk : M.Ok) {k : Int} (h : (M.ob k).isSome = true) : wfI k := by
  obtain ⟨o, ho⟩ := Option.isSome_iff_exists.1 h
  have := hk.hr k o ho
  exact wfI_mk (by omega)
theorem gB_rep {n j : Nat} : gB (List.replicate n false) j = false := by
  unfold gB
  rw [List.getElem?_replicate]
  split <;> rfl
theorem gB_set {l : List Bool} {i j : Nat} {v : Bool} (hi : i < l.length) : gB (l.set i v) j = if j = i then v else gB l j := by
  unfold gB
  rw [List.getElem?_set]
  by_cases e : i = j
  · subst e; rw [if_pos rfl, if_pos hi, if_pos rfl]; rfl
  · rw [if_neg e, if_neg (Ne.symm e)]
section
variable {M : Hp} {i k : Nat} {o o2 : Th} {bits : List Bool}
end
theorem bits_cell {bits : List Bool} {a : Nat} (h : a < bits.length) : (bits.map Value.bool)[a]? = some (.bool (gB bits a)) := by
  rw [List.getElem?_map]
  unfold gB
  rw [List.getElem?_eq_getElem h]
  rfl
theorem mk_bools (n : Nat) (hn : n ≤ 1000) : ∃ C : Array Value, C.toList = (List.replicate n false).map Value.bool ∧ ∀ wx : World, (Instr.makeSlice 63 (.int .i64 (n : Int)) (.int .i64 (n : Int))).run Try.prog wx = .ok (.slice (some ⟨wx.heap.size, 0, none⟩) n n) (wx.alloc (.cells C 4)) := by
  obtain ⟨i0, hi0, hz0, hz1, hz2⟩ := info_parts infoBool
  refine ⟨madeCells (Value.bool false).cells (n * 1), by rw [made_bls, List.map_replicate], fun wx => ?_⟩
  rw [run_makeSlice (P := Try.prog) (w := wx) 63 4 i0 _ Try.underlying63 hi0 hz0 .i64 .i64 _ _ (by omega) (by omega) (by rw [hz1]; omega) (by rw [hz2]; omega) (by omega), hz1]
  rfl
end Go.Proofs.Ythflghdaejbdkaa
