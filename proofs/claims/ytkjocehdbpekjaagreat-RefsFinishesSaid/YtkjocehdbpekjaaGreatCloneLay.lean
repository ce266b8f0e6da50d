/- The library's contract of maps.Clone, laid at this program. -/
import Derived.Shelf.SlMaps.Clone
import Derived.Test.YtkjocehdbpekjaaGreatProg
namespace Go.Proofs.YtkjocehdbpekjaaGreat
open Go.RowKit Go.Maps Go.Shelf
def Tryz.cloneC_ren : Go.Shelf.Ren := ⟨fun | 5 => 116 | 7 => 141 | n => n, fun | 23 => 118 | 25 => 3 | 3 => 3 | 4 => 4 | 20 => 20 | n => n, fun | n => n⟩
theorem Tryz.cloneC : Go.Proofs.SlLaysW.n5 Tryz.prog Tryz.cloneC_ren := {
  mixed := by kernel_rfl,
  f5 := ⟨Tryz.f116.name, by decide, Tryz.func116.trans (congrArg some (by kernel_rfl))⟩,
  f7 := Tryz.func141.trans (congrArg some (by kernel_rfl)),
  t4 := Tryz.underlying4,
  a4 := Tryz.isAgg4,
  z4 := Tryz.sizeOf4,
  v4 := Tryz.zeroValue4,
  t20 := Tryz.underlying20,
  a20 := Tryz.isAgg20,
  z20 := Tryz.sizeOf20,
  v20 := Tryz.zeroValue20,
  t23 := Tryz.underlying118,
  a23 := Tryz.isAgg118,
  z23 := Tryz.sizeOf118,
  v23 := Tryz.zeroValue118 }
def Tryz.cloneB_ren : Go.Shelf.Ren := ⟨fun | 5 => 75 | 7 => 141 | n => n, fun | 23 => 94 | 25 => 3 | 3 => 4 | 4 => 4 | 20 => 20 | n => n, fun | n => n⟩
theorem Tryz.cloneB : Go.Proofs.SlLaysW.n5 Tryz.prog Tryz.cloneB_ren := {
  mixed := by kernel_rfl,
  f5 := ⟨Tryz.f75.name, by decide, Tryz.func75.trans (congrArg some (by kernel_rfl))⟩,
  f7 := Tryz.func141.trans (congrArg some (by kernel_rfl)),
  t4 := Tryz.underlying4,
  a4 := Tryz.isAgg4,
  z4 := Tryz.sizeOf4,
  v4 := Tryz.zeroValue4,
  t20 := Tryz.underlying20,
  a20 := Tryz.isAgg20,
  z20 := Tryz.sizeOf20,
  v20 := Tryz.zeroValue20,
  t23 := Tryz.underlying94,
  a23 := Tryz.isAgg94,
  z23 := Tryz.sizeOf94,
  v23 := Tryz.zeroValue94 }
end Go.Proofs.YtkjocehdbpekjaaGreat
