/- The library's contract of maps.Clone, laid at this program. -/
import Derived.Shelf.SlMaps.Clone
import Derived.Test.YthflghdaejbdkaaGreatProg
namespace Go.Proofs.YthflghdaejbdkaaGreat
open Go.RowKit Go.Maps Go.Shelf
def Tryz.cloneC_ren : Go.Shelf.Ren := ⟨fun | 5 => 186 | 7 => 231 | n => n, fun | 23 => 127 | 25 => 3 | 3 => 3 | 4 => 4 | 20 => 20 | n => n, fun | n => n⟩
theorem Tryz.cloneC : Go.Proofs.SlLaysW.n5 Tryz.prog Tryz.cloneC_ren := {
  mixed := by kernel_rfl,
  f5 := ⟨Tryz.f186.name, by decide, Tryz.func186.trans (congrArg some (by kernel_rfl))⟩,
  f7 := Tryz.func231.trans (congrArg some (by kernel_rfl)),
  t4 := Tryz.underlying4,
  a4 := Tryz.isAgg4,
  z4 := Tryz.sizeOf4,
  v4 := Tryz.zeroValue4,
  t20 := Tryz.underlying20,
  a20 := Tryz.isAgg20,
  z20 := Tryz.sizeOf20,
  v20 := Tryz.zeroValue20,
  t23 := Tryz.underlying127,
  a23 := Tryz.isAgg127,
  z23 := Tryz.sizeOf127,
  v23 := Tryz.zeroValue127 }
def Tryz.cloneB_ren : Go.Shelf.Ren := ⟨fun | 5 => 188 | 7 => 231 | n => n, fun | 23 => 114 | 25 => 3 | 3 => 4 | 4 => 4 | 20 => 20 | n => n, fun | n => n⟩
theorem Tryz.cloneB : Go.Proofs.SlLaysW.n5 Tryz.prog Tryz.cloneB_ren := {
  mixed := by kernel_rfl,
  f5 := ⟨Tryz.f188.name, by decide, Tryz.func188.trans (congrArg some (by kernel_rfl))⟩,
  f7 := Tryz.func231.trans (congrArg some (by kernel_rfl)),
  t4 := Tryz.underlying4,
  a4 := Tryz.isAgg4,
  z4 := Tryz.sizeOf4,
  v4 := Tryz.zeroValue4,
  t20 := Tryz.underlying20,
  a20 := Tryz.isAgg20,
  z20 := Tryz.sizeOf20,
  v20 := Tryz.zeroValue20,
  t23 := Tryz.underlying114,
  a23 := Tryz.isAgg114,
  z23 := Tryz.sizeOf114,
  v23 := Tryz.zeroValue114 }
end Go.Proofs.YthflghdaejbdkaaGreat
