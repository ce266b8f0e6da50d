/- The library's contract of maps.Clone, laid at this program. -/
import Derived.Shelf.SlMaps.Clone
import Derived.Test.YthflghdaejbdkaaGreatProg
namespace Go.Proofs.YthflghdaejbdkaaGreat
open Go.RowKit Go.Maps Go.Shelf
def Tryz.cloneC_ren : Go.Shelf.Ren := ⟨fun | 5 => 186 | 7 => 231 | n => n, fun | 23 => 127 | 25 => 3 | 3 => 3 | 4 => 4 | 20 => 20 | n => n, fun | n => n⟩
theorem Tryz.cloneC : Go.Proofs.SlLaysW.n5 Tryz.prog Tryz.cloneC_ren :=⟨(by kernel_rfl),⟨Tryz.f186.name, by decide, Tryz.func186.trans (congrArg some (by kernel_rfl))⟩,Tryz.func231.trans (congrArg some (by kernel_rfl)),Tryz.underlying4,Tryz.isAgg4,Tryz.sizeOf4,Tryz.zeroValue4,Tryz.underlying20,Tryz.isAgg20,Tryz.sizeOf20,Tryz.zeroValue20,Tryz.underlying127,Tryz.isAgg127,Tryz.sizeOf127,Tryz.zeroValue127⟩
def Tryz.cloneB_ren : Go.Shelf.Ren := ⟨fun | 5 => 188 | 7 => 231 | n => n, fun | 23 => 114 | 25 => 3 | 3 => 4 | 4 => 4 | 20 => 20 | n => n, fun | n => n⟩
theorem Tryz.cloneB : Go.Proofs.SlLaysW.n5 Tryz.prog Tryz.cloneB_ren :=⟨(by kernel_rfl),⟨Tryz.f188.name, by decide, Tryz.func188.trans (congrArg some (by kernel_rfl))⟩,Tryz.func231.trans (congrArg some (by kernel_rfl)),Tryz.underlying4,Tryz.isAgg4,Tryz.sizeOf4,Tryz.zeroValue4,Tryz.underlying20,Tryz.isAgg20,Tryz.sizeOf20,Tryz.zeroValue20,Tryz.underlying114,Tryz.isAgg114,Tryz.sizeOf114,Tryz.zeroValue114⟩
end Go.Proofs.YthflghdaejbdkaaGreat
