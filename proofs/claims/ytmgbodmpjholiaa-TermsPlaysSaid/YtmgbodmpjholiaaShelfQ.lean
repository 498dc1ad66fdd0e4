/- The shelf's layings at this seat's program, in plain declarations: that the library's functions stand in this program as the shelf's contracts read them. -/
import Derived.Test.YtmgbodmpjholiaaProg
import Derived.Shelf.SlMaps.Clone
namespace Go.Proofs.Ytmgbodmpjholiaa
open Go.Shelf Go.RowKit
def layCloneK_ren : Go.Shelf.Ren := ⟨fun | 5 => 45 | 7 => 59 | n => n, fun | 23 => 60 | 25 => 79 | 3 => 26 | 4 => 4 | 20 => 20 | n => n, fun | n => n⟩
theorem layCloneK : Go.Proofs.SlLaysW.n5 Try.prog layCloneK_ren := {
  mixed := by kernel_rfl,
  f5 := ⟨Try.f45.name, by decide, Try.func45.trans (congrArg some (by kernel_rfl))⟩,
  f7 := Try.func59.trans (congrArg some (by kernel_rfl)),
  t4 := Try.underlying4,
  a4 := Try.isAgg4,
  z4 := Try.sizeOf4,
  v4 := Try.zeroValue4,
  t20 := Try.underlying20,
  a20 := Try.isAgg20,
  z20 := Try.sizeOf20,
  v20 := Try.zeroValue20,
  t23 := Try.underlying60,
  a23 := Try.isAgg60,
  z23 := Try.sizeOf60,
  v23 := Try.zeroValue60
}
def layCloneC_ren : Go.Shelf.Ren := ⟨fun | 5 => 46 | 7 => 59 | n => n, fun | 23 => 61 | 25 => 82 | 3 => 3 | 4 => 4 | 20 => 20 | n => n, fun | n => n⟩
theorem layCloneC : Go.Proofs.SlLaysW.n5 Try.prog layCloneC_ren := {
  mixed := by kernel_rfl,
  f5 := ⟨Try.f46.name, by decide, Try.func46.trans (congrArg some (by kernel_rfl))⟩,
  f7 := Try.func59.trans (congrArg some (by kernel_rfl)),
  t4 := Try.underlying4,
  a4 := Try.isAgg4,
  z4 := Try.sizeOf4,
  v4 := Try.zeroValue4,
  t20 := Try.underlying20,
  a20 := Try.isAgg20,
  z20 := Try.sizeOf20,
  v20 := Try.zeroValue20,
  t23 := Try.underlying61,
  a23 := Try.isAgg61,
  z23 := Try.sizeOf61,
  v23 := Try.zeroValue61
}
end Go.Proofs.Ytmgbodmpjholiaa
