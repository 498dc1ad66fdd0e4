/- The shelf's layings at this seat's program, in plain declarations: that the library's functions stand in this program as the shelf's contracts read them. -/
import Derived.Test.YtmgbodmpjholiaaProg
import Derived.Shelf.SlicesE.IndexFunc
import Derived.Shelf.SlicesG.Clone
namespace Go.Proofs.Ytmgbodmpjholiaa
open Go.Shelf Go.RowKit Go.Lib
def layContainsFunc_ren : Go.Shelf.Ren := ⟨fun | 8 => 52 | 6 => 61 | n => n, fun | 22 => 43 | 23 => 26 | 25 => 90 | 4 => 4 | 3 => 3 | 0 => 0 | n => n, fun | n => n⟩
theorem layContainsFunc : Go.Proofs.SlLaysH.n8 Try.prog layContainsFunc_ren := {
  mixed := by kernel_rfl,
  f6 := ⟨Try.f61.name, by decide, Try.func61.trans (congrArg some (by kernel_rfl))⟩,
  f8 := ⟨Try.f52.name, by decide, Try.func52.trans (congrArg some (by kernel_rfl))⟩,
  t0 := Try.underlying0,
  a0 := Try.isAgg0,
  z0 := Try.sizeOf0,
  v0 := Try.zeroValue0,
  t3 := Try.underlying3,
  a3 := Try.isAgg3,
  z3 := Try.sizeOf3,
  v3 := Try.zeroValue3,
  t4 := Try.underlying4,
  a4 := Try.isAgg4,
  z4 := Try.sizeOf4,
  v4 := Try.zeroValue4,
  t22 := Try.underlying43,
  a22 := Try.isAgg43,
  z22 := Try.sizeOf43,
  v22 := Try.zeroValue43,
  a23 := Try.isAgg26,
  z23 := Try.sizeOf26,
  t25 := Try.underlying90,
  a25 := Try.isAgg90,
  z25 := Try.sizeOf90,
  v25 := Try.zeroValue90
}
def layClone_ren : Go.Shelf.Ren := ⟨fun | 41 => 43 | n => n, fun | 22 => 43 | 23 => 26 | 4 => 4 | n => n, fun | n => n⟩
theorem layClone : Go.Proofs.SlLaysN.n41 Try.prog layClone_ren := {
  mixed := by kernel_rfl,
  f41 := ⟨Try.f43.name, by decide, Try.func43.trans (congrArg some (by kernel_rfl))⟩,
  t4 := Try.underlying4,
  a4 := Try.isAgg4,
  z4 := Try.sizeOf4,
  v4 := Try.zeroValue4,
  t22 := Try.underlying43,
  a22 := Try.isAgg43,
  z22 := Try.sizeOf43,
  v22 := Try.zeroValue43,
  t23 := Try.underlying26,
  a23 := Try.isAgg26,
  z23 := Try.sizeOf26,
  v23 := Try.zeroValue26,
  i23 := by kernel_rfl
}
end Go.Proofs.Ytmgbodmpjholiaa
