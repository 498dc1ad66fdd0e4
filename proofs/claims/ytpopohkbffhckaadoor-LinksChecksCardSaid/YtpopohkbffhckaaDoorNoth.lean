/- The package's variable 'nothing', out of the row's list. -/
import Derived.Test.YtpopohkbffhckaaDoorCards
import Derived.Test.YtpopohkbffhckaaDoorTie
import Derived.Test.YtpopohkbffhckaaDoorLkBase
import Derived.Lib.LaidTab
import Derived.KernelRfl
namespace Go.Proofs.YtpopohkbffhckaaDoor.KL
open Go.RowKit
theorem gNoth : Tryd.prog.globalNamed "jurist/links.nothing" = some 0 := by kernel_rfl
theorem gNothType : (Tryd.prog.globals[0]?).map (·.type) = some 54 := by kernel_rfl
theorem cellsPair : Tryd.prog.cellsOf 54 = 2 := by kernel_rfl
theorem cellsInt : Tryd.prog.cellsOf 3 = 1 := by kernel_rfl
theorem noth_of {W : World} (h : laidMetH Tryd.prog [("jurist/links.nothing", Rows.laid_jurist_links_nothing)] W) : Noth W := by
  have t : Lib.TabIs Tryd.prog W "jurist/links.nothing" .i64 [-1, -1] := Lib.tabIs_of_head (rest := []) gNoth gNothType Tryd.underlying54 Tryd.underlying3 cellsInt cellsPair h
  exact ⟨t.cell gNoth 0 (by decide), t.cell gNoth 1 (by decide)⟩
/-- A world for the witness: the variable's block holds what its initialiser lays. -/
noncomputable def laidWorld (os : Os) : World :=
  { World.holding Tryd.prog os ⟨#[], #[], []⟩ with heap := (World.holding Tryd.prog os ⟨#[], #[], []⟩).heap.modify 0 fun
      | .cells _ t frozen => .cells #[.int .i64 (-1), .int .i64 (-1)] t frozen
      | o => o }
end Go.Proofs.YtpopohkbffhckaaDoor.KL
