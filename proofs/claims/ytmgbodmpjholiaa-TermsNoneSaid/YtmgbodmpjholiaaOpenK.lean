/- How the struct types of this seat's laws are read as data. -/
import Derived.Test.YtmgbodmpjholiaaOpen
import Derived.Test.YtmgbodmpjholiaaHkx0
import Derived.KernelRfl
namespace Go.Proofs.Ytmgbodmpjholiaa.Open
open Go.ChangeShapes Go.WideShapes Go.RowKit Go.Proofs.Ytmgbodmpjholiaa.Hk Go.Proofs.YtmgbodmpjholiaaW.PrintWords Go.Proofs.YtmgbodmpjholiaaW.PrintLast Go.Proofs.YtmgbodmpjholiaaW.PrintMore
theorem opens_string {P : Program} {t : TypeId} (ht : P.underlying t = some .string) : Opens P t Kd.string (fun s => s.size ≤ maxLen) := by
  intro H enc W fuel cs x h
  obtain ⟨s, rfl, _, hw⟩ := DataW.trod_string ht h
  exact ⟨s, rfl, hw⟩
end Go.Proofs.Ytmgbodmpjholiaa.Open
