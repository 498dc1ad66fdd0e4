/- How the struct types of this seat's laws are read as data. -/
import Derived.Test.YtiajmgmidfinfaaOpen
import Derived.Test.YtiajmgmidfinfaaHkx0
import Derived.KernelRfl
namespace Go.Proofs.Ytiajmgmidfinfaa.Open
open Go.ChangeShapes Go.WideShapes Go.RowKit Go.Proofs.Ytiajmgmidfinfaa.Hk Go.Proofs.YtiajmgmidfinfaaW.PrintWords Go.Proofs.YtiajmgmidfinfaaW.PrintLast Go.Proofs.YtiajmgmidfinfaaW.PrintMore
theorem opens_string {P : Program} {t : TypeId} (ht : P.underlying t = some .string) : Opens P t Kd.string (fun s => s.size ≤ maxLen) := by
  intro H enc W fuel cs x h
  obtain ⟨s, rfl, _, hw⟩ := DataW.trod_string ht h
  exact ⟨s, rfl, hw⟩
end Go.Proofs.Ytiajmgmidfinfaa.Open
