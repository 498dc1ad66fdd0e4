/- How the struct types of this seat's laws are read as data. -/
import Derived.Test.YtegcfaohhcjajaaOpen
import Derived.Test.YtegcfaohhcjajaaHkx0
import Derived.KernelRfl
namespace Go.Proofs.Ytegcfaohhcjajaa.Open
open Go.ChangeShapes Go.WideShapes Go.RowKit Go.Proofs.Ytegcfaohhcjajaa.Hk Go.Proofs.YtegcfaohhcjajaaW.PrintWords Go.Proofs.YtegcfaohhcjajaaW.PrintLast Go.Proofs.YtegcfaohhcjajaaW.PrintMore
theorem opens_string {P : Program} {t : TypeId} (ht : P.underlying t = some .string) : Opens P t Kd.string (fun s => s.size ≤ maxLen) := by
  intro H enc W fuel cs x h
  obtain ⟨s, rfl, _, hw⟩ := DataW.trod_string ht h
  exact ⟨s, rfl, hw⟩
end Go.Proofs.Ytegcfaohhcjajaa.Open
