/- Plain law: a copied list, as the printed function tells it. -/
import Derived.Test.YtiajmgmidfinfaaHkx0
import Derived.Test.YtiajmgmidfinfaaHkx3
import Derived.Test.YtiajmgmidfinfaaEv
namespace Go.Proofs.Ytiajmgmidfinfaa.Pure
open Go.RowKit Go.Proofs.Ytiajmgmidfinfaa.Hk Go.Proofs.YtiajmgmidfinfaaW.PrintWords Go.Proofs.YtiajmgmidfinfaaW.PrintLast Go.Proofs.YtiajmgmidfinfaaW.PrintMore
theorem copied_some (l : List Int) (hl : l.length < 17592186044416) : juristref14_Copied.f l = some l := by
  unfold juristref14_Copied.f
  simp [hl]
end Go.Proofs.Ytiajmgmidfinfaa.Pure
