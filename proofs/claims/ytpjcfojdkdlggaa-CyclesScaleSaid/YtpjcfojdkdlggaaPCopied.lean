/- Plain law: a copied list, as the printed function tells it. -/
import Derived.Test.YtpjcfojdkdlggaaHkx0
import Derived.Test.YtpjcfojdkdlggaaHkx4
import Derived.Test.YtpjcfojdkdlggaaEv
namespace Go.Proofs.Ytpjcfojdkdlggaa.Pure
open Go.RowKit Go.Proofs.Ytpjcfojdkdlggaa.Hk Go.Proofs.YtpjcfojdkdlggaaW.PrintWords Go.Proofs.YtpjcfojdkdlggaaW.PrintLast Go.Proofs.YtpjcfojdkdlggaaW.PrintMore
theorem copied_some (l : List Int) (hl : l.length < 17592186044416) : juristref14_Copied.f l = some l := by
  unfold juristref14_Copied.f
  simp [hl]
end Go.Proofs.Ytpjcfojdkdlggaa.Pure
