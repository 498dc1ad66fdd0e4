/- Plain law: the atom of a literal, as the printed function tells it. -/
import Derived.Test.YtpjcfojdkdlggaaHkx0
import Derived.Test.YtpjcfojdkdlggaaHkx2
import Derived.Test.YtpjcfojdkdlggaaEv
import Derived.Test.YtpjcfojdkdlggaaLitForm
namespace Go.Proofs.Ytpjcfojdkdlggaa.Pure
open Go.RowKit Go.Proofs.Ytpjcfojdkdlggaa.Hk Go.Proofs.YtpjcfojdkdlggaaW.PrintWords Go.Proofs.YtpjcfojdkdlggaaW.PrintLast Go.Proofs.YtpjcfojdkdlggaaW.PrintMore
theorem atom_some {x : Int} (h : (Lit.int .i64 x).wf = true) : juristref14_Atom.f x = some (wrap64 (LF.litAtom x)) := by
  have := wf_bd h
  unfold juristref14_Atom.f LF.litAtom
  split
  · rfl
  · rw [wrap_in (by omega) (by omega)]

end Go.Proofs.Ytpjcfojdkdlggaa.Pure
