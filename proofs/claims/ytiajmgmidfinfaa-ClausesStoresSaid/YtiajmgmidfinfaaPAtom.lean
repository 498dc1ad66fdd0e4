/- Plain law: the atom of a literal, as the printed function tells it. -/
import Derived.Test.YtiajmgmidfinfaaHkx0
import Derived.Test.YtiajmgmidfinfaaHkx1
import Derived.Test.YtiajmgmidfinfaaEv
import Derived.Test.YtiajmgmidfinfaaLitForm
namespace Go.Proofs.Ytiajmgmidfinfaa.Pure
open Go.RowKit Go.Proofs.Ytiajmgmidfinfaa.Hk Go.Proofs.YtiajmgmidfinfaaW.PrintWords Go.Proofs.YtiajmgmidfinfaaW.PrintLast Go.Proofs.YtiajmgmidfinfaaW.PrintMore
theorem atom_some {x : Int} (h : (Lit.int .i64 x).wf = true) : juristref14_Atom.f x = some (wrap64 (LF.litAtom x)) := by
  have := wf_bd h
  unfold juristref14_Atom.f LF.litAtom
  split
  · rfl
  · rw [wrap_in (by omega) (by omega)]

end Go.Proofs.Ytiajmgmidfinfaa.Pure
