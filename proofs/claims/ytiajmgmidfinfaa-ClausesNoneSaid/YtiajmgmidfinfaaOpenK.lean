/- How the struct types of this seat's laws are read as data. -/
import Derived.Test.YtiajmgmidfinfaaOpen
import Derived.Test.YtiajmgmidfinfaaHkx0
import Derived.KernelRfl
namespace Go.Proofs.Ytiajmgmidfinfaa.Open
open Go.RowKit Go.Proofs.Ytiajmgmidfinfaa.Hk Go.Proofs.YtiajmgmidfinfaaW.PrintWords Go.Proofs.YtiajmgmidfinfaaW.PrintLast Go.Proofs.YtiajmgmidfinfaaW.PrintMore
end Go.Proofs.Ytiajmgmidfinfaa.Open
