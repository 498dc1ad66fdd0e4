-- Written by hookprint.py, a program of this session, with the kit's print as its engine. Lean checks it.
import Derived.Test.YtiajmgmidfinfaaHkx0
import Derived.Test.YtiajmgmidfinfaaHkx1
import Derived.Test.YtiajmgmidfinfaaHkx2
import Derived.Test.YtiajmgmidfinfaaHkx3
import Derived.Test.YtiajmgmidfinfaaHkx4
import Derived.Test.YtiajmgmidfinfaaHkx5
import Derived.Test.YtiajmgmidfinfaaHkx6
import Derived.Test.YtiajmgmidfinfaaHkx7
import Derived.Test.YtiajmgmidfinfaaHkx8
namespace Go.Proofs.Ytiajmgmidfinfaa.Hk
open Go.RowKit Go.Proofs.YtiajmgmidfinfaaW.PrintWords Go.Proofs.YtiajmgmidfinfaaW.PrintLast Go.Proofs.YtiajmgmidfinfaaW.PrintMore
attribute [local go_sem] max2_int min2_int max_two min_two max_three min_three max_four min_four   -- for this text's walks alone
set_option linter.unusedVariables false
set_option linter.unusedSimpArgs false

end Go.Proofs.Ytiajmgmidfinfaa.Hk
