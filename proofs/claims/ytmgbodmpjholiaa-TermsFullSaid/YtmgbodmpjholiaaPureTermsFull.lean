/- TermsFull: as many terms as may be are made, and one more is not; what is there is told again: for every input. Conditions: none. -/
import Derived.Test.YtmgbodmpjholiaaManFullLaw
namespace Go.Proofs.Ytmgbodmpjholiaa.Pure
open Go.RowKit Go.Proofs.Ytmgbodmpjholiaa.Hk
theorem TermsFull : ∀ a0 : Int, (Lit.int .i64 a0).wf = true → juristlaw06_TermsFull.f a0 = some true := fun _ h => if_pos h
end Go.Proofs.Ytmgbodmpjholiaa.Pure
