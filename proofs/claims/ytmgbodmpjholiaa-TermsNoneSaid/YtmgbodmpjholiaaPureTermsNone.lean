/- TermsNone: a store that is not there, or was not made, refuses: for every input. Conditions: none. -/
import Derived.Test.YtmgbodmpjholiaaManNoneTLaw
namespace Go.Proofs.Ytmgbodmpjholiaa.Pure
open Go.RowKit Go.Proofs.Ytmgbodmpjholiaa.Hk
theorem TermsNone : ∀ a0 : Int, (Lit.int .i64 a0).wf = true → ∀ a1 : Int, (Lit.int .i64 a1).wf = true → ∀ l2 : List Int, l2.length * 8 ≤ 140737488351232 → (∀ x ∈ l2, (Lit.int .i64 x).wf = true) → juristlaw06_TermsNone.f a0 a1 l2 = some true := fun _ _ _ _ _ _ _ => rfl
end Go.Proofs.Ytmgbodmpjholiaa.Pure
