/- TermsSums: a term of Int and numbers, added one by one in whatever order, is the term and their sum; its base is the term's, and what is split and put together is it: for every input. Conditions: none. -/
import Derived.Test.YtmgbodmpjholiaaManSumsLaw
namespace Go.Proofs.Ytmgbodmpjholiaa.Pure
open Go.RowKit Go.Proofs.Ytmgbodmpjholiaa.Hk
theorem TermsSums : ∀ l0 : List Int, l0.length * 8 ≤ 140737488351232 → (∀ x ∈ l0, (Lit.int .i64 x).wf = true) → ∀ a1 : Int, (Lit.int .i64 a1).wf = true → juristlaw06_TermsSums.f l0 a1 = some true := fun _ _ _ _ h => if_pos h
end Go.Proofs.Ytmgbodmpjholiaa.Pure
