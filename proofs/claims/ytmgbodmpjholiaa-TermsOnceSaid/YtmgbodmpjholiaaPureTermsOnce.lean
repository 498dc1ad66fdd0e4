/- TermsOnce: of what any calls make, arguments have smaller numbers than what is made of them, no two terms have alike nodes, and all calls once more make the same terms, and no other one: for every list of calls. Conditions: none. -/
import Derived.Test.YtmgbodmpjholiaaManOnceFLaw
namespace Go.Proofs.Ytmgbodmpjholiaa.Pure
open Go.RowKit Go.Proofs.Ytmgbodmpjholiaa.Hk Go.Proofs.Ytmgbodmpjholiaa.BT
theorem TermsOnce : ∀ l0 : List S45, l0.length * 88 ≤ 140737488351232 → (∀ x ∈ l0, ((Lit.int .i64 x.f0).wf = true) ∧ ((Lit.int .i64 x.f1).wf = true) ∧ ((Lit.int .i64 x.f2).wf = true) ∧ ((Lit.int .i64 x.f3).wf = true) ∧ ((∀ y ∈ x.f4, (Lit.int .i64 y).wf = true) ∧ x.f4.length * 8 ≤ 140737488351232) ∧ ((Lit.int .i64 x.f5).wf = true) ∧ ((Lit.int .i64 x.f6).wf = true) ∧ ((Lit.int .i64 x.f7).wf = true) ∧ (True)) → juristlaw06_TermsOnce.f l0 = some true := fun _ _ h => if_pos fun x hx => OkO.of (h x hx)
end Go.Proofs.Ytmgbodmpjholiaa.Pure
