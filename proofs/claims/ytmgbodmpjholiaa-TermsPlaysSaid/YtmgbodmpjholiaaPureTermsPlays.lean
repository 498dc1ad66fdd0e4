/- TermsPlays: whatever is made, call by call, each term, or the refusal, and all nodes, are the document's, and a copy goes on as its store would have: for every list of calls. Conditions: none. -/
import Derived.Test.YtmgbodmpjholiaaPlaysTAll
namespace Go.Proofs.Ytmgbodmpjholiaa.Pure
open Go.RowKit Go.Proofs.Ytmgbodmpjholiaa.Hk Go.Proofs.Ytmgbodmpjholiaa.BT
theorem TermsPlays : ∀ l0 : List S45, l0.length * 88 ≤ 140737488351232 → (∀ x ∈ l0, ((Lit.int .i64 x.f0).wf = true) ∧ ((Lit.int .i64 x.f1).wf = true) ∧ ((Lit.int .i64 x.f2).wf = true) ∧ ((Lit.int .i64 x.f3).wf = true) ∧ ((∀ y ∈ x.f4, (Lit.int .i64 y).wf = true) ∧ x.f4.length * 8 ≤ 140737488351232) ∧ ((Lit.int .i64 x.f5).wf = true) ∧ ((Lit.int .i64 x.f6).wf = true) ∧ ((Lit.int .i64 x.f7).wf = true) ∧ (True)) → juristlaw06_TermsPlays.f l0 = some true := fun _ _ h => if_pos fun x hx => OkO.of (h x hx)
end Go.Proofs.Ytmgbodmpjholiaa.Pure
