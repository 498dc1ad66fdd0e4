/- HeapPlays: every script of calls on a heap: each answer, and all that are in it, in their order, are the document's: for every input. Conditions: none. -/
import Derived.Test.YtegcfaohhcjajaaManPlaysLaw
namespace Go.Proofs.Ytegcfaohhcjajaa.Pure
open Go.RowKit Go.Proofs.Ytegcfaohhcjajaa.Hk
theorem HeapPlays : ∀ a0 : Int, (Lit.int .i64 a0).wf = true → ∀ l1 : List S62, l1.length * 24 ≤ 140737488351232 → (∀ x ∈ l1, ((Lit.int .i64 x.f0).wf = true) ∧ ((Lit.int .i64 x.f1).wf = true) ∧ ((Lit.int .i64 x.f2).wf = true)) → juristlaw02_HeapPlays.f a0 l1 = some true :=
  fun _ _ _ _ _ => rfl
end Go.Proofs.Ytegcfaohhcjajaa.Pure
