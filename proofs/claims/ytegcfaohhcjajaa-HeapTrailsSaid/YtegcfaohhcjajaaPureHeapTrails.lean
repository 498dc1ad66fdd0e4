/- HeapTrails: every script of calls on a trail: each answer, and all that is in it, are the document's: for every input. Conditions: none. -/
import Derived.Test.YtegcfaohhcjajaaManTrailsLaw
namespace Go.Proofs.Ytegcfaohhcjajaa.Pure
open Go.RowKit Go.Proofs.Ytegcfaohhcjajaa.Hk
theorem HeapTrails : ∀ l0 : List S32, l0.length * 32 ≤ 140737488351232 → (∀ x ∈ l0, ((Lit.int .i64 x.f0).wf = true) ∧ ((Lit.int .i64 x.f1).wf = true) ∧ (x.f2.size ≤ maxLen)) → juristlaw02_HeapTrails.f l0 = some true :=
  fun _ _ _ => rfl
end Go.Proofs.Ytegcfaohhcjajaa.Pure
