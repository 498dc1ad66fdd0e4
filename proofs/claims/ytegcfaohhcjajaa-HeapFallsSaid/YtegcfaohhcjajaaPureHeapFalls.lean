/- HeapFalls: what is popped falls by weights, and rises by numbers where these are alike; each that was pushed comes once: for every input. Conditions: none. -/
import Derived.Test.YtegcfaohhcjajaaManFallsLaw
namespace Go.Proofs.Ytegcfaohhcjajaa.Pure
open Go.RowKit Go.Proofs.Ytegcfaohhcjajaa.Hk
theorem HeapFalls : ∀ l0 : List Int, l0.length * 8 ≤ 140737488351232 → (∀ x ∈ l0, (Lit.int .i64 x).wf = true) → ∀ l1 : List Int, l1.length * 8 ≤ 140737488351232 → (∀ x ∈ l1, (Lit.int .i64 x).wf = true) → juristlaw02_HeapFalls.f l0 l1 = some true :=
  fun _ _ _ _ _ _ => rfl
end Go.Proofs.Ytegcfaohhcjajaa.Pure
