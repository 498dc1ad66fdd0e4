/- HeapRaises: who is raised stands no later among those that are in it, and all others in the order in which they stood: for every input. Conditions: none. -/
import Derived.Test.YtegcfaohhcjajaaManRaisesLaw
namespace Go.Proofs.Ytegcfaohhcjajaa.Pure
open Go.RowKit Go.Proofs.Ytegcfaohhcjajaa.Hk
theorem HeapRaises : ∀ l0 : List Int, l0.length * 8 ≤ 140737488351232 → (∀ x ∈ l0, (Lit.int .i64 x).wf = true) → ∀ a1 : Int, (Lit.int .i64 a1).wf = true → ∀ a2 : Int, (Lit.int .i64 a2).wf = true → juristlaw02_HeapRaises.f l0 a1 a2 = some true :=
  fun _ _ _ _ _ _ _ => rfl
end Go.Proofs.Ytegcfaohhcjajaa.Pure
