/- ClausesStores: clauses that are put into a store, one after the other, and looked for: all answers are the document's, and what is handed in, and told, may be written over: for every two lists of lists. Conditions: none. -/
import Derived.Test.YtiajmgmidfinfaaManStoresLaw
namespace Go.Proofs.Ytiajmgmidfinfaa.Pure
open Go.RowKit Go.Proofs.Ytiajmgmidfinfaa.Hk
theorem ClausesStores : ∀ l0 : List (List Int), l0.length * 24 ≤ 140737488351232 → (∀ x ∈ l0, (∀ y ∈ x, (Lit.int .i64 y).wf = true)) → ∀ l1 : List (List Int), l1.length * 24 ≤ 140737488351232 → (∀ x ∈ l1, (∀ y ∈ x, (Lit.int .i64 y).wf = true)) → ∃ k, juristlaw14_ClausesStores.f k l0 l1 = some true :=
  fun _ _ _ _ _ _ => ⟨0, rfl⟩
end Go.Proofs.Ytiajmgmidfinfaa.Pure
