/- ClausesNone: a store that is not there, or was not made, refuses: for every input. Conditions: none. -/
import Derived.Test.YtiajmgmidfinfaaManNoneLaw
import Derived.Test.YtiajmgmidfinfaaPKnown14
namespace Go.Proofs.Ytiajmgmidfinfaa.Pure
open Go.RowKit Go.Proofs.Ytiajmgmidfinfaa.Hk
theorem ClausesNone : ∀ l0 : List Int, l0.length * 8 ≤ 140737488351232 → (∀ x ∈ l0, (Lit.int .i64 x).wf = true) → ∀ a1 : Int, (Lit.int .i64 a1).wf = true → ∃ k, juristlaw14_ClausesNone.f k l0 a1 = some true := by
  intro l _ _ a _
  obtain ⟨k, hk⟩ := known_ev.rounds
  exact ⟨k, by unfold juristlaw14_ClausesNone.f; rw [if_pos hk]⟩
end Go.Proofs.Ytiajmgmidfinfaa.Pure
