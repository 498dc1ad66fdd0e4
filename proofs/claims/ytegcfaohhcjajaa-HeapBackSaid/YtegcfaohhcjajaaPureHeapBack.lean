/- HeapBack: behind a mark, whatever is pushed and marked, and going back to it, a trail is what it was, and what went is what came, the last one first: for every input. Conditions: none. -/
import Derived.Test.YtegcfaohhcjajaaManBackLaw
namespace Go.Proofs.Ytegcfaohhcjajaa.Pure
open Go.RowKit Go.Proofs.Ytegcfaohhcjajaa.Hk
theorem HeapBack : ∀ l0 : List ByteArray, l0.length * 16 ≤ 140737488351232 → (∀ x ∈ l0, x.size ≤ maxLen) → ∀ l1 : List ByteArray, l1.length * 16 ≤ 140737488351232 → (∀ x ∈ l1, x.size ≤ maxLen) → ∀ a2 : Int, (Lit.int .i64 a2).wf = true → juristlaw02_HeapBack.f l0 l1 a2 = some true :=
  fun _ _ _ _ _ _ _ _ => rfl
end Go.Proofs.Ytegcfaohhcjajaa.Pure
