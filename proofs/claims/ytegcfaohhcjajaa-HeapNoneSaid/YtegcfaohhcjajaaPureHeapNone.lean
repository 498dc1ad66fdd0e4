/- HeapNone: a heap, a trail that are not there answer 0, false, none, and tell ErrNil; a zero heap is one for none: for every input. Conditions: none. -/
import Derived.Test.YtegcfaohhcjajaaManNoneHLaw
namespace Go.Proofs.Ytegcfaohhcjajaa.Pure
open Go.RowKit Go.Proofs.Ytegcfaohhcjajaa.Hk
theorem HeapNone : ∀ a0 : Int, (Lit.int .i64 a0).wf = true → ∀ a1 : Int, (Lit.int .i64 a1).wf = true → ∀ a2 : ByteArray, a2.size ≤ maxLen → juristlaw02_HeapNone.f a0 a1 a2 = some true :=
  fun _ _ _ _ _ _ => rfl
end Go.Proofs.Ytegcfaohhcjajaa.Pure
