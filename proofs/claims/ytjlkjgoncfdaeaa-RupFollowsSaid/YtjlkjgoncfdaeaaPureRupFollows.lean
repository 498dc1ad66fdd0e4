/- RupFollows: whether any clause follows by units from any others, or the refusal, is the document's: for every input. Conditions: none. -/
import Derived.Test.YtjlkjgoncfdaeaaHkx0
import Derived.Test.YtjlkjgoncfdaeaaHkx1
import Derived.Test.YtjlkjgoncfdaeaaHkx43
import Derived.Test.YtjlkjgoncfdaeaaPRupD
namespace Go.Proofs.Ytjlkjgoncfdaeaa.Pure
open Go.RowKit Go.Proofs.Ytjlkjgoncfdaeaa.Hk Go.Proofs.YtjlkjgoncfdaeaaW.PrintWords Go.Proofs.YtjlkjgoncfdaeaaW.PrintLast Go.Proofs.YtjlkjgoncfdaeaaW.PrintMore Go.Proofs.Ytjlkjgoncfdaeaa.LF Go.Proofs.Ytjlkjgoncfdaeaa.MC Go.Proofs.Ytjlkjgoncfdaeaa.RM

theorem RupFollows : ∀ l0 : List (List Int), l0.length * 24 ≤ 140737488351232 → (∀ x ∈ l0, ∀ y ∈ x, (Lit.int .i64 y).wf = true) → ∀ l1 : List Int, l1.length * 8 ≤ 140737488351232 → (∀ x ∈ l1, (Lit.int .i64 x).wf = true) → ∃ k, juristlaw16_RupFollows.f k l0 l1 = some true := by
  intro db hdb _ cl hg _
  apply Ev.rounds
  unfold juristlaw16_RupFollows.f
  have out : ∀ c : Bool, (c = false → Small 60 db ∧ cl.length ≤ 30) → Ev (fun k => juristlaw16_RupFollows.j0 k db cl c) true := by
    intro c hc
    by_cases hct : c = true
    · exact Ev.step (f := fun _ => juristlaw16_known.f.bind fun t => some t) (fun k => by simp only [juristlaw16_RupFollows.j0]; rw [if_pos hct]) known_t
    · obtain ⟨hs, hl⟩ := hc (by simpa using hct)
      refine Ev.step (fun k => by simp only [juristlaw16_RupFollows.j0]; rw [if_neg hct]) ?_
      refine Ev.bind (copieds_ev db (hs.more (by omega))) ?_
      refine ev_got (copied_some cl (by omega)) (ev_got (follows_some (by have := hs.1; omega)) ?_)
      refine Ev.bind (Follows_ref hs (by omega) (by omega)) ?_
      exact ev_pos (by simp) (ev_pos rfl known_t)
  refine Ev.bind (large_ev db (by omega)) ?_
  by_cases c1 : largeB db = true
  · exact ev_pos c1 (out true (by simp))
  · refine ev_neg c1 (out _ (fun h => ⟨large_false (by simpa using c1), by have := of_decide_eq_false h; omega⟩))
end Go.Proofs.Ytjlkjgoncfdaeaa.Pure
