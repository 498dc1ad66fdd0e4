/- RupUnits: what comes of any clauses and any literals that are given, or that it ends in a conflict, or the refusal, is the document's; they stay: for every input. Conditions: none. -/
import Derived.Test.YtjlkjgoncfdaeaaHkx0
import Derived.Test.YtjlkjgoncfdaeaaHkx1
import Derived.Test.YtjlkjgoncfdaeaaHkx41
import Derived.Test.YtjlkjgoncfdaeaaPRups
namespace Go.Proofs.Ytjlkjgoncfdaeaa.Pure
open Go.RowKit Go.Proofs.Ytjlkjgoncfdaeaa.Hk Go.Proofs.YtjlkjgoncfdaeaaW.PrintWords Go.Proofs.YtjlkjgoncfdaeaaW.PrintLast Go.Proofs.YtjlkjgoncfdaeaaW.PrintMore Go.Proofs.Ytjlkjgoncfdaeaa.LF Go.Proofs.Ytjlkjgoncfdaeaa.MC Go.Proofs.Ytjlkjgoncfdaeaa.RM

theorem RupUnits : ∀ l0 : List (List Int), l0.length * 24 ≤ 140737488351232 → (∀ x ∈ l0, ∀ y ∈ x, (Lit.int .i64 y).wf = true) → ∀ l1 : List Int, l1.length * 8 ≤ 140737488351232 → (∀ x ∈ l1, (Lit.int .i64 x).wf = true) → ∃ k, juristlaw16_RupUnits.f k l0 l1 = some true := by
  intro db hdb _ given hg _
  apply Ev.rounds
  unfold juristlaw16_RupUnits.f
  have out : ∀ c : Bool, (c = false → Small 60 db ∧ given.length ≤ 30) → Ev (fun k => juristlaw16_RupUnits.j0 k db given c) true := by
    intro c hc
    by_cases hct : c = true
    · exact Ev.step (f := fun _ => juristlaw16_known.f.bind fun t => some t) (fun k => by simp only [juristlaw16_RupUnits.j0]; rw [if_pos hct]) known_t
    · obtain ⟨hs, hl⟩ := hc (by simpa using hct)
      obtain ⟨r, hr, hu, hsz⟩ := Units_ref (n := 60) hs (by omega) (show given.length ≤ 5000 by omega)
      have hu := hu (by have := hs.1; omega)
      refine Ev.step (fun k => by simp only [juristlaw16_RupUnits.j0]; rw [if_neg hct]) ?_
      refine Ev.bind (copieds_ev db (hs.more (by omega))) ?_
      refine ev_got (copied_some given (by omega)) (ev_got hu ?_)
      refine Ev.bind hr ?_
      refine Ev.bind (alike_same r.1 (by omega)) ?_
      refine ev_pos rfl (ev_pos (by simp) (ev_pos rfl ?_))
      refine Ev.bind (sames_ev db (hs.more (by omega))) (ev_pos rfl ?_)
      exact Ev.bind (alike_same given (by omega)) (ev_pos rfl known_t)
  refine Ev.bind (large_ev db (by omega)) ?_
  by_cases c1 : largeB db = true
  · exact ev_pos c1 (out true (by simp))
  · refine ev_neg c1 (out _ (fun h => ⟨large_false (by simpa using c1), by have := of_decide_eq_false h; omega⟩))
end Go.Proofs.Ytjlkjgoncfdaeaa.Pure
