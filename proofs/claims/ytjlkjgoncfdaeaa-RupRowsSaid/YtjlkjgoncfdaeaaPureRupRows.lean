/- RupRows: how far any row follows, and whether it refutes, or the refusal, is the document's; all stay: for every input. Conditions: none. -/
import Derived.Test.YtjlkjgoncfdaeaaHkx0
import Derived.Test.YtjlkjgoncfdaeaaHkx1
import Derived.Test.YtjlkjgoncfdaeaaHkx60
import Derived.Test.YtjlkjgoncfdaeaaPRupD
namespace Go.Proofs.Ytjlkjgoncfdaeaa.Pure
open Go.RowKit Go.Proofs.Ytjlkjgoncfdaeaa.Hk Go.Proofs.YtjlkjgoncfdaeaaW.PrintWords Go.Proofs.YtjlkjgoncfdaeaaW.PrintLast Go.Proofs.YtjlkjgoncfdaeaaW.PrintMore Go.Proofs.Ytjlkjgoncfdaeaa.LF Go.Proofs.Ytjlkjgoncfdaeaa.MC Go.Proofs.Ytjlkjgoncfdaeaa.RM

theorem RupRows : ∀ l0 : List (List Int), l0.length * 24 ≤ 140737488351232 → (∀ x ∈ l0, ∀ y ∈ x, (Lit.int .i64 y).wf = true) → ∀ l1 : List (List Int), l1.length * 24 ≤ 140737488351232 → (∀ x ∈ l1, ∀ y ∈ x, (Lit.int .i64 y).wf = true) → ∃ k, juristlaw16_RupRows.f k l0 l1 = some true := by
  intro db hdb _ row hg _
  apply Ev.rounds
  unfold juristlaw16_RupRows.f
  have out : ∀ c : Bool, (c = false → Small 60 db ∧ Small 60 row) → Ev (fun k => juristlaw16_RupRows.j0 k db row c) true := by
    intro c hc
    by_cases hct : c = true
    · exact Ev.step (f := fun _ => juristlaw16_known.f.bind fun t => some t) (fun k => by simp only [juristlaw16_RupRows.j0]; rw [if_pos hct]) known_t
    · obtain ⟨hs, hl⟩ := hc (by simpa using hct)
      refine Ev.step (fun k => by simp only [juristlaw16_RupRows.j0]; rw [if_neg hct]) ?_
      refine Ev.bind (copieds_ev db (hs.more (by omega))) ?_
      refine Ev.bind (copieds_ev row (hl.more (by omega))) ?_
      refine ev_got (row_some (by have := hs.1; have := hl.1; omega)) ?_
      refine Ev.bind (Row_ref hs hl (by omega)) ?_
      refine ev_pos rfl (ev_pos (by simp) (ev_pos rfl ?_))
      refine Ev.bind (sames_ev db (hs.more (by omega))) (ev_pos rfl ?_)
      exact Ev.bind (sames_ev row (hl.more (by omega))) (ev_pos rfl known_t)
  refine Ev.bind (large_ev db (by omega)) ?_
  by_cases c1 : largeB db = true
  · exact ev_pos c1 (out true (by simp))
  · refine ev_neg c1 (Ev.bind (large_ev row (by omega)) (out _ (fun h => ⟨large_false (by simpa using c1), large_false h⟩)))
end Go.Proofs.Ytjlkjgoncfdaeaa.Pure
