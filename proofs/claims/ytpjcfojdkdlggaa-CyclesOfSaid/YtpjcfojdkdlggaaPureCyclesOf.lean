/- CyclesOf: the edge of any literal of any atoms, or the refusal, is the document's, for every input. Conditions: none. -/
import Derived.Test.YtpjcfojdkdlggaaHkx0
import Derived.Test.YtpjcfojdkdlggaaHkx3
import Derived.Test.YtpjcfojdkdlggaaPCert
namespace Go.Proofs.Ytpjcfojdkdlggaa.Pure
open Go.RowKit Go.Proofs.Ytpjcfojdkdlggaa.Hk Go.Proofs.YtpjcfojdkdlggaaW.PrintWords Go.Proofs.YtpjcfojdkdlggaaW.PrintLast Go.Proofs.YtpjcfojdkdlggaaW.PrintMore Go.Proofs.Ytpjcfojdkdlggaa.LF Go.Proofs.Ytpjcfojdkdlggaa.MC Go.Proofs.Ytpjcfojdkdlggaa.MW

theorem CyclesOf : ∀ l0 : List S46, l0.length * 32 ≤ 140737488351232 → (∀ x ∈ l0, ((Lit.int .u8 x.f0).wf = true) ∧ ((Lit.int .i64 x.f1).wf = true) ∧ ((Lit.int .i64 x.f2).wf = true) ∧ ((Lit.int .i64 x.f3).wf = true)) → ∀ a1 : Int, (Lit.int .i64 a1).wf = true → ∃ k, juristlaw18_CyclesOf.f k l0 a1 = some true := by
  intro a _ hw x hx
  apply Ev.rounds
  unfold juristlaw18_CyclesOf.f
  by_cases h : (a.length : Int) > 1000
  · exact ev_pos h known_t
  · refine ev_neg h ?_
    refine Ev.bind (of_ev a x hw hx (by omega)) (Ev.bind (ref_of_ev a x hw hx (by omega)) ?_)
    exact ev_pos (by simp) (ev_pos rfl known_t)
end Go.Proofs.Ytpjcfojdkdlggaa.Pure
