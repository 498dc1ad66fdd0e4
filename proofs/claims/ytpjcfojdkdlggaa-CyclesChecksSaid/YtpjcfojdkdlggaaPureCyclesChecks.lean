/- CyclesChecks: what any row of literals of any atoms is, a certificate or none, is the document's; they stay: for every input. Conditions: none. -/
import Derived.Test.YtpjcfojdkdlggaaHkx0
import Derived.Test.YtpjcfojdkdlggaaHkx2
import Derived.Test.YtpjcfojdkdlggaaHkx5
import Derived.Test.YtpjcfojdkdlggaaPCert
namespace Go.Proofs.Ytpjcfojdkdlggaa.Pure
open Go.RowKit Go.Proofs.Ytpjcfojdkdlggaa.Hk Go.Proofs.YtpjcfojdkdlggaaW.PrintWords Go.Proofs.YtpjcfojdkdlggaaW.PrintLast Go.Proofs.YtpjcfojdkdlggaaW.PrintMore Go.Proofs.Ytpjcfojdkdlggaa.LF Go.Proofs.Ytpjcfojdkdlggaa.MC Go.Proofs.Ytpjcfojdkdlggaa.MW

theorem CyclesChecks : ∀ l0 : List S46, l0.length * 32 ≤ 140737488351232 → (∀ x ∈ l0, ((Lit.int .u8 x.f0).wf = true) ∧ ((Lit.int .i64 x.f1).wf = true) ∧ ((Lit.int .i64 x.f2).wf = true) ∧ ((Lit.int .i64 x.f3).wf = true)) → ∀ l1 : List Int, l1.length * 8 ≤ 140737488351232 → (∀ x ∈ l1, (Lit.int .i64 x).wf = true) → ∃ k, juristlaw18_CyclesChecks.f k l0 l1 = some true := by
  intro a _ hw l _ hx
  apply Ev.rounds
  unfold juristlaw18_CyclesChecks.f
  have out : ∀ c : Bool, (c = false → a.length ≤ 1000 ∧ l.length ≤ 300) → Ev (fun k => juristlaw18_CyclesChecks.j0 k a l c) true := by
    intro c hc
    by_cases hct : c = true
    · exact Ev.step (f := fun k => (juristlaw18_known.f k).bind fun t => some t) (fun k => by simp only [juristlaw18_CyclesChecks.j0]; rw [if_pos hct]) known_t
    · obtain ⟨h1, h2⟩ := hc (by simpa using hct)
      refine Ev.step (fun k => by simp only [juristlaw18_CyclesChecks.j0]; rw [if_neg hct]) ?_
      refine ev_got (copied_some l (by omega)) ?_
      refine Ev.bind (check_ev a l hw (by omega) (by omega) hx) (Ev.bind (ref_check_ev a l hw (by omega) (by omega) hx) ?_)
      have e1 := alike_ev (checkR a l).1 (checkR a l).1 (by have := length_checkR a l; omega)
      have e2 := alike_ev l l (by omega)
      simp only [decide_true] at e1 e2
      exact Ev.bind e1 (ev_pos rfl (ev_pos rfl (Ev.bind e2 (ev_pos rfl known_t))))
  by_cases c1 : (a.length : Int) > 1000
  · exact ev_pos c1 (out true (by simp))
  · exact ev_neg c1 (out _ (fun h => by have := of_decide_eq_false h; omega))
end Go.Proofs.Ytpjcfojdkdlggaa.Pure
