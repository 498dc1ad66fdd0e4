/- CyclesSums: whether any edges are a cycle, and the sign of their sum, is the document's; they stay: for every input. Conditions: none. -/
import Derived.Test.YtpjcfojdkdlggaaHkx0
import Derived.Test.YtpjcfojdkdlggaaHkx2
import Derived.Test.YtpjcfojdkdlggaaHkx4
import Derived.Test.YtpjcfojdkdlggaaPCert
namespace Go.Proofs.Ytpjcfojdkdlggaa.Pure
open Go.RowKit Go.Proofs.Ytpjcfojdkdlggaa.Hk Go.Proofs.YtpjcfojdkdlggaaW.PrintWords Go.Proofs.YtpjcfojdkdlggaaW.PrintLast Go.Proofs.YtpjcfojdkdlggaaW.PrintMore Go.Proofs.Ytpjcfojdkdlggaa.LF Go.Proofs.Ytpjcfojdkdlggaa.MC Go.Proofs.Ytpjcfojdkdlggaa.MW

theorem sums_loop (l : List S26) (hl : l.length < 4611686018427387904) (r1 r2 : Int) :
    Ev (fun k => juristlaw18_CyclesSums.l0 k l l r1 r2 r1 r2 (l.length : Int) 0) true := by
  refine ev_upto l.length (fun k i => juristlaw18_CyclesSums.l0 k l l r1 r2 r1 r2 (l.length : Int) i) (fun _ r => r = true) ?_ ?_ l.length 0 (by omega) true rfl
  · rintro r rfl
    exact Ev.step (fun k => by simp only [juristlaw18_CyclesSums.l0]; rw [if_neg (by omega), if_pos trivial, if_pos trivial]) known_t
  · rintro i h r rfl ih
    exact Ev.step (fun k => by simp only [juristlaw18_CyclesSums.l0]; rw [if_pos (by omega), if_pos (by omega), if_pos (by omega), if_pos (by omega), if_neg (by simp), wrap_succ (by omega)]) (ih _ rfl)

theorem CyclesSums : ∀ l0 : List S26, l0.length * 24 ≤ 140737488351232 → (∀ x ∈ l0, ((Lit.int .i64 x.f0).wf = true) ∧ ((Lit.int .i64 x.f1).wf = true) ∧ ((Lit.int .i64 x.f2).wf = true)) → ∃ k, juristlaw18_CyclesSums.f k l0 = some true := by
  intro l _ hw
  have hw' : EdgesWf l := wf_edges hw
  apply Ev.rounds
  unfold juristlaw18_CyclesSums.f
  have out : ∀ c : Bool, (c = false → l.length ≤ 6000) → Ev (fun k => juristlaw18_CyclesSums.j0 k l c) true := by
    intro c hc
    by_cases hct : c = true
    · exact Ev.step (f := fun k => (juristlaw18_known.f k).bind fun t => some t) (fun k => by simp only [juristlaw18_CyclesSums.j0]; rw [if_pos hct]) known_t
    · have h1 := hc (by simpa using hct)
      refine Ev.step (fun k => by simp only [juristlaw18_CyclesSums.j0]; rw [if_neg hct]) ?_
      refine ev_got rfl (ev_pos (by simp; omega) (ev_got rfl ?_))
      rw [List.nil_append]
      refine ev_got (sum_some hw') (Ev.bind (ref_sum_ev l hw' (by omega)) ?_)
      exact sums_loop l (by omega) _ _
  by_cases c1 : (l.length : Int) > 300
  · refine ev_pos c1 ?_
    by_cases c2 : (l.length : Int) ≤ 5000
    · exact ev_pos c2 (out true (by simp))
    · exact ev_neg c2 (out _ (fun h => by have := of_decide_eq_false h; omega))
  · exact ev_neg c1 (out _ (fun h => by have := of_decide_eq_false h; omega))
end Go.Proofs.Ytpjcfojdkdlggaa.Pure
