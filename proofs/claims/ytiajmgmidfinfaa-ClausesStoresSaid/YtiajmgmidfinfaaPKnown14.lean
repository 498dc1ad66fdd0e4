/- Plain laws of layer 14: what Normal and Resolve of the program come to; the known case. -/
import Derived.Test.YtiajmgmidfinfaaHkx0
import Derived.Test.YtiajmgmidfinfaaHkx1
import Derived.Test.YtiajmgmidfinfaaPMay
import Derived.Test.YtiajmgmidfinfaaPAlike
import Derived.Test.YtiajmgmidfinfaaPNormal
import Derived.Test.YtiajmgmidfinfaaPCopied
namespace Go.Proofs.Ytiajmgmidfinfaa.Pure
open Go.RowKit Go.Proofs.Ytiajmgmidfinfaa.Hk Go.Proofs.YtiajmgmidfinfaaW.PrintWords Go.Proofs.YtiajmgmidfinfaaW.PrintLast Go.Proofs.YtiajmgmidfinfaaW.PrintMore Go.Proofs.Ytiajmgmidfinfaa.LF Go.Proofs.Ytiajmgmidfinfaa.MC

theorem mayB_lits {l : List Int} (h : mayB l = true) : l.length ≤ 5000 ∧ ∀ x ∈ l, x ≠ 0 ∧ -1048576 ≤ x ∧ x ≤ 1048576 := by
  unfold mayB at h
  rw [Bool.and_eq_true] at h
  exact ⟨of_decide_eq_true h.1, fun x hx => literalB_true.1 (List.all_eq_true.1 h.2 x hx)⟩
theorem form_some {l : List Int} (hl : l.length < 17592186044416) (h : ∀ x ∈ l, x ≠ 0 ∧ -1048576 ≤ x ∧ x ≤ 1048576) : clauses_form.f l = some (canon l) := by
  unfold clauses_form.f
  exact if_pos ⟨hl, fun x hx => (h x hx).2⟩
theorem normal_yes {l : List Int} (h : mayB l = true) : clauses_Normal.f l = some (canon l, 0) := by
  obtain ⟨h1, h2⟩ := mayB_lits h
  unfold clauses_Normal.f clauses_May.f
  simp [h, form_some (by omega) h2]
theorem normal_no {l : List Int} (h : mayB l = false) : clauses_Normal.f l = some ([], 2) := by
  unfold clauses_Normal.f clauses_May.f
  simp [h]
theorem known_ev : Ev (fun k => juristlaw14_known.f k) true := by
  unfold juristlaw14_known.f
  have hm : mayB [3, -1, 3, 2] = true := by decide
  refine ev_got (normal_yes hm) (ev_pos rfl ?_)
  have hc : canon [3, -1, 3, 2] = [-1, 2, 3] := by decide
  dsimp only
  rw [hc]
  refine Ev.bind (a := true) ?_ (ev_ret true)
  have := alike_ev [-1, 2, 3] [-1, 2, 3] (by decide)
  simpa using this
end Go.Proofs.Ytiajmgmidfinfaa.Pure
