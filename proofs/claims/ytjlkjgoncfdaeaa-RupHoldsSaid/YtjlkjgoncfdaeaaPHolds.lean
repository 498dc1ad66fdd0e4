/- Plain law: whether a clause holds by an assignment, as the printed function tells it: one of its literals does. -/
import Derived.Test.YtjlkjgoncfdaeaaHkx0
import Derived.Test.YtjlkjgoncfdaeaaHkx62
import Derived.Test.YtjlkjgoncfdaeaaPBase
namespace Go.Proofs.Ytjlkjgoncfdaeaa.Pure
open Go.RowKit Go.Proofs.Ytjlkjgoncfdaeaa.Hk Go.Proofs.YtjlkjgoncfdaeaaW.PrintWords Go.Proofs.YtjlkjgoncfdaeaaW.PrintLast Go.Proofs.YtjlkjgoncfdaeaaW.PrintMore Go.Proofs.Ytjlkjgoncfdaeaa.LF

/-- Does a literal hold by an assignment? -/
def litOn (bits x : Int) : Bool := (Int.tmod (shr .u64 bits (IntKind.u64.wrap (wrap64 (wrap64 (litAtom x) - 1)))) 2 == 1) == decide (x > 0)
theorem u64_wrap_nn (x : Int) : 0 ≤ IntKind.u64.wrap x := by
  simp [IntKind.wrap, IntKind.signed, IntKind.bits]
  omega
theorem holds_ev (l : List Int) (bits : Int) (hl : l.length < 4611686018427387904) (hw : ∀ x ∈ l, (Lit.int .i64 x).wf = true) : Ev (fun k => juristref14_Holds.f k l bits) (l.any (litOn bits)) := by
  unfold juristref14_Holds.f
  refine ev_list l (fun k i => juristref14_Holds.l0 k l bits i) (fun i r => r = (l.drop i).any (litOn bits)) ?_ ?_ l.length 0 (by omega) _ (by simp)
  · rintro r rfl
    refine Ev.step (f := fun _ => some false) (fun k => by simp only [juristref14_Holds.l0]; rw [if_neg (by omega)]) ?_
    simpa using ev_ret false
  · rintro i h r rfl ih
    rw [drop_rd h, List.any_cons]
    have e1 := atom_some (hw _ (rd_mem h))
    refine Ev.step (fun k => by simp only [juristref14_Holds.l0]; rw [if_pos (by omega), if_pos (by omega), wrap_succ (by omega)]) ?_
    refine ev_got e1 (ev_pos (u64_wrap_nn _) ?_)
    by_cases hc : litOn bits (rd l (i : Int)) = true
    · rw [hc]
      refine ev_pos hc ?_
      simpa using ev_ret true
    · have hc' : litOn bits (rd l (i : Int)) = false := by simpa using hc
      rw [hc', Bool.false_or]
      exact ev_neg hc (ih _ rfl)
end Go.Proofs.Ytjlkjgoncfdaeaa.Pure
