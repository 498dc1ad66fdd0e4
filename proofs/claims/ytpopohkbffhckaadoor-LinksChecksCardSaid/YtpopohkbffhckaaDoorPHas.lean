/- Plain law: whether a list has a number, as the printed function tells it. -/
import Derived.Test.YtpopohkbffhckaaDoorHkx0
import Derived.Test.YtpopohkbffhckaaDoorHkx3
import Derived.Test.YtpopohkbffhckaaDoorEv
namespace Go.Proofs.YtpopohkbffhckaaDoor.Pure
open Go.RowKit Go.Proofs.YtpopohkbffhckaaDoor.Hk Go.Proofs.YtpopohkbffhckaaDoorW.PrintWords Go.Proofs.YtpopohkbffhckaaDoorW.PrintLast Go.Proofs.YtpopohkbffhckaaDoorW.PrintMore
theorem has_ev (l : List Int) (a : Int) (hl : l.length < 4611686018427387904) : Ev (fun k => juristref14_Has.f k l a) (l.contains a) := by
  unfold juristref14_Has.f
  refine ev_list l (fun k i => juristref14_Has.l0 k l a i) (fun i r => r = (l.drop i).contains a) ?_ ?_ l.length 0 (by omega) _ (by simp)
  · rintro r rfl
    refine Ev.step (f := fun _ => some false) (fun k => by simp only [juristref14_Has.l0]; rw [if_neg (by omega)]) ?_
    simpa using ev_ret false
  · rintro i h r rfl ih
    rw [drop_rd h]
    by_cases he : rd l (i : Int) = a
    · refine Ev.step (f := fun _ => some true) (fun k => by simp only [juristref14_Has.l0]; rw [if_pos (by omega), if_pos (by omega), if_pos he]) ?_
      simpa [he] using ev_ret true
    · refine Ev.step (f := fun k => juristref14_Has.l0 k l a ((i + 1 : Nat) : Int)) (fun k => by simp only [juristref14_Has.l0]; rw [if_pos (by omega), if_pos (by omega), if_neg he, wrap_succ (by omega)]) ?_
      have : (rd l (i : Int) :: l.drop (i + 1)).contains a = (l.drop (i + 1)).contains a := by
        have : ¬ a = rd l (i : Int) := fun h => he h.symm
        simp [this]
      rw [this]
      exact ih _ rfl
end Go.Proofs.YtpopohkbffhckaaDoor.Pure
