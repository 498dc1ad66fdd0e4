/- Plain law: whether two lists are alike, as the printed function tells it. -/
import Derived.Test.YtpopohkbffhckaaDoorHkx0
import Derived.Test.YtpopohkbffhckaaDoorHkx1
import Derived.Test.YtpopohkbffhckaaDoorEv
namespace Go.Proofs.YtpopohkbffhckaaDoor.Pure
open Go.RowKit Go.Proofs.YtpopohkbffhckaaDoor.Hk Go.Proofs.YtpopohkbffhckaaDoorW.PrintWords Go.Proofs.YtpopohkbffhckaaDoorW.PrintLast Go.Proofs.YtpopohkbffhckaaDoorW.PrintMore
theorem alike_ev (l m : List Int) (hl : l.length < 4611686018427387904) : Ev (fun k => juristref14_Alike.f k l m) (decide (l = m)) := by
  unfold juristref14_Alike.f
  by_cases hlen : l.length = m.length
  · refine ev_pos (by omega) ?_
    refine ev_list l (fun k i => juristref14_Alike.l0 k l m i) (fun i r => r = decide (l.drop i = m.drop i)) ?_ ?_ l.length 0 (by omega) _ (by simp)
    · rintro r rfl
      refine Ev.step (f := fun _ => some true) (fun k => by simp only [juristref14_Alike.l0]; rw [if_neg (by omega)]) ?_
      have : l.drop l.length = m.drop l.length := by rw [List.drop_length, hlen, List.drop_length]
      simpa [this] using ev_ret true
    · rintro i h r rfl ih
      rw [drop_rd h, drop_rd (l := m) (by omega)]
      by_cases he : rd l (i : Int) = rd m (i : Int)
      · refine Ev.step (f := fun k => juristref14_Alike.l0 k l m ((i + 1 : Nat) : Int)) (fun k => by simp only [juristref14_Alike.l0]; rw [if_pos (by omega), if_pos (by omega), if_pos (by omega), if_pos he, wrap_succ (by omega)]) ?_
        refine ih _ ?_
        rw [decide_eq_decide, he]
        simp
      · refine Ev.step (f := fun _ => some false) (fun k => by simp only [juristref14_Alike.l0]; rw [if_pos (by omega), if_pos (by omega), if_pos (by omega), if_neg he]) ?_
        have : decide (rd l (i : Int) :: l.drop (i + 1) = rd m (i : Int) :: m.drop (i + 1)) = false := by simp [he]
        rw [this]
        exact ev_ret false
  · refine ev_neg (by omega) ?_
    have : decide (l = m) = false := by simp; intro h; rw [h] at hlen; exact hlen rfl
    rw [this]
    exact ev_ret false

end Go.Proofs.YtpopohkbffhckaaDoor.Pure
