/- What law17.large answers, in plain Lean. -/
import Derived.Test.YtpopohkbffhckaaDoorLkBase
import Derived.Test.YtpopohkbffhckaaDoorHkx0
import Derived.Test.YtpopohkbffhckaaDoorHkx1
import Derived.Test.YtpopohkbffhckaaDoorEv
namespace Go.Proofs.YtpopohkbffhckaaDoor.Pure
open Go.RowKit Go.Proofs.YtpopohkbffhckaaDoor.Hk Go.Proofs.YtpopohkbffhckaaDoorW.PrintWords Go.Proofs.YtpopohkbffhckaaDoorW.PrintLast Go.Proofs.YtpopohkbffhckaaDoorW.PrintMore Go.Proofs.YtpopohkbffhckaaDoor.KL
set_option linter.unusedVariables false
def largeM (v : List Vx) (a : List At) (l : List Lk) : Bool := decide (100 < v.length) || (decide (200 < a.length) || (decide (300 < l.length) || (v.any (fun x => decide (30 < x.f1.length)) || l.any (fun x => decide (30 < x.f6.length)))))
theorem drop_v {v : List Vx} {i : Nat} (h : i < v.length) : v.drop i = rd_T46 v (i : Int) :: v.drop (i + 1) := by
  have e : rd_T46 v (i : Int) = v[i] := by unfold rd_T46; rw [Int.toNat_natCast]; simp [List.getD_eq_getElem?_getD, h]
  rw [e]
  exact List.drop_eq_getElem_cons h
theorem drop_l {l : List Lk} {i : Nat} (h : i < l.length) : l.drop i = rd_T36 l (i : Int) :: l.drop (i + 1) := by
  have e : rd_T36 l (i : Int) = l[i] := by unfold rd_T36; rw [Int.toNat_natCast]; simp [List.getD_eq_getElem?_getD, h]
  rw [e]
  exact List.drop_eq_getElem_cons h
theorem large_l1 (l : List Lk) (hl : l.length < 4611686018427387904) : Ev (fun k => juristlaw17_large.l1 k l (l.length : Int) 0) (l.any fun x => decide (30 < x.f6.length)) := by
  refine ev_upto l.length (fun k i => juristlaw17_large.l1 k l (l.length : Int) i) (fun i r => r = (l.drop i).any fun x => decide (30 < x.f6.length)) ?_ ?_ l.length 0 (by omega) _ (by simp)
  · rintro r rfl
    refine Ev.step (f := fun _ => some false) (fun k => by simp only [juristlaw17_large.l1]; rw [if_neg (by omega)]) ?_
    simpa using ev_ret false
  · rintro i hi r rfl ih
    rw [drop_l hi, List.any_cons]
    by_cases he : 30 < (rd_T36 l (i : Int)).f6.length
    · refine Ev.step (f := fun _ => some true) (fun k => by simp only [juristlaw17_large.l1]; rw [if_pos (by omega), if_pos (by omega), if_pos (by omega), if_pos (by omega)]) ?_
      simpa [he] using ev_ret true
    · refine Ev.step (f := fun k => juristlaw17_large.l1 k l (l.length : Int) ((i + 1 : Nat) : Int)) (fun k => by simp only [juristlaw17_large.l1]; rw [if_pos (by omega), if_pos (by omega), if_pos (by omega), if_neg (by omega), wrap_succ (by omega)]) ?_
      rw [decide_eq_false he, Bool.false_or]
      exact ih _ rfl
theorem large_ev (v : List Vx) (a : List At) (l : List Lk) (hv : v.length < 4611686018427387904) (hl : l.length < 4611686018427387904) : Ev (fun k => juristlaw17_large.f k v a l) (largeM v a l) := by
  have htrue : Ev (fun k => juristlaw17_large.j0 k v l true) true := Ev.step (f := fun _ => some true) (fun k => by simp [juristlaw17_large.j0]) (ev_ret true)
  unfold juristlaw17_large.f largeM
  by_cases h1 : 100 < v.length
  · rw [decide_eq_true h1, Bool.true_or]
    exact ev_pos (by omega) htrue
  refine ev_neg (by omega) ?_
  rw [decide_eq_false h1, Bool.false_or]
  by_cases h2 : 200 < a.length
  · rw [decide_eq_true h2, Bool.true_or]
    exact ev_pos (by omega) htrue
  refine ev_neg (by omega) ?_
  rw [decide_eq_false h2, Bool.false_or]
  by_cases h3 : 300 < l.length
  · rw [decide_eq_true h3, Bool.true_or, decide_eq_true (by omega : (l.length : Int) > 300)]
    exact htrue
  rw [decide_eq_false h3, Bool.false_or, decide_eq_false (by omega : ¬ (l.length : Int) > 300)]
  refine Ev.step (f := fun k => juristlaw17_large.l0 k v l (v.length : Int) 0) (fun k => by simp [juristlaw17_large.j0]) ?_
  refine ev_upto v.length (fun k i => juristlaw17_large.l0 k v l (v.length : Int) i) (fun i r => r = (((v.drop i).any fun x => decide (30 < x.f1.length)) || l.any fun x => decide (30 < x.f6.length))) ?_ ?_ v.length 0 (by omega) _ (by simp)
  · rintro r rfl
    refine Ev.step (f := fun k => juristlaw17_large.l1 k l (l.length : Int) 0) (fun k => by simp only [juristlaw17_large.l0]; rw [if_neg (by omega)]) ?_
    simpa using large_l1 l hl
  · rintro i hi r rfl ih
    rw [drop_v hi, List.any_cons]
    by_cases he : 30 < (rd_T46 v (i : Int)).f1.length
    · refine Ev.step (f := fun _ => some true) (fun k => by simp only [juristlaw17_large.l0]; rw [if_pos (by omega), if_pos (by omega), if_pos (by omega), if_pos (by omega)]) ?_
      simpa [he] using ev_ret true
    · refine Ev.step (f := fun k => juristlaw17_large.l0 k v l (v.length : Int) ((i + 1 : Nat) : Int)) (fun k => by simp only [juristlaw17_large.l0]; rw [if_pos (by omega), if_pos (by omega), if_pos (by omega), if_neg (by omega), wrap_succ (by omega)]) ?_
      rw [decide_eq_false he, Bool.false_or]
      exact ih _ rfl
theorem large_calls (A0 : Option Addr) (c0 : Nat) (v : List Vx) (A1 : Option Addr) (c1 : Nat) (a : List At) (A2 : Option Addr) (c2 : Nat) (l : List Lk) (w : World) (hv : Kd.C k46 w A0 v.length v) (hc0 : v.length ≤ c0) (ha : Kd.C k66 w A1 a.length a) (hc1 : a.length ≤ c1) (hl : Kd.C k36 w A2 l.length l) (hc2 : l.length ≤ c2)
    (bv : v.length < 4611686018427387904) (bl : l.length < 4611686018427387904) :
    Calls Tryd.prog 8 #[.slice A0 v.length c0, .slice A1 a.length c1, .slice A2 l.length c2] w fun e w' => e = .returned (.bool (largeM v a l)) ∧ Below w.heap.size w w' := by
  obtain ⟨k, hk⟩ := (large_ev v a l bv bl).rounds
  exact (juristlaw17_large.calls k A0 c0 v A1 c1 a A2 c2 l _ w hv hc0 ha hc1 hl hc2 hk).mono fun e w' ⟨h1, h2⟩ => ⟨h1, h2.below⟩
theorem large_false {v : List Vx} {a : List At} {l : List Lk} (h : largeM v a l = false) : v.length ≤ 100 ∧ a.length ≤ 200 ∧ l.length ≤ 300 ∧ (∀ x ∈ v, x.f1.length ≤ 30) ∧ ∀ x ∈ l, x.f6.length ≤ 30 := by
  unfold largeM at h
  simp only [Bool.or_eq_false_iff, decide_eq_false_iff_not, List.any_eq_false, decide_eq_true_eq] at h
  obtain ⟨h1, h2, h3, h4, h5⟩ := h
  exact ⟨by omega, by omega, by omega, fun x hx => by have := h4 x hx; omega, fun x hx => by have := h5 x hx; omega⟩
end Go.Proofs.YtpopohkbffhckaaDoor.Pure
