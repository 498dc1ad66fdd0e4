/- ClausesFollow: what is resolved follows: each assignment by which both clauses hold makes the outcome hold: for every input. Conditions: none. -/
import Derived.Test.YtiajmgmidfinfaaHkx
import Derived.Test.YtiajmgmidfinfaaPResolve
import Derived.Test.YtiajmgmidfinfaaPHolds
namespace Go.Proofs.Ytiajmgmidfinfaa.Pure
open Go.RowKit Go.Proofs.Ytiajmgmidfinfaa.Hk Go.Proofs.YtiajmgmidfinfaaW.PrintWords Go.Proofs.YtiajmgmidfinfaaW.PrintLast Go.Proofs.YtiajmgmidfinfaaW.PrintMore Go.Proofs.Ytiajmgmidfinfaa.LF Go.Proofs.Ytiajmgmidfinfaa.MC

theorem litOn_neg (bits : Int) {x : Int} (h0 : x ≠ 0) : litOn bits (-x) = !litOn bits x := by
  have e : litAtom (-x) = litAtom x := by unfold litAtom; split <;> split <;> omega
  unfold litOn
  rw [e]
  generalize (Int.tmod (shr .u64 bits (IntKind.u64.wrap (wrap64 (wrap64 (litAtom x) - 1)))) 2 == 1) = b
  by_cases h : x > 0
  · have h1 : decide (x > 0) = true := decide_eq_true h
    have h2 : decide (-x > 0) = false := decide_eq_false (by omega)
    rw [h1, h2]; cases b <;> rfl
  · have h1 : decide (x > 0) = false := decide_eq_false h
    have h2 : decide (-x > 0) = true := decide_eq_true (by omega)
    rw [h1, h2]; cases b <;> rfl
theorem any_canon2 (p : Int → Bool) (l : List Int) : (canon l).any p = l.any p := by
  rw [Bool.eq_iff_iff, List.any_eq_true, List.any_eq_true]
  constructor
  · rintro ⟨x, hx, h⟩; exact ⟨x, (mem_canon x l).1 hx, h⟩
  · rintro ⟨x, hx, h⟩; exact ⟨x, (mem_canon x l).2 hx, h⟩
theorem follow_holds (l m : List Int) (b bits : Int) (hb : 1 ≤ b) (h1 : l.any (litOn bits) = true) (h2 : m.any (litOn bits) = true) : (canon (without b l ++ without (-b) m)).any (litOn bits) = true := by
  rw [any_canon2, List.any_append, Bool.or_eq_true]
  obtain ⟨x, hx, hx'⟩ := List.any_eq_true.1 h1
  obtain ⟨y, hy, hy'⟩ := List.any_eq_true.1 h2
  by_cases he : x = b
  · right
    refine List.any_eq_true.2 ⟨y, List.mem_filter.2 ⟨hy, ?_⟩, hy'⟩
    rw [bne_iff_ne]
    rintro rfl
    rw [← he, litOn_neg bits (by omega), hx'] at hy'
    cases hy'
  · left
    exact List.any_eq_true.2 ⟨x, List.mem_filter.2 ⟨hx, by rw [bne_iff_ne]; exact he⟩, hx'⟩

theorem follow_end (l m : List Int) (b bits : Int) (hl : l.length ≤ 300) (hm : m.length ≤ 300) (hw : ∀ x ∈ l, (Lit.int .i64 x).wf = true) (hw' : ∀ x ∈ m, (Lit.int .i64 x).wf = true) (hb : (Lit.int .i64 b).wf = true) :
    Ev (fun k => (clauses_Resolve.f k l m b).bind fun bt => if bt.2 = 0 then ((juristref14_Holds.f k l bits).bind fun t => if t = true then ((juristref14_Holds.f k m bits).bind fun t => if t = true then ((juristref14_Holds.f k bt.1 bits).bind fun t => if t = true then ((juristlaw14_known.f k).bind fun t => some t) else some false) else ((juristlaw14_known.f k).bind fun t => some t)) else ((juristlaw14_known.f k).bind fun t => some t)) else ((juristlaw14_known.f k).bind fun t => some t)) true := by
  have known_ : Ev (fun k => (juristlaw14_known.f k).bind fun t => some t) true := Ev.bind known_ev (ev_ret true)
  refine Ev.bind (resolve_ev l m b hb) ?_
  unfold resolved
  by_cases c1 : (mayB l && mayB m && decide (1 ≤ b) && decide (b ≤ 1048576)) = true
  · rw [if_pos c1]
    by_cases c2 : (l.contains b && m.contains (-b)) = true
    · rw [if_pos c2]
      have hb1 : 1 ≤ b := by
        simp only [Bool.and_eq_true] at c1
        exact of_decide_eq_true c1.1.2
      refine ev_pos rfl (Ev.bind (holds_ev l bits (by omega) hw) ?_)
      by_cases h1 : l.any (litOn bits) = true
      · refine ev_pos h1 (Ev.bind (holds_ev m bits (by omega) hw') ?_)
        by_cases h2 : m.any (litOn bits) = true
        · refine ev_pos h2 ?_
          dsimp only
          have hlen := length_canon_le (without b l ++ without (-b) m)
          have := length_without b l
          have := length_without (-b) m
          rw [List.length_append] at hlen
          have he := holds_ev (canon (without b l ++ without (-b) m)) bits (by omega) (fun x hx => by
            rw [mem_canon] at hx
            rcases List.mem_append.1 hx with hx | hx
            · exact hw x (List.mem_filter.1 hx).1
            · exact hw' x (List.mem_filter.1 hx).1)
          rw [follow_holds l m b bits hb1 h1 h2] at he
          exact Ev.bind he (ev_pos rfl known_)
        · exact ev_neg h2 known_
      · exact ev_neg h1 known_
    · rw [if_neg c2]
      exact ev_neg (by simp) known_
  · rw [if_neg c1]
    exact ev_neg (by simp) known_

theorem ClausesFollow : juristlaw14_ClausesFollow.Pure := by
  intro l m b bits _ _ hw _ _ hw' hb _
  apply Ev.rounds
  unfold juristlaw14_ClausesFollow.f
  have known_ : Ev (fun k => (juristlaw14_known.f k).bind fun t => some t) true := Ev.bind known_ev (ev_ret true)
  have out : ∀ c : Bool, (c = false → l.length ≤ 300 ∧ m.length ≤ 300) → Ev (fun k => juristlaw14_ClausesFollow.j0 k l m b bits c) true := by
    intro c hc
    by_cases hct : c = true
    · exact Ev.step (f := fun k => (juristlaw14_known.f k).bind fun t => some t) (fun k => by simp only [juristlaw14_ClausesFollow.j0]; rw [if_pos hct]) known_
    · obtain ⟨h1, h2⟩ := hc (by simpa using hct)
      refine Ev.step (fun k => by simp only [juristlaw14_ClausesFollow.j0]; rw [if_neg hct]) ?_
      refine ev_got (copied_some l (by omega)) (ev_pos (by omega) (ev_got rfl ?_))
      refine ev_list (l ++ m) (fun k i => juristlaw14_ClausesFollow.l0 k l m b bits (l ++ m) ((l ++ m).length : Int) i) (fun _ r => r = true) ?_ ?_ (l ++ m).length 0 (by omega) true rfl
      · rintro r rfl
        exact Ev.step (fun k => by simp only [juristlaw14_ClausesFollow.l0]; rw [if_neg (by omega)]) (follow_end l m b bits h1 h2 hw hw' hb)
      · rintro i h r rfl ih
        have hlen : (l ++ m).length ≤ 600 := by rw [List.length_append]; omega
        by_cases e0 : rd (l ++ m) (i : Int) = 0
        · exact Ev.step (f := fun k => (juristlaw14_known.f k).bind fun t => some t) (fun k => by simp only [juristlaw14_ClausesFollow.l0]; rw [if_pos (by omega), if_pos (by omega), if_pos (by omega), if_pos e0]) known_
        · by_cases e1 : rd (l ++ m) (i : Int) > 60
          · exact Ev.step (f := fun k => (juristlaw14_known.f k).bind fun t => some t) (fun k => by simp only [juristlaw14_ClausesFollow.l0]; rw [if_pos (by omega), if_pos (by omega), if_pos (by omega), if_neg e0, if_pos e1]) known_
          · by_cases e2 : rd (l ++ m) (i : Int) < -60
            · exact Ev.step (f := fun k => (juristlaw14_known.f k).bind fun t => some t) (fun k => by simp only [juristlaw14_ClausesFollow.l0]; rw [if_pos (by omega), if_pos (by omega), if_pos (by omega), if_neg e0, if_neg e1, if_pos e2]) known_
            · exact Ev.step (fun k => by simp only [juristlaw14_ClausesFollow.l0]; rw [if_pos (by omega), if_pos (by omega), if_pos (by omega), if_neg e0, if_neg e1, if_neg e2, wrap_succ (by omega)]) (ih _ rfl)
  by_cases c1 : (l.length : Int) > 300
  · exact ev_pos c1 (out true (by simp))
  · exact ev_neg c1 (out _ (fun h => by have := of_decide_eq_false h; omega))
end Go.Proofs.Ytiajmgmidfinfaa.Pure
