/- ClausesForms: whether a clause may be, its form, whether it says nothing, and whether one is within another one, are the document's, for every input. Conditions: none. -/
import Derived.Test.YtiajmgmidfinfaaHkx
import Derived.Test.YtiajmgmidfinfaaPKnown14
namespace Go.Proofs.Ytiajmgmidfinfaa.Pure
open Go.RowKit Go.Proofs.Ytiajmgmidfinfaa.Hk Go.Proofs.YtiajmgmidfinfaaW.PrintWords Go.Proofs.YtiajmgmidfinfaaW.PrintLast Go.Proofs.YtiajmgmidfinfaaW.PrintMore Go.Proofs.Ytiajmgmidfinfaa.LF Go.Proofs.Ytiajmgmidfinfaa.MC

theorem within_some {l m : List Int} (hm : m.length < 17592186044416) (h : ∀ x ∈ l, (Lit.int .i64 x).wf = true) (h' : ∀ x ∈ m, (Lit.int .i64 x).wf = true) : clauses_Within.f l m = some (withinB l m) := by
  unfold clauses_Within.f
  exact if_pos ⟨hm, h, h'⟩
theorem same_some {l m : List Int} (hl : l.length < 17592186044416) (hm : m.length < 17592186044416) (h : ∀ x ∈ l, (Lit.int .i64 x).wf = true) (h' : ∀ x ∈ m, (Lit.int .i64 x).wf = true) : clauses_Same.f l m = some (withinB l m && withinB m l) := by
  unfold clauses_Same.f
  rw [within_some hm h h', within_some hl h' h]
  cases withinB l m <;> simp
theorem says_some {l : List Int} (hl : l.length < 17592186044416) (h : ∀ x ∈ l, (Lit.int .i64 x).wf = true) : clauses_SaysNothing.f l = some (saysB l) := by
  unfold clauses_SaysNothing.f
  exact if_pos ⟨hl, h⟩

theorem forms_rest (l m : List Int) (hl : l.length ≤ 6000) (hm : m.length ≤ 300) (hw : ∀ x ∈ l, (Lit.int .i64 x).wf = true) (hw' : ∀ x ∈ m, (Lit.int .i64 x).wf = true) : Ev (fun k => juristlaw14_ClausesForms.j1 k l m l m) true := by
  by_cases hn : (l.length : Int) > 300
  · refine Ev.step (f := fun k => (juristlaw14_known.f k).bind fun t => some t) (fun k => by simp only [juristlaw14_ClausesForms.j1]; rw [if_pos hn]) ?_
    exact Ev.bind known_ev (ev_ret true)
  · refine Ev.step (fun k => by simp only [juristlaw14_ClausesForms.j1]; rw [if_neg hn]) ?_
    refine ev_got (says_some (by omega) hw) ?_
    refine Ev.bind (saysR_ev l (by omega)) ?_
    rw [saysR_eq l hw]
    refine ev_pos (by simp) ?_
    refine ev_got (within_some (by omega) hw hw') ?_
    refine Ev.bind (within_ev l m (by omega) (by omega)) ?_
    refine ev_pos (by simp) ?_
    refine ev_got (same_some (by omega) (by omega) hw hw') ?_
    refine Ev.bind (within_ev l m (by omega) (by omega)) ?_
    have tail : Ev (fun k => (juristref14_Alike.f k l l).bind fun t => if t = true then ((juristref14_Alike.f k m m).bind fun t => if t = true then ((juristlaw14_known.f k).bind fun t => some t) else some false) else some false) true := by
      have e1 := alike_ev l l (by omega)
      have e2 := alike_ev m m (by omega)
      simp only [decide_true] at e1 e2
      refine Ev.bind e1 (ev_pos rfl (Ev.bind e2 (ev_pos rfl (Ev.bind known_ev (ev_ret true)))))
    by_cases hx : withinB l m = true
    · refine ev_pos hx ?_
      refine Ev.bind (within_ev m l (by omega) (by omega)) ?_
      rw [hx]
      exact ev_pos (by simp) tail
    · refine ev_neg hx ?_
      have hx' : withinB l m = false := by simpa using hx
      rw [hx']
      exact ev_pos (by simp) tail

theorem ClausesForms : juristlaw14_ClausesForms.Pure := by
  intro l m _ hl8 hw _ hm8 hw'
  apply Ev.rounds
  unfold juristlaw14_ClausesForms.f
  have out : ∀ b : Bool, (b = false → l.length ≤ 6000 ∧ m.length ≤ 300) → Ev (fun k => juristlaw14_ClausesForms.j0 k l m b) true := by
    intro b hb
    by_cases hbt : b = true
    · refine Ev.step (f := fun k => (juristlaw14_known.f k).bind fun t => some t) (fun k => by simp only [juristlaw14_ClausesForms.j0]; rw [if_pos hbt]) ?_
      exact Ev.bind known_ev (ev_ret true)
    · obtain ⟨h1, h2⟩ := hb (by simpa using hbt)
      refine Ev.step (fun k => by simp only [juristlaw14_ClausesForms.j0]; rw [if_neg hbt]) ?_
      refine ev_got (copied_some l (by omega)) (ev_got (copied_some m (by omega)) ?_)
      by_cases hm : mayB l = true
      · refine ev_got (normal_yes hm) ?_
        refine ev_got (show clauses_May.f l = some true from by unfold clauses_May.f; rw [hm]) ?_
        have hme := may_ev l (by omega)
        rw [hm] at hme
        refine Ev.bind hme (ev_neg (by simp) ?_)
        refine Ev.bind hme (ev_pos rfl (ev_pos rfl ?_))
        obtain ⟨_, hml⟩ := mayB_lits hm
        refine Ev.bind (normal_ev l (by omega) (fun x hx => by have := hml x hx; omega)) ?_
        have e1 := alike_ev (canon l) (canon l) (by have := length_canon_le l; omega)
        simp only [decide_true] at e1
        exact Ev.bind e1 (ev_pos rfl (forms_rest l m h1 h2 hw hw'))
      · have hm' : mayB l = false := by simpa using hm
        refine ev_got (normal_no hm') ?_
        refine ev_got (show clauses_May.f l = some false from by unfold clauses_May.f; rw [hm']) ?_
        have hme := may_ev l (by omega)
        rw [hm'] at hme
        refine Ev.bind hme (ev_neg (by simp) ?_)
        refine Ev.bind hme (ev_neg (by simp) (ev_pos (by simp) (ev_pos rfl ?_)))
        exact forms_rest l m h1 h2 hw hw'
  by_cases c1 : (l.length : Int) > 300
  · refine ev_pos c1 ?_
    by_cases c2 : (l.length : Int) ≤ 5000
    · exact ev_pos c2 (out true (by simp))
    · refine ev_neg c2 ?_
      by_cases c3 : (l.length : Int) > 6000
      · exact ev_pos c3 (out true (by simp))
      · exact ev_neg c3 (out _ (fun h => by have := of_decide_eq_false h; omega))
  · refine ev_neg c1 ?_
    by_cases c3 : (l.length : Int) > 6000
    · exact ev_pos c3 (out true (by simp))
    · exact ev_neg c3 (out _ (fun h => by have := of_decide_eq_false h; omega))
end Go.Proofs.Ytiajmgmidfinfaa.Pure
