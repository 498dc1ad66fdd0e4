/- ClausesOne: lists are the same just if they have one form; the form of a form is itself; it holds by the same assignments: for every input. Conditions: none. -/
import Derived.Test.YtiajmgmidfinfaaHkx
import Derived.Test.YtiajmgmidfinfaaPKnown14
import Derived.Test.YtiajmgmidfinfaaPHolds
namespace Go.Proofs.Ytiajmgmidfinfaa.Pure
open Go.RowKit Go.Proofs.Ytiajmgmidfinfaa.Hk Go.Proofs.YtiajmgmidfinfaaW.PrintWords Go.Proofs.YtiajmgmidfinfaaW.PrintLast Go.Proofs.YtiajmgmidfinfaaW.PrintMore Go.Proofs.Ytiajmgmidfinfaa.LF Go.Proofs.Ytiajmgmidfinfaa.MC

theorem mayB_canon {l : List Int} (h : mayB l = true) : mayB (canon l) = true := by
  obtain ⟨h1, h2⟩ := mayB_lits h
  unfold mayB
  rw [Bool.and_eq_true]
  have := length_canon_le l
  exact ⟨decide_eq_true (by omega), List.all_eq_true.2 fun x hx => literalB_true.2 (h2 x ((mem_canon x l).1 hx))⟩
theorem canon_canon (l : List Int) : canon (canon l) = canon l := canon_eq (rising_canon l) (fun _ => Iff.rfl)
theorem canon_same (l m : List Int) : decide (canon l = canon m) = (withinB l m && withinB m l) := by
  rw [Bool.eq_iff_iff, decide_eq_true_iff, Bool.and_eq_true]
  unfold withinB
  rw [List.all_eq_true, List.all_eq_true]
  constructor
  · intro h
    constructor
    · intro x hx
      have : x ∈ canon m := h ▸ (mem_canon x l).2 hx
      simpa using (mem_canon x m).1 this
    · intro x hx
      have : x ∈ canon l := h ▸ (mem_canon x m).2 hx
      simpa using (mem_canon x l).1 this
  · rintro ⟨h1, h2⟩
    refine canon_eq (rising_canon m) fun x => ?_
    rw [mem_canon]
    exact ⟨fun h => by simpa using h2 x h, fun h => by simpa using h1 x h⟩
theorem any_canon (p : Int → Bool) (l : List Int) : (canon l).any p = l.any p := by
  rw [Bool.eq_iff_iff, List.any_eq_true, List.any_eq_true]
  constructor
  · rintro ⟨x, hx, h⟩; exact ⟨x, (mem_canon x l).1 hx, h⟩
  · rintro ⟨x, hx, h⟩; exact ⟨x, (mem_canon x l).2 hx, h⟩
theorem within_some1 {l m : List Int} (hm : m.length < 17592186044416) (h : ∀ x ∈ l, (Lit.int .i64 x).wf = true) (h' : ∀ x ∈ m, (Lit.int .i64 x).wf = true) : clauses_Within.f l m = some (withinB l m) := by
  unfold clauses_Within.f
  exact if_pos ⟨hm, h, h'⟩
theorem same_some1 {l m : List Int} (hl : l.length < 17592186044416) (hm : m.length < 17592186044416) (h : ∀ x ∈ l, (Lit.int .i64 x).wf = true) (h' : ∀ x ∈ m, (Lit.int .i64 x).wf = true) : clauses_Same.f l m = some (withinB l m && withinB m l) := by
  unfold clauses_Same.f
  rw [within_some1 hm h h', within_some1 hl h' h]
  cases withinB l m <;> simp
theorem one_known : Ev (fun k => (juristlaw14_known.f k).bind fun t => some t) true := Ev.bind known_ev (ev_ret true)

theorem one_loop (l m : List Int) (bits : Int) (hl : l.length ≤ 300) (hm : m.length ≤ 300) (hw : ∀ x ∈ l, (Lit.int .i64 x).wf = true) (hw' : ∀ x ∈ m, (Lit.int .i64 x).wf = true) (z : Int) (hz : z = 0) :
    ∀ d i, i + d = l.length → ∀ b : Bool, Ev (fun k => juristlaw14_ClausesOne.l0 k l m bits (canon l) (canon m) (canon l) z b (l.length : Int) (i : Int)) true := by
  intro d
  induction d with
  | zero =>
    intro i hi b
    refine Ev.step (fun k => by simp only [juristlaw14_ClausesOne.l0]; rw [if_neg (by omega), if_pos hz]) ?_
    have hcl := length_canon_le l
    have e1 := alike_ev (canon l) (canon l) (by omega)
    simp only [decide_true] at e1
    refine Ev.bind e1 (ev_pos rfl ?_)
    refine Ev.bind (alike_ev (canon l) (canon m) (by omega)) ?_
    refine ev_got (same_some1 (by omega) (by omega) hw hw') ?_
    refine ev_pos (by rw [canon_same]; simp) ?_
    by_cases hb : b = true
    · refine ev_pos hb ?_
      refine Ev.bind (holds_ev l bits (by omega) hw) ?_
      refine Ev.bind (holds_ev (canon l) bits (by omega) (fun x hx => hw x ((mem_canon x l).1 hx))) ?_
      exact ev_pos (by rw [any_canon]; simp) one_known
    · exact ev_neg hb one_known
  | succ d ih =>
    intro i hi b
    by_cases hb : b = true
    · by_cases h60 : rd l (i : Int) ≤ 60
      · refine Ev.step (fun k => by simp only [juristlaw14_ClausesOne.l0]; rw [if_pos (by omega), if_pos hb, if_pos (by omega), if_pos (by omega), if_pos h60, wrap_succ (by omega)]) ?_
        exact ih (i + 1) (by omega) _
      · refine Ev.step (fun k => by simp only [juristlaw14_ClausesOne.l0]; rw [if_pos (by omega), if_pos hb, if_pos (by omega), if_pos (by omega), if_neg h60, wrap_succ (by omega)]) ?_
        exact ih (i + 1) (by omega) _
    · refine Ev.step (fun k => by simp only [juristlaw14_ClausesOne.l0]; rw [if_pos (by omega), if_neg hb, wrap_succ (by omega)]) ?_
      exact ih (i + 1) (by omega) _

theorem ClausesOne : juristlaw14_ClausesOne.Pure := by
  intro l m bits _ hl8 hw _ hm8 hw' _
  apply Ev.rounds
  unfold juristlaw14_ClausesOne.f
  have out : ∀ b : Bool, (b = false → l.length ≤ 300 ∧ m.length ≤ 300) → Ev (fun k => juristlaw14_ClausesOne.j0 k l m bits b) true := by
    intro b hb
    by_cases hbt : b = true
    · exact Ev.step (f := fun k => (juristlaw14_known.f k).bind fun t => some t) (fun k => by simp only [juristlaw14_ClausesOne.j0]; rw [if_pos hbt]) one_known
    · obtain ⟨h1, h2⟩ := hb (by simpa using hbt)
      refine Ev.step (fun k => by simp only [juristlaw14_ClausesOne.j0]; rw [if_neg hbt]) ?_
      have stop : ∀ x7 x9 : List Int, Ev (fun k => juristlaw14_ClausesOne.j1 k l m bits x7 x9 true) true := by
        intro x7 x9
        exact Ev.step (f := fun k => (juristlaw14_known.f k).bind fun t => some t) (fun k => by simp only [juristlaw14_ClausesOne.j1]; simp) one_known
      by_cases hm1 : mayB l = true
      · refine ev_got (normal_yes hm1) ?_
        by_cases hm2 : mayB m = true
        · refine ev_got (normal_yes hm2) (ev_pos rfl ?_)
          have e : ((0 : Int) != 0) = false := rfl
          dsimp only
          rw [e]
          refine Ev.step (f := fun k => (clauses_Normal.f (canon l)).bind fun bt => juristlaw14_ClausesOne.l0 k l m bits (canon l) (canon m) bt.1 bt.2 true (l.length : Int) 0) (fun k => by simp only [juristlaw14_ClausesOne.j1]; simp) ?_
          refine ev_got (normal_yes (mayB_canon hm1)) ?_
          rw [canon_canon]
          exact one_loop l m bits h1 h2 hw hw' 0 rfl l.length 0 (by omega) true
        · have hm2' : mayB m = false := by simpa using hm2
          exact ev_got (normal_no hm2') (ev_pos rfl (stop _ _))
      · have hm1' : mayB l = false := by simpa using hm1
        refine ev_got (normal_no hm1') ?_
        by_cases hm2 : mayB m = true
        · exact ev_got (normal_yes hm2) (ev_neg (by simp) (stop _ _))
        · have hm2' : mayB m = false := by simpa using hm2
          exact ev_got (normal_no hm2') (ev_neg (by simp) (stop _ _))
  by_cases c1 : (l.length : Int) > 300
  · exact ev_pos c1 (out true (by simp))
  · exact ev_neg c1 (out _ (fun h => by have := of_decide_eq_false h; omega))
end Go.Proofs.Ytiajmgmidfinfaa.Pure
