/- Plain law: what two clauses are resolved to, by the program. -/
import Derived.Test.YtiajmgmidfinfaaHkx
import Derived.Test.YtiajmgmidfinfaaPKnown14
namespace Go.Proofs.Ytiajmgmidfinfaa.Pure
open Go.RowKit Go.Proofs.Ytiajmgmidfinfaa.Hk Go.Proofs.YtiajmgmidfinfaaW.PrintWords Go.Proofs.YtiajmgmidfinfaaW.PrintLast Go.Proofs.YtiajmgmidfinfaaW.PrintMore Go.Proofs.Ytiajmgmidfinfaa.LF Go.Proofs.Ytiajmgmidfinfaa.MC

theorem index_ev (l : List Int) (a : Int) (hl : l.length < 4611686018427387904) : Ev (fun k => (api_Lit_49.f k l a).bind fun t => some (decide (t ≥ 0))) (l.contains a) := by
  unfold api_Lit_49.f
  refine ev_list l (fun k i => (api_Lit_49.l0 k l a (l.length : Int) i).bind fun t => some (decide (t ≥ 0))) (fun i r => r = (l.drop i).contains a) ?_ ?_ l.length 0 (by omega) _ (by simp)
  · rintro r rfl
    refine Ev.step (f := fun _ => some false) (fun k => by simp only [api_Lit_49.l0]; rw [if_neg (by omega)]; rfl) ?_
    simpa using ev_ret false
  · rintro i h r rfl ih
    rw [drop_rd h]
    by_cases he : a = rd l (i : Int)
    · refine Ev.step (f := fun _ => some true) (fun k => by simp only [api_Lit_49.l0]; rw [if_pos (by omega), if_pos (by omega), if_pos (by omega), if_pos he]; simp) ?_
      simpa [he] using ev_ret true
    · refine Ev.step (f := fun k => (api_Lit_49.l0 k l a (l.length : Int) ((i + 1 : Nat) : Int)).bind fun t => some (decide (t ≥ 0))) (fun k => by simp only [api_Lit_49.l0]; rw [if_pos (by omega), if_pos (by omega), if_pos (by omega), if_neg he, wrap_succ (by omega)]) ?_
      have : (rd l (i : Int) :: l.drop (i + 1)).contains a = (l.drop (i + 1)).contains a := by simp [he]
      rw [this]
      exact ih _ rfl
theorem contains_ev (l : List Int) (a : Int) (hl : l.length < 4611686018427387904) : Ev (fun k => api_Lit_40.f k l a) (l.contains a) := index_ev l a hl

def without (a : Int) (l : List Int) : List Int := l.filter fun x => x != a
/-- What two clauses are resolved to. -/
def resolved (l m : List Int) (b : Int) : List Int × Int :=
  if (mayB l && mayB m && decide (1 ≤ b) && decide (b ≤ 1048576)) = true then (if (l.contains b && m.contains (-b)) = true then (canon (without b l ++ without (-b) m), 0) else ([], 7)) else ([], 2)
theorem without_cons (a x : Int) (l : List Int) : without a (x :: l) = if x = a then without a l else x :: without a l := by
  unfold without
  by_cases h : x = a
  · simp [h]
  · rw [if_neg h, List.filter_cons_of_pos (by simp [h])]
theorem length_without (a : Int) (l : List Int) : (without a l).length ≤ l.length := List.length_filter_le _ _

theorem res_l1 (m : List Int) (b : Int) (r : List Int × Int) (hm : m.length < 8796093022208) (hb : 1 ≤ b ∧ b ≤ 1048576) :
    ∀ d i, i + d = m.length → ∀ acc : List Int, acc.length + d < 17592186044416 → Ev (fun _ => (clauses_form.f (acc ++ without (-b) (m.drop i))).bind fun t => some (t, 0)) r →
      Ev (fun k => clauses_Resolve.l1 k b acc m (m.length : Int) (i : Int)) r := by
  intro d
  induction d with
  | zero =>
    intro i hi acc _ h
    obtain rfl : i = m.length := by omega
    rw [List.drop_length] at h
    have e : acc ++ without (-b) [] = acc := by simp [without]
    rw [e] at h
    exact Ev.step (fun k => by simp only [clauses_Resolve.l1]; rw [if_neg (by omega)]) h
  | succ d ih =>
    intro i hi acc ha h
    have hw : wrap64 (-b) = -b := wrap_in (by omega) (by omega)
    rw [drop_rd (by omega), without_cons] at h
    by_cases he : rd m (i : Int) = -b
    · rw [if_pos he] at h
      refine Ev.step (fun k => by simp only [clauses_Resolve.l1]; rw [if_pos (by omega), if_pos (by omega), if_pos (by omega), hw, if_pos he, wrap_succ (by omega)]) (ih (i + 1) (by omega) acc (by omega) h)
    · rw [if_neg he] at h
      refine Ev.step (fun k => by simp only [clauses_Resolve.l1]; rw [if_pos (by omega), if_pos (by omega), if_pos (by omega), hw, if_neg he, if_pos (by omega), wrap_succ (by omega)]) (ih (i + 1) (by omega) _ (by simp; omega) ?_)
      rw [List.append_assoc]
      exact h
theorem res_l0 (l m : List Int) (b : Int) (r : List Int × Int) (hl : l.length < 4398046511104) (hm : m.length < 4398046511104) (hb : 1 ≤ b ∧ b ≤ 1048576) :
    ∀ d i, i + d = l.length → ∀ acc : List Int, acc.length + d ≤ l.length → Ev (fun _ => (clauses_form.f (acc ++ without b (l.drop i) ++ without (-b) m)).bind fun t => some (t, 0)) r →
      Ev (fun k => clauses_Resolve.l0 k m b acc l (l.length : Int) (i : Int)) r := by
  intro d
  induction d with
  | zero =>
    intro i hi acc ha h
    obtain rfl : i = l.length := by omega
    rw [List.drop_length] at h
    have e : acc ++ without b [] = acc := by simp [without]
    rw [e] at h
    refine Ev.step (f := fun k => clauses_Resolve.l1 k b acc m (m.length : Int) 0) (fun k => by simp only [clauses_Resolve.l0]; rw [if_neg (by omega)]) ?_
    refine res_l1 m b r (by omega) hb m.length 0 (by omega) acc (by omega) ?_
    rw [List.drop_zero]
    exact h
  | succ d ih =>
    intro i hi acc ha h
    rw [drop_rd (by omega), without_cons] at h
    by_cases he : rd l (i : Int) = b
    · rw [if_pos he] at h
      exact Ev.step (fun k => by simp only [clauses_Resolve.l0]; rw [if_pos (by omega), if_pos (by omega), if_pos (by omega), if_pos he, wrap_succ (by omega)]) (ih (i + 1) (by omega) acc (by omega) h)
    · rw [if_neg he] at h
      refine Ev.step (fun k => by simp only [clauses_Resolve.l0]; rw [if_pos (by omega), if_pos (by omega), if_pos (by omega), if_neg he, if_pos (by omega), wrap_succ (by omega)]) (ih (i + 1) (by omega) _ (by simp; omega) ?_)
      rw [List.append_assoc acc]
      exact h

theorem lits_res {l m : List Int} {b : Int} (hl : mayB l = true) (hm : mayB m = true) : (∀ x ∈ without b l ++ without (-b) m, x ≠ 0 ∧ -1048576 ≤ x ∧ x ≤ 1048576) ∧ (without b l ++ without (-b) m).length ≤ 10000 := by
  obtain ⟨h1, h2⟩ := mayB_lits hl
  obtain ⟨h3, h4⟩ := mayB_lits hm
  refine ⟨fun x hx => ?_, ?_⟩
  · rcases List.mem_append.1 hx with hx | hx
    · exact h2 x (List.mem_filter.1 hx).1
    · exact h4 x (List.mem_filter.1 hx).1
  · have := length_without b l
    have := length_without (-b) m
    rw [List.length_append]
    omega

theorem resolve_ev (l m : List Int) (b : Int) (hb : (Lit.int .i64 b).wf = true) : Ev (fun k => clauses_Resolve.f k l m b) (resolved l m b) := by
  have hbb := wf_bd hb
  unfold clauses_Resolve.f clauses_May.f
  have stop : resolved l m b = ([], 2) → ∀ c : Bool, c = true → Ev (fun k => clauses_Resolve.j0 k l m b c) (resolved l m b) := by
    intro e c hc
    rw [e]
    exact Ev.step (f := fun _ => some ([], 2)) (fun k => by simp only [clauses_Resolve.j0]; rw [if_pos hc]) (ev_ret _)
  refine ev_got rfl ?_
  by_cases hl : mayB l = true
  · refine ev_pos hl (ev_got rfl ?_)
    by_cases hm : mayB m = true
    · refine ev_pos hm ?_
      by_cases h1 : b < 1
      · exact ev_pos h1 (stop (by unfold resolved; rw [if_neg (by simp; omega)]) true rfl)
      · refine ev_neg h1 ?_
        by_cases h2 : b > 1048576
        · exact stop (by unfold resolved; rw [if_neg (by simp; omega)]) _ (decide_eq_true h2)
        · have hf : decide (b > 1048576) = false := decide_eq_false h2
          obtain ⟨hl1, _⟩ := mayB_lits hl
          obtain ⟨hm1, _⟩ := mayB_lits hm
          have hr : resolved l m b = if (l.contains b && m.contains (-b)) = true then (canon (without b l ++ without (-b) m), 0) else ([], 7) := by
            unfold resolved
            rw [if_pos (by rw [hl, hm]; simp; omega)]
          rw [hr]
          refine Ev.step (f := fun k => (api_Lit_40.f k l b).bind fun t => if t = true then ((api_Lit_40.f k m (-b)).bind fun t => if t = true then clauses_Resolve.l0 k m b [] l (l.length : Int) 0 else some ([], 7)) else some ([], 7)) (fun k => by simp only [clauses_Resolve.j0]; rw [if_neg (by rw [hf]; simp), wrap_in (by omega) (by omega)]) ?_
          refine Ev.bind (contains_ev l b (by omega)) ?_
          by_cases c1 : l.contains b = true
          · refine ev_pos c1 (Ev.bind (contains_ev m (-b) (by omega)) ?_)
            by_cases c2 : m.contains (-b) = true
            · refine ev_pos c2 ?_
              rw [c1, c2]
              refine res_l0 l m b _ (by omega) (by omega) (by omega) l.length 0 (by omega) [] (by simp) ?_
              rw [List.drop_zero, List.nil_append]
              obtain ⟨q1, q2⟩ := lits_res (b := b) hl hm
              exact ev_got (form_some (by omega) q1) (ev_ret _)
            · refine ev_neg c2 ?_
              have c2' : m.contains (-b) = false := by simpa using c2
              rw [c1, c2']
              exact ev_ret _
          · refine ev_neg c1 ?_
            have c1' : l.contains b = false := by simpa using c1
            rw [c1']
            exact ev_ret _
    · exact ev_neg hm (stop (by unfold resolved; rw [if_neg (by simp [hm])]) true rfl)
  · exact ev_neg hl (stop (by unfold resolved; rw [if_neg (by simp [hl])]) true rfl)
end Go.Proofs.Ytiajmgmidfinfaa.Pure
