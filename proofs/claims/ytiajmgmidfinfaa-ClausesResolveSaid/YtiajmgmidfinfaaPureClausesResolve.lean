/- ClausesResolve: what any two clauses are resolved to by any number, or the refusal, is the document's; they stay: for every input. Conditions: none. -/
import Derived.Test.YtiajmgmidfinfaaHkx
import Derived.Test.YtiajmgmidfinfaaPResolve
namespace Go.Proofs.Ytiajmgmidfinfaa.Pure
open Go.RowKit Go.Proofs.Ytiajmgmidfinfaa.Hk Go.Proofs.YtiajmgmidfinfaaW.PrintWords Go.Proofs.YtiajmgmidfinfaaW.PrintLast Go.Proofs.YtiajmgmidfinfaaW.PrintMore Go.Proofs.Ytiajmgmidfinfaa.LF Go.Proofs.Ytiajmgmidfinfaa.MC

theorem ref_l1 (m : List Int) (b : Int) (r : List Int × Int) (hm : m.length < 8796093022208) (hb : 1 ≤ b ∧ b ≤ 1048576) :
    ∀ d i, i + d = m.length → ∀ acc : List Int, acc.length + d < 17592186044416 → Ev (fun k => (juristref14_Normal.f k (acc ++ without (-b) (m.drop i))).bind fun t => some (t, 0)) r →
      Ev (fun k => juristref14_Resolve.l1 k m b acc (i : Int)) r := by
  intro d
  induction d with
  | zero =>
    intro i hi acc _ h
    obtain rfl : i = m.length := by omega
    rw [List.drop_length] at h
    have e : acc ++ without (-b) [] = acc := by simp [without]
    rw [e] at h
    exact Ev.step (fun k => by simp only [juristref14_Resolve.l1]; rw [if_neg (by omega)]) h
  | succ d ih =>
    intro i hi acc ha h
    have hw : wrap64 (-b) = -b := wrap_in (by omega) (by omega)
    rw [drop_rd (by omega), without_cons] at h
    by_cases he : rd m (i : Int) = -b
    · rw [if_pos he] at h
      refine Ev.step (fun k => by simp only [juristref14_Resolve.l1]; rw [if_pos (by omega), if_pos (by omega), hw, if_pos he, wrap_succ (by omega)]) (ih (i + 1) (by omega) acc (by omega) h)
    · rw [if_neg he] at h
      refine Ev.step (fun k => by simp only [juristref14_Resolve.l1]; rw [if_pos (by omega), if_pos (by omega), hw, if_neg he, if_pos (by omega), wrap_succ (by omega)]) (ih (i + 1) (by omega) _ (by simp; omega) ?_)
      rw [List.append_assoc]
      exact h
theorem ref_l0 (l m : List Int) (b : Int) (r : List Int × Int) (hl : l.length < 4398046511104) (hm : m.length < 4398046511104) (hb : 1 ≤ b ∧ b ≤ 1048576) :
    ∀ d i, i + d = l.length → ∀ acc : List Int, acc.length + d ≤ l.length → Ev (fun k => (juristref14_Normal.f k (acc ++ without b (l.drop i) ++ without (-b) m)).bind fun t => some (t, 0)) r →
      Ev (fun k => juristref14_Resolve.l0 k l m b acc (i : Int)) r := by
  intro d
  induction d with
  | zero =>
    intro i hi acc ha h
    obtain rfl : i = l.length := by omega
    rw [List.drop_length] at h
    have e : acc ++ without b [] = acc := by simp [without]
    rw [e] at h
    refine Ev.step (f := fun k => juristref14_Resolve.l1 k m b acc 0) (fun k => by simp only [juristref14_Resolve.l0]; rw [if_neg (by omega)]) ?_
    refine ref_l1 m b r (by omega) hb m.length 0 (by omega) acc (by omega) ?_
    rw [List.drop_zero]
    exact h
  | succ d ih =>
    intro i hi acc ha h
    rw [drop_rd (by omega), without_cons] at h
    by_cases he : rd l (i : Int) = b
    · rw [if_pos he] at h
      exact Ev.step (fun k => by simp only [juristref14_Resolve.l0]; rw [if_pos (by omega), if_pos (by omega), if_pos he, wrap_succ (by omega)]) (ih (i + 1) (by omega) acc (by omega) h)
    · rw [if_neg he] at h
      refine Ev.step (fun k => by simp only [juristref14_Resolve.l0]; rw [if_pos (by omega), if_pos (by omega), if_neg he, if_pos (by omega), wrap_succ (by omega)]) (ih (i + 1) (by omega) _ (by simp; omega) ?_)
      rw [List.append_assoc acc]
      exact h

theorem ref_resolve_ev (l m : List Int) (b : Int) (hb : (Lit.int .i64 b).wf = true) (hl0 : l.length < 4611686018427387904) (hm0 : m.length < 4611686018427387904) : Ev (fun k => juristref14_Resolve.f k l m b) (resolved l m b) := by
  have hbb := wf_bd hb
  unfold juristref14_Resolve.f
  have stop : resolved l m b = ([], 2) → ∀ c : Bool, c = true → Ev (fun k => juristref14_Resolve.j0 k l m b c) (resolved l m b) := by
    intro e c hc
    rw [e]
    exact Ev.step (f := fun _ => some ([], 2)) (fun k => by simp only [juristref14_Resolve.j0]; rw [if_pos hc]) (ev_ret _)
  refine Ev.bind (may_ev l hl0) ?_
  by_cases hl : mayB l = true
  · refine ev_pos hl (Ev.bind (may_ev m hm0) ?_)
    by_cases hm : mayB m = true
    · refine ev_pos hm ?_
      by_cases h1 : b < 1
      · exact ev_pos h1 (stop (by unfold resolved; rw [if_neg (by simp; omega)]) true rfl)
      · refine ev_neg h1 ?_
        by_cases h2 : b > 1048576
        · exact stop (by unfold resolved; rw [if_neg (by simp; omega)]) _ (decide_eq_true h2)
        · have hf : decide (b > 1048576) = false := decide_eq_false h2
          obtain ⟨hl1, _⟩ := mayB_lits hl
          obtain ⟨hm1, _⟩ := mayB_lits hm
          have hr : resolved l m b = if (l.contains b && m.contains (-b)) = true then (canon (without b l ++ without (-b) m), 0) else ([], 7) := by
            unfold resolved
            rw [if_pos (by rw [hl, hm]; simp; omega)]
          rw [hr]
          have none_ : ∀ c : Bool, c = true → Ev (fun k => juristref14_Resolve.j1 k l m b c) (([] : List Int), (7 : Int)) := fun c hc =>
            Ev.step (f := fun _ => some ([], 7)) (fun k => by simp only [juristref14_Resolve.j1]; rw [if_pos hc]) (ev_ret _)
          refine Ev.step (f := fun k => (juristref14_Has.f k l b).bind fun t => if t = true then ((juristref14_Has.f k m (-b)).bind fun t => juristref14_Resolve.j1 k l m b (!t)) else juristref14_Resolve.j1 k l m b true) (fun k => by simp only [juristref14_Resolve.j0]; rw [if_neg (by rw [hf]; simp), wrap_in (by omega) (by omega)]) ?_
          refine Ev.bind (has_ev l b hl0) ?_
          by_cases c1 : l.contains b = true
          · refine ev_pos c1 (Ev.bind (has_ev m (-b) hm0) ?_)
            by_cases c2 : m.contains (-b) = true
            · rw [c1, c2]
              refine Ev.step (f := fun k => juristref14_Resolve.l0 k l m b [] 0) (fun k => by simp only [juristref14_Resolve.j1]; simp) ?_
              refine ref_l0 l m b _ (by omega) (by omega) (by omega) l.length 0 (by omega) [] (by simp) ?_
              rw [List.drop_zero, List.nil_append]
              obtain ⟨q1, q2⟩ := lits_res (b := b) hl hm
              exact Ev.bind (normal_ev _ (by omega) (fun x hx => by have := q1 x hx; omega)) (ev_ret _)
            · have c2' : m.contains (-b) = false := by simpa using c2
              rw [c1, c2']
              exact none_ _ rfl
          · refine ev_neg c1 ?_
            have c1' : l.contains b = false := by simpa using c1
            rw [c1']
            exact none_ _ rfl
    · exact ev_neg hm (stop (by unfold resolved; rw [if_neg (by simp [hm])]) true rfl)
  · exact ev_neg hl (stop (by unfold resolved; rw [if_neg (by simp [hl])]) true rfl)

theorem length_resolved (l m : List Int) (b : Int) (hl : l.length < 4398046511104) (hm : m.length < 4398046511104) : (resolved l m b).1.length < 17592186044416 := by
  unfold resolved
  split
  · split
    · have := length_canon_le (without b l ++ without (-b) m)
      have := length_without b l
      have := length_without (-b) m
      rw [List.length_append] at *
      dsimp only
      omega
    · simp
  · simp

theorem ClausesResolve : juristlaw14_ClausesResolve.Pure := by
  intro l m b _ _ _ _ _ _ hb
  apply Ev.rounds
  unfold juristlaw14_ClausesResolve.f
  have known_ : Ev (fun k => (juristlaw14_known.f k).bind fun t => some t) true := Ev.bind known_ev (ev_ret true)
  have out : ∀ c : Bool, (c = false → l.length ≤ 300 ∧ m.length ≤ 300) → Ev (fun k => juristlaw14_ClausesResolve.j0 k l m b c) true := by
    intro c hc
    by_cases hct : c = true
    · exact Ev.step (f := fun k => (juristlaw14_known.f k).bind fun t => some t) (fun k => by simp only [juristlaw14_ClausesResolve.j0]; rw [if_pos hct]) known_
    · obtain ⟨h1, h2⟩ := hc (by simpa using hct)
      refine Ev.step (fun k => by simp only [juristlaw14_ClausesResolve.j0]; rw [if_neg hct]) ?_
      refine ev_got (copied_some l (by omega)) (ev_got (copied_some m (by omega)) ?_)
      refine Ev.bind (resolve_ev l m b hb) (Ev.bind (ref_resolve_ev l m b hb (by omega) (by omega)) ?_)
      have e1 := alike_ev (resolved l m b).1 (resolved l m b).1 (by have := length_resolved l m b (by omega) (by omega); omega)
      have e2 := alike_ev l l (by omega)
      have e3 := alike_ev m m (by omega)
      simp only [decide_true] at e1 e2 e3
      exact Ev.bind e1 (ev_pos rfl (ev_pos rfl (Ev.bind e2 (ev_pos rfl (Ev.bind e3 (ev_pos rfl known_))))))
  by_cases c1 : (l.length : Int) > 300
  · exact ev_pos c1 (out true (by simp))
  · exact ev_neg c1 (out _ (fun h => by have := of_decide_eq_false h; omega))
end Go.Proofs.Ytiajmgmidfinfaa.Pure
