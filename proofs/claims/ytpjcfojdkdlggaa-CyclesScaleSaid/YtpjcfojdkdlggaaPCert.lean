/- Plain laws of layer 18: certificates, by the program and by the document; the known case. -/
import Derived.Test.YtpjcfojdkdlggaaHkx0
import Derived.Test.YtpjcfojdkdlggaaHkx2
import Derived.Test.YtpjcfojdkdlggaaHkx5
import Derived.Test.YtpjcfojdkdlggaaPCyc
namespace Go.Proofs.Ytpjcfojdkdlggaa.Pure
open Go.RowKit Go.Proofs.Ytpjcfojdkdlggaa.Hk Go.Proofs.YtpjcfojdkdlggaaW.PrintWords Go.Proofs.YtpjcfojdkdlggaaW.PrintLast Go.Proofs.YtpjcfojdkdlggaaW.PrintMore Go.Proofs.Ytpjcfojdkdlggaa.LF Go.Proofs.Ytpjcfojdkdlggaa.MC Go.Proofs.Ytpjcfojdkdlggaa.MW

/-- A literal's edge, as one. -/
def edge1 (a : List At) (x : Int) : MW.Edge := ⟨(edgeOf a x).1, (edgeOf a x).2.1, (edgeOf a x).2.2.1⟩
def edges (a : List At) (l : List Int) : List MW.Edge := l.map (edge1 a)
def allOk (a : List At) (l : List Int) : Bool := l.all fun x => (edgeOf a x).2.2.2 == 0
/-- What a row of literals is, a certificate or none. -/
def checkR (a : List At) (l : List Int) : List Int × Int :=
  if 5000 < l.length then ([], 3) else if allOk a l = true then (if (sumR (edges a l)).2 = 0 ∧ (sumR (edges a l)).1 < 0 then (canon l, 0) else ([], 5)) else ([], 2)
theorem edges_wf {a : List At} (hw : AtomsWf a) (l : List Int) : EdgesWf (edges a l) := by
  intro e he
  obtain ⟨x, _, rfl⟩ := List.mem_map.1 he
  exact edgeOf_wf hw x
theorem edgeOf_err (a : List At) (x : Int) : (edgeOf a x).2.2.2 = 0 ∨ (edgeOf a x).2.2.2 = 2 := by
  unfold edgeOf
  split
  · split <;> exact .inl rfl
  · exact .inr rfl
theorem edgeOf_ok {a : List At} {x : Int} (h : (edgeOf a x).2.2.2 = 0) : 1 ≤ litAtom x ∧ litAtom x ≤ a.length := by
  unfold edgeOf at h
  split at h
  · rename_i hc; exact ⟨hc.1, hc.2.1⟩
  · simp at h
theorem lits_ok {a : List At} (ha : a.length ≤ 1048576) {l : List Int} (h : allOk a l = true) : ∀ x ∈ l, x ≠ 0 ∧ -1048576 ≤ x ∧ x ≤ 1048576 := by
  intro x hx
  have := edgeOf_ok (by simpa using List.all_eq_true.1 h x hx)
  unfold litAtom at this
  split at this <;> omega
theorem may_ok {a : List At} (ha : a.length ≤ 1048576) {l : List Int} (h : allOk a l = true) (hl : l.length ≤ 5000) : mayB l = true := by
  unfold mayB
  rw [Bool.and_eq_true]
  exact ⟨decide_eq_true hl, List.all_eq_true.2 fun x hx => literalB_true.2 (lits_ok ha h x hx)⟩
theorem form_some {l : List Int} (hl : l.length < 17592186044416) (h : ∀ x ∈ l, x ≠ 0 ∧ -1048576 ≤ x ∧ x ≤ 1048576) : clauses_form.f l = some (canon l) := by
  unfold clauses_form.f
  exact if_pos ⟨hl, fun x hx => (h x hx).2⟩
theorem normal_yes {l : List Int} (h : mayB l = true) : clauses_Normal.f l = some (canon l, 0) := by
  have h0 := h
  unfold mayB at h0
  rw [Bool.and_eq_true] at h0
  unfold clauses_Normal.f clauses_May.f
  simp [h, form_some (l := l) (by have := of_decide_eq_true h0.1; omega) (fun x hx => literalB_true.1 (List.all_eq_true.1 h0.2 x hx))]
theorem edges_snoc {a : List At} {l : List Int} {i : Nat} (h : i < l.length) : edges a (l.take i) ++ [edge1 a (rd l (i : Int))] = edges a (l.take (i + 1)) := by
  unfold edges
  rw [List.take_succ_eq_append_getElem h, List.map_append, rd_lt h]
  rfl
theorem ok_snoc {a : List At} {l : List Int} {i : Nat} (h : i < l.length) : allOk a (l.take (i + 1)) = (allOk a (l.take i) && ((edgeOf a (rd l (i : Int))).2.2.2 == 0)) := by
  unfold allOk
  rw [List.take_succ_eq_append_getElem h, List.all_append, rd_lt h]
  simp
theorem not_ok {a : List At} {l : List Int} {i : Nat} (h : i < l.length) (he : (edgeOf a (rd l (i : Int))).2.2.2 = 2) : allOk a l = false := by
  cases hc : allOk a l with
  | false => rfl
  | true =>
    have := List.all_eq_true.1 hc _ (rd_mem h)
    rw [he] at this
    cases this

theorem check_ev (a : List At) (l : List Int) (hw : AtomsWf a) (ha : a.length ≤ 1048576) (hl : l.length < 4611686018427387904) (hx : ∀ x ∈ l, (Lit.int .i64 x).wf = true) : Ev (fun k => cycles_Check.f k a l) (checkR a l) := by
  unfold cycles_Check.f
  by_cases h1 : 5000 < l.length
  · rw [show checkR a l = ([], 3) from by unfold checkR; rw [if_pos h1]]
    exact ev_pos (by omega) (ev_ret _)
  · refine ev_neg (by omega) ?_
    suffices H : ∀ d i, i + d = l.length → allOk a (l.take i) = true → Ev (fun k => cycles_Check.l0 k a l (edges a (l.take i)) l (l.length : Int) (i : Int)) (checkR a l) from
      H l.length 0 (by omega) (by simp [allOk])
    intro d
    induction d with
    | zero =>
      intro i hi hok
      obtain rfl : i = l.length := by omega
      rw [List.take_length] at hok
      refine Ev.step (fun k => by simp only [cycles_Check.l0]; rw [if_neg (by omega), List.take_length]) ?_
      refine ev_got (sum_some (edges_wf hw l)) ?_
      by_cases c1 : (sumR (edges a l)).2 = 0
      · refine ev_pos c1 ?_
        by_cases c2 : (sumR (edges a l)).1 ≥ 0
        · rw [show checkR a l = ([], 5) from by unfold checkR; rw [if_neg h1, if_pos hok, if_neg (by omega)]]
          exact ev_pos c2 (ev_ret _)
        · rw [show checkR a l = (canon l, 0) from by unfold checkR; rw [if_neg h1, if_pos hok, if_pos ⟨c1, by omega⟩]]
          exact ev_neg c2 (ev_got (normal_yes (may_ok ha hok (by omega))) (ev_ret _))
      · rw [show checkR a l = ([], 5) from by unfold checkR; rw [if_neg h1, if_pos hok, if_neg (fun h => c1 h.1)]]
        exact ev_neg c1 (ev_ret _)
    | succ d ih =>
      intro i hi hok
      have hlt : i < l.length := by omega
      refine Ev.step (fun k => by simp only [cycles_Check.l0]; rw [if_pos (by omega), if_pos (by omega), if_pos (by omega), wrap_succ (by omega)]) ?_
      refine Ev.bind (of_ev a _ hw (hx _ (rd_mem hlt)) (by omega)) ?_
      rcases edgeOf_err a (rd l (i : Int)) with he | he
      · refine ev_pos he (ev_pos (by unfold edges; simp; omega) ?_)
        have := ih (i + 1) (by omega) (by rw [ok_snoc hlt, hok, he]; rfl)
        rw [← edges_snoc hlt] at this
        exact this
      · rw [show checkR a l = ([], 2) from by unfold checkR; rw [if_neg h1, if_neg (by rw [not_ok hlt he]; simp)]]
        refine ev_neg (by rw [he]; decide) ?_
        rw [he]
        exact ev_ret _

theorem sgn_neg {s : Int} : (sgn s = -1) ↔ sgn s < 0 := by unfold sgn; split <;> (try split) <;> omega
theorem sumR_neg (l : List MW.Edge) : ((sumR l).1 = -1) ↔ (sumR l).1 < 0 := by
  unfold sumR
  split
  · simp
  · split
    · simp
    · split
      · exact sgn_neg
      · simp

theorem ref_check_ev (a : List At) (l : List Int) (hw : AtomsWf a) (ha : a.length ≤ 1048576) (hl : l.length < 4611686018427387904) (hx : ∀ x ∈ l, (Lit.int .i64 x).wf = true) : Ev (fun k => juristref18_Check.f k a l) (checkR a l) := by
  unfold juristref18_Check.f
  by_cases h1 : 5000 < l.length
  · rw [show checkR a l = ([], 3) from by unfold checkR; rw [if_pos h1]]
    exact ev_pos (by omega) (ev_ret _)
  · refine ev_neg (by omega) ?_
    suffices H : ∀ d i, i + d = l.length → allOk a (l.take i) = true → Ev (fun k => juristref18_Check.l0 k a l (edges a (l.take i)) (i : Int)) (checkR a l) from
      H l.length 0 (by omega) (by simp [allOk])
    intro d
    induction d with
    | zero =>
      intro i hi hok
      obtain rfl : i = l.length := by omega
      rw [List.take_length] at hok
      refine Ev.step (fun k => by simp only [juristref18_Check.l0]; rw [if_neg (by omega), List.take_length]) ?_
      refine Ev.bind (ref_sum_ev _ (edges_wf hw l) (by unfold edges; simp; omega)) ?_
      by_cases c1 : (sumR (edges a l)).2 = 0
      · refine ev_pos c1 ?_
        by_cases c2 : (sumR (edges a l)).1 = -1
        · rw [show checkR a l = (canon l, 0) from by unfold checkR; rw [if_neg h1, if_pos hok, if_pos ⟨c1, (sumR_neg _).1 c2⟩]]
          refine ev_pos c2 (Ev.bind (normal_ev l (by omega) (fun x hx => by have := lits_ok ha hok x hx; omega)) (ev_ret _))
        · rw [show checkR a l = ([], 5) from by unfold checkR; rw [if_neg h1, if_pos hok, if_neg (fun h => c2 ((sumR_neg _).2 h.2))]]
          exact ev_neg c2 (ev_ret _)
      · rw [show checkR a l = ([], 5) from by unfold checkR; rw [if_neg h1, if_pos hok, if_neg (fun h => c1 h.1)]]
        exact ev_neg c1 (ev_ret _)
    | succ d ih =>
      intro i hi hok
      have hlt : i < l.length := by omega
      refine Ev.step (fun k => by simp only [juristref18_Check.l0]; rw [if_pos (by omega), if_pos (by omega), wrap_succ (by omega)]) ?_
      refine Ev.bind (ref_of_ev a _ hw (hx _ (rd_mem hlt)) (by omega)) ?_
      rcases edgeOf_err a (rd l (i : Int)) with he | he
      · refine ev_pos he (ev_pos (by unfold edges; simp; omega) ?_)
        have := ih (i + 1) (by omega) (by rw [ok_snoc hlt, hok, he]; rfl)
        rw [← edges_snoc hlt] at this
        exact this
      · rw [show checkR a l = ([], 2) from by unfold checkR; rw [if_neg h1, if_neg (by rw [not_ok hlt he]; simp)]]
        refine ev_neg (by rw [he]; decide) ?_
        rw [he]
        exact ev_ret _

theorem length_checkR (a : List At) (l : List Int) : (checkR a l).1.length ≤ 5000 := by
  unfold checkR
  have := length_canon_le l
  split
  · simp
  · split
    · split
      · dsimp only; omega
      · simp
    · simp

def twoAtoms : List At := [⟨2, 0, 1, 2⟩, ⟨2, 1, 0, -3⟩]
theorem twoAtoms_wf : AtomsWf twoAtoms := by
  intro y hy
  have : y = ⟨2, 0, 1, 2⟩ ∨ y = ⟨2, 1, 0, -3⟩ := by simpa [twoAtoms] using hy
  rcases this with rfl | rfl <;> decide
theorem known_ev : Ev (fun k => juristlaw18_known.f k) true := by
  unfold juristlaw18_known.f
  refine ev_got (a := twoAtoms) rfl ?_
  refine Ev.bind (check_ev twoAtoms [1, 2] twoAtoms_wf (by decide) (by decide) (by decide)) ?_
  refine Ev.bind (check_ev twoAtoms [1] twoAtoms_wf (by decide) (by decide) (by decide)) ?_
  refine Ev.bind (of_ev twoAtoms (-1) twoAtoms_wf (by decide) (by decide)) ?_
  rw [show checkR twoAtoms [1, 2] = ([1, 2], 0) from by decide, show checkR twoAtoms [1] = ([], 5) from by decide, show edgeOf twoAtoms (-1) = (1, 0, -3, 0) from by decide]
  have e1 := alike_ev [1, 2] [1, 2] (by decide)
  simp only [decide_true] at e1
  exact ev_pos rfl (Ev.bind e1 (ev_pos rfl (ev_pos rfl (ev_pos rfl (ev_ret true)))))
theorem known_t : Ev (fun k => (juristlaw18_known.f k).bind fun t => some t) true := Ev.bind known_ev (ev_ret true)
end Go.Proofs.Ytpjcfojdkdlggaa.Pure
