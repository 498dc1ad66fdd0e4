/- Plain laws of rup: assignments, and what hangs on no order. -/
import Derived.Test.YtjlkjgoncfdaeaaHkx0
import Derived.Test.YtjlkjgoncfdaeaaHkx50
import Derived.Test.YtjlkjgoncfdaeaaHkx61
import Derived.Test.YtjlkjgoncfdaeaaHkx62
import Derived.Test.YtjlkjgoncfdaeaaPRupD
import Derived.Test.YtjlkjgoncfdaeaaPHolds
namespace Go.Proofs.Ytjlkjgoncfdaeaa.Pure
open Go.RowKit Go.Proofs.Ytjlkjgoncfdaeaa.Hk Go.Proofs.YtjlkjgoncfdaeaaW.PrintWords Go.Proofs.YtjlkjgoncfdaeaaW.PrintLast Go.Proofs.YtjlkjgoncfdaeaaW.PrintMore Go.Proofs.Ytjlkjgoncfdaeaa.LF Go.Proofs.Ytjlkjgoncfdaeaa.MC Go.Proofs.Ytjlkjgoncfdaeaa.RM

/-! #### the same members -/
theorem drv_given {db : List (List Int)} {g g' : List Int} (h : ∀ x ∈ g, x ∈ g') {x : Int} (hx : Drv db g x) : Drv db g' x :=
  Drv.least (S := Drv db g') (fun x hx => .given (h x hx)) (fun _ hc _ hx hy => .unit hc hx hy) hx
theorem conf_given {db : List (List Int)} {g g' : List Int} (h : ∀ x ∈ g, x ∈ g') (hc : Conf db g) : Conf db g' := by
  rcases hc with hc | ⟨x, h1, h2⟩
  · exact .inl hc
  · exact .inr ⟨x, drv_given h h1, drv_given h h2⟩
theorem ans_same {db db' : List (List Int)} {g g' : List Int} (h0 : ∀ c ∈ db, (0 : Int) ∉ c) (h : ∀ c ∈ db, ∃ c' ∈ db', ∀ x, x ∈ c' ↔ x ∈ c) (h0' : ∀ c ∈ db', (0 : Int) ∉ c) (h' : ∀ c ∈ db', ∃ c' ∈ db, ∀ x, x ∈ c' ↔ x ∈ c) (hg : ∀ x, x ∈ g ↔ x ∈ g') {r : Option (List Int)} (ha : Ans db g r) : Ans db' g' r := by
  have h1 := ha.over h0 (fun c hc => .inr (h c hc)) h0' (fun c hc => .inr (h' c hc))
  cases r with
  | none => exact conf_given (fun x hx => (hg x).1 hx) h1
  | some l => exact ⟨fun hc => h1.1 (conf_given (fun x hx => (hg x).2 hx) hc), fun x => (h1.2 x).trans ⟨drv_given fun x hx => (hg x).1 hx, drv_given fun x hx => (hg x).2 hx⟩⟩

/-! #### a list the other way round -/
theorem turned_ev (l : List Int) (hl : l.length < 17592186044416) : Ev (fun k => juristlaw16_turned.f k l) l.reverse := by
  unfold juristlaw16_turned.f
  have : ∀ d i, i + d = l.length → Ev (fun k => juristlaw16_turned.l0 k l (l.reverse.take i) (l.length : Int) (i : Int)) l.reverse := by
    intro d
    induction d with
    | zero =>
      intro i hi
      exact Ev.step (f := fun _ => some l.reverse) (fun k => by simp only [juristlaw16_turned.l0]; rw [if_neg (by omega), List.take_of_length_le (by simp; omega)]) (ev_ret _)
    | succ d ih =>
      intro i hi
      have e1 : wrap64 ((l.length : Int) - 1) = (l.length : Int) - 1 := wrap_in (by omega) (by omega)
      have e2 : wrap64 ((l.length : Int) - 1 - (i : Int)) = ((l.length - 1 - i : Nat) : Int) := by rw [wrap_in (by omega) (by omega)]; omega
      have hlt : l.length - 1 - i < l.length := by omega
      have e3 : l.reverse.take i ++ [l[l.length - 1 - i]] = l.reverse.take (i + 1) := by
        rw [List.take_succ_eq_append_getElem (by simp; omega), List.getElem_reverse]
      refine Ev.step (f := fun k => juristlaw16_turned.l0 k l (l.reverse.take (i + 1)) (l.length : Int) ((i + 1 : Nat) : Int)) (fun k => by
        simp only [juristlaw16_turned.l0]
        rw [if_pos (by omega), e1, e2, if_pos (by omega), if_pos (by omega), if_pos (by rw [List.length_take, List.length_reverse]; omega), wrap_succ (by omega), rd_lt hlt, e3]) (ih (i + 1) (by omega))
  have := this l.length 0 (by omega)
  rw [List.take_zero] at this
  exact this

/-! #### assignments -/
theorem litOn_neg {bits x : Int} (h : Bd x) : litOn bits (-x) = !litOn bits x := by
  unfold litOn
  have e : litAtom (-x) = litAtom x := by unfold litAtom; split <;> split <;> omega
  rw [e]
  have : decide (-x > 0) = !decide (x > 0) := by
    rw [← decide_not]
    refine decide_eq_decide.2 ?_
    have := h.1
    omega
  rw [this]
  cases (Int.tmod (shr .u64 bits (IntKind.u64.wrap (wrap64 (wrap64 (litAtom x) - 1)))) 2 == 1) <;> cases decide (x > 0) <;> rfl
def onAll (bits : Int) (l : List (List Int)) : Bool := l.all fun c => c.any (litOn bits)
theorem drv_on {bits : Int} {db : List (List Int)} {given : List Int} (hb : ∀ c ∈ db, ∀ x ∈ c, Bd x) (h : onAll bits db = true) (hg : ∀ x ∈ given, litOn bits x = true) {x : Int} (hx : Drv db given x) : litOn bits x = true := by
  refine Drv.least (S := fun x => litOn bits x = true) hg (fun c hc x hx hy => ?_) hx
  have hon := List.all_eq_true.1 h c hc
  obtain ⟨y, hyc, hyo⟩ := List.any_eq_true.1 hon
  by_cases e : y = x
  · exact e ▸ hyo
  · have := hy y hyc e
    rw [litOn_neg (hb c hc y hyc), hyo] at this
    cases this
theorem conf_on {bits : Int} {db : List (List Int)} {given : List Int} (hb : ∀ c ∈ db, ∀ x ∈ c, Bd x) (hgb : ∀ x ∈ given, Bd x) (h : onAll bits db = true) (hg : ∀ x ∈ given, litOn bits x = true) : ¬ Conf db given := by
  rintro (hc | ⟨x, h1, h2⟩)
  · have := List.all_eq_true.1 h _ hc
    cases this
  · have a := drv_on hb h hg h1
    have b := drv_on hb h hg h2
    rw [litOn_neg (drv_bd hb hgb h1), a] at b
    cases b
theorem fol_on {bits : Int} {db : List (List Int)} {c : List Int} (hb : ∀ c ∈ db, ∀ x ∈ c, Bd x) (hcb : ∀ x ∈ c, Bd x) (h : onAll bits db = true) (hf : fol db c = true) : c.any (litOn bits) = true := by
  rcases fol_iff.1 hf with hc | ⟨x, hx, hn⟩
  · by_cases ha : c.any (litOn bits) = true
    · exact ha
    · refine absurd hc (conf_on hb (negs_bd hcb) h fun y hy => ?_)
      obtain ⟨z, hz, rfl⟩ := List.mem_map.1 hy
      rw [litOn_neg (hcb z hz)]
      have ha : c.any (litOn bits) = false := by simpa using ha
      have := List.any_eq_false.1 ha z hz
      simp [this]
  · refine List.any_eq_true.2 ?_
    by_cases ho : litOn bits x = true
    · exact ⟨x, hx, ho⟩
    · exact ⟨-x, hn, by rw [litOn_neg (hcb x hx)]; simp [ho]⟩
theorem rowS_on {bits : Int} : ∀ (row : List (List Int)) (db : List (List Int)) (i : Nat), (∀ c ∈ db, ∀ x ∈ c, Bd x) → (∀ c ∈ row, ∀ x ∈ c, Bd x) → onAll bits db = true →
    ∃ n : Nat, (rowS db row i false).1 = (i + n : Nat) ∧ n ≤ row.length ∧ onAll bits (row.take n) = true ∧ (rowS db row i false).2 = false
  | [], db, i, _, _, _ => ⟨0, rfl, Nat.le_refl _, rfl, rfl⟩
  | c :: row, db, i, hb, hr, h => by
    by_cases hf : fol db c = true
    · have hon := fol_on hb (hr c (by simp)) h hf
      have hne : decide ((c.length : Int) = 0) = false := by
        cases c with
        | nil => cases hon
        | cons a c => simp; omega
      obtain ⟨n, h1, h2, h3, h4⟩ := rowS_on (bits := bits) row (db ++ [c]) (i + 1) (fun d hd => by
        rcases List.mem_append.1 hd with hd | hd
        · exact hb d hd
        · rw [List.mem_singleton.1 hd]; exact hr c (by simp)) (fun d hd => hr d (by simp [hd])) (by
        unfold onAll
        rw [List.all_append]
        simp only [List.all_cons, List.all_nil, Bool.and_true, hon]
        exact h)
      refine ⟨n + 1, ?_, by simp; omega, ?_, ?_⟩
      · rw [rowS, if_pos hf, hne, Bool.or_self, h1]
        omega
      · unfold onAll
        rw [List.take_succ_cons, List.all_cons, hon, Bool.true_and]
        exact h3
      · rw [rowS, if_pos hf, hne, Bool.or_self, h4]
    · refine ⟨0, ?_, Nat.zero_le _, rfl, ?_⟩
      · rw [rowS, if_neg hf]; simp
      · rw [rowS, if_neg hf]
theorem onAll_ev (l : List (List Int)) (bits : Int) (h : Small 200 l) (hw : ∀ c ∈ l, ∀ x ∈ c, (Lit.int .i64 x).wf = true) : Ev (fun k => juristref16_Holds.f k l bits) (onAll bits l) := by
  unfold juristref16_Holds.f
  have hl := h.1
  refine ev_rows l (fun k i => juristref16_Holds.l0 k l bits i) (fun i r => r = onAll bits (l.drop i)) ?_ ?_ l.length 0 (by omega) _ (by simp)
  · rintro r rfl
    refine Ev.step (f := fun _ => some true) (fun k => by simp only [juristref16_Holds.l0]; rw [if_neg (by omega)]) ?_
    rw [List.drop_eq_nil_of_le (Nat.le_refl _)]
    exact ev_ret _
  · rintro i hi r rfl ih
    have hm : rd_L1 l (i : Int) ∈ l := by rw [rdL_lt hi]; exact List.getElem_mem hi
    have hc := holds_ev (rd_L1 l (i : Int)) bits (by have := h.2 _ hm; omega) (hw _ hm)
    rw [drop_rdL hi]
    unfold onAll
    rw [List.all_cons]
    refine Ev.step (fun k => by simp only [juristref16_Holds.l0]; rw [if_pos (by omega), if_pos (by omega), wrap_succ (by omega)]) ?_
    refine Ev.bind hc ?_
    by_cases he : (rd_L1 l (i : Int)).any (litOn bits) = true
    · refine ev_pos he ?_
      rw [he, Bool.true_and]
      exact ih _ rfl
    · refine ev_neg he ?_
      have he' : (rd_L1 l (i : Int)).any (litOn bits) = false := by simpa using he
      rw [he', Bool.false_and]
      exact ev_ret _

def litS (x : Int) : Bool := !decide (60 < x) && !decide (x < -60) && x != 0
def smallB (l : List (List Int)) : Bool := l.all fun c => c.all litS
theorem smallB_bd {l : List (List Int)} (h : smallB l = true) : ∀ c ∈ l, ∀ x ∈ c, x ≠ 0 ∧ -60 ≤ x ∧ x ≤ 60 := by
  intro c hc x hx
  have := List.all_eq_true.1 (List.all_eq_true.1 h c hc) x hx
  unfold litS at this
  simp only [Bool.and_eq_true, Bool.not_eq_true', decide_eq_false_iff_not, bne_iff_ne] at this
  omega
theorem small_may {l : List (List Int)} (h : smallB l = true) (hs : ∀ c ∈ l, c.length ≤ 30) : l.all mayB = true := by
  refine List.all_eq_true.2 fun c hc => ?_
  unfold mayB
  rw [Bool.and_eq_true]
  refine ⟨by have := hs c hc; simp; omega, List.all_eq_true.2 fun x hx => literalB_true.2 ?_⟩
  have := smallB_bd h c hc x hx
  omega
theorem smalls_ev (l : List (List Int)) (h : Small 200 l) : Ev (fun k => juristlaw16_small.f k l) (smallB l) := by
  unfold juristlaw16_small.f
  have hl := h.1
  refine ev_rows l (fun k i => juristlaw16_small.l0 k l (l.length : Int) i) (fun i r => r = smallB (l.drop i)) ?_ ?_ l.length 0 (by omega) _ (by simp)
  · rintro r rfl
    refine Ev.step (f := fun _ => some true) (fun k => by simp only [juristlaw16_small.l0]; rw [if_neg (by omega)]) ?_
    rw [List.drop_eq_nil_of_le (Nat.le_refl _)]
    exact ev_ret _
  · rintro i hi r rfl ih
    have hm : rd_L1 l (i : Int) ∈ l := by rw [rdL_lt hi]; exact List.getElem_mem hi
    have hc30 := h.2 _ hm
    rw [drop_rdL hi]
    unfold smallB
    rw [List.all_cons]
    refine Ev.step (f := fun k => juristlaw16_small.l1 k l (i : Int) (l.length : Int) (i : Int) ((rd_L1 l (i : Int)).length : Int) 0) (fun k => by simp only [juristlaw16_small.l0]; rw [if_pos (by omega), if_pos (by omega), if_pos (by omega)]) ?_
    refine ev_list (rd_L1 l (i : Int)) (fun k j => juristlaw16_small.l1 k l (i : Int) (l.length : Int) (i : Int) ((rd_L1 l (i : Int)).length : Int) j) (fun j r => r = (((rd_L1 l (i : Int)).drop j).all litS && (l.drop (i + 1)).all fun c => c.all litS)) ?_ ?_ (rd_L1 l (i : Int)).length 0 (by omega) _ (by simp)
    · rintro r rfl
      rw [List.drop_length, List.all_nil, Bool.true_and]
      exact Ev.step (f := fun k => juristlaw16_small.l0 k l (l.length : Int) ((i + 1 : Nat) : Int)) (fun k => by simp only [juristlaw16_small.l1]; rw [if_neg (by omega), wrap_succ (by omega)]) (ih _ rfl)
    · rintro j hj r rfl ihj
      rw [drop_rd hj, List.all_cons]
      by_cases h1 : rd (rd_L1 l (i : Int)) (j : Int) > 60
      · have : litS (rd (rd_L1 l (i : Int)) (j : Int)) = false := by unfold litS; simp; omega
        rw [this, Bool.false_and, Bool.false_and]
        exact Ev.step (f := fun _ => some false) (fun k => by simp only [juristlaw16_small.l1]; rw [if_pos (by omega), if_pos (by omega), if_pos (by omega), if_pos (by omega), if_pos (by omega), if_pos h1]) (ev_ret _)
      · by_cases h2 : rd (rd_L1 l (i : Int)) (j : Int) < -60
        · have : litS (rd (rd_L1 l (i : Int)) (j : Int)) = false := by unfold litS; simp; omega
          rw [this, Bool.false_and, Bool.false_and]
          exact Ev.step (f := fun _ => some false) (fun k => by simp only [juristlaw16_small.l1]; rw [if_pos (by omega), if_pos (by omega), if_pos (by omega), if_pos (by omega), if_pos (by omega), if_neg h1, if_pos h2]) (ev_ret _)
        · by_cases h3 : rd (rd_L1 l (i : Int)) (j : Int) = 0
          · have : litS (rd (rd_L1 l (i : Int)) (j : Int)) = false := by unfold litS; simp [h3]
            rw [this, Bool.false_and, Bool.false_and]
            exact Ev.step (f := fun _ => some false) (fun k => by simp only [juristlaw16_small.l1]; rw [if_pos (by omega), if_pos (by omega), if_pos (by omega), if_pos (by omega), if_pos (by omega), if_neg h1, if_neg h2, if_pos h3]) (ev_ret _)
          · have : litS (rd (rd_L1 l (i : Int)) (j : Int)) = true := by
              unfold litS
              simp only [Bool.and_eq_true, Bool.not_eq_true', decide_eq_false_iff_not, bne_iff_ne]
              omega
            rw [this, Bool.true_and]
            exact Ev.step (f := fun k => juristlaw16_small.l1 k l (i : Int) (l.length : Int) (i : Int) ((rd_L1 l (i : Int)).length : Int) ((j + 1 : Nat) : Int)) (fun k => by simp only [juristlaw16_small.l1]; rw [if_pos (by omega), if_pos (by omega), if_pos (by omega), if_pos (by omega), if_pos (by omega), if_neg h1, if_neg h2, if_neg h3, wrap_succ (by omega)]) (ihj _ rfl)
end Go.Proofs.Ytjlkjgoncfdaeaa.Pure
