/- Plain laws: the document's answers: may a list be, does it say nothing, is one within another one. -/
import Derived.Test.YtiajmgmidfinfaaHkx0
import Derived.Test.YtiajmgmidfinfaaHkx3
import Derived.Test.YtiajmgmidfinfaaHkx4
import Derived.Test.YtiajmgmidfinfaaPHas
import Derived.Test.YtiajmgmidfinfaaManS
namespace Go.Proofs.Ytiajmgmidfinfaa.Pure
open Go.RowKit Go.Proofs.Ytiajmgmidfinfaa.Hk Go.Proofs.YtiajmgmidfinfaaW.PrintWords Go.Proofs.YtiajmgmidfinfaaW.PrintLast Go.Proofs.YtiajmgmidfinfaaW.PrintMore Go.Proofs.Ytiajmgmidfinfaa.MC

theorem may_ev (l : List Int) (hl : l.length < 4611686018427387904) : Ev (fun k => juristref14_May.f k l) (mayB l) := by
  unfold juristref14_May.f
  refine ev_list l (fun k i => juristref14_May.l0 k l i) (fun i r => r = (decide (l.length ≤ 5000) && (l.drop i).all literalB)) ?_ ?_ l.length 0 (by omega) _ (by simp [mayB])
  · rintro r rfl
    refine Ev.step (f := fun _ => some (decide ((l.length : Int) ≤ 5000))) (fun k => by simp only [juristref14_May.l0]; rw [if_neg (by omega)]) ?_
    have e : decide ((l.length : Int) ≤ 5000) = (decide (l.length ≤ 5000) && (l.drop l.length).all literalB) := by
      simp
      omega
    rw [e]
    exact ev_ret _
  · rintro i h r rfl ih
    rw [drop_rd h, List.all_cons]
    by_cases h0 : rd l (i : Int) = 0
    · refine Ev.step (f := fun _ => some false) (fun k => by simp only [juristref14_May.l0]; rw [if_pos (by omega), if_pos (by omega), if_pos h0]) ?_
      have : literalB (rd l (i : Int)) = false := by unfold literalB; simp [h0]
      rw [this]
      simpa using ev_ret false
    · by_cases h1 : rd l (i : Int) > 1048576
      · refine Ev.step (f := fun _ => some false) (fun k => by simp only [juristref14_May.l0]; rw [if_pos (by omega), if_pos (by omega), if_neg h0, if_pos h1]) ?_
        have : literalB (rd l (i : Int)) = false := by unfold literalB; simp; omega
        rw [this]
        simpa using ev_ret false
      · by_cases h2 : rd l (i : Int) < -1048576
        · refine Ev.step (f := fun _ => some false) (fun k => by simp only [juristref14_May.l0]; rw [if_pos (by omega), if_pos (by omega), if_neg h0, if_neg h1, if_pos h2]) ?_
          have : literalB (rd l (i : Int)) = false := by unfold literalB; simp; omega
          rw [this]
          simpa using ev_ret false
        · refine Ev.step (f := fun k => juristref14_May.l0 k l ((i + 1 : Nat) : Int)) (fun k => by simp only [juristref14_May.l0]; rw [if_pos (by omega), if_pos (by omega), if_neg h0, if_neg h1, if_neg h2, wrap_succ (by omega)]) ?_
          have : literalB (rd l (i : Int)) = true := literalB_true.2 ⟨h0, by omega, by omega⟩
          rw [this]
          simpa using ih _ rfl

theorem within_ev (l m : List Int) (hl : l.length < 4611686018427387904) (hm : m.length < 4611686018427387904) : Ev (fun k => juristref14_Within.f k l m) (withinB l m) := by
  unfold juristref14_Within.f
  refine ev_list l (fun k i => juristref14_Within.l0 k l m i) (fun i r => r = withinB (l.drop i) m) ?_ ?_ l.length 0 (by omega) _ (by simp)
  · rintro r rfl
    refine Ev.step (f := fun _ => some true) (fun k => by simp only [juristref14_Within.l0]; rw [if_neg (by omega)]) ?_
    simpa [withinB] using ev_ret true
  · rintro i h r rfl ih
    rw [drop_rd h]
    have e : withinB (rd l (i : Int) :: l.drop (i + 1)) m = (m.contains (rd l (i : Int)) && withinB (l.drop (i + 1)) m) := rfl
    rw [e]
    refine Ev.step (fun k => by simp only [juristref14_Within.l0]; rw [if_pos (by omega), if_pos (by omega), wrap_succ (by omega)]) ?_
    refine Ev.bind (has_ev m _ hm) ?_
    by_cases hc : m.contains (rd l (i : Int)) = true
    · rw [hc]
      exact ev_pos rfl (by simpa using ih _ rfl)
    · have hc' : m.contains (rd l (i : Int)) = false := by simpa using hc
      rw [hc']
      exact ev_neg (by simp) (ev_ret false)

theorem says_inner (l : List Int) (r : Bool) (i : Nat) (hi : i < l.length) (hl : l.length < 4611686018427387904) :
    ∀ d j, j + d = i →
      Ev (fun k => if (rd l (i : Int) != 0 && ((l.take i).drop j).any fun y => rd l (i : Int) == wrap64 (-y) && rd l (i : Int) != y) = true then some true else juristref14_SaysNothing.l0 k l ((i + 1 : Nat) : Int)) r →
      Ev (fun k => juristref14_SaysNothing.l1 k l (i : Int) (j : Int)) r := by
  intro d
  induction d with
  | zero =>
    intro j hj h
    obtain rfl : j = i := by omega
    have e : (l.take j).drop j = [] := List.drop_of_length_le (by simp; omega)
    rw [e] at h
    simp only [List.any_nil, Bool.and_false] at h
    refine Ev.step (f := fun k => juristref14_SaysNothing.l0 k l ((j + 1 : Nat) : Int)) (fun k => by simp only [juristref14_SaysNothing.l1]; rw [if_neg (by omega), wrap_succ (by omega)]) ?_
    exact Ev.congr (fun k => by simp) h
  | succ d ih =>
    intro j hj h
    have hji : j < i := by omega
    have e : (l.take i).drop j = rd l (j : Int) :: (l.take i).drop (j + 1) := by
      have h1 : j < (l.take i).length := by simp; omega
      rw [List.drop_eq_getElem_cons h1, rd_lt (by omega)]
      simp
    rw [e] at h
    by_cases h0 : rd l (i : Int) = 0
    · refine Ev.step (f := fun k => juristref14_SaysNothing.l1 k l (i : Int) ((j + 1 : Nat) : Int)) (fun k => by simp only [juristref14_SaysNothing.l1]; rw [if_pos (by omega), if_pos (by omega), if_pos (by omega), if_pos h0, wrap_succ (by omega)]) ?_
      refine ih (j + 1) (by omega) (Ev.congr (fun k => ?_) h)
      simp [h0]
    · by_cases h1 : rd l (i : Int) = wrap64 (-(rd l (j : Int)))
      · by_cases h2 : rd l (i : Int) = rd l (j : Int)
        · refine Ev.step (f := fun k => juristref14_SaysNothing.l1 k l (i : Int) ((j + 1 : Nat) : Int)) (fun k => by simp only [juristref14_SaysNothing.l1]; rw [if_pos (by omega), if_pos (by omega), if_pos (by omega), if_neg h0, if_pos (by omega), if_pos (by omega), if_pos h1, if_pos h2, wrap_succ (by omega)]) ?_
          refine ih (j + 1) (by omega) (Ev.congr (fun k => ?_) h)
          have : (rd l (i : Int) != rd l (j : Int)) = false := bne_eq_false_iff_eq.2 h2
          rw [List.any_cons, this, Bool.and_false, Bool.false_or]
        · refine Ev.step (f := fun _ => some true) (fun k => by simp only [juristref14_SaysNothing.l1]; rw [if_pos (by omega), if_pos (by omega), if_pos (by omega), if_neg h0, if_pos (by omega), if_pos (by omega), if_pos h1, if_neg h2]) ?_
          refine Ev.congr (fun k => ?_) h
          have e0 : (rd l (i : Int) != 0) = true := bne_iff_ne.2 h0
          have e1 : (rd l (i : Int) == wrap64 (-(rd l (j : Int)))) = true := beq_iff_eq.2 h1
          have e2 : (rd l (i : Int) != rd l (j : Int)) = true := bne_iff_ne.2 h2
          rw [List.any_cons, e0, e1, e2]
          simp
      · refine Ev.step (f := fun k => juristref14_SaysNothing.l1 k l (i : Int) ((j + 1 : Nat) : Int)) (fun k => by simp only [juristref14_SaysNothing.l1]; rw [if_pos (by omega), if_pos (by omega), if_pos (by omega), if_neg h0, if_pos (by omega), if_pos (by omega), if_neg h1, wrap_succ (by omega)]) ?_
        refine ih (j + 1) (by omega) (Ev.congr (fun k => ?_) h)
        have e1 : (rd l (i : Int) == wrap64 (-(rd l (j : Int)))) = false := beq_eq_false_iff_ne.2 h1
        rw [List.any_cons, e1, Bool.false_and, Bool.false_or]

/-- Two that are against each other, one behind the other. -/
def saysR (l : List Int) : Bool := (List.range l.length).any fun i => l.getD i 0 != 0 && (l.take i).any fun y => l.getD i 0 == wrap64 (-y) && l.getD i 0 != y

theorem saysR_ev (l : List Int) (hl : l.length < 4611686018427387904) : Ev (fun k => juristref14_SaysNothing.f k l) (saysR l) := by
  unfold juristref14_SaysNothing.f
  have H := ev_list l (fun k i => juristref14_SaysNothing.l0 k l i) (fun i r => r = ((List.range' i (l.length - i)).any fun i => l.getD i 0 != 0 && (l.take i).any fun y => l.getD i 0 == wrap64 (-y) && l.getD i 0 != y)) ?_ ?_ l.length 0 (by omega) (saysR l) (by simp [saysR, List.range_eq_range'])
  · exact H
  · rintro r rfl
    refine Ev.step (f := fun _ => some false) (fun k => by simp only [juristref14_SaysNothing.l0]; rw [if_neg (by omega)]) ?_
    simpa using ev_ret false
  · rintro i h r rfl ih
    refine Ev.step (f := fun k => juristref14_SaysNothing.l1 k l (i : Int) 0) (fun k => by simp only [juristref14_SaysNothing.l0]; rw [if_pos (by omega)]) ?_
    refine says_inner l _ i h hl i 0 (by omega) ?_
    have e : l.length - i = (l.length - (i + 1)) + 1 := by omega
    rw [e, List.range'_succ, List.any_cons, List.drop_zero, rd_nat]
    by_cases hc : (l.getD i 0 != 0 && (l.take i).any fun y => l.getD i 0 == wrap64 (-y) && l.getD i 0 != y) = true
    · rw [hc]
      exact ev_pos rfl (ev_ret true)
    · have hc' : (l.getD i 0 != 0 && (l.take i).any fun y => l.getD i 0 == wrap64 (-y) && l.getD i 0 != y) = false := by simpa using hc
      rw [hc', Bool.false_or]
      exact ev_neg (by simp) (ih _ rfl)

theorem wrap_neg_neg {x : Int} (h : (Lit.int .i64 x).wf = true) : wrap64 (-(wrap64 (-x))) = x := by
  have := wf_bd h
  unfold wrap64; omega
theorem saysR_eq (l : List Int) (hw : ∀ x ∈ l, (Lit.int .i64 x).wf = true) : saysR l = saysB l := by
  rw [Bool.eq_iff_iff]
  unfold saysR saysB
  simp only [List.any_eq_true, Bool.and_eq_true, bne_iff_ne, beq_iff_eq, List.mem_range]
  constructor
  · rintro ⟨i, hi, h0, y, hy, h1, h2⟩
    have hg : l.getD i 0 = l[i] := by simp [List.getD_eq_getElem?_getD, hi]
    rw [hg] at h0 h1 h2
    have hym := List.mem_of_mem_take hy
    refine ⟨l[i], List.getElem_mem hi, ⟨h0, ?_⟩, ?_⟩
    · intro e
      apply h2
      have := wrap_neg_neg (hw y hym)
      rw [← h1] at this
      rw [← this]
      exact e
    · have := wrap_neg_neg (hw y hym)
      rw [← h1] at this
      rw [this]
      simpa using hym
  · rintro ⟨x, hx, ⟨h0, h1⟩, h2⟩
    have h2 : wrap64 (-x) ∈ l := by simpa using h2
    obtain ⟨i, hi, ei⟩ := List.getElem_of_mem hx
    obtain ⟨j, hj, ej⟩ := List.getElem_of_mem h2
    have hij : i ≠ j := by
      rintro rfl
      exact h1 (ei.symm.trans ej)
    have gi : l.getD i 0 = x := by simp [List.getD_eq_getElem?_getD, hi, ei]
    have gj : l.getD j 0 = wrap64 (-x) := by simp [List.getD_eq_getElem?_getD, hj, ej]
    have mem_take : ∀ {a b : Nat} (ha : a < l.length), a < b → l[a] ∈ l.take b := by
      intro a b ha hab
      rw [List.mem_iff_getElem]
      exact ⟨a, by simp; omega, by simp⟩
    rcases Nat.lt_or_gt_of_ne hij with h | h
    · refine ⟨j, hj, ?_, x, ei ▸ mem_take hi h, ?_, ?_⟩
      · rw [gj]
        intro e
        apply h0
        have := wrap_neg_neg (hw x hx)
        rw [e] at this
        exact this.symm.trans (wrap_in (by omega) (by omega))
      · rw [gj]
      · rw [gj]; exact fun e => h1 e.symm
    · refine ⟨i, hi, ?_, wrap64 (-x), ej ▸ mem_take hj h, ?_, ?_⟩
      · rw [gi]; exact h0
      · rw [gi, wrap_neg_neg (hw x hx)]
      · rw [gi]; exact h1
end Go.Proofs.Ytiajmgmidfinfaa.Pure
