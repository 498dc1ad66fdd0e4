/- CyclesScale: all bounds taken so many times, a cycle's sum has the same sign: for every input. Conditions: none. -/
import Derived.Test.YtpjcfojdkdlggaaManScaleLaw
import Derived.Test.YtpjcfojdkdlggaaPCert
namespace Go.Proofs.Ytpjcfojdkdlggaa.Pure
open Go.RowKit Go.Proofs.Ytpjcfojdkdlggaa.Hk Go.Proofs.YtpjcfojdkdlggaaW.PrintWords Go.Proofs.YtpjcfojdkdlggaaW.PrintLast Go.Proofs.YtpjcfojdkdlggaaW.PrintMore Go.Proofs.Ytpjcfojdkdlggaa.LF Go.Proofs.Ytpjcfojdkdlggaa.MC Go.Proofs.Ytpjcfojdkdlggaa.MW

def scl (t : Int) (e : MW.Edge) : MW.Edge := ⟨e.f0, e.f1, e.f2 * t⟩
theorem edgeAt_scl (t : Int) (l : List MW.Edge) {i : Nat} (h : i < l.length) : edgeAt (l.map (scl t)) i = scl t (edgeAt l i) := by
  unfold edgeAt
  simp only [List.getD_eq_getElem?_getD]
  rw [List.getElem?_map, List.getElem?_eq_getElem h]
  rfl
theorem cyc_scl (t : Int) (l : List MW.Edge) : cyc (l.map (scl t)) = cyc l := by
  rw [Bool.eq_iff_iff]
  unfold cyc
  rw [List.all_eq_true, List.all_eq_true, List.length_map]
  have key : ∀ i, i < l.length → meets (l.map (scl t)) i = meets l i := by
    intro i hi
    unfold meets
    rw [List.length_map, edgeAt_scl t l hi, edgeAt_scl t l (Nat.mod_lt _ (by omega))]
    rfl
  constructor
  · intro h i hi
    rw [← key i (List.mem_range.1 hi)]
    exact h i hi
  · intro h i hi
    rw [key i (List.mem_range.1 hi)]
    exact h i hi
theorem tot_scl (t : Int) (l : List MW.Edge) : tot (l.map (scl t)) = tot l * t := by
  induction l with
  | nil => simp [tot]
  | cons e l ih =>
    have h1 : ∀ (e : MW.Edge) (l : List MW.Edge), tot (e :: l) = e.f2 + tot l := fun e l => by simp [tot]
    rw [List.map_cons, h1, h1, ih, Int.add_mul]
    rfl
theorem sgn_scl {s t : Int} (ht : 1 ≤ t) : sgn (s * t) = sgn s := by
  unfold sgn
  by_cases h1 : s < 0
  · rw [if_pos h1, if_pos (Int.mul_neg_of_neg_of_pos h1 (by omega))]
  · by_cases h2 : s = 0
    · rw [h2, Int.zero_mul]
    · have : 0 < s * t := Int.mul_pos (by omega) (by omega)
      rw [if_neg h1, if_neg h2, if_neg (by omega), if_neg (by omega)]
theorem sumR_scl {t : Int} (ht : 1 ≤ t) (l : List MW.Edge) : sumR (l.map (scl t)) = sumR l := by
  unfold sumR
  rw [cyc_scl, tot_scl, sgn_scl ht, List.length_map]
theorem mul_bd {x t : Int} (h1 : -1125899906842624 ≤ x) (h2 : x ≤ 1125899906842624) (h3 : 1 ≤ t) (h4 : t ≤ 1000) : -1125899906842624000 ≤ x * t ∧ x * t ≤ 1125899906842624000 := by
  have a := Int.mul_le_mul_of_nonneg_right h2 (show 0 ≤ t by omega)
  have b := Int.mul_le_mul_of_nonneg_right h1 (show 0 ≤ t by omega)
  omega

theorem CyclesScale : ∀ l0 : List S26, l0.length * 24 ≤ 140737488351232 → (∀ x ∈ l0, ((Lit.int .i64 x.f0).wf = true) ∧ ((Lit.int .i64 x.f1).wf = true) ∧ ((Lit.int .i64 x.f2).wf = true)) → ∀ a1 : Int, (Lit.int .i64 a1).wf = true → ∃ k, juristlaw18_CyclesScale.f k l0 a1 = some true := by
  intro l _ hw t _
  have hw' : EdgesWf l := wf_edges hw
  apply Ev.rounds
  unfold juristlaw18_CyclesScale.f
  have out : ∀ c : Bool, (c = false → l.length ≤ 300 ∧ 1 ≤ t ∧ t ≤ 1000) → Ev (fun k => juristlaw18_CyclesScale.j0 k l t c) true := by
    intro c hc
    by_cases hct : c = true
    · exact Ev.step (f := fun k => (juristlaw18_known.f k).bind fun t => some t) (fun k => by simp only [juristlaw18_CyclesScale.j0]; rw [if_pos hct]) known_t
    · obtain ⟨h0, h1, h2⟩ := hc (by simpa using hct)
      refine Ev.step (fun k => by simp only [juristlaw18_CyclesScale.j0]; rw [if_neg hct]) ?_
      suffices H : ∀ d i, i + d = l.length → (∀ e ∈ l.take i, -1125899906842624 ≤ e.f2 ∧ e.f2 ≤ 1125899906842624) → Ev (fun k => juristlaw18_CyclesScale.l0 k l t ((l.take i).map (scl t)) (l.length : Int) (i : Int)) true from
        H l.length 0 (by omega) (by simp)
      intro d
      induction d with
      | zero =>
        intro i hi hb
        obtain rfl : i = l.length := by omega
        rw [List.take_length] at hb ⊢
        have hws : EdgesWf (l.map (scl t)) := by
          intro e he
          obtain ⟨y, hy, rfl⟩ := List.mem_map.1 he
          have := mul_bd (hb y hy).1 (hb y hy).2 h1 h2
          show -9223372036854775808 ≤ y.f2 * t ∧ y.f2 * t ≤ 9223372036854775807
          omega
        refine Ev.step (fun k => by simp only [juristlaw18_CyclesScale.l0]; rw [if_neg (by omega)]) ?_
        exact ev_got (sum_some hw') (ev_got (sum_some hws) (ev_pos (by rw [sumR_scl h1]) (ev_pos (by rw [sumR_scl h1]) known_t)))
      | succ d ih =>
        intro i hi hb
        have hlt : i < l.length := by omega
        have e1 : rd_T26 l (i : Int) = edgeAt l i := rdE_nat l i
        have e2 : edgeAt l i = l[i] := by unfold edgeAt; rw [List.getD_eq_getElem?_getD, List.getElem?_eq_getElem hlt]; rfl
        by_cases q1 : (edgeAt l i).f2 > 1125899906842624
        · exact Ev.step (f := fun k => (juristlaw18_known.f k).bind fun t => some t) (fun k => by simp only [juristlaw18_CyclesScale.l0, e1]; rw [if_pos (by omega), if_pos (by omega), if_pos (by omega), if_pos q1]) known_t
        · by_cases q2 : (edgeAt l i).f2 < -1125899906842624
          · exact Ev.step (f := fun k => (juristlaw18_known.f k).bind fun t => some t) (fun k => by simp only [juristlaw18_CyclesScale.l0, e1]; rw [if_pos (by omega), if_pos (by omega), if_pos (by omega), if_neg q1, if_pos q2]) known_t
          · have hm := mul_bd (x := (edgeAt l i).f2) (by omega) (by omega) h1 h2
            have e3 : (l.take i).map (scl t) ++ [(⟨(edgeAt l i).f0, (edgeAt l i).f1, wrap64 ((edgeAt l i).f2 * t)⟩ : MW.Edge)] = (l.take (i + 1)).map (scl t) := by
              rw [List.take_succ_eq_append_getElem hlt, List.map_append, wrap_in (by omega) (by omega), ← e2]
              rfl
            refine Ev.step (fun k => by simp only [juristlaw18_CyclesScale.l0, e1]; rw [if_pos (by omega), if_pos (by omega), if_pos (by omega), if_neg q1, if_neg q2, if_pos (by simp; omega), e3, wrap_succ (by omega)]) (ih (i + 1) (by omega) ?_)
            intro x hx'
            rw [List.take_succ_eq_append_getElem hlt] at hx'
            rcases List.mem_append.1 hx' with h | h
            · exact hb x h
            · have : x = l[i] := by simpa using h
              rw [this, ← e2]
              omega
  by_cases c1 : (l.length : Int) > 300
  · exact ev_pos c1 (out true (by simp))
  · refine ev_neg c1 ?_
    by_cases c2 : t < 1
    · exact ev_pos c2 (out true (by simp))
    · exact ev_neg c2 (out _ (fun h => by have := of_decide_eq_false h; omega))
end Go.Proofs.Ytpjcfojdkdlggaa.Pure
