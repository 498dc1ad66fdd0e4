/- CyclesJoin: two cycles of one node joined are a cycle, the signs add up: for every input. Conditions: none. -/
import Derived.Test.YtpjcfojdkdlggaaHkx0
import Derived.Test.YtpjcfojdkdlggaaHkx2
import Derived.Test.YtpjcfojdkdlggaaHkx9
import Derived.Test.YtpjcfojdkdlggaaPCert
namespace Go.Proofs.Ytpjcfojdkdlggaa.Pure
open Go.RowKit Go.Proofs.Ytpjcfojdkdlggaa.Hk Go.Proofs.YtpjcfojdkdlggaaW.PrintWords Go.Proofs.YtpjcfojdkdlggaaW.PrintLast Go.Proofs.YtpjcfojdkdlggaaW.PrintMore Go.Proofs.Ytpjcfojdkdlggaa.LF Go.Proofs.Ytpjcfojdkdlggaa.MC Go.Proofs.Ytpjcfojdkdlggaa.MW

theorem edgeAt_left {a b : List MW.Edge} {i : Nat} (h : i < a.length) : edgeAt (a ++ b) i = edgeAt a i := by
  unfold edgeAt
  simp only [List.getD_eq_getElem?_getD]
  rw [List.getElem?_append_left h]
theorem edgeAt_right {a b : List MW.Edge} {i : Nat} (h : a.length ≤ i) : edgeAt (a ++ b) i = edgeAt b (i - a.length) := by
  unfold edgeAt
  simp only [List.getD_eq_getElem?_getD]
  rw [List.getElem?_append_right h]
theorem cyc_next {l : List MW.Edge} (h : cyc l = true) {i : Nat} (hi : i + 1 < l.length) : (edgeAt l i).f1 = (edgeAt l (i + 1)).f0 := by
  have := List.all_eq_true.1 h i (by rw [List.mem_range]; omega)
  unfold meets at this
  rw [Nat.mod_eq_of_lt hi] at this
  exact eq_of_beq this
theorem cyc_last {l : List MW.Edge} (h : cyc l = true) {i : Nat} (hi : i + 1 = l.length) : (edgeAt l i).f1 = (edgeAt l 0).f0 := by
  have := List.all_eq_true.1 h i (by rw [List.mem_range]; omega)
  unfold meets at this
  rw [hi, Nat.mod_self] at this
  exact eq_of_beq this
theorem cyc_join {a b : List MW.Edge} (ha : cyc a = true) (hb : cyc b = true) (la : 1 ≤ a.length) (lb : 1 ≤ b.length) (h : (edgeAt a 0).f0 = (edgeAt b 0).f0) : cyc (a ++ b) = true := by
  unfold cyc
  rw [List.all_eq_true]
  intro i hi
  rw [List.mem_range, List.length_append] at hi
  unfold meets
  rw [beq_iff_eq, List.length_append]
  by_cases h1 : i + 1 < a.length
  · rw [Nat.mod_eq_of_lt (by omega), edgeAt_left (by omega), edgeAt_left h1]
    exact cyc_next ha h1
  · by_cases h2 : i + 1 = a.length
    · rw [Nat.mod_eq_of_lt (by omega), edgeAt_left (by omega), edgeAt_right (by omega), h2, Nat.sub_self, ← h]
      exact cyc_last ha h2
    · by_cases h3 : i + 1 < a.length + b.length
      · rw [Nat.mod_eq_of_lt h3, edgeAt_right (by omega), edgeAt_right (by omega), show i + 1 - a.length = i - a.length + 1 from by omega]
        exact cyc_next hb (by omega)
      · rw [show i + 1 = a.length + b.length from by omega, Nat.mod_self, edgeAt_right (by omega), edgeAt_left (by omega), h]
        exact cyc_last hb (by omega)
theorem sumR_ok {l : List MW.Edge} (h0 : 1 ≤ l.length) (h1 : l.length ≤ 5000) (h : (sumR l).2 = 0) : cyc l = true ∧ (sumR l).1 = sgn (tot l) := by
  unfold sumR at h ⊢
  rw [if_neg (by omega), if_neg (by omega)] at h ⊢
  split at h
  · rename_i hc
    exact ⟨hc, by rw [if_pos hc]⟩
  · simp at h
theorem sgn_cases (s : Int) : (s < 0 ∧ sgn s = -1) ∨ (s = 0 ∧ sgn s = 0) ∨ (0 < s ∧ sgn s = 1) := by
  unfold sgn
  split
  · exact .inl ⟨by assumption, rfl⟩
  · split
    · exact .inr (.inl ⟨by assumption, rfl⟩)
    · exact .inr (.inr ⟨by omega, rfl⟩)

theorem CyclesJoin : ∀ l0 : List S26, l0.length * 24 ≤ 140737488351232 → (∀ x ∈ l0, ((Lit.int .i64 x.f0).wf = true) ∧ ((Lit.int .i64 x.f1).wf = true) ∧ ((Lit.int .i64 x.f2).wf = true)) → ∀ l1 : List S26, l1.length * 24 ≤ 140737488351232 → (∀ x ∈ l1, ((Lit.int .i64 x.f0).wf = true) ∧ ((Lit.int .i64 x.f1).wf = true) ∧ ((Lit.int .i64 x.f2).wf = true)) → ∃ k, juristlaw18_CyclesJoin.f k l0 l1 = some true := by
  intro l _ hw m _ hwm
  have hw1 : EdgesWf l := wf_edges hw
  have hw2 : EdgesWf m := wf_edges hwm
  apply Ev.rounds
  unfold juristlaw18_CyclesJoin.f
  have end1 : ∀ (x5 x7 x9 x10 : Int) (c : Bool), c = true → Ev (fun k => juristlaw18_CyclesJoin.j1 k x5 x7 x9 x10 c) true := by
    intro x5 x7 x9 x10 c hc
    exact Ev.step (f := fun k => (juristlaw18_known.f k).bind fun t => some t) (fun k => by simp only [juristlaw18_CyclesJoin.j1]; rw [if_pos hc]) known_t
  have out : ∀ c : Bool, (c = false → 1 ≤ l.length ∧ l.length ≤ 300 ∧ 1 ≤ m.length ∧ m.length ≤ 300 ∧ (edgeAt l 0).f0 = (edgeAt m 0).f0) → Ev (fun k => juristlaw18_CyclesJoin.j0 k l m c) true := by
    intro c hc
    by_cases hct : c = true
    · exact Ev.step (f := fun k => (juristlaw18_known.f k).bind fun t => some t) (fun k => by simp only [juristlaw18_CyclesJoin.j0]; rw [if_pos hct]) known_t
    · obtain ⟨h0, h1, h2, h3, h4⟩ := hc (by simpa using hct)
      have hwt : EdgesWf (l ++ m) := by
        intro e he
        rcases List.mem_append.1 he with h | h
        · exact hw1 e h
        · exact hw2 e h
      refine Ev.step (fun k => by simp only [juristlaw18_CyclesJoin.j0]; rw [if_neg hct]) ?_
      refine ev_got (sum_some hw1) (ev_got (sum_some hw2) (ev_got rfl (ev_pos (by simp; omega) (ev_got rfl (ev_pos (by simp; omega) ?_)))))
      rw [List.nil_append]
      refine ev_got (sum_some hwt) ?_
      by_cases q1 : (sumR l).2 = 0
      · refine ev_pos q1 ?_
        by_cases q2 : (sumR m).2 = 0
        · obtain ⟨c1, s1⟩ := sumR_ok h0 (by omega) q1
          obtain ⟨c2, s2⟩ := sumR_ok h2 (by omega) q2
          have c3 := cyc_join c1 c2 h0 h2 h4
          have e3 : sumR (l ++ m) = (sgn (tot l + tot m), 0) := by
            unfold sumR
            rw [if_neg (by rw [List.length_append]; omega), if_neg (by rw [List.length_append]; omega), if_pos c3]
            unfold tot
            rw [List.map_append, List.sum_append]
          rw [e3, s1, s2]
          refine Ev.step (fun k => by simp only [juristlaw18_CyclesJoin.j1]; rw [if_neg (by simp [q2]), if_pos trivial]) ?_
          rcases sgn_cases (tot l) with ⟨b1, r1⟩ | ⟨b1, r1⟩ | ⟨b1, r1⟩ <;> rcases sgn_cases (tot m) with ⟨b2, r2⟩ | ⟨b2, r2⟩ | ⟨b2, r2⟩ <;> rcases sgn_cases (tot l + tot m) with ⟨b3, r3⟩ | ⟨b3, r3⟩ | ⟨b3, r3⟩ <;> (first | (exfalso; omega) | (rw [r1, r2, r3]; repeat (first | exact known_t | refine ev_pos (by decide) ?_ | refine ev_neg (by decide) ?_)))
        · exact end1 _ _ _ _ _ (by simp [q2])
      · exact ev_neg q1 (end1 _ _ _ _ _ rfl)
  by_cases c1 : (l.length : Int) = 0
  · exact ev_pos c1 (out true (by simp))
  · refine ev_neg c1 ?_
    by_cases c2 : (m.length : Int) = 0
    · exact ev_pos c2 (out true (by simp))
    · refine ev_neg c2 ?_
      by_cases c3 : (l.length : Int) > 300
      · exact ev_pos c3 (out true (by simp))
      · refine ev_neg c3 ?_
        by_cases c4 : (m.length : Int) > 300
        · exact ev_pos c4 (out true (by simp))
        · refine ev_neg c4 (ev_pos (by omega) (ev_pos (by omega) (out _ (fun h => ⟨by omega, by omega, by omega, by omega, ?_⟩))))
          have e1 : rd_T26 l 0 = edgeAt l 0 := rdE_nat l 0
          have e2 : rd_T26 m 0 = edgeAt m 0 := rdE_nat m 0
          rw [e1, e2] at h
          simpa using h
end Go.Proofs.Ytpjcfojdkdlggaa.Pure
