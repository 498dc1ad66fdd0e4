/- CyclesTurned: of a literal and its negative just one holds, by whatever numbers: for every input. Conditions: none. -/
import Derived.Test.YtpjcfojdkdlggaaHkx0
import Derived.Test.YtpjcfojdkdlggaaHkx2
import Derived.Test.YtpjcfojdkdlggaaHkx5
import Derived.Test.YtpjcfojdkdlggaaHkx7
import Derived.Test.YtpjcfojdkdlggaaPCert
namespace Go.Proofs.Ytpjcfojdkdlggaa.Pure
open Go.RowKit Go.Proofs.Ytpjcfojdkdlggaa.Hk Go.Proofs.YtpjcfojdkdlggaaW.PrintWords Go.Proofs.YtpjcfojdkdlggaaW.PrintLast Go.Proofs.YtpjcfojdkdlggaaW.PrintMore Go.Proofs.Ytpjcfojdkdlggaa.LF Go.Proofs.Ytpjcfojdkdlggaa.MC Go.Proofs.Ytpjcfojdkdlggaa.MW

theorem CyclesTurned : ∀ x0 : S46, (((Lit.int .u8 x0.f0).wf = true) ∧ ((Lit.int .i64 x0.f1).wf = true) ∧ ((Lit.int .i64 x0.f2).wf = true) ∧ ((Lit.int .i64 x0.f3).wf = true)) → ∀ l1 : List Int, l1.length * 8 ≤ 140737488351232 → (∀ x ∈ l1, (Lit.int .i64 x).wf = true) → ∃ k, juristlaw18_CyclesTurned.f k x0.f0 x0.f1 x0.f2 x0.f3 l1 = some true := by
  intro x hx v hv8 _
  obtain ⟨k0, A, B, C⟩ := x
  dsimp only at hx ⊢
  apply Ev.rounds
  unfold juristlaw18_CyclesTurned.f
  have out : ∀ c : Bool, (c = false → k0 = 2 ∧ 0 ≤ A ∧ A < v.length ∧ 0 ≤ B ∧ B < v.length ∧ C ≤ 4611686018427387904 ∧ -4611686018427387904 ≤ C) → Ev (fun k => juristlaw18_CyclesTurned.j0 k v c k0 A B C) true := by
    intro c hc
    by_cases hct : c = true
    · exact Ev.step (f := fun k => (juristlaw18_known.f k).bind fun t => some t) (fun k => by simp only [juristlaw18_CyclesTurned.j0]; rw [if_pos hct]) known_t
    · obtain ⟨g0, g1, g2, g3, g4, g5, g6⟩ := hc (by simpa using hct)
      refine Ev.step (fun k => by simp only [juristlaw18_CyclesTurned.j0]; rw [if_neg hct]) ?_
      suffices H : ∀ d i, i + d = v.length → (∀ x ∈ v.take i, -2305843009213693952 ≤ x ∧ x ≤ 2305843009213693952) → Ev (fun k => juristlaw18_CyclesTurned.l0 k v (v.length : Int) (i : Int) k0 A B C) true from
        H v.length 0 (by omega) (by simp)
      intro d
      induction d with
      | zero =>
        intro i hi hv
        obtain rfl : i = v.length := by omega
        rw [List.take_length] at hv
        refine Ev.step (fun k => by simp only [juristlaw18_CyclesTurned.l0]; rw [if_neg (by omega)]) ?_
        have hw : AtomsWf [(⟨k0, A, B, C⟩ : S46)] := by
          intro y hy
          have : y = ⟨k0, A, B, C⟩ := by simpa using hy
          subst this
          exact hx
        have y1 : edgeOf [(⟨k0, A, B, C⟩ : S46)] 1 = (A, B, C, 0) := by
          unfold edgeOf
          rw [if_pos ⟨by decide, by simp [litAtom], by show k0 = 2; exact g0⟩, if_pos (by decide)]
          rfl
        have y2 : edgeOf [(⟨k0, A, B, C⟩ : S46)] (-1) = (B, A, -1 - C, 0) := by
          unfold edgeOf
          rw [if_pos ⟨by decide, by simp [litAtom], by show k0 = 2; exact g0⟩, if_neg (by decide)]
          rfl
        have e1 := of_ev [(⟨k0, A, B, C⟩ : S46)] 1 hw (by decide) (by simp)
        have e2 := of_ev [(⟨k0, A, B, C⟩ : S46)] (-1) hw (by decide) (by simp)
        rw [y1] at e1
        rw [y2] at e2
        have vmem : ∀ j : Int, 0 ≤ j → j < v.length → -2305843009213693952 ≤ rd v j ∧ rd v j ≤ 2305843009213693952 := fun j h0 h1 => by
          have := rd_mem (l := v) (i := j.toNat) (by omega)
          rw [Int.toNat_of_nonneg h0] at this
          exact hv _ this
        have b1 := vmem A g1 g2
        have b2 := vmem B g3 g4
        refine Ev.bind e1 (Ev.bind e2 (ev_pos rfl (ev_pos rfl ?_)))
        dsimp only
        refine ev_got (a := decide (rd v A - rd v B ≤ C)) (by unfold juristref18_Holds.f; rw [if_pos g1, if_pos g2, if_pos g3, if_pos g4, wrap_in (by omega) (by omega)]) ?_
        refine ev_got (a := decide (rd v B - rd v A ≤ -1 - C)) (by unfold juristref18_Holds.f; rw [if_pos g3, if_pos g4, if_pos g1, if_pos g2, wrap_in (by omega) (by omega)]) ?_
        refine ev_pos ?_ known_t
        by_cases q : rd v A - rd v B ≤ C
        · rw [decide_eq_true q, decide_eq_false (by omega)]; rfl
        · rw [decide_eq_false q, decide_eq_true (by omega)]; rfl
      | succ d ih =>
        intro i hi hv
        have hlt : i < v.length := by omega
        by_cases q1 : rd v (i : Int) > 2305843009213693952
        · exact Ev.step (f := fun k => (juristlaw18_known.f k).bind fun t => some t) (fun k => by simp only [juristlaw18_CyclesTurned.l0]; rw [if_pos (by omega), if_pos (by omega), if_pos (by omega), if_pos q1]) known_t
        · by_cases q2 : rd v (i : Int) < -2305843009213693952
          · exact Ev.step (f := fun k => (juristlaw18_known.f k).bind fun t => some t) (fun k => by simp only [juristlaw18_CyclesTurned.l0]; rw [if_pos (by omega), if_pos (by omega), if_pos (by omega), if_neg q1, if_pos q2]) known_t
          · refine Ev.step (fun k => by simp only [juristlaw18_CyclesTurned.l0]; rw [if_pos (by omega), if_pos (by omega), if_pos (by omega), if_neg q1, if_neg q2, wrap_succ (by omega)]) (ih (i + 1) (by omega) ?_)
            intro x hx'
            rw [List.take_succ_eq_append_getElem hlt] at hx'
            rcases List.mem_append.1 hx' with h | h
            · exact hv x h
            · have : x = v[i] := by simpa using h
              rw [rd_lt hlt] at q1 q2
              subst this
              omega
  by_cases c0 : k0 = 2
  · refine ev_pos c0 ?_
    by_cases c1 : A < 0
    · exact ev_pos c1 (out true (by simp))
    · refine ev_neg c1 ?_
      by_cases c2 : A ≥ (v.length : Int)
      · exact ev_pos c2 (out true (by simp))
      · refine ev_neg c2 ?_
        by_cases c3 : B < 0
        · exact ev_pos c3 (out true (by simp))
        · refine ev_neg c3 ?_
          by_cases c4 : B ≥ (v.length : Int)
          · exact ev_pos c4 (out true (by simp))
          · refine ev_neg c4 ?_
            by_cases c5 : C > 4611686018427387904
            · exact ev_pos c5 (out true (by simp))
            · exact ev_neg c5 (out _ (fun h => by have := of_decide_eq_false h; omega))
  · exact ev_neg c0 (out true (by simp))
end Go.Proofs.Ytpjcfojdkdlggaa.Pure
