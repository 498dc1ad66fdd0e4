/- RupMore: with more clauses and more given literals, all that came still comes, or it ends in a conflict: for every input. Conditions: none. -/
import Derived.Test.YtjlkjgoncfdaeaaHkx0
import Derived.Test.YtjlkjgoncfdaeaaManMoreLaw
import Derived.Test.YtjlkjgoncfdaeaaPBase
import Derived.Test.YtjlkjgoncfdaeaaPRupE
namespace Go.Proofs.Ytjlkjgoncfdaeaa.Pure
open Go.RowKit Go.Proofs.Ytjlkjgoncfdaeaa.Hk Go.Proofs.YtjlkjgoncfdaeaaW.PrintWords Go.Proofs.YtjlkjgoncfdaeaaW.PrintLast Go.Proofs.YtjlkjgoncfdaeaaW.PrintMore Go.Proofs.Ytjlkjgoncfdaeaa.LF Go.Proofs.Ytjlkjgoncfdaeaa.MC Go.Proofs.Ytjlkjgoncfdaeaa.RM

theorem RupMore : ∀ l0 : List (List Int), l0.length * 24 ≤ 140737488351232 → (∀ x ∈ l0, ∀ y ∈ x, (Lit.int .i64 y).wf = true) → ∀ l1 : List (List Int), l1.length * 24 ≤ 140737488351232 → (∀ x ∈ l1, ∀ y ∈ x, (Lit.int .i64 y).wf = true) → ∀ l2 : List Int, l2.length * 8 ≤ 140737488351232 → (∀ x ∈ l2, (Lit.int .i64 x).wf = true) → ∀ l3 : List Int, l3.length * 8 ≤ 140737488351232 → (∀ x ∈ l3, (Lit.int .i64 x).wf = true) → ∃ k, juristlaw16_RupMore.f k l0 l1 l2 l3 = some true := by
  intro db hdb _ more hmr _ given hgl _ also hal _
  suffices h : ∃ k, MoreOk k db more given also by
    obtain ⟨k, hk⟩ := h
    exact ⟨k, by unfold juristlaw16_RupMore.f; rw [if_pos hk]⟩
  obtain ⟨K1, e1⟩ := large_ev db (by omega)
  by_cases c1 : largeB db = true
  · exact ⟨K1, rfl, .inl ((e1 K1 (Nat.le_refl _)).trans (congrArg some c1))⟩
  have c1' : largeB db = false := by simpa using c1
  rw [c1'] at e1
  obtain ⟨K2, e2⟩ := large_ev more (by omega)
  by_cases c2 : largeB more = true
  · exact ⟨K1 + K2, rfl, .inr ⟨e1 _ (by omega), .inl ((e2 (K1 + K2) (by omega)).trans (congrArg some c2))⟩⟩
  have c2' : largeB more = false := by simpa using c2
  rw [c2'] at e2
  by_cases c3 : 30 < given.length
  · exact ⟨K1 + K2, rfl, .inr ⟨e1 _ (by omega), .inr ⟨e2 _ (by omega), .inl c3⟩⟩⟩
  by_cases c4 : 30 < also.length
  · exact ⟨K1 + K2, rfl, .inr ⟨e1 _ (by omega), .inr ⟨e2 _ (by omega), .inr ⟨by omega, .inl c4⟩⟩⟩⟩
  have hs := large_false c1'
  have hm := large_false c2'
  obtain ⟨K3, e3⟩ := copieds_ev db (hs.more (by omega))
  have hcg := copied_some given (by omega)
  have wrapUp : ∀ k, K1 + K2 + K3 ≤ k → MoreRest k db more given also → MoreOk k db more given also :=
    fun k hk h => ⟨rfl, .inr ⟨e1 _ (by omega), .inr ⟨e2 _ (by omega), .inr ⟨by omega, .inr ⟨by omega, hs.1, hm.1, e3 _ (by omega), hcg, h⟩⟩⟩⟩⟩
  have hl1 := hs.1
  have hl2 := hm.1
  have fit1 : db.length + given.length < 10000 := by omega
  have fit2 : (db ++ more).length + (given ++ also).length < 10000 := by simp; omega
  by_cases m1 : (db.all mayB && mayB given) = true
  · obtain ⟨a1, a2⟩ := (Bool.and_eq_true _ _).mp m1
    obtain ⟨r, ha, hu⟩ := units_some fit1 a1 a2
    by_cases m2 : ((db ++ more).all mayB && mayB (given ++ also)) = true
    · obtain ⟨b1, b2⟩ := (Bool.and_eq_true _ _).mp m2
      obtain ⟨r2, ha2, hu2⟩ := units_some fit2 b1 b2
      cases r2 with
      | none =>
        cases r with
        | none => exact ⟨_, wrapUp _ (Nat.le_refl _) ⟨_, _, _, _, _, _, hu, hu2, .inr ⟨rfl, .inr ⟨rfl, .inl rfl⟩⟩⟩⟩
        | some H => exact ⟨_, wrapUp _ (Nat.le_refl _) ⟨_, _, _, _, _, _, hu, hu2, .inr ⟨rfl, .inr ⟨rfl, .inl rfl⟩⟩⟩⟩
      | some H2 =>
        have hd : ∀ c ∈ db, c ∈ db ++ more := fun c hc => List.mem_append_left _ hc
        have hg : ∀ x ∈ given, x ∈ given ++ also := fun x hx => List.mem_append_left _ hx
        cases r with
        | none => exact absurd (conf_more hd hg ha) ha2.1
        | some H =>
          have hin : ∀ x ∈ canon H, Drv db given x := fun x hx => (ha.2 x).1 ((mem_canon x H).1 hx)
          have hin2 : ∀ x ∈ canon H2, Drv (db ++ more) (given ++ also) x := fun x hx => (ha2.2 x).1 ((mem_canon x H2).1 hx)
          have hsh := held_short (canon_nodup H) fun x hx => drv_bd (mays_bd a1) (may_bd a2).2 (hin x hx)
          have hsh2 := held_short (canon_nodup H2) fun x hx => drv_bd (mays_bd b1) (may_bd b2).2 (hin2 x hx)
          obtain ⟨K4, e4⟩ := within_ev (canon H) (canon H2) (by omega) (by omega)
          have hw : withinB (canon H) (canon H2) = true := by
            unfold withinB
            refine List.all_eq_true.2 fun x hx => ?_
            rw [List.contains_iff_mem]
            exact (mem_canon x H2).2 ((ha2.2 x).2 (drv_more hd hg (hin x hx)))
          rw [hw] at e4
          exact ⟨K1 + K2 + K3 + K4, wrapUp _ (by omega) ⟨_, _, _, _, _, _, hu, hu2, .inr ⟨rfl, .inr ⟨rfl, .inr ⟨rfl, rfl, e4 _ (by omega)⟩⟩⟩⟩⟩
    · have hu2 := units_none fit2 (by simpa using m2)
      cases r with
      | none => exact ⟨_, wrapUp _ (Nat.le_refl _) ⟨_, _, _, _, _, _, hu, hu2, .inr ⟨rfl, .inl rfl⟩⟩⟩
      | some H => exact ⟨_, wrapUp _ (Nat.le_refl _) ⟨_, _, _, _, _, _, hu, hu2, .inr ⟨rfl, .inl rfl⟩⟩⟩
  · have hu := units_none fit1 (by simpa using m1)
    by_cases m2 : ((db ++ more).all mayB && mayB (given ++ also)) = true
    · obtain ⟨b1, b2⟩ := (Bool.and_eq_true _ _).mp m2
      obtain ⟨r2, ha2, hu2⟩ := units_some fit2 b1 b2
      cases r2 with
      | none => exact ⟨_, wrapUp _ (Nat.le_refl _) ⟨_, _, _, _, _, _, hu, hu2, .inl ⟨rfl, .inr rfl⟩⟩⟩
      | some H => exact ⟨_, wrapUp _ (Nat.le_refl _) ⟨_, _, _, _, _, _, hu, hu2, .inl ⟨rfl, .inr rfl⟩⟩⟩
    · have hu2 := units_none fit2 (by simpa using m2)
      exact ⟨_, wrapUp _ (Nat.le_refl _) ⟨_, _, _, _, _, _, hu, hu2, .inl ⟨rfl, .inl rfl⟩⟩⟩
end Go.Proofs.Ytjlkjgoncfdaeaa.Pure
