/- RupHolds: what comes holds by each assignment by which the clauses and the given literals hold: for every input. Conditions: none. -/
import Derived.Test.YtjlkjgoncfdaeaaHkx0
import Derived.Test.YtjlkjgoncfdaeaaHkx1
import Derived.Test.YtjlkjgoncfdaeaaHkx61
import Derived.Test.YtjlkjgoncfdaeaaHkx62
import Derived.Test.YtjlkjgoncfdaeaaManHoldsLaw
import Derived.Test.YtjlkjgoncfdaeaaPRupC
namespace Go.Proofs.Ytjlkjgoncfdaeaa.Pure
open Go.RowKit Go.Proofs.Ytjlkjgoncfdaeaa.Hk Go.Proofs.YtjlkjgoncfdaeaaW.PrintWords Go.Proofs.YtjlkjgoncfdaeaaW.PrintLast Go.Proofs.YtjlkjgoncfdaeaaW.PrintMore Go.Proofs.Ytjlkjgoncfdaeaa.LF Go.Proofs.Ytjlkjgoncfdaeaa.MC Go.Proofs.Ytjlkjgoncfdaeaa.RM

/-- Rounds that serve for all places. -/
theorem ev_all {α : Type} (f : Nat → Nat → Option α) (r : Nat → α) : ∀ n, (∀ i, i < n → Ev (f i) (r i)) → ∃ K, ∀ k, K ≤ k → ∀ i, i < n → f i k = some (r i)
  | 0, _ => ⟨0, fun _ _ i hi => absurd hi (Nat.not_lt_zero i)⟩
  | n + 1, h => by
    obtain ⟨K, hK⟩ := ev_all f r n fun i hi => h i (by omega)
    obtain ⟨K', hK'⟩ := h n (by omega)
    refine ⟨K + K', fun k hk i hi => ?_⟩
    rcases Nat.lt_or_ge i n with hin | hin
    · exact hK k (by omega) i hin
    · obtain rfl : i = n := by omega
      exact hK' k (by omega)
theorem all_or_first (p : Nat → Bool) : ∀ n, (∀ i, i < n → p i = true) ∨ ∃ i, i < n ∧ p i = false ∧ ∀ j, j < i → p j = true
  | 0 => .inl fun i hi => absurd hi (Nat.not_lt_zero i)
  | n + 1 => by
    rcases all_or_first p n with h | ⟨i, hi, h1, h2⟩
    · cases hp : p n with
      | true =>
        refine .inl fun i hi => ?_
        rcases Nat.lt_or_ge i n with hin | hin
        · exact h i hin
        · obtain rfl : i = n := by omega
          exact hp
      | false => exact .inr ⟨n, by omega, hp, h⟩
    · exact .inr ⟨i, by omega, h1, h2⟩
theorem bd_wf {x : Int} (h : Bd x) : (Lit.int .i64 x).wf = true := wfI_iff.2 (by have := h.2; unfold Bd at h; omega)
theorem one_ev {x : Int} (bits : Int) (hw : (Lit.int .i64 x).wf = true) : Ev (fun k => juristref14_Holds.f k [x] bits) (litOn bits x) := by
  have := holds_ev [x] bits (by simp) (fun y hy => by rw [List.mem_singleton.1 hy]; exact hw)
  simpa using this
theorem getD_mem {l : List Int} {i : Nat} (h : i < l.length) : l.getD i 0 ∈ l := by
  rw [List.getD_eq_getElem?_getD, List.getElem?_eq_getElem h]
  exact List.getElem_mem h
theorem RupHolds : ∀ l0 : List (List Int), l0.length * 24 ≤ 140737488351232 → (∀ x ∈ l0, ∀ y ∈ x, (Lit.int .i64 y).wf = true) → ∀ l1 : List Int, l1.length * 8 ≤ 140737488351232 → (∀ x ∈ l1, (Lit.int .i64 x).wf = true) → ∀ a2 : Int, (Lit.int .u64 a2).wf = true → ∃ k, juristlaw16_RupHolds.f k l0 l1 a2 = some true := by
  intro db hdb hwd given hgl hwg bits _
  suffices h : ∃ k, HoldsOk k db given bits by
    obtain ⟨k, hk⟩ := h
    exact ⟨k, by unfold juristlaw16_RupHolds.f; rw [if_pos hk]⟩
  obtain ⟨K1, e1⟩ := large_ev db (by omega)
  by_cases c1 : largeB db = true
  · exact ⟨K1, rfl, .inl ((e1 K1 (Nat.le_refl _)).trans (congrArg some c1))⟩
  have c1' : largeB db = false := by simpa using c1
  rw [c1'] at e1
  by_cases c2 : 30 < given.length
  · exact ⟨K1, rfl, .inr ⟨e1 K1 (Nat.le_refl _), .inl c2⟩⟩
  have hs := large_false c1'
  have hsg : Small 200 [given] := ⟨by simp, fun c hc => by rw [List.mem_singleton.1 hc]; omega⟩
  obtain ⟨K2, e2⟩ := smalls_ev db (hs.more (by omega))
  obtain ⟨K3, e3⟩ := smalls_ev [given] hsg
  obtain ⟨K4, e4⟩ := onAll_ev db bits (hs.more (by omega)) hwd
  have hK : ∀ k, K1 + K2 + K3 + K4 ≤ k → juristlaw16_large.f k db = some false ∧ juristlaw16_small.f k db = some (smallB db) ∧ juristlaw16_small.f k [given] = some (smallB [given]) ∧ juristref16_Holds.f k db bits = some (onAll bits db) :=
    fun k hk => ⟨e1 k (by omega), e2 k (by omega), e3 k (by omega), e4 k (by omega)⟩
  obtain ⟨K, hKe⟩ : ∃ K, K = K1 + K2 + K3 + K4 := ⟨_, rfl⟩
  rw [← hKe] at hK
  have wrapUp : ∀ k, K ≤ k → (smallB db = true → smallB [given] = true → onAll bits db = true → HoldsRest k db given bits) → HoldsOk k db given bits := by
    intro k hk h
    obtain ⟨a1, a2, a3, a4⟩ := hK k hk
    refine ⟨rfl, .inr ⟨a1, .inr ⟨by omega, ?_⟩⟩⟩
    cases s1 : smallB db with
    | false => exact .inl (by rw [a2, s1])
    | true =>
      refine .inr ⟨by rw [a2, s1], ?_⟩
      cases s2 : smallB [given] with
      | false => exact .inl (by rw [a3, s2])
      | true =>
        refine .inr ⟨by rw [a3, s2], ?_⟩
        cases s3 : onAll bits db with
        | false => exact .inl (by rw [a4, s3])
        | true => exact .inr ⟨by rw [a4, s3], h s1 s2 s3⟩
  by_cases hall : smallB db = true ∧ smallB [given] = true ∧ onAll bits db = true
  · obtain ⟨s1, s2, s3⟩ := hall
    have hm1 := small_may s1 hs.2
    have hm2 : mayB given = true := by
      have := small_may s2 hsg.2
      simpa using this
    have hbd := mays_bd hm1
    have hgb := (may_bd hm2).2
    obtain ⟨K5, e5⟩ := ev_all (fun i k => juristref14_Holds.f k (sub1 given i) bits) (fun i => litOn bits (given.getD i 0)) given.length fun i hi => one_ev bits (hwg _ (getD_mem hi))
    rcases all_or_first (fun i => litOn bits (given.getD i 0)) given.length with hon | ⟨i, hi, h1, h2⟩
    · have hg : ∀ x ∈ given, litOn bits x = true := by
        intro x hx
        obtain ⟨i, hi, rfl⟩ := List.mem_iff_getElem.1 hx
        have := hon i hi
        rwa [List.getD_eq_getElem?_getD, List.getElem?_eq_getElem hi] at this
      obtain ⟨r, ha, hu⟩ := units_some (db := db) (given := given) (by have := hs.1; omega) hm1 hm2
      cases r with
      | none => exact absurd ha (conf_on hbd hgb s3 hg)
      | some H =>
        have hin : ∀ x ∈ canon H, Drv db given x := fun x hx => (ha.2 x).1 ((mem_canon x H).1 hx)
        have hb : ∀ x ∈ canon H, Bd x := fun x hx => drv_bd hbd hgb (hin x hx)
        obtain ⟨K6, e6⟩ := ev_all (fun i k => juristref14_Holds.f k (sub1 (canon H) i) bits) (fun i => litOn bits ((canon H).getD i 0)) (canon H).length fun i hi => one_ev bits (bd_wf (hb _ (getD_mem hi)))
        refine ⟨K + K5 + K6, wrapUp _ (by omega) fun _ _ _ => .inl ⟨fun i hi => ?_, canon H, hu, held_short (canon_nodup H) hb, fun i hi => ?_⟩⟩
        · have := e5 (K + K5 + K6) (by omega) i hi
          rwa [hon i hi] at this
        · have := e6 (K + K5 + K6) (by omega) i hi
          rwa [drv_on hbd s3 hg (hin _ (getD_mem hi))] at this
    · refine ⟨K + K5, wrapUp _ (by omega) fun _ _ _ => .inr ⟨i, hi, ?_, fun j hj => ?_⟩⟩
      · have := e5 (K + K5) (by omega) i hi
        simp only [h1] at this
        exact this
      · have := e5 (K + K5) (by omega) j (by omega)
        simp only [h2 j hj] at this
        exact this
  · exact ⟨K, wrapUp K (Nat.le_refl _) fun a b c => absurd ⟨a, b, c⟩ hall⟩
end Go.Proofs.Ytjlkjgoncfdaeaa.Pure
