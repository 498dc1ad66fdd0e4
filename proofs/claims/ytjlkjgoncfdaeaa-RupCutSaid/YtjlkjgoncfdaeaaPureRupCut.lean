/- RupCut: of a row that is cut, as many clauses follow as stand ahead of the cut; with more clauses ahead no fewer follow: for every input. Conditions: none. -/
import Derived.Test.YtjlkjgoncfdaeaaHkx0
import Derived.Test.YtjlkjgoncfdaeaaManCutLaw
import Derived.Test.YtjlkjgoncfdaeaaPRupD
import Derived.Test.YtjlkjgoncfdaeaaPRupE
namespace Go.Proofs.Ytjlkjgoncfdaeaa.Pure
open Go.RowKit Go.Proofs.Ytjlkjgoncfdaeaa.Hk Go.Proofs.YtjlkjgoncfdaeaaW.PrintWords Go.Proofs.YtjlkjgoncfdaeaaW.PrintLast Go.Proofs.YtjlkjgoncfdaeaaW.PrintMore Go.Proofs.Ytjlkjgoncfdaeaa.LF Go.Proofs.Ytjlkjgoncfdaeaa.MC Go.Proofs.Ytjlkjgoncfdaeaa.RM

theorem rowS_nat : ∀ (row : List (List Int)) (db : List (List Int)) (i : Nat) (ref : Bool), ∃ n : Nat, (rowS db row i ref).1 = (n : Int) ∧ i ≤ n ∧ n ≤ i + row.length
  | [], _, i, _ => ⟨i, rfl, Nat.le_refl _, by simp⟩
  | c :: row, db, i, ref => by
    by_cases hf : fol db c = true
    · obtain ⟨n, h1, h2, h3⟩ := rowS_nat row (db ++ [c]) (i + 1) (ref || decide ((c.length : Int) = 0))
      exact ⟨n, by rw [rowS, if_pos hf, h1], by omega, by simp; omega⟩
    · exact ⟨i, by rw [rowS, if_neg hf], Nat.le_refl _, by omega⟩
/-- A row that is cut. -/
theorem rowS_cut : ∀ (row : List (List Int)) (db : List (List Int)) (i : Nat) (ref : Bool) (k : Nat), k ≤ row.length → ∀ n : Nat, (rowS db row i ref).1 = (n : Int) → (rowS db (row.take k) i ref).1 = ((min n (i + k) : Nat) : Int) ∧ ((rowS db (row.take k) i ref).2 = false ∨ min n (i + k) = i + k)
  | row, db, i, ref, 0, _, n, hn => by
    obtain ⟨m, h1, h2, _⟩ := rowS_nat row db i ref
    have : n = m := by rw [h1] at hn; omega
    subst this
    rw [List.take_zero, rowS]
    exact ⟨by simp; omega, .inr (by omega)⟩
  | [], _, _, _, _ + 1, h, _, _ => by simp at h
  | c :: row, db, i, ref, k + 1, hk, n, hn => by
    rw [List.take_succ_cons]
    by_cases hf : fol db c = true
    · rw [rowS, if_pos hf] at hn
      obtain ⟨h1, h2⟩ := rowS_cut row (db ++ [c]) (i + 1) (ref || decide ((c.length : Int) = 0)) k (by simpa using hk) n hn
      rw [rowS, if_pos hf]
      have e : i + 1 + k = i + (k + 1) := by omega
      rw [e] at h1 h2
      exact ⟨h1, h2⟩
    · rw [rowS, if_neg hf] at hn
      rw [rowS, if_neg hf]
      have hn : (i : Int) = n := hn
      exact ⟨by simp; omega, .inl rfl⟩
/-- More clauses ahead. -/
theorem rowS_more : ∀ (row : List (List Int)) (db db' : List (List Int)) (i : Nat) (ref : Bool), (∀ d ∈ db, d ∈ db') → (rowS db row i ref).1 ≤ (rowS db' row i ref).1 ∧ ((rowS db row i ref).2 = false ∨ (rowS db' row i ref).2 = true)
  | [], _, _, _, ref, _ => ⟨Int.le_refl _, by cases ref <;> simp [rowS]⟩
  | c :: row, db, db', i, ref, hd => by
    by_cases hf : fol db c = true
    · rw [rowS, rowS, if_pos hf, if_pos (fol_more hd hf)]
      exact rowS_more row (db ++ [c]) (db' ++ [c]) (i + 1) _ fun d h => by
        rcases List.mem_append.1 h with h | h
        · exact List.mem_append_left _ (hd d h)
        · exact List.mem_append_right _ h
    · obtain ⟨n, h1, h2, _⟩ := rowS_nat (c :: row) db' i ref
      rw [h1, rowS, if_neg hf]
      exact ⟨by simpa using h2, .inl rfl⟩
theorem RupCut : ∀ l0 : List (List Int), l0.length * 24 ≤ 140737488351232 → (∀ x ∈ l0, ∀ y ∈ x, (Lit.int .i64 y).wf = true) → ∀ l1 : List (List Int), l1.length * 24 ≤ 140737488351232 → (∀ x ∈ l1, ∀ y ∈ x, (Lit.int .i64 y).wf = true) → ∀ l2 : List (List Int), l2.length * 24 ≤ 140737488351232 → (∀ x ∈ l2, ∀ y ∈ x, (Lit.int .i64 y).wf = true) → ∀ a3 : Int, (Lit.int .i64 a3).wf = true → ∃ k, juristlaw16_RupCut.f k l0 l1 l2 a3 = some true := by
  intro db hdb _ row hrw _ more hmr _ a _
  suffices h : ∃ k, CutOk k db row more a by
    obtain ⟨k, hk⟩ := h
    exact ⟨k, by unfold juristlaw16_RupCut.f; rw [if_pos hk]⟩
  obtain ⟨K1, e1⟩ := large_ev db (by omega)
  by_cases c1 : largeB db = true
  · exact ⟨K1, rfl, .inl ((e1 K1 (Nat.le_refl _)).trans (congrArg some c1))⟩
  have c1' : largeB db = false := by simpa using c1
  rw [c1'] at e1
  obtain ⟨K2, e2⟩ := large_ev row (by omega)
  by_cases c2 : largeB row = true
  · exact ⟨K1 + K2, rfl, .inr ⟨e1 _ (by omega), .inl ((e2 (K1 + K2) (by omega)).trans (congrArg some c2))⟩⟩
  have c2' : largeB row = false := by simpa using c2
  rw [c2'] at e2
  obtain ⟨K3, e3⟩ := large_ev more (by omega)
  by_cases c3 : largeB more = true
  · exact ⟨K1 + K2 + K3, rfl, .inr ⟨e1 _ (by omega), .inr ⟨e2 _ (by omega), .inl ((e3 (K1 + K2 + K3) (by omega)).trans (congrArg some c3))⟩⟩⟩
  have c3' : largeB more = false := by simpa using c3
  rw [c3'] at e3
  have hs := large_false c1'
  have hr := large_false c2'
  have hm := large_false c3'
  obtain ⟨K4, e4⟩ := copieds_ev db (hs.more (by omega))
  refine ⟨K1 + K2 + K3 + K4, rfl, .inr ⟨e1 _ (by omega), .inr ⟨e2 _ (by omega), .inr ⟨e3 _ (by omega), hs.1, hr.1, hm.1, e4 _ (by omega), ?_⟩⟩⟩⟩
  have hl1 := hs.1
  have hl2 := hr.1
  have hl3 := hm.1
  have hkl := cut_le a row.length
  obtain ⟨kk, hkk⟩ : ∃ m, m = CutAt a row.length := ⟨_, rfl⟩
  rw [← hkk] at hkl ⊢
  have h1 := row_some (db := db) (row := row) (by omega)
  have h2 := row_some (db := db) (row := row.take kk) (by rw [List.length_take]; omega)
  have h3 := row_some (db := db ++ more) (row := row) (by simp; omega)
  obtain ⟨n, n1, _, _⟩ := rowS_nat row db 0 false
  obtain ⟨p1, p2⟩ := rowS_cut row db 0 false kk hkl n n1
  obtain ⟨n2, q1, _, _⟩ := rowS_nat row (db ++ more) 0 false
  obtain ⟨m1, m2⟩ := rowS_more row db (db ++ more) 0 false (fun d h => List.mem_append_left _ h)
  rw [Nat.zero_add] at p1 p2
  rw [n1] at h1 m1
  rw [p1] at h2
  rw [q1] at h3 m1
  by_cases a1 : (db.all mayB && row.all mayB) = true
  · rw [if_pos a1] at h1
    obtain ⟨b1, b2⟩ := (Bool.and_eq_true _ _).mp a1
    have a2 : (db.all mayB && (row.take kk).all mayB) = true := by
      rw [Bool.and_eq_true]
      exact ⟨b1, List.all_eq_true.2 fun c hc => List.all_eq_true.1 b2 c (List.mem_of_mem_take hc)⟩
    rw [if_pos a2] at h2
    by_cases a3 : ((db ++ more).all mayB && row.all mayB) = true
    · rw [if_pos a3] at h3
      exact ⟨_, _, _, _, _, _, _, _, _, h1, h2, h3, .inr ⟨rfl, .inr ⟨rfl, rfl, p2, .inr ⟨rfl, by omega, m2⟩⟩⟩⟩
    · rw [if_neg a3] at h3
      exact ⟨_, _, _, _, _, _, 0, false, 2, h1, h2, h3, .inr ⟨rfl, .inr ⟨rfl, rfl, p2, .inl rfl⟩⟩⟩
  · rw [if_neg a1] at h1
    by_cases a2 : (db.all mayB && (row.take kk).all mayB) = true
    · rw [if_pos a2] at h2
      by_cases a3 : ((db ++ more).all mayB && row.all mayB) = true
      · rw [if_pos a3] at h3
        exact ⟨0, false, 2, _, _, _, _, _, _, h1, h2, h3, .inl ⟨rfl, .inr rfl⟩⟩
      · rw [if_neg a3] at h3
        exact ⟨0, false, 2, _, _, _, 0, false, 2, h1, h2, h3, .inl ⟨rfl, .inr rfl⟩⟩
    · rw [if_neg a2] at h2
      by_cases a3 : ((db ++ more).all mayB && row.all mayB) = true
      · rw [if_pos a3] at h3
        exact ⟨0, false, 2, 0, false, 2, _, _, _, h1, h2, h3, .inl ⟨rfl, .inl rfl⟩⟩
      · rw [if_neg a3] at h3
        exact ⟨0, false, 2, 0, false, 2, 0, false, 2, h1, h2, h3, .inl ⟨rfl, .inl rfl⟩⟩
end Go.Proofs.Ytjlkjgoncfdaeaa.Pure
