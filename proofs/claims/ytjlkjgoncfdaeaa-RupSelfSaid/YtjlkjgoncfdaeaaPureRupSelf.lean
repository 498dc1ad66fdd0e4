/- RupSelf: each clause follows from those among which it is; and what follows from some follows by a row that begins with it: for every input. Conditions: none. -/
import Derived.Test.YtjlkjgoncfdaeaaHkx0
import Derived.Test.YtjlkjgoncfdaeaaHkx1
import Derived.Test.YtjlkjgoncfdaeaaManSelfLaw
import Derived.Test.YtjlkjgoncfdaeaaPRupD
namespace Go.Proofs.Ytjlkjgoncfdaeaa.Pure
open Go.RowKit Go.Proofs.Ytjlkjgoncfdaeaa.Hk Go.Proofs.YtjlkjgoncfdaeaaW.PrintWords Go.Proofs.YtjlkjgoncfdaeaaW.PrintLast Go.Proofs.YtjlkjgoncfdaeaaW.PrintMore Go.Proofs.Ytjlkjgoncfdaeaa.LF Go.Proofs.Ytjlkjgoncfdaeaa.MC Go.Proofs.Ytjlkjgoncfdaeaa.RM

theorem fol_mem {db : List (List Int)} {c : List Int} (h : c ∈ db) : fol db c = true := by
  refine fol_iff.2 (.inl ?_)
  cases c with
  | nil => exact .inl h
  | cons x c =>
    have hn : ∀ y ∈ x :: c, Drv db (negs (x :: c)) (-y) := fun y hy => .given (List.mem_map.2 ⟨y, hy, rfl⟩)
    exact .inr ⟨x, .unit h (by simp) fun y hy _ => hn y hy, hn x (by simp)⟩
theorem self_row {db : List (List Int)} {c : List Int} : (fol db c = true → (rowS db [c, c] 0 false).1 = 2) ∧ (fol db c = false → rowS db [c, c] 0 false = (0, false)) := by
  refine ⟨fun h => ?_, fun h => ?_⟩
  · rw [rowS, if_pos h, rowS, if_pos (fol_mem (by simp)), rowS]
    rfl
  · rw [rowS, if_neg (by simp [h])]
    rfl
theorem RupSelf : ∀ l0 : List (List Int), l0.length * 24 ≤ 140737488351232 → (∀ x ∈ l0, ∀ y ∈ x, (Lit.int .i64 y).wf = true) → ∀ l1 : List Int, l1.length * 8 ≤ 140737488351232 → (∀ x ∈ l1, (Lit.int .i64 x).wf = true) → ∃ k, juristlaw16_RupSelf.f k l0 l1 = some true := by
  intro db hdb _ c hc _
  have hall : Ev (fun k => juristlaw16_known.f.bind fun t => (juristlaw16_large.f k db).bind fun u => some (t, u)) (true, largeB db) := Ev.bind known_ev (Ev.bind (large_ev db (by omega)) (ev_ret _))
  obtain ⟨k, hk⟩ := hall.rounds
  cases h1 : juristlaw16_known.f with
  | none => rw [h1] at hk; cases hk
  | some t =>
    rw [h1] at hk
    cases h2 : juristlaw16_large.f k db with
    | none => rw [h2] at hk; cases hk
    | some u =>
      rw [h2] at hk
      have hk : some (t, u) = some (true, largeB db) := hk
      injection hk with hk
      injection hk with e1 e2
      subst e1 e2
      refine ⟨k, ?_⟩
      unfold juristlaw16_RupSelf.f
      rw [if_pos]
      refine ⟨h1, ?_⟩
      by_cases hl : largeB db = true
      · rw [hl] at h2; exact .inl h2
      · have hl' : largeB db = false := by simpa using hl
        rw [hl'] at h2
        refine .inr ⟨h2, ?_⟩
        by_cases hn : 30 < c.length
        · exact .inl hn
        · have hs := large_false hl'
          have hsl := hs.1
          refine .inr ⟨by omega, hs.1, fun i hi => ?_, ?_⟩
          · have hm : db.getD i [] ∈ db := by rw [List.getD_eq_getElem?_getD, List.getElem?_eq_getElem hi]; exact List.getElem_mem hi
            have hfs := follows_some (db := db) (c := db.getD i []) (by have := hs.2 _ hm; omega)
            by_cases hmm : (db.all mayB && mayB (db.getD i [])) = true
            · rw [if_pos hmm] at hfs
              exact ⟨_, _, hfs, .inr ⟨rfl, fol_mem hm⟩⟩
            · rw [if_neg hmm] at hfs
              exact ⟨_, _, hfs, .inl rfl⟩
          · have hf := follows_some (db := db) (c := c) (by omega)
            have hr := row_some (db := db) (row := [c, c]) (by simp; omega)
            have hmays : (db.all mayB && ([c, c] : List (List Int)).all mayB) = (db.all mayB && mayB c) := by simp
            rw [hmays] at hr
            by_cases hmm : (db.all mayB && mayB c) = true
            · rw [if_pos hmm] at hf hr
              cases hfo : fol db c with
              | true =>
                rw [hfo] at hf
                have := self_row.1 hfo
                rw [this] at hr
                exact .inr (.inl ⟨_, hf, hr⟩)
              | false =>
                rw [hfo] at hf
                rw [self_row.2 hfo] at hr
                exact .inr (.inr ⟨hf, hr⟩)
            · rw [if_neg hmm] at hf hr
              exact .inl ⟨_, hf, hr⟩
end Go.Proofs.Ytjlkjgoncfdaeaa.Pure
