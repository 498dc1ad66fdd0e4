/- RupOrder: what comes hangs on no order: neither of the clauses, nor of their literals, nor of what is given: for every input. Conditions: none. -/
import Derived.Test.YtjlkjgoncfdaeaaHkx0
import Derived.Test.YtjlkjgoncfdaeaaHkx1
import Derived.Test.YtjlkjgoncfdaeaaHkx51
import Derived.Test.YtjlkjgoncfdaeaaPRupC
namespace Go.Proofs.Ytjlkjgoncfdaeaa.Pure
open Go.RowKit Go.Proofs.Ytjlkjgoncfdaeaa.Hk Go.Proofs.YtjlkjgoncfdaeaaW.PrintWords Go.Proofs.YtjlkjgoncfdaeaaW.PrintLast Go.Proofs.YtjlkjgoncfdaeaaW.PrintMore Go.Proofs.Ytjlkjgoncfdaeaa.LF Go.Proofs.Ytjlkjgoncfdaeaa.MC Go.Proofs.Ytjlkjgoncfdaeaa.RM

theorem mayB_rev (l : List Int) : mayB l.reverse = mayB l := by unfold mayB; rw [List.length_reverse, List.all_reverse]
/-- All the other way round. -/
def backs (l : List (List Int)) : List (List Int) := (l.map List.reverse).reverse
theorem backs_small {n : Nat} {l : List (List Int)} (h : Small n l) : Small n (backs l) := by
  refine ⟨by unfold backs; simp; exact h.1, fun c hc => ?_⟩
  unfold backs at hc
  rw [List.mem_reverse, List.mem_map] at hc
  obtain ⟨d, hd, rfl⟩ := hc
  rw [List.length_reverse]
  exact h.2 d hd
theorem backs_may (l : List (List Int)) : (backs l).all mayB = l.all mayB := by
  unfold backs
  rw [List.all_reverse, List.all_map]
  congr 1
  funext c
  exact mayB_rev c
theorem units_back {db : List (List Int)} {given : List Int} (hfit : db.length + given.length < 10000) : rup_Units.f (backs db) given.reverse = rup_Units.f db given := by
  have hfit' : (backs db).length + given.reverse.length < 10000 := by unfold backs; simpa using hfit
  by_cases h1 : (db.all mayB && mayB given) = true
  · rw [Bool.and_eq_true] at h1
    obtain ⟨r, ha, hu⟩ := units_some hfit h1.1 h1.2
    obtain ⟨r', ha', hu'⟩ := units_some hfit' (by rw [backs_may]; exact h1.1) (by rw [mayB_rev]; exact h1.2)
    rw [hu, hu']
    have z1 : ∀ c ∈ db, (0 : Int) ∉ c := fun c hc h0 => (mays_bd h1.1 c hc 0 h0).1 rfl
    have mem1 : ∀ c ∈ db, ∃ c' ∈ backs db, ∀ x, x ∈ c' ↔ x ∈ c := fun c hc => ⟨c.reverse, by unfold backs; rw [List.mem_reverse]; exact List.mem_map.2 ⟨c, hc, rfl⟩, fun x => List.mem_reverse⟩
    have mem2 : ∀ c ∈ backs db, ∃ c' ∈ db, ∀ x, x ∈ c' ↔ x ∈ c := fun c hc => by
      unfold backs at hc
      rw [List.mem_reverse, List.mem_map] at hc
      obtain ⟨d, hd, rfl⟩ := hc
      exact ⟨d, hd, fun x => List.mem_reverse.symm⟩
    have z2 : ∀ c ∈ backs db, (0 : Int) ∉ c := fun c hc h0 => by
      obtain ⟨d, hd, hx⟩ := mem2 c hc
      exact z1 d hd ((hx 0).2 h0)
    have hb := ans_same z1 mem1 z2 mem2 (g' := given.reverse) (fun x => List.mem_reverse.symm) ha
    rcases ans_unique hb ha' with ⟨rfl, rfl⟩ | ⟨l, l', rfl, rfl, hm⟩
    · rfl
    · show some (canon l', false, (0 : Int)) = some (canon l, false, 0)
      rw [canon_same (fun x => (hm x).symm)]
  · have h1 : (db.all mayB && mayB given) = false := by simpa using h1
    rw [units_none hfit h1, units_none hfit' (by rw [backs_may, mayB_rev]; exact h1)]
theorem order_loop (db : List (List Int)) (given : List Int) (hs : Small 60 db) (hl : given.length ≤ 30) : Ev (fun k => juristlaw16_RupOrder.l0 k db given [] (db.length : Int) 0) true := by
  have hdb := hs.1
  obtain ⟨r, _, hu, hsz⟩ := Units_ref (n := 60) hs (by omega) (show given.length ≤ 5000 by omega)
  have hu := hu (by omega)
  have : ∀ d i, i + d = db.length → Ev (fun k => juristlaw16_RupOrder.l0 k db given ((backs db).take i) (db.length : Int) (i : Int)) true := by
    intro d
    induction d with
    | zero =>
      intro i hi
      refine Ev.step (fun k => by simp only [juristlaw16_RupOrder.l0]; rw [if_neg (by omega), List.take_of_length_le (by unfold backs; simp; omega)]) ?_
      refine ev_got hu (Ev.bind (turned_ev given (by omega)) (ev_got ((units_back (by omega)).trans hu) ?_))
      exact Ev.bind (alike_same r.1 (by omega)) (ev_pos rfl (ev_pos (by simp) (ev_pos rfl known_t)))
    | succ d ih =>
      intro i hi
      have e1 : wrap64 ((db.length : Int) - 1) = (db.length : Int) - 1 := wrap_in (by omega) (by omega)
      have e2 : wrap64 ((db.length : Int) - 1 - (i : Int)) = ((db.length - 1 - i : Nat) : Int) := by rw [wrap_in (by omega) (by omega)]; omega
      have hlt : db.length - 1 - i < db.length := by omega
      have hbl : (backs db).length = db.length := by unfold backs; simp
      have e3 : (backs db).take i ++ [(db[db.length - 1 - i]).reverse] = (backs db).take (i + 1) := by
        rw [List.take_succ_eq_append_getElem (by omega)]
        congr 2
        unfold backs
        rw [List.getElem_reverse, List.getElem_map]
        simp
      refine Ev.step (fun k => by
        simp only [juristlaw16_RupOrder.l0]
        rw [if_pos (by omega), e1, e2, if_pos (by omega), if_pos (by omega), rdL_lt hlt, wrap_succ (by omega)]) ?_
      refine Ev.bind (turned_ev _ (by have := hs.2 _ (List.getElem_mem hlt); omega)) ?_
      refine ev_pos (by rw [List.length_take]; omega) ?_
      rw [e3]
      exact ih (i + 1) (by omega)
  have := this db.length 0 (by omega)
  rw [List.take_zero] at this
  exact this
theorem RupOrder : ∀ l0 : List (List Int), l0.length * 24 ≤ 140737488351232 → (∀ x ∈ l0, ∀ y ∈ x, (Lit.int .i64 y).wf = true) → ∀ l1 : List Int, l1.length * 8 ≤ 140737488351232 → (∀ x ∈ l1, (Lit.int .i64 x).wf = true) → ∃ k, juristlaw16_RupOrder.f k l0 l1 = some true := by
  intro db hdb _ given hg _
  apply Ev.rounds
  unfold juristlaw16_RupOrder.f
  have out : ∀ c : Bool, (c = false → Small 60 db ∧ given.length ≤ 30) → Ev (fun k => juristlaw16_RupOrder.j0 k db given c) true := by
    intro c hc
    by_cases hct : c = true
    · exact Ev.step (f := fun _ => juristlaw16_known.f.bind fun t => some t) (fun k => by simp only [juristlaw16_RupOrder.j0]; rw [if_pos hct]) known_t
    · obtain ⟨hs, hl⟩ := hc (by simpa using hct)
      exact Ev.step (f := fun k => juristlaw16_RupOrder.l0 k db given [] (db.length : Int) 0) (fun k => by simp only [juristlaw16_RupOrder.j0]; rw [if_neg hct]) (order_loop db given hs hl)
  refine Ev.bind (large_ev db (by omega)) ?_
  by_cases c1 : largeB db = true
  · exact ev_pos c1 (out true (by simp))
  · refine ev_neg c1 (out _ (fun h => ⟨large_false (by simpa using c1), by have := of_decide_eq_false h; omega⟩))
end Go.Proofs.Ytjlkjgoncfdaeaa.Pure
