/- RupSound: a row that follows is true: by each assignment by which the first clauses hold, each clause of a row that follows holds; so none refutes clauses that hold: for every input. Conditions: none. -/
import Derived.Test.YtjlkjgoncfdaeaaHkx0
import Derived.Test.YtjlkjgoncfdaeaaHkx1
import Derived.Test.YtjlkjgoncfdaeaaHkx70
import Derived.Test.YtjlkjgoncfdaeaaPRupC
namespace Go.Proofs.Ytjlkjgoncfdaeaa.Pure
open Go.RowKit Go.Proofs.Ytjlkjgoncfdaeaa.Hk Go.Proofs.YtjlkjgoncfdaeaaW.PrintWords Go.Proofs.YtjlkjgoncfdaeaaW.PrintLast Go.Proofs.YtjlkjgoncfdaeaaW.PrintMore Go.Proofs.Ytjlkjgoncfdaeaa.LF Go.Proofs.Ytjlkjgoncfdaeaa.MC Go.Proofs.Ytjlkjgoncfdaeaa.RM

theorem RupSound : ∀ l0 : List (List Int), l0.length * 24 ≤ 140737488351232 → (∀ x ∈ l0, ∀ y ∈ x, (Lit.int .i64 y).wf = true) → ∀ l1 : List (List Int), l1.length * 24 ≤ 140737488351232 → (∀ x ∈ l1, ∀ y ∈ x, (Lit.int .i64 y).wf = true) → ∀ a2 : Int, (Lit.int .u64 a2).wf = true → ∃ k, juristlaw16_RupSound.f k l0 l1 a2 = some true := by
  intro db hdb hwd row hrw hwr bits _
  apply Ev.rounds
  unfold juristlaw16_RupSound.f
  have yes : Ev (fun k => juristlaw16_RupSound.j0 k db row bits true) true := Ev.step (f := fun _ => juristlaw16_known.f.bind fun t => some t) (fun k => by simp only [juristlaw16_RupSound.j0]; rw [if_pos trivial]) known_t
  refine Ev.bind (large_ev db (by omega)) ?_
  by_cases c1 : largeB db = true
  · exact ev_pos c1 yes
  refine ev_neg c1 (Ev.bind (large_ev row (by omega)) ?_)
  by_cases c2 : largeB row = true
  · exact ev_pos c2 yes
  have hs := large_false (l := db) (by simpa using c1)
  have hr := large_false (l := row) (by simpa using c2)
  refine ev_neg c2 (Ev.bind (smalls_ev db (hs.more (by omega))) ?_)
  by_cases c3 : smallB db = true
  · refine ev_pos c3 (Ev.bind (smalls_ev row (hr.more (by omega))) ?_)
    by_cases c4 : smallB row = true
    · refine ev_pos c4 (Ev.bind (onAll_ev db bits (hs.more (by omega)) hwd) ?_)
      by_cases c5 : onAll bits db = true
      · rw [c5]
        have hm1 := small_may c3 hs.2
        have hm2 := small_may c4 hr.2
        obtain ⟨n, h1, h2, h3, h4⟩ := rowS_on (bits := bits) row db 0 (mays_bd hm1) (mays_bd hm2) c5
        refine Ev.step (fun k => by simp only [juristlaw16_RupSound.j0, Bool.not_true]; rw [if_neg (by simp)]) ?_
        refine ev_got (row_some (by have := hs.1; have := hr.1; omega)) ?_
        rw [if_pos (by simp [hm1, hm2]), h4]
        refine ev_pos rfl (ev_neg (by simp) ?_)
        rw [h1, Nat.zero_add, show decide ((n : Int) > (row.length : Int)) = false from by simp; omega]
        refine Ev.step (fun k => by simp only [juristlaw16_RupSound.j1]; rw [if_neg (by simp), if_pos (by omega), if_pos (by omega), Int.toNat_natCast]) ?_
        refine Ev.bind (onAll_ev (row.take n) bits ((hr.take n).more (by omega)) (fun c hc => hwr c (List.mem_of_mem_take hc))) ?_
        exact ev_pos h3 known_t
      · rw [show onAll bits db = false from by simpa using c5]
        exact yes
    · exact ev_neg c4 yes
  · exact ev_neg c3 yes
end Go.Proofs.Ytjlkjgoncfdaeaa.Pure
