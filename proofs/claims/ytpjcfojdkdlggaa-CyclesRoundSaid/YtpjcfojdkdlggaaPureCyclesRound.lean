/- CyclesRound: edges turned round are a cycle of the same sum: for every input. Conditions: none. -/
import Derived.Test.YtpjcfojdkdlggaaHkx0
import Derived.Test.YtpjcfojdkdlggaaHkx2
import Derived.Test.YtpjcfojdkdlggaaHkx8
import Derived.Test.YtpjcfojdkdlggaaPCert
namespace Go.Proofs.Ytpjcfojdkdlggaa.Pure
open Go.RowKit Go.Proofs.Ytpjcfojdkdlggaa.Hk Go.Proofs.YtpjcfojdkdlggaaW.PrintWords Go.Proofs.YtpjcfojdkdlggaaW.PrintLast Go.Proofs.YtpjcfojdkdlggaaW.PrintMore Go.Proofs.Ytpjcfojdkdlggaa.LF Go.Proofs.Ytpjcfojdkdlggaa.MC Go.Proofs.Ytpjcfojdkdlggaa.MW

theorem edgeAt_turn (a b : List MW.Edge) (i : Nat) (h : i < a.length + b.length) : edgeAt (b ++ a) i = edgeAt (a ++ b) ((i + a.length) % (a.length + b.length)) := by
  unfold edgeAt
  simp only [List.getD_eq_getElem?_getD]
  by_cases hb : i < b.length
  · rw [Nat.mod_eq_of_lt (by omega), List.getElem?_append_left hb, List.getElem?_append_right (by omega), show i + a.length - a.length = i from by omega]
  · have : (i + a.length) % (a.length + b.length) = i - b.length := by
      rw [show i + a.length = (i - b.length) + (a.length + b.length) from by omega, Nat.add_mod_right, Nat.mod_eq_of_lt (by omega)]
    rw [this, List.getElem?_append_right (by omega), List.getElem?_append_left (by omega)]
theorem cyc_turn1 (a b : List MW.Edge) (h : cyc (a ++ b) = true) : cyc (b ++ a) = true := by
  unfold cyc at h ⊢
  rw [List.all_eq_true] at h ⊢
  intro i hi
  rw [List.mem_range, List.length_append] at hi
  have hL : 0 < a.length + b.length := by omega
  have hm := h ((i + a.length) % (a.length + b.length)) (by rw [List.mem_range, List.length_append]; exact Nat.mod_lt _ hL)
  unfold meets at hm ⊢
  rw [List.length_append] at hm ⊢
  rw [show b.length + a.length = a.length + b.length from by omega, edgeAt_turn a b i (by omega), edgeAt_turn a b ((i + 1) % (a.length + b.length)) (Nat.mod_lt _ hL)]
  have e : ((i + 1) % (a.length + b.length) + a.length) % (a.length + b.length) = ((i + a.length) % (a.length + b.length) + 1) % (a.length + b.length) := by
    rw [Nat.mod_add_mod, Nat.mod_add_mod]
    congr 1
    omega
  rw [e]
  exact hm
theorem sumR_turn (a b : List MW.Edge) : sumR (b ++ a) = sumR (a ++ b) := by
  have ec : cyc (b ++ a) = cyc (a ++ b) := by
    rw [Bool.eq_iff_iff]
    exact ⟨cyc_turn1 b a, cyc_turn1 a b⟩
  have et : tot (b ++ a) = tot (a ++ b) := by
    unfold tot
    rw [List.map_append, List.map_append, List.sum_append, List.sum_append]
    omega
  have el : (b ++ a).length = (a ++ b).length := by rw [List.length_append, List.length_append]; omega
  unfold sumR
  rw [ec, et, el]

theorem CyclesRound : ∀ l0 : List S26, l0.length * 24 ≤ 140737488351232 → (∀ x ∈ l0, ((Lit.int .i64 x.f0).wf = true) ∧ ((Lit.int .i64 x.f1).wf = true) ∧ ((Lit.int .i64 x.f2).wf = true)) → ∀ a1 : Int, (Lit.int .i64 a1).wf = true → ∃ k, juristlaw18_CyclesRound.f k l0 a1 = some true := by
  intro l _ hw n _
  have hw' : EdgesWf l := wf_edges hw
  apply Ev.rounds
  unfold juristlaw18_CyclesRound.f
  have out : ∀ c : Bool, (c = false → 1 ≤ l.length ∧ l.length ≤ 300) → Ev (fun k => juristlaw18_CyclesRound.j0 k l n c) true := by
    intro c hc
    by_cases hct : c = true
    · exact Ev.step (f := fun k => (juristlaw18_known.f k).bind fun t => some t) (fun k => by simp only [juristlaw18_CyclesRound.j0]; rw [if_pos hct]) known_t
    · obtain ⟨h0, h1⟩ := hc (by simpa using hct)
      have hl : IntKind.u64.wrap (l.length : Int) = (l.length : Int) := by
        show (l.length : Int) % 18446744073709551616 = _
        omega
      have hn : 0 ≤ IntKind.u64.wrap n := by
        show 0 ≤ n % 18446744073709551616
        omega
      obtain ⟨r, hr, hlt⟩ : ∃ r : Nat, wrap64 (Int.tmod (IntKind.u64.wrap n) (l.length : Int)) = (r : Int) ∧ r < l.length := by
        rw [Int.tmod_eq_emod_of_nonneg hn]
        have b0 := Int.emod_nonneg (IntKind.u64.wrap n) (b := (l.length : Int)) (by omega)
        have b1 := Int.emod_lt_of_pos (IntKind.u64.wrap n) (b := (l.length : Int)) (by omega)
        refine ⟨((IntKind.u64.wrap n) % (l.length : Int)).toNat, ?_, by omega⟩
        rw [wrap_in (by omega) (by omega), Int.toNat_of_nonneg b0]
      have eq : sumR (l.drop r ++ l.take r) = sumR l := by
        rw [sumR_turn (l.take r) (l.drop r), List.take_append_drop]
      have hwt : EdgesWf (l.drop r ++ l.take r) := by
        intro e he
        rcases List.mem_append.1 he with h | h
        · exact hw' e (List.mem_of_mem_drop h)
        · exact hw' e (List.mem_of_mem_take h)
      refine Ev.step (fun k => by simp only [juristlaw18_CyclesRound.j0, hl, hr]; rw [if_neg hct, if_neg (by omega)]) ?_
      refine ev_got (sum_some hw') (ev_got rfl (ev_pos (by omega) (ev_pos (by omega) (ev_got rfl (ev_pos ?_ (ev_got rfl (ev_got rfl (ev_pos ?_ ?_))))))))
      · simp; omega
      · simp; omega
      · rw [List.nil_append, Int.toNat_natCast]
        exact ev_got (sum_some hwt) (ev_pos (by rw [eq]) (ev_pos (by rw [eq]) known_t))
  by_cases c1 : (l.length : Int) = 0
  · exact ev_pos c1 (out true (by simp))
  · exact ev_neg c1 (out _ (fun h => by have := of_decide_eq_false h; omega))
end Go.Proofs.Ytpjcfojdkdlggaa.Pure
