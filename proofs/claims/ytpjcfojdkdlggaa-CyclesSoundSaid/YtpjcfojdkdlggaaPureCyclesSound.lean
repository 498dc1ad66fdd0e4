/- CyclesSound: what is certified is so: whatever whole numbers the variables are, not all literals of a certificate hold: for every input. Conditions: none. -/
import Derived.Test.YtpjcfojdkdlggaaHkx0
import Derived.Test.YtpjcfojdkdlggaaHkx2
import Derived.Test.YtpjcfojdkdlggaaHkx5
import Derived.Test.YtpjcfojdkdlggaaHkx6
import Derived.Test.YtpjcfojdkdlggaaPCert
namespace Go.Proofs.Ytpjcfojdkdlggaa.Pure
open Go.RowKit Go.Proofs.Ytpjcfojdkdlggaa.Hk Go.Proofs.YtpjcfojdkdlggaaW.PrintWords Go.Proofs.YtpjcfojdkdlggaaW.PrintLast Go.Proofs.YtpjcfojdkdlggaaW.PrintMore Go.Proofs.Ytpjcfojdkdlggaa.LF Go.Proofs.Ytpjcfojdkdlggaa.MC Go.Proofs.Ytpjcfojdkdlggaa.MW

/-- An edge holds by values. -/
def edgeHolds (v : List Int) (e : MW.Edge) : Prop := 0 ≤ e.f0 ∧ e.f0 < v.length ∧ 0 ≤ e.f1 ∧ e.f1 < v.length ∧ rd v e.f0 - rd v e.f1 ≤ e.f2

theorem tot_cons (e : MW.Edge) (l : List MW.Edge) : tot (e :: l) = e.f2 + tot l := by simp [tot]
/-- A row of edges, each ending where the next one begins, that hold: the sum is no less than the difference of its ends. -/
theorem chain_sum (v : List Int) : ∀ (l : List MW.Edge), (∀ e ∈ l, edgeHolds v e) → (∀ i, i + 1 < l.length → (edgeAt l i).f1 = (edgeAt l (i + 1)).f0) → 0 < l.length → rd v (edgeAt l 0).f0 - rd v (edgeAt l (l.length - 1)).f1 ≤ tot l
  | [], _, _, h => by simp at h
  | [e], h, _, _ => by
    have := (h e (by simp)).2.2.2.2
    simpa [tot, edgeAt] using this
  | e :: e' :: l, h, hc, _ => by
    have h1 := (h e (by simp)).2.2.2.2
    have h2 := chain_sum v (e' :: l) (fun x hx => h x (by simp [List.mem_cons.1 hx])) (fun i hi => by
      have := hc (i + 1) (by simpa using hi)
      simpa [edgeAt] using this) (by simp)
    have h3 := hc 0 (by simp)
    rw [tot_cons]
    simp only [edgeAt, List.getD_cons_zero, List.length_cons, Nat.add_sub_cancel, List.getD_cons_succ, Nat.zero_add] at *
    rw [h3] at h1
    omega
theorem cert_false (v : List Int) (l : List MW.Edge) (h : ∀ e ∈ l, edgeHolds v e) (h2 : (sumR l).2 = 0) (h1 : (sumR l).1 < 0) : False := by
  unfold sumR at h1 h2
  split at h2
  · cases h2
  · rename_i hn
    rw [if_neg hn] at h1
    split at h2
    · cases h2
    · rename_i hn0
      rw [if_neg hn0] at h1
      split at h2
      · rename_i hc
        rw [if_pos hc] at h1
        have hm : ∀ i, i < l.length → (edgeAt l i).f1 = (edgeAt l ((i + 1) % l.length)).f0 := fun i hi => by
          have := List.all_eq_true.1 hc i (List.mem_range.2 hi)
          unfold meets at this
          simpa using this
        have hs := chain_sum v l h (fun i hi => by
          have := hm i (by omega)
          rw [Nat.mod_eq_of_lt hi] at this
          exact this) (by omega)
        have hlast := hm (l.length - 1) (by omega)
        rw [show l.length - 1 + 1 = l.length from by omega, Nat.mod_self] at hlast
        rw [hlast] at hs
        have : sgn (tot l) < 0 := h1
        unfold sgn at this
        split at this
        · omega
        · split at this <;> omega
      · cases h2

theorem sound_l1 (a : List At) (l v : List Int) (hw : AtomsWf a) (ha : a.length ≤ 1000) (hl : l.length ≤ 300) (hx : ∀ x ∈ l, (Lit.int .i64 x).wf = true) (hv : ∀ x ∈ v, -2305843009213693952 ≤ x ∧ x ≤ 2305843009213693952) (hc : (checkR a l).2 = 0) :
    ∀ d i, i + d = l.length → (∀ e ∈ edges a (l.take i), edgeHolds v e) → Ev (fun k => juristlaw18_CyclesSound.l1 k a l v (l.length : Int) (i : Int)) true := by
  have hcert : allOk a l = true ∧ (sumR (edges a l)).2 = 0 ∧ (sumR (edges a l)).1 < 0 := by
    unfold checkR at hc
    rw [if_neg (by omega)] at hc
    split at hc
    · rename_i h1
      split at hc
      · rename_i h2; exact ⟨h1, h2⟩
      · cases hc
    · cases hc
  intro d
  induction d with
  | zero =>
    intro i hi hh
    obtain rfl : i = l.length := by omega
    rw [List.take_length] at hh
    exact (cert_false v _ hh hcert.2.1 hcert.2.2).elim
  | succ d ih =>
    intro i hi hh
    have hlt : i < l.length := by omega
    have hok : (edgeOf a (rd l (i : Int))).2.2.2 = 0 := by simpa using List.all_eq_true.1 hcert.1 _ (rd_mem hlt)
    refine Ev.step (fun k => by simp only [juristlaw18_CyclesSound.l1]; rw [if_pos (by omega), if_pos (by omega), if_pos (by omega), wrap_succ (by omega)]) ?_
    refine Ev.bind (of_ev a _ hw (hx _ (rd_mem hlt)) (by omega)) ?_
    refine ev_pos hok ?_
    by_cases q1 : (edgeOf a (rd l (i : Int))).1 < 0
    · exact ev_pos q1 known_t
    · refine ev_neg q1 ?_
      by_cases q2 : (edgeOf a (rd l (i : Int))).1 ≥ (v.length : Int)
      · exact ev_pos q2 known_t
      · refine ev_neg q2 ?_
        by_cases q3 : (edgeOf a (rd l (i : Int))).2.1 < 0
        · exact ev_pos q3 known_t
        · refine ev_neg q3 ?_
          by_cases q4 : (edgeOf a (rd l (i : Int))).2.1 ≥ (v.length : Int)
          · exact ev_pos q4 known_t
          · refine ev_neg q4 ?_
            have vmem : ∀ j : Int, 0 ≤ j → j < v.length → -2305843009213693952 ≤ rd v j ∧ rd v j ≤ 2305843009213693952 := fun j h0 h1 => by
              have := rd_mem (l := v) (i := j.toNat) (by omega)
              rw [Int.toNat_of_nonneg h0] at this
              exact hv _ this
            have b1 := vmem _ (by omega) (by omega : (edgeOf a (rd l (i : Int))).1 < v.length)
            have b2 := vmem _ (by omega) (by omega : (edgeOf a (rd l (i : Int))).2.1 < v.length)
            have hsub : wrap64 (rd v (edgeOf a (rd l (i : Int))).1 - rd v (edgeOf a (rd l (i : Int))).2.1) = rd v (edgeOf a (rd l (i : Int))).1 - rd v (edgeOf a (rd l (i : Int))).2.1 := wrap_in (by omega) (by omega)
            refine ev_got (a := decide (rd v (edgeOf a (rd l (i : Int))).1 - rd v (edgeOf a (rd l (i : Int))).2.1 ≤ (edgeOf a (rd l (i : Int))).2.2.1)) (by unfold juristref18_Holds.f; rw [if_pos (by omega), if_pos (by omega), if_pos (by omega), if_pos (by omega), hsub]) ?_
            by_cases q5 : rd v (edgeOf a (rd l (i : Int))).1 - rd v (edgeOf a (rd l (i : Int))).2.1 ≤ (edgeOf a (rd l (i : Int))).2.2.1
            · refine ev_pos (decide_eq_true q5) (ih (i + 1) (by omega) ?_)
              rw [← edges_snoc hlt]
              intro e he
              rcases List.mem_append.1 he with he | he
              · exact hh e he
              · have : e = edge1 a (rd l (i : Int)) := by simpa using he
                subst this
                exact ⟨by unfold edge1; dsimp only; omega, by unfold edge1; dsimp only; omega, by unfold edge1; dsimp only; omega, by unfold edge1; dsimp only; omega, q5⟩
            · exact ev_neg (by simp [q5]) known_t

theorem CyclesSound : ∀ l0 : List S46, l0.length * 32 ≤ 140737488351232 → (∀ x ∈ l0, ((Lit.int .u8 x.f0).wf = true) ∧ ((Lit.int .i64 x.f1).wf = true) ∧ ((Lit.int .i64 x.f2).wf = true) ∧ ((Lit.int .i64 x.f3).wf = true)) → ∀ l1 : List Int, l1.length * 8 ≤ 140737488351232 → (∀ x ∈ l1, (Lit.int .i64 x).wf = true) → ∀ l2 : List Int, l2.length * 8 ≤ 140737488351232 → (∀ x ∈ l2, (Lit.int .i64 x).wf = true) → ∃ k, juristlaw18_CyclesSound.f k l0 l1 l2 = some true := by
  intro a _ hw l _ hx v _ _
  apply Ev.rounds
  unfold juristlaw18_CyclesSound.f
  have out : ∀ c : Bool, (c = false → a.length ≤ 1000 ∧ l.length ≤ 300 ∧ v.length ≤ 1000) → Ev (fun k => juristlaw18_CyclesSound.j0 k a l v c) true := by
    intro c hc
    by_cases hct : c = true
    · exact Ev.step (f := fun k => (juristlaw18_known.f k).bind fun t => some t) (fun k => by simp only [juristlaw18_CyclesSound.j0]; rw [if_pos hct]) known_t
    · obtain ⟨h1, h2, h3⟩ := hc (by simpa using hct)
      refine Ev.step (fun k => by simp only [juristlaw18_CyclesSound.j0]; rw [if_neg hct]) ?_
      suffices H : ∀ d i, i + d = v.length → (∀ x ∈ v.take i, -2305843009213693952 ≤ x ∧ x ≤ 2305843009213693952) → Ev (fun k => juristlaw18_CyclesSound.l0 k a l v (v.length : Int) (i : Int)) true from
        H v.length 0 (by omega) (by simp)
      intro d
      induction d with
      | zero =>
        intro i hi hv
        obtain rfl : i = v.length := by omega
        rw [List.take_length] at hv
        refine Ev.step (fun k => by simp only [juristlaw18_CyclesSound.l0]; rw [if_neg (by omega)]) ?_
        refine Ev.bind (check_ev a l hw (by omega) (by omega) hx) ?_
        by_cases q : (checkR a l).2 = 0
        · exact ev_pos q (sound_l1 a l v hw h1 h2 hx hv q l.length 0 (by omega) (by simp [edges]))
        · exact ev_neg q known_t
      | succ d ih =>
        intro i hi hv
        have hlt : i < v.length := by omega
        by_cases q1 : rd v (i : Int) > 2305843009213693952
        · exact Ev.step (f := fun k => (juristlaw18_known.f k).bind fun t => some t) (fun k => by simp only [juristlaw18_CyclesSound.l0]; rw [if_pos (by omega), if_pos (by omega), if_pos (by omega), if_pos q1]) known_t
        · by_cases q2 : rd v (i : Int) < -2305843009213693952
          · exact Ev.step (f := fun k => (juristlaw18_known.f k).bind fun t => some t) (fun k => by simp only [juristlaw18_CyclesSound.l0]; rw [if_pos (by omega), if_pos (by omega), if_pos (by omega), if_neg q1, if_pos q2]) known_t
          · refine Ev.step (fun k => by simp only [juristlaw18_CyclesSound.l0]; rw [if_pos (by omega), if_pos (by omega), if_pos (by omega), if_neg q1, if_neg q2, wrap_succ (by omega)]) (ih (i + 1) (by omega) ?_)
            intro x hx'
            rw [List.take_succ_eq_append_getElem hlt] at hx'
            rcases List.mem_append.1 hx' with h | h
            · exact hv x h
            · have : x = v[i] := by simpa using h
              rw [rd_lt hlt] at q1 q2
              subst this
              omega
  by_cases c1 : (a.length : Int) > 1000
  · exact ev_pos c1 (out true (by simp))
  · refine ev_neg c1 ?_
    by_cases c2 : (l.length : Int) > 300
    · exact ev_pos c2 (out true (by simp))
    · exact ev_neg c2 (out _ (fun h => by have := of_decide_eq_false h; omega))
end Go.Proofs.Ytpjcfojdkdlggaa.Pure
