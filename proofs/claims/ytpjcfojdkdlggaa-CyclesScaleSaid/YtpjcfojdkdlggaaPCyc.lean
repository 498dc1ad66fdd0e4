/- Plain laws of layer 18: the edge of a literal, sums of edges and their signs, certificates: the program's and the document's answers. -/
import Derived.Test.YtpjcfojdkdlggaaHkx0
import Derived.Test.YtpjcfojdkdlggaaHkx2
import Derived.Test.YtpjcfojdkdlggaaHkx3
import Derived.Test.YtpjcfojdkdlggaaPNormal
import Derived.Test.YtpjcfojdkdlggaaPAlike
import Derived.Test.YtpjcfojdkdlggaaPCopied
import Derived.Test.YtpjcfojdkdlggaaManSum
namespace Go.Proofs.Ytpjcfojdkdlggaa.Pure
open Go.RowKit Go.Proofs.Ytpjcfojdkdlggaa.Hk Go.Proofs.YtpjcfojdkdlggaaW.PrintWords Go.Proofs.YtpjcfojdkdlggaaW.PrintLast Go.Proofs.YtpjcfojdkdlggaaW.PrintMore Go.Proofs.Ytpjcfojdkdlggaa.LF Go.Proofs.Ytpjcfojdkdlggaa.MC Go.Proofs.Ytpjcfojdkdlggaa.MW

abbrev At := S46
def AtomsWf (a : List At) : Prop := ∀ y ∈ a, ((Lit.int .u8 y.f0).wf = true) ∧ ((Lit.int .i64 y.f1).wf = true) ∧ ((Lit.int .i64 y.f2).wf = true) ∧ ((Lit.int .i64 y.f3).wf = true)
def EdgesWf (l : List MW.Edge) : Prop := ∀ e ∈ l, -9223372036854775808 ≤ e.f2 ∧ e.f2 ≤ 9223372036854775807
theorem rdA_mem {a : List At} {i : Int} (h0 : 0 ≤ i) (h : i < a.length) : rd_T46 a i ∈ a := by
  unfold rd_T46
  have : i.toNat < a.length := by omega
  rw [List.getD_eq_getElem?_getD, List.getElem?_eq_getElem this]
  exact List.getElem_mem this

/-- The edge of a literal, or the refusal. -/
def edgeOf (a : List At) (x : Int) : Int × Int × Int × Int :=
  if 1 ≤ litAtom x ∧ litAtom x ≤ a.length ∧ (rd_T46 a (litAtom x - 1)).f0 = 2 then
    (if x > 0 then ((rd_T46 a (litAtom x - 1)).f1, (rd_T46 a (litAtom x - 1)).f2, (rd_T46 a (litAtom x - 1)).f3, 0)
     else ((rd_T46 a (litAtom x - 1)).f2, (rd_T46 a (litAtom x - 1)).f1, -1 - (rd_T46 a (litAtom x - 1)).f3, 0))
  else (0, 0, 0, 2)
theorem edgeOf_wf {a : List At} (hw : AtomsWf a) (x : Int) : -9223372036854775808 ≤ (edgeOf a x).2.2.1 ∧ (edgeOf a x).2.2.1 ≤ 9223372036854775807 := by
  unfold edgeOf
  split
  · rename_i h
    have := wf_bd (hw _ (rdA_mem (i := litAtom x - 1) (by omega) (by omega))).2.2.2
    split <;> dsimp only <;> omega
  · dsimp only; omega

theorem of_ev (a : List At) (x : Int) (hw : AtomsWf a) (hx : (Lit.int .i64 x).wf = true) (ha : a.length < 4611686018427387904) : Ev (fun k => cycles_Of.f k a x) (edgeOf a x) := by
  have hxb := wf_bd hx
  unfold cycles_Of.f
  have stop : edgeOf a x = (0, 0, 0, 2) → ∀ (m : Int) (c : Bool), c = true → Ev (fun k => cycles_Of.j0 k a x m c) (edgeOf a x) := by
    intro e m c hc
    rw [e]
    exact Ev.step (f := fun _ => some (0, 0, 0, 2)) (fun k => by simp only [cycles_Of.j0]; rw [if_pos hc]) (ev_ret _)
  by_cases hmin : x = -9223372036854775808
  · have hm : mx x (wrap64 (-x)) < 1 := by subst hmin; unfold mx wrap64; decide
    exact ev_pos hm (stop (by unfold edgeOf; rw [if_neg (by subst hmin; unfold litAtom; omega)]) _ true rfl)
  · have hm : mx x (wrap64 (-x)) = litAtom x := by rw [wrap_in (x := -x) (by omega) (by omega)]; unfold mx litAtom; split <;> split <;> omega
    have hla : 0 ≤ litAtom x := by unfold litAtom; split <;> omega
    rw [hm]
    by_cases h1 : litAtom x < 1
    · exact ev_pos h1 (stop (by unfold edgeOf; rw [if_neg (by omega)]) _ true rfl)
    · refine ev_neg h1 ?_
      by_cases h2 : litAtom x > a.length
      · exact ev_pos h2 (stop (by unfold edgeOf; rw [if_neg (by omega)]) _ true rfl)
      · refine ev_neg h2 ?_
        have hw1 : wrap64 (litAtom x - 1) = litAtom x - 1 := wrap_in (by omega) (by omega)
        rw [hw1]
        refine ev_pos (by omega) (ev_pos (by omega) ?_)
        have hb := wf_bd (hw _ (rdA_mem (i := litAtom x - 1) (by omega) (by omega))).2.2.2
        by_cases h3 : (rd_T46 a (litAtom x - 1)).f0 = 2
        · have hc : ¬ ((rd_T46 a (litAtom x - 1)).f0 != 2) = true := by simp [h3]
          refine Ev.step (fun k => by simp only [cycles_Of.j0]; rw [if_neg hc, hw1, if_pos (by omega), if_pos (by omega)]) ?_
          by_cases h4 : x > 0
          · rw [show edgeOf a x = ((rd_T46 a (litAtom x - 1)).f1, (rd_T46 a (litAtom x - 1)).f2, (rd_T46 a (litAtom x - 1)).f3, 0) from by unfold edgeOf; rw [if_pos ⟨by omega, by omega, h3⟩, if_pos h4]]
            exact ev_pos h4 (ev_ret _)
          · rw [show edgeOf a x = ((rd_T46 a (litAtom x - 1)).f2, (rd_T46 a (litAtom x - 1)).f1, -1 - (rd_T46 a (litAtom x - 1)).f3, 0) from by unfold edgeOf; rw [if_pos ⟨by omega, by omega, h3⟩, if_neg h4]]
            refine ev_neg h4 ?_
            by_cases h5 : (rd_T46 a (litAtom x - 1)).f3 = 9223372036854775807
            · refine ev_pos h5 ?_
              rw [h5]
              exact ev_ret _
            · refine ev_neg h5 ?_
              have e1 : wrap64 (-(wrap64 ((rd_T46 a (litAtom x - 1)).f3 + 1))) = -1 - (rd_T46 a (litAtom x - 1)).f3 := by
                rw [wrap_in (x := (rd_T46 a (litAtom x - 1)).f3 + 1) (by omega) (by omega), wrap_in (by omega) (by omega)]
                omega
              rw [e1]
              exact ev_ret _
        · exact stop (by unfold edgeOf; rw [if_neg (fun h => h3 h.2.2)]) _ _ (by simpa using h3)

theorem ref_of_ev (a : List At) (x : Int) (hw : AtomsWf a) (hx : (Lit.int .i64 x).wf = true) (ha : a.length < 4611686018427387904) : Ev (fun k => juristref18_Of.f k a x) (edgeOf a x) := by
  have hxb := wf_bd hx
  unfold juristref18_Of.f
  have stop : edgeOf a x = (0, 0, 0, 2) → ∀ (m : Int) (c : Bool), c = true → Ev (fun k => juristref18_Of.j0 k a x m c) (edgeOf a x) := by
    intro e m c hc
    rw [e]
    exact Ev.step (f := fun _ => some (0, 0, 0, 2)) (fun k => by simp only [juristref18_Of.j0]; rw [if_pos hc]) (ev_ret _)
  refine ev_got (atom_some hx) ?_
  by_cases hmin : x = -9223372036854775808
  · have hm : wrap64 (litAtom x) < 1 := by subst hmin; unfold litAtom wrap64; decide
    exact ev_pos hm (stop (by unfold edgeOf; rw [if_neg (by subst hmin; unfold litAtom; omega)]) _ true rfl)
  · have hla : 0 ≤ litAtom x ∧ litAtom x ≤ 9223372036854775807 := by unfold litAtom; split <;> omega
    have hm : wrap64 (litAtom x) = litAtom x := wrap_in (by omega) (by omega)
    rw [hm]
    by_cases h1 : litAtom x < 1
    · exact ev_pos h1 (stop (by unfold edgeOf; rw [if_neg (by omega)]) _ true rfl)
    · refine ev_neg h1 ?_
      by_cases h2 : litAtom x > a.length
      · exact ev_pos h2 (stop (by unfold edgeOf; rw [if_neg (by omega)]) _ true rfl)
      · refine ev_neg h2 ?_
        have hw1 : wrap64 (litAtom x - 1) = litAtom x - 1 := wrap_in (by omega) (by omega)
        rw [hw1]
        refine ev_pos (by omega) (ev_pos (by omega) ?_)
        have hb := wf_bd (hw _ (rdA_mem (i := litAtom x - 1) (by omega) (by omega))).2.2.2
        by_cases h3 : (rd_T46 a (litAtom x - 1)).f0 = 2
        · have hc : ¬ ((rd_T46 a (litAtom x - 1)).f0 != 2) = true := by simp [h3]
          refine Ev.step (fun k => by simp only [juristref18_Of.j0]; rw [if_neg hc, hw1, if_pos (by omega), if_pos (by omega)]) ?_
          have hx0 : x ≠ 0 := by rintro rfl; unfold litAtom at h1; omega
          by_cases h4 : x > 0
          · rw [show edgeOf a x = ((rd_T46 a (litAtom x - 1)).f1, (rd_T46 a (litAtom x - 1)).f2, (rd_T46 a (litAtom x - 1)).f3, 0) from by unfold edgeOf; rw [if_pos ⟨by omega, by omega, h3⟩, if_pos h4]]
            exact ev_neg (by omega) (ev_ret _)
          · rw [show edgeOf a x = ((rd_T46 a (litAtom x - 1)).f2, (rd_T46 a (litAtom x - 1)).f1, -1 - (rd_T46 a (litAtom x - 1)).f3, 0) from by unfold edgeOf; rw [if_pos ⟨by omega, by omega, h3⟩, if_neg h4]]
            refine ev_pos (by omega) ?_
            rw [wrap_in (by omega) (by omega)]
            exact ev_ret _
        · exact stop (by unfold edgeOf; rw [if_neg (fun h => h3 h.2.2)]) _ _ (by simpa using h3)

/-! #### sums -/
theorem sum_some {l : List MW.Edge} (h : EdgesWf l) : cycles_Sum.f l = some (sumR l) := by
  unfold cycles_Sum.f
  exact if_pos h
theorem rdE_nat (l : List MW.Edge) (i : Nat) : rd_T26 l (i : Int) = edgeAt l i := by unfold rd_T26 edgeAt; rw [Int.toNat_natCast]

theorem sign_ev (l : List Int) (hl : l.length ≤ 5000) (hw : ∀ x ∈ l, -9223372036854775808 ≤ x ∧ x ≤ 9223372036854775807) : Ev (fun k => juristref18_Sign.f k l) (sgn l.sum) := by
  unfold juristref18_Sign.f
  suffices H : ∀ d i, i + d = l.length → ∀ h low : Int, -2147483648 * i ≤ h → h ≤ 2147483648 * i → 0 ≤ low → low ≤ 4294967296 * i → h * 4294967296 + low = (l.take i).sum → Ev (fun k => juristref18_Sign.l0 k l h low (i : Int)) (sgn l.sum) from
    H l.length 0 (by omega) 0 0 (by omega) (by omega) (by omega) (by omega) (by simp)
  intro d
  induction d with
  | zero =>
    intro i hi h low h1 h2 h3 h4 h5
    obtain rfl : i = l.length := by omega
    rw [List.take_length] at h5
    have hw1 : wrap64 (h + low / 4294967296) = h + low / 4294967296 := wrap_in (by omega) (by omega)
    have hts : Int.tmod low 4294967296 = low % 4294967296 := Int.tmod_eq_emod_of_nonneg h3
    refine Ev.step (fun k => by simp only [juristref18_Sign.l0]; rw [if_neg (by omega), hw1, hts]) ?_
    by_cases c1 : h + low / 4294967296 < 0
    · rw [show sgn l.sum = -1 from by unfold sgn; rw [if_pos (by omega)]]
      exact ev_pos c1 (ev_ret _)
    · refine ev_neg c1 ?_
      by_cases c2 : h + low / 4294967296 = 0
      · refine ev_pos c2 ?_
        by_cases c3 : low % 4294967296 = 0
        · rw [show sgn l.sum = 0 from by unfold sgn; rw [if_neg (by omega), if_pos (by omega)]]
          exact ev_pos c3 (ev_ret _)
        · rw [show sgn l.sum = 1 from by unfold sgn; rw [if_neg (by omega), if_neg (by omega)]]
          exact ev_neg c3 (ev_ret _)
      · rw [show sgn l.sum = 1 from by unfold sgn; rw [if_neg (by omega), if_neg (by omega)]]
        exact ev_neg c2 (ev_ret _)
  | succ d ih =>
    intro i hi h low h1 h2 h3 h4 h5
    have hlt : i < l.length := by omega
    have hb := hw _ (rd_mem hlt)
    have hi5 : (i : Int) ≤ 5000 := by omega
    have hs : (l.take (i + 1)).sum = (l.take i).sum + rd l (i : Int) := by
      rw [List.take_succ_eq_append_getElem hlt, List.sum_append, rd_lt hlt]
      simp
    have hw1 : wrap64 (h + rd l (i : Int) / 4294967296) = h + rd l (i : Int) / 4294967296 := wrap_in (by omega) (by omega)
    have hw2 : wrap64 (rd l (i : Int) / 4294967296 * 4294967296) = rd l (i : Int) / 4294967296 * 4294967296 := wrap_in (by omega) (by omega)
    have hw3 : wrap64 (wrap64 (low + rd l (i : Int)) - rd l (i : Int) / 4294967296 * 4294967296) = low + rd l (i : Int) - rd l (i : Int) / 4294967296 * 4294967296 := by
      unfold wrap64
      omega
    refine Ev.step (fun k => by simp only [juristref18_Sign.l0]; rw [if_pos (by omega), if_pos (by omega), hw1, hw2, hw3, wrap_succ (by omega)]) ?_
    have h6 : ((i + 1 : Nat) : Int) = (i : Int) + 1 := by omega
    refine ih (i + 1) (by omega) _ _ ?_ ?_ ?_ ?_ ?_
    · rw [h6]; omega
    · rw [h6]; omega
    · omega
    · rw [h6]; omega
    · rw [hs]; omega

theorem wf_edges {l : List MW.Edge} (h : ∀ x ∈ l, ((Lit.int .i64 x.f0).wf = true) ∧ ((Lit.int .i64 x.f1).wf = true) ∧ ((Lit.int .i64 x.f2).wf = true)) : EdgesWf l := fun e he => wf_bd (h e he).2.2
theorem edgeAt_mem {l : List MW.Edge} {i : Nat} (h : i < l.length) : edgeAt l i ∈ l := by
  unfold edgeAt
  rw [List.getD_eq_getElem?_getD, List.getElem?_eq_getElem h]
  exact List.getElem_mem h
/-- The document's sum. -/
theorem ref_sum_ev (l : List MW.Edge) (hw : EdgesWf l) (hl : l.length < 4611686018427387904) : Ev (fun k => juristref18_Sum.f k l) (sumR l) := by
  unfold juristref18_Sum.f
  by_cases h1 : 5000 < l.length
  · rw [show sumR l = (0, 3) from by unfold sumR; rw [if_pos h1]]
    exact ev_pos (by omega) (ev_ret _)
  · refine ev_neg (by omega) ?_
    rcases Nat.eq_zero_or_pos l.length with h0 | h0
    · rw [show sumR l = (0, 5) from by unfold sumR; rw [if_neg h1, if_pos h0]]
      exact Ev.step (f := fun _ => some (0, 5)) (fun k => by simp only [juristref18_Sum.l0]; rw [if_neg (by omega), if_pos (by omega)]) (ev_ret _)
    · have hr : sumR l = if cyc l then (sgn (tot l), 0) else (0, 5) := by unfold sumR; rw [if_neg h1, if_neg (by omega)]
      suffices H : ∀ d i, i + d = l.length → (∀ j, j < i → meets l j = true) → Ev (fun k => juristref18_Sum.l0 k l ((l.take i).map (·.f2)) (i : Int)) (sumR l) from
        H l.length 0 (by omega) (fun j hj => by omega)
      intro d
      induction d with
      | zero =>
        intro i hi hok
        obtain rfl : i = l.length := by omega
        have hcyc : cyc l = true := List.all_eq_true.2 fun j hj => hok j (List.mem_range.1 hj)
        rw [hr, hcyc]
        refine Ev.step (fun k => by simp only [juristref18_Sum.l0]; rw [if_neg (by omega), if_neg (by omega), List.take_length]) ?_
        have := sign_ev (l.map (·.f2)) (by simp; omega) (fun x hx => by
          obtain ⟨e, he, rfl⟩ := List.mem_map.1 hx
          exact hw e he)
        exact Ev.bind this (ev_ret _)
      | succ d ih =>
        intro i hi hok
        have hlt : i < l.length := by omega
        have hlen : ((l.take i).map (·.f2)).length < 17592186044416 := by simp; omega
        have hacc : (l.take i).map (·.f2) ++ [(rd_T26 l (i : Int)).f2] = (l.take (i + 1)).map (·.f2) := by
          rw [List.take_succ_eq_append_getElem hlt, List.map_append, rdE_nat]
          congr 1
          unfold edgeAt
          rw [List.getD_eq_getElem?_getD, List.getElem?_eq_getElem hlt]
          rfl
        have hn : wrap64 ((i : Int) + 1) = ((i + 1 : Nat) : Int) := wrap_succ (by omega)
        by_cases hm : meets l i = true
        · have hok' : ∀ j, j < i + 1 → meets l j = true := by
            intro j hj
            rcases Nat.lt_or_ge j i with h | h
            · exact hok j h
            · obtain rfl : j = i := by omega
              exact hm
          have hm' : (edgeAt l i).f1 = (edgeAt l ((i + 1) % l.length)).f0 := by unfold meets at hm; simpa using hm
          by_cases hlast : i + 1 < l.length
          · rw [Nat.mod_eq_of_lt hlast] at hm'
            refine Ev.step (fun k => by simp only [juristref18_Sum.l0]; rw [if_pos (by omega), if_pos (by omega), hn, if_pos (by omega), if_pos (by omega), if_pos (by omega), if_pos (by rw [rdE_nat, rdE_nat]; exact hm'), if_pos hlen, hacc]) (ih (i + 1) (by omega) hok')
          · have hz : (i + 1) % l.length = 0 := by rw [show i + 1 = l.length from by omega]; exact Nat.mod_self _
            rw [hz] at hm'
            refine Ev.step (fun k => by simp only [juristref18_Sum.l0]; rw [if_pos (by omega), if_pos (by omega), hn, if_neg (by omega), if_pos (by omega), if_pos (by rw [rdE_nat, show (0 : Int) = ((0 : Nat) : Int) from rfl, rdE_nat]; exact hm'), if_pos hlen, hacc]) (ih (i + 1) (by omega) hok')
        · have hcyc : cyc l = false := by
            cases h : cyc l with
            | false => rfl
            | true => exact absurd (List.all_eq_true.1 h i (List.mem_range.2 hlt)) hm
          rw [hr, hcyc]
          have hm' : ¬ (edgeAt l i).f1 = (edgeAt l ((i + 1) % l.length)).f0 := by unfold meets at hm; simpa using hm
          by_cases hlast : i + 1 < l.length
          · rw [Nat.mod_eq_of_lt hlast] at hm'
            exact Ev.step (f := fun _ => some (0, 5)) (fun k => by simp only [juristref18_Sum.l0]; rw [if_pos (by omega), if_pos (by omega), hn, if_pos (by omega), if_pos (by omega), if_pos (by omega), if_neg (by rw [rdE_nat, rdE_nat]; exact hm')]) (ev_ret _)
          · have hz : (i + 1) % l.length = 0 := by rw [show i + 1 = l.length from by omega]; exact Nat.mod_self _
            rw [hz] at hm'
            exact Ev.step (f := fun _ => some (0, 5)) (fun k => by simp only [juristref18_Sum.l0]; rw [if_pos (by omega), if_pos (by omega), hn, if_neg (by omega), if_pos (by omega), if_neg (by rw [rdE_nat, show (0 : Int) = ((0 : Nat) : Int) from rfl, rdE_nat]; exact hm')]) (ev_ret _)

end Go.Proofs.Ytpjcfojdkdlggaa.Pure
