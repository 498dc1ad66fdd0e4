/- What each call of the heap does to who is in it, and to the order: plain law. -/
import Derived.Test.YtegcfaohhcjajaaHeapL
namespace Go.Proofs.Ytegcfaohhcjajaa.HM
set_option linter.unusedVariables false
set_option linter.unusedSimpArgs false

/-- A heap as it should be. -/
structure Good (s : HS) : Prop where
  ps : Ps s
  ord : Ord s 0
  wt : ∀ x ∈ s.w, 0 ≤ x ∧ x ≤ 4611686018427387904
theorem Good.of {s t : HS} (h : Kept s t) (ho : Ord t 0) (hw : ∀ x ∈ s.w, 0 ≤ x ∧ x ≤ 4611686018427387904) : Good t := ⟨h.ps, ho, by rw [h.w]; exact hw⟩
theorem Good.wf {s : HS} (h : Good s) : Wf s := h.ps.wf
theorem Good.wat {s : HS} (h : Good s) {x : Nat} (hx : x < s.w.length) : 0 ≤ s.w.getD x 0 ∧ s.w.getD x 0 ≤ 4611686018427387904 := by
  rw [List.getD_eq_getElem?_getD, List.getElem?_eq_getElem hx]
  exact h.wt _ (List.getElem_mem hx)
/-- Who is in it. -/
abbrev In (s : HS) (x : Nat) : Prop := x < s.w.length ∧ 0 ≤ P s x
theorem good_new (m : Nat) (v : Value) (hm : m ≤ 1048576) : Good ⟨List.replicate m 0, List.replicate m (-1), [], v⟩ where
  ps := ⟨⟨by simp, by simpa using hm, by simp, by simp⟩, by simp, fun x hx hp => by
    simp only [P, List.getD_eq_getElem?_getD, List.getElem?_replicate] at hp
    simp at hx
    rw [if_pos hx] at hp
    simp at hp⟩
  ord := fun j _ hj => by simp at hj
  wt := fun x hx => by
    obtain ⟨_, rfl⟩ := List.mem_replicate.1 hx
    omega
theorem not_in_new (m : Nat) (v : Value) (x : Nat) : ¬ In ⟨List.replicate m 0, List.replicate m (-1), [], v⟩ x := by
  rintro ⟨hx, hp⟩
  simp only [P, List.getD_eq_getElem?_getD, List.getElem?_replicate] at hp
  simp at hx
  rw [if_pos hx] at hp
  simp at hp
/-- The first stands ahead of all. -/
theorem Good.first {s : HS} (h : Good s) : ∀ i, i < s.r.length → ¬ lt s.w (R s i) (R s 0) := by
  intro i
  induction i using Nat.strongRecOn with
  | _ i ih =>
    intro hi
    by_cases h0 : i = 0
    · subst h0; exact lt_irrefl
    · exact nlt_trans (h.ord i (by omega) hi (Nat.zero_le _)) (ih ((i - 1) / 2) (by omega) (by omega))
theorem Good.in_row {s : HS} (h : Good s) {x : Nat} (hx : In s x) : ∃ i, i < s.r.length ∧ P s x = (i : Int) ∧ R s i = x := h.ps.pr x hx.1 hx.2
theorem Good.row_in {s : HS} (h : Good s) {i : Nat} (hi : i < s.r.length) : In s (R s i) := ⟨h.ps.lt hi, by rw [h.ps.rp i hi]; omega⟩
theorem Good.top {s : HS} (h : Good s) (h0 : 0 < s.r.length) {y : Nat} (hy : In s y) (hne : y ≠ R s 0) : lt s.w (R s 0) y := by
  obtain ⟨i, hi, _, rfl⟩ := h.in_row hy
  exact (lt_total (fun e => hne e.symm)).resolve_right (h.first i hi)

/-! #### Push -/
theorem getD_append_nat (l : List Nat) (x i : Nat) : (l ++ [x]).getD i 0 = if i < l.length then l.getD i 0 else if i = l.length then x else 0 := by
  simp only [List.getD_eq_getElem?_getD, List.getElem?_append]
  by_cases h : i < l.length
  · rw [if_pos h, if_pos h]
  · rw [if_neg h, if_neg h]
    by_cases e : i = l.length
    · subst e; simp
    · rw [if_neg e, List.getElem?_eq_none (by simp; omega)]; rfl
theorem push_good {s : HS} (h : Good s) {x : Nat} (hx : x < s.w.length) (hp : P s x < 0) (hr : s.r.length < 1048576) :
    Good (pushM s x) ∧ (pushM s x).w = s.w ∧ (pushM s x).r.length = s.r.length + 1 ∧ ∀ y, 0 ≤ P (pushM s x) y ↔ 0 ≤ P s y ∨ y = x := by
  obtain ⟨n, hn⟩ : ∃ n, n = s.r.length := ⟨_, rfl⟩
  obtain ⟨t, ht⟩ : ∃ t, t = setM (addM s x) n x := ⟨_, rfl⟩
  have hal : (addM s x).r.length = n + 1 := by simp [addM, hn]
  have htl : t.r.length = n + 1 := by rw [ht, setM_rlen, hal]
  have htw : t.w = s.w := by rw [ht]; rfl
  have hxp : x < s.p.length := by rw [h.wf.len]; exact hx
  have hR : ∀ i, R t i = if i < n then R s i else if i = n then x else 0 := by
    intro i
    rw [ht, R_set (by omega)]
    have : R (addM s x) i = if i < n then R s i else if i = n then x else 0 := by rw [hn]; exact getD_append_nat _ _ _
    rw [this]
    by_cases e : n = i
    · subst e; simp
    · rw [if_neg e]
  have hP : ∀ y, P t y = if x = y then (n : Int) else P s y := by
    intro y
    rw [ht, P_set (by exact hxp)]
    rfl
  have hxr : ∀ i, i < n → R s i ≠ x := fun i hi e => by
    have := h.ps.rp i (by omega)
    rw [e] at this
    omega
  have hps : Ps t := by
    refine ⟨?_, fun i hi => ?_, fun y hy hpy => ?_⟩
    · rw [ht]; exact (h.wf.add hx hr).set hx
    · rw [hP, hR]
      by_cases e : i < n
      · rw [if_pos e, if_neg (fun q => hxr i e q.symm)]
        exact h.ps.rp i (by omega)
      · have : i = n := by omega
        subst this
        rw [if_neg (Nat.lt_irrefl _), if_pos rfl, if_pos rfl]
    · rw [hP] at hpy ⊢
      rw [htw] at hy
      by_cases e : x = y
      · exact ⟨n, by omega, by rw [if_pos e], by rw [hR, if_neg (Nat.lt_irrefl _), if_pos rfl, e]⟩
      · rw [if_neg e] at hpy ⊢
        obtain ⟨i, hi, h1, h2⟩ := h.ps.pr y hy hpy
        exact ⟨i, by omega, h1, by rw [hR, if_pos (by omega), h2]⟩
  have hou : OrdUp t n := by
    refine ⟨fun j j0 jn hj => ?_, fun j j0 jn hj h0 => ?_⟩
    · rw [htw, hR, hR, if_pos (by omega), if_pos (by omega)]
      exact h.ord j j0 (by omega) (Nat.zero_le _)
    · omega
  have e0 : pushM s x = swUp n t n := by
    rw [pushM, upM, ← hn, upL_sw _ _ _ _ (by omega), ht]
    have : (addM s x).r.getD n 0 = x := by
      have := getD_append_nat s.r x n
      rw [if_neg (by omega), if_pos hn] at this
      exact this
    rw [this]
  obtain ⟨k1, k2⟩ := swUp_ok n t n hps (by omega) (Nat.le_refl _) hou
  rw [e0]
  refine ⟨Good.of k1 k2 (by rw [htw]; exact h.wt), by rw [k1.w, htw], by rw [k1.len, htl, hn], fun y => ?_⟩
  rw [k1.has, hP]
  by_cases e : x = y
  · rw [if_pos e]; exact ⟨fun _ => .inr e.symm, fun _ => by omega⟩
  · rw [if_neg e]
    exact ⟨.inl, fun q => q.resolve_right (fun q => e q.symm)⟩

/-! #### Pop -/
theorem pop_good {s : HS} (h : Good s) (h0 : 0 < s.r.length) :
    Good (popM s) ∧ (popM s).w = s.w ∧ (popM s).r.length + 1 = s.r.length ∧ ∀ y, y < s.w.length → (0 ≤ P (popM s) y ↔ 0 ≤ P s y ∧ y ≠ R s 0) := by
  obtain ⟨n, hn⟩ : ∃ n, s.r.length = n + 1 := ⟨s.r.length - 1, by omega⟩
  obtain ⟨t, ht⟩ : ∃ t, t = outM s := ⟨_, rfl⟩
  have htl : t.r.length = n := by rw [ht]; simp [outM, cutM, hn]
  have htw : t.w = s.w := by rw [ht]; rfl
  have hl0 : R s 0 < s.p.length := h.ps.ltp h0
  have hln : R s n < s.p.length := h.ps.ltp (by omega)
  have hgn : s.r.getD (s.r.length - 1) 0 = R s n := by rw [hn]; rfl
  have hR : ∀ i, i < n → R t i = if 0 = i then R s n else R s i := by
    intro i hi
    rw [ht]
    have : R (outM s) i = R (setM s 0 (R s n)) i := by
      show ((setM s 0 (s.r.getD (s.r.length - 1) 0)).r.take (s.r.length - 1)).getD i 0 = _
      rw [hgn, hn, List.getD_eq_getElem?_getD, List.getElem?_take, if_pos (by omega), ← List.getD_eq_getElem?_getD]
      rfl
    rw [this, R_set (by omega)]
  have hP : ∀ y, P t y = if R s 0 = y then -1 else if R s n = y then 0 else P s y := by
    intro y
    rw [ht]
    show ((cutM s).p.set (s.r.getD 0 0) (-1)).getD y 0 = _
    have e1 : (cutM s).p = (setM s 0 (R s n)).p := by
      show (setM s 0 (s.r.getD (s.r.length - 1) 0)).p = _
      rw [hgn]
    rw [e1, getD_set_int _ _ _ _ (by rw [setM_plen]; exact hl0)]
    have := P_set (t := s) (a := 0) hln y
    unfold P at this ⊢
    rw [this]
    rfl
  have hne : ∀ i j, i < n + 1 → j < n + 1 → R s i = R s j → i = j := fun i j hi hj e => h.ps.inj (by omega) (by omega) e
  have hps : Ps t := by
    refine ⟨by rw [ht]; exact h.wf.out h0, fun i hi => ?_, fun y hy hpy => ?_⟩
    · rw [hP, hR i (by omega)]
      by_cases e : 0 = i
      · subst e
        rw [if_pos rfl, if_neg (fun q => by have := hne _ _ (by omega) (by omega) q; omega), if_pos rfl]
        rfl
      · rw [if_neg e, if_neg (fun q => by have := hne _ _ (by omega) (by omega) q; omega), if_neg (fun q => by have := hne _ _ (by omega) (by omega) q; omega)]
        exact h.ps.rp i (by omega)
    · rw [hP] at hpy ⊢
      rw [htw] at hy
      by_cases e1 : R s 0 = y
      · rw [if_pos e1] at hpy; omega
      · rw [if_neg e1] at hpy ⊢
        by_cases e2 : R s n = y
        · rw [if_pos e2]
          have hn0 : 0 < n := by
            rcases Nat.eq_zero_or_pos n with e | e
            · subst e; exact absurd e2 e1
            · exact e
          exact ⟨0, by omega, rfl, by rw [hR 0 hn0, if_pos rfl, e2]⟩
        · rw [if_neg e2] at hpy ⊢
          obtain ⟨i, hi, h1, h2⟩ := h.ps.pr y hy hpy
          have hi0 : i ≠ 0 := fun e => e1 (by rw [← e]; exact h2)
          have hin : i ≠ n := fun e => e2 (by rw [← e]; exact h2)
          exact ⟨i, by omega, h1, by rw [hR i (by omega), if_neg (fun e => hi0 e.symm), h2]⟩
  have hod : OrdDown t 0 0 := by
    refine ⟨fun j j0 jn _ hj => ?_, fun j j0 jn hj h1 => by omega⟩
    rw [htw, hR j (by omega), hR _ (by omega), if_neg (by omega), if_neg (by omega)]
    exact h.ord j j0 (by omega) (Nat.zero_le _)
  have hhas : ∀ y, y < s.w.length → (0 ≤ P t y ↔ 0 ≤ P s y ∧ y ≠ R s 0) := by
    intro y hy
    rw [hP]
    by_cases e1 : R s 0 = y
    · rw [if_pos e1]
      exact ⟨fun q => by omega, fun q => absurd e1.symm q.2⟩
    · rw [if_neg e1]
      by_cases e2 : R s n = y
      · rw [if_pos e2, ← e2, h.ps.rp n (by omega)]
        exact ⟨fun _ => ⟨by omega, fun q => e1 (by rw [← q, e2])⟩, fun _ => by omega⟩
      · rw [if_neg e2]
        exact ⟨fun q => ⟨q, fun q => e1 q.symm⟩, fun q => q.1⟩
  rw [popM]
  by_cases hn0 : 0 < n
  · rw [if_pos (by omega), ← ht, downM_sw _ _ (by omega) hps]
    obtain ⟨k1, k2⟩ := swDown_ok t.r.length t 0 0 hps (by omega) (by omega) (Nat.le_refl _) hod
    exact ⟨Good.of k1 k2 (by rw [htw]; exact h.wt), by rw [k1.w, htw], by rw [k1.len, htl, hn], fun y hy => (k1.has y).trans (hhas y hy)⟩
  · rw [if_neg (by omega), ← ht]
    exact ⟨⟨hps, fun j j0 jn => by omega, by rw [htw]; exact h.wt⟩, htw, by rw [htl, hn], hhas⟩

/-! #### Raise -/
theorem raise_good {s : HS} (h : Good s) {m : Nat} (hm : m < s.w.length) {d : Int} (hd : 0 ≤ d) (hu : s.w.getD m 0 + d ≤ 4611686018427387904) :
    Good (raiseM s m d) ∧ (raiseM s m d).w = s.w.set m (s.w.getD m 0 + d) ∧ (raiseM s m d).r.length = s.r.length ∧ ∀ y, 0 ≤ P (raiseM s m d) y ↔ 0 ≤ P s y := by
  obtain ⟨t, ht⟩ : ∃ t, t = heavM s m d := ⟨_, rfl⟩
  have htw : t.w = s.w.set m (s.w.getD m 0 + d) := by rw [ht]; rfl
  have hR : ∀ i, R t i = R s i := fun i => by rw [ht]; rfl
  have hP : ∀ y, P t y = P s y := fun y => by rw [ht]; rfl
  have htl : t.r.length = s.r.length := by rw [ht]; rfl
  have hw : ∀ y, t.w.getD y 0 = if m = y then s.w.getD m 0 + d else s.w.getD y 0 := fun y => by rw [htw]; exact getD_set_int _ _ _ _ hm
  have hps : Ps t := by
    refine ⟨by rw [ht]; exact h.wf.heav m d, fun i hi => ?_, fun y hy hpy => ?_⟩
    · rw [hP, hR]; exact h.ps.rp i (by omega)
    · rw [hP] at hpy ⊢
      obtain ⟨i, hi, h1, h2⟩ := h.ps.pr y (by rw [htw] at hy; simpa using hy) hpy
      exact ⟨i, by omega, h1, by rw [hR, h2]⟩
  have hwt : ∀ x ∈ t.w, 0 ≤ x ∧ x ≤ 4611686018427387904 := by
    rw [htw]
    intro x hx
    rcases List.mem_or_eq_of_mem_set hx with hx | rfl
    · exact h.wt x hx
    · have := h.wat hm; omega
  -- who is not the raised one is no more ahead
  have hlt : ∀ a b, a ≠ m → lt t.w a b → lt s.w a b := by
    intro a b ha hl
    unfold lt at hl ⊢
    rw [hw, hw, if_neg (fun e => ha e.symm)] at hl
    by_cases e : m = b
    · rw [if_pos e] at hl; rw [← e] at hl ⊢; omega
    · rw [if_neg e] at hl; exact hl
  have hle : ∀ a b, a ≠ m → b ≠ m → (lt t.w a b ↔ lt s.w a b) := by
    intro a b ha hb
    unfold lt
    rw [hw, hw, if_neg (fun e => ha e.symm), if_neg (fun e => hb e.symm)]
  rw [raiseM]
  by_cases hp : 0 ≤ s.p.getD m 0
  · rw [if_pos hp, ← ht]
    obtain ⟨a, ha, h1, h2⟩ := h.ps.pr m hm hp
    have e0 : (s.p.getD m 0).toNat = a := by
      unfold P at h1
      rw [h1]
      exact Int.toNat_natCast a
    rw [e0, upM_sw _ _ (by omega) hps]
    have hm' : ∀ i, i < s.r.length → i ≠ a → R s i ≠ m := fun i hi hne e => hne (h.ps.inj hi ha (by rw [h2]; exact e))
    have hou : OrdUp t a := by
      refine ⟨fun j j0 jn hj => ?_, fun j j0 jn hj h0 => ?_⟩
      · rw [hR, hR]
        exact fun hl => h.ord j j0 (by omega) (Nat.zero_le _) (hlt _ _ (hm' j (by omega) hj) hl)
      · rw [hR, hR, hle _ _ (hm' j (by omega) (by omega)) (hm' _ (by omega) (by omega))]
        have c1 := h.ord j j0 (by omega) (Nat.zero_le _)
        rw [hj] at c1
        exact nlt_trans c1 (h.ord a h0 ha (Nat.zero_le _))
    obtain ⟨k1, k2⟩ := swUp_ok a t a hps (by omega) (Nat.le_refl _) hou
    exact ⟨Good.of k1 k2 hwt, by rw [k1.w, htw], by rw [k1.len, htl], fun y => (k1.has y).trans (by rw [hP])⟩
  · rw [if_neg hp, ← ht]
    refine ⟨⟨hps, fun j j0 jn _ => ?_, hwt⟩, htw, htl, fun y => by rw [hP]⟩
    have hm' : ∀ i, i < s.r.length → R s i ≠ m := fun i hi e => by
      have := h.ps.rp i hi
      rw [e] at this
      unfold P at this
      omega
    rw [hR, hR, hle _ _ (hm' _ (by omega)) (hm' _ (by omega))]
    exact h.ord j j0 (by omega) (Nat.zero_le _)

/-! #### Halve -/
theorem heapify_ok (k : Nat) (t : HS) (h : Ps t) (hk : k ≤ t.r.length) (ho : Ord t k) : Kept t (heapify k t) ∧ Ord (heapify k t) 0 := by
  induction k generalizing t with
  | zero => exact ⟨Kept.refl h, ho⟩
  | succ k ih =>
    rw [heapify, downM_sw _ _ (by omega) h]
    obtain ⟨k1, k2⟩ := swDown_ok t.r.length t k k h (by omega) (by omega) (Nat.le_refl _) ⟨fun j j0 jn hj hne => ho j j0 jn (by omega), fun j j0 jn hj h0 hc => by omega⟩
    obtain ⟨i1, i2⟩ := ih _ k1.ps (by rw [k1.len]; omega) k2
    exact ⟨k1.trans i1, i2⟩
theorem halve_good {s : HS} (h : Good s) : Good (halveM s) ∧ (halveM s).w = s.w.map (fun x => x.tdiv 2) ∧ (halveM s).r.length = s.r.length ∧ ∀ y, 0 ≤ P (halveM s) y ↔ 0 ≤ P s y := by
  have hps : Ps (halfM s) := ⟨h.wf.half, h.ps.rp, fun y hy hpy => h.ps.pr y (by simpa [halfM] using hy) hpy⟩
  obtain ⟨k1, k2⟩ := heapify_ok (s.r.length / 2) (halfM s) hps (by show s.r.length / 2 ≤ s.r.length; omega) (fun j j0 jn hj => by
    have : (halfM s).r.length = s.r.length := rfl
    omega)
  refine ⟨Good.of k1 k2 (fun x hx => ?_), by rw [halveM, k1.w]; rfl, k1.len, fun y => k1.has y⟩
  obtain ⟨z, hz, rfl⟩ := List.mem_map.1 (show x ∈ s.w.map (fun x => x.tdiv 2) from hx)
  have := h.wt z hz
  rw [Int.tdiv_eq_ediv_of_nonneg this.1]
  omega
end Go.Proofs.Ytegcfaohhcjajaa.HM
