/- The heap in plain Lean: what stands ahead of what; places; up, down, and what the calls keep. -/
import Derived.Test.YtegcfaohhcjajaaHeapH
namespace Go.Proofs.Ytegcfaohhcjajaa.HM
set_option linter.unusedVariables false
set_option linter.unusedSimpArgs false

/-! #### The order -/
def lt (w : List Int) (a b : Nat) : Prop := w.getD a 0 > w.getD b 0 ∨ (w.getD a 0 = w.getD b 0 ∧ a < b)
theorem ahead_iff (w : List Int) (a b : Nat) : aheadM w a b = true ↔ lt w a b := by simp [aheadM, lt]
theorem lt_asymm {w : List Int} {a b : Nat} (h : lt w a b) : ¬ lt w b a := by unfold lt at *; omega
theorem lt_trans {w : List Int} {a b c : Nat} (h : lt w a b) (k : lt w b c) : lt w a c := by unfold lt at *; omega
theorem nlt_trans {w : List Int} {a b c : Nat} (h : ¬ lt w a b) (k : ¬ lt w b c) : ¬ lt w a c := by unfold lt at *; omega
theorem lt_nlt {w : List Int} {a b c : Nat} (h : lt w a b) (k : ¬ lt w c b) : lt w a c := by unfold lt at *; omega
theorem lt_total {w : List Int} {a b : Nat} (h : a ≠ b) : lt w a b ∨ lt w b a := by unfold lt; omega
theorem lt_irrefl {w : List Int} {a : Nat} : ¬ lt w a a := by unfold lt; omega

/-! #### Rows and places -/
def R (t : HS) (i : Nat) : Nat := t.r.getD i 0
def P (t : HS) (x : Nat) : Int := t.p.getD x 0
theorem getD_set_nat (l : List Nat) (i j x : Nat) (h : i < l.length) : (l.set i x).getD j 0 = if i = j then x else l.getD j 0 := by
  simp only [List.getD_eq_getElem?_getD, List.getElem?_set]
  split
  · rename_i e; subst e; try rw [if_pos h]
    rfl
  · rfl
theorem getD_set_int (l : List Int) (i j : Nat) (x : Int) (h : i < l.length) : (l.set i x).getD j 0 = if i = j then x else l.getD j 0 := by
  simp only [List.getD_eq_getElem?_getD, List.getElem?_set]
  split
  · rename_i e; subst e; try rw [if_pos h]
    rfl
  · rfl
theorem R_set {t : HS} {a x : Nat} (h : a < t.r.length) (i : Nat) : R (setM t a x) i = if a = i then x else R t i := getD_set_nat _ _ _ _ h
theorem P_set {t : HS} {a x : Nat} (h : x < t.p.length) (y : Nat) : P (setM t a x) y = if x = y then (a : Int) else P t y := getD_set_int _ _ _ _ h
@[simp] theorem setM_plen (t : HS) (a x : Nat) : (setM t a x).p.length = t.p.length := by simp [setM]
/-- Places and rows agree. -/
structure Ps (t : HS) : Prop where
  wf : Wf t
  rp : ∀ i, i < t.r.length → P t (R t i) = (i : Int)
  pr : ∀ x, x < t.w.length → 0 ≤ P t x → ∃ i, i < t.r.length ∧ P t x = (i : Int) ∧ R t i = x
theorem Ps.lt {t : HS} (h : Ps t) {i : Nat} (hi : i < t.r.length) : R t i < t.w.length := h.wf.at hi
theorem Ps.ltp {t : HS} (h : Ps t) {i : Nat} (hi : i < t.r.length) : R t i < t.p.length := by rw [h.wf.len]; exact h.lt hi
theorem Ps.inj {t : HS} (h : Ps t) {i j : Nat} (hi : i < t.r.length) (hj : j < t.r.length) (e : R t i = R t j) : i = j := by
  have h1 := h.rp i hi
  have h2 := h.rp j hj
  rw [e] at h1
  omega
/-- Two change places. -/
def sw (t : HS) (a b : Nat) : HS := setM (setM t a (R t b)) b (R t a)
section
variable {t : HS} {a b : Nat}
@[simp] theorem sw_w : (sw t a b).w = t.w := rfl
@[simp] theorem sw_len : (sw t a b).r.length = t.r.length := by simp [sw]
theorem R_sw (ha : a < t.r.length) (hb : b < t.r.length) (i : Nat) : R (sw t a b) i = if b = i then R t a else if a = i then R t b else R t i := by
  rw [sw, R_set (by simpa using hb), R_set ha]
theorem P_sw (h : Ps t) (ha : a < t.r.length) (hb : b < t.r.length) (x : Nat) : P (sw t a b) x = if R t a = x then (b : Int) else if R t b = x then (a : Int) else P t x := by
  rw [sw, P_set (by simpa using h.ltp ha), P_set (h.ltp hb)]
theorem Ps.sw (h : Ps t) (ha : a < t.r.length) (hb : b < t.r.length) (hne : a ≠ b) : Ps (HM.sw t a b) where
  wf := (h.wf.set (h.lt hb)).set (h.lt ha)
  rp := fun i hi => by
    rw [sw_len] at hi
    rw [P_sw h ha hb, R_sw ha hb]
    by_cases e1 : b = i
    · subst e1; rw [if_pos rfl, if_pos rfl]
    · rw [if_neg e1]
      by_cases e2 : a = i
      · subst e2
        rw [if_pos rfl, if_neg (fun e => hne (h.inj ha hb e)), if_pos rfl]
      · rw [if_neg e2, if_neg (fun e => e2 (h.inj ha hi e)), if_neg (fun e => e1 (h.inj hb hi e))]
        exact h.rp i hi
  pr := fun x hx hp => by
    rw [P_sw h ha hb] at hp ⊢
    by_cases e1 : R t a = x
    · exact ⟨b, by simpa using hb, by rw [if_pos e1], by rw [R_sw ha hb, if_pos rfl, e1]⟩
    · rw [if_neg e1] at hp ⊢
      by_cases e2 : R t b = x
      · exact ⟨a, by simpa using ha, by rw [if_pos e2], by rw [R_sw ha hb, if_neg (fun e => hne e.symm), if_pos rfl, e2]⟩
      · rw [if_neg e2] at hp ⊢
        obtain ⟨i, hi, h1, h2⟩ := h.pr x hx hp
        refine ⟨i, by simpa using hi, h1, ?_⟩
        rw [R_sw ha hb, if_neg (fun e => e2 (by rw [e]; exact h2)), if_neg (fun e => e1 (by rw [e]; exact h2)), h2]
theorem has_sw (h : Ps t) (ha : a < t.r.length) (hb : b < t.r.length) (x : Nat) : 0 ≤ P (sw t a b) x ↔ 0 ≤ P t x := by
  rw [P_sw h ha hb]
  by_cases e1 : R t a = x
  · rw [if_pos e1, ← e1, h.rp a ha]; omega
  · rw [if_neg e1]
    by_cases e2 : R t b = x
    · rw [if_pos e2, ← e2, h.rp b hb]; omega
    · rw [if_neg e2]
/-- The step of up and of down, in one. -/
theorem set_step (s : HS) (a b i : Nat) (ha : a < s.r.length) (hb : b < s.r.length) (hab : a ≠ b) : sw (setM s a i) a b = setM (setM s a (s.r.getD b 0)) b i := by
  have h1 : R (setM s a i) b = s.r.getD b 0 := by rw [R_set ha, if_neg hab]; rfl
  have h2 : R (setM s a i) a = i := by rw [R_set ha, if_pos rfl]
  unfold sw
  rw [h1, h2]
  simp only [setM, HS.mk.injEq, true_and, and_true, List.set_set]
  by_cases e : i = s.r.getD b 0
  · rw [← e]; simp [List.set_set]
  · rw [List.set_comm _ _ (fun q => e q), List.set_set]
end

theorem set_self_int (l : List Int) (i : Nat) (h : i < l.length) : l.set i (l.getD i 0) = l := by
  rw [List.getD_eq_getElem?_getD, List.getElem?_eq_getElem h]
  exact List.set_getElem_self h
theorem set_self_nat (l : List Nat) (i : Nat) (h : i < l.length) : l.set i (l.getD i 0) = l := by
  rw [List.getD_eq_getElem?_getD, List.getElem?_eq_getElem h]
  exact List.set_getElem_self h

/-! #### up -/
def swUp : Nat → HS → Nat → HS
  | 0, t, _ => t
  | k + 1, t, a => if 0 < a ∧ aheadM t.w (R t a) (R t ((a - 1) / 2)) = true then swUp k (sw t a ((a - 1) / 2)) ((a - 1) / 2) else t
theorem upL_sw (k : Nat) (s : HS) (i a : Nat) (ha : a < s.r.length) : upL k s i a = swUp k (setM s a i) a := by
  induction k generalizing s a with
  | zero => rfl
  | succ k ih =>
    rw [upL, swUp]
    by_cases h0 : 0 < a
    · have hp : (a - 1) / 2 < s.r.length := by omega
      have hne : a ≠ (a - 1) / 2 := by omega
      have e1 : R (setM s a i) a = i := by rw [R_set ha, if_pos rfl]
      have e2 : R (setM s a i) ((a - 1) / 2) = s.r.getD ((a - 1) / 2) 0 := by rw [R_set ha, if_neg hne]; rfl
      rw [e1, e2, setM_w]
      split
      · rw [ih _ _ (by simpa using hp), set_step s a _ i ha hp hne]
      · rfl
    · rw [if_neg (fun h => h0 h.1), if_neg (fun h => h0 h.1)]
theorem upM_sw (s : HS) (a : Nat) (ha : a < s.r.length) (h : Ps s) : upM s a = swUp a s a := by
  rw [upM, upL_sw _ _ _ _ ha]
  have : setM s a (s.r.getD a 0) = s := by
    have hp := h.rp a ha
    have hl := h.ltp ha
    cases s with
    | mk w p r v =>
      simp only [setM, HS.mk.injEq, true_and, and_true]
      simp only [P, R] at hp hl
      exact ⟨by rw [← hp]; exact set_self_int _ _ hl, set_self_nat _ _ ha⟩
  rw [this]
/-- Who is below stands not ahead; from place k on. -/
def Ord (t : HS) (k : Nat) : Prop := ∀ j, 0 < j → j < t.r.length → k ≤ (j - 1) / 2 → ¬ lt t.w (R t j) (R t ((j - 1) / 2))
/-- .. but for place a. -/
structure OrdUp (t : HS) (a : Nat) : Prop where
  o : ∀ j, 0 < j → j < t.r.length → j ≠ a → ¬ lt t.w (R t j) (R t ((j - 1) / 2))
  x : ∀ j, 0 < j → j < t.r.length → (j - 1) / 2 = a → 0 < a → ¬ lt t.w (R t j) (R t ((a - 1) / 2))
/-- What a sift keeps. -/
structure Kept (s t : HS) : Prop where
  ps : Ps t
  w : t.w = s.w
  len : t.r.length = s.r.length
  has : ∀ x, 0 ≤ P t x ↔ 0 ≤ P s x
theorem Kept.refl {s : HS} (h : Ps s) : Kept s s := ⟨h, rfl, rfl, fun _ => Iff.rfl⟩
theorem Kept.sw {s t : HS} {a b : Nat} (h : Kept s t) (ha : a < t.r.length) (hb : b < t.r.length) (hne : a ≠ b) : Kept s (sw t a b) :=
  ⟨h.ps.sw ha hb hne, h.w, by rw [sw_len]; exact h.len, fun x => (has_sw h.ps ha hb x).trans (h.has x)⟩
theorem Kept.trans {s t u : HS} (h : Kept s t) (k : Kept t u) : Kept s u := ⟨k.ps, k.w.trans h.w, k.len.trans h.len, fun x => (k.has x).trans (h.has x)⟩
theorem swUp_ok (k : Nat) (t : HS) (a : Nat) (h : Ps t) (ha : a < t.r.length) (hk : a ≤ k) (ho : OrdUp t a) : Kept t (swUp k t a) ∧ Ord (swUp k t a) 0 := by
  induction k generalizing t a with
  | zero =>
    obtain rfl : a = 0 := by omega
    exact ⟨Kept.refl h, fun j h1 h2 _ => ho.o j h1 h2 (by omega)⟩
  | succ k ih =>
    rw [swUp]
    split
    · rename_i hc
      obtain ⟨h0, hl⟩ := hc
      rw [ahead_iff] at hl
      have hp : (a - 1) / 2 < t.r.length := by omega
      have hne : a ≠ (a - 1) / 2 := by omega
      have hk1 := (Kept.refl h).sw ha hp hne
      suffices hO : OrdUp (sw t a ((a - 1) / 2)) ((a - 1) / 2) by
        obtain ⟨i1, i2⟩ := ih (sw t a ((a - 1) / 2)) ((a - 1) / 2) hk1.ps (by simpa using hp) (by omega) hO
        exact ⟨hk1.trans i1, i2⟩
      refine ⟨fun j j0 jn hj => ?_, fun j j0 jn hj hp0 => ?_⟩
      · rw [sw_len] at jn
        rw [sw_w, R_sw ha hp, R_sw ha hp, if_neg (fun e => hj e.symm)]
        by_cases e1 : a = j
        · subst e1
          rw [if_pos rfl, if_pos rfl]
          exact lt_asymm hl
        · rw [if_neg e1]
          have hoj := ho.o j j0 jn (fun e => e1 e.symm)
          by_cases e2 : (a - 1) / 2 = (j - 1) / 2
          · rw [if_pos e2]
            rw [← e2] at hoj
            exact fun hc => hoj (lt_trans hc hl)
          · rw [if_neg e2]
            by_cases e3 : a = (j - 1) / 2
            · rw [if_pos e3]
              exact ho.x j j0 jn e3.symm h0
            · rw [if_neg e3]; exact hoj
      · rw [sw_len] at jn
        rw [sw_w, R_sw ha hp, R_sw ha hp, if_neg (show ¬ (a - 1) / 2 = j by omega), if_neg (show ¬ (a - 1) / 2 = ((a - 1) / 2 - 1) / 2 by omega), if_neg (show ¬ a = ((a - 1) / 2 - 1) / 2 by omega)]
        have hpp := ho.o ((a - 1) / 2) hp0 hp (by omega)
        by_cases e1 : a = j
        · rw [if_pos e1]; exact hpp
        · rw [if_neg e1]
          have hoj := ho.o j j0 jn (fun e => e1 e.symm)
          rw [hj] at hoj
          exact nlt_trans hoj hpp
    · rename_i hc
      refine ⟨Kept.refl h, fun j h1 h2 _ => ?_⟩
      by_cases e : j = a
      · subst e
        exact fun hl => hc ⟨h1, (ahead_iff _ _ _).2 hl⟩
      · exact ho.o j h1 h2 e

/-! #### down -/
def nx (t : HS) (a : Nat) : Nat := if 2 * a + 2 < t.r.length ∧ aheadM t.w (R t (2 * a + 2)) (R t (2 * a + 1)) = true then 2 * a + 2 else 2 * a + 1
def swDown : Nat → HS → Nat → HS
  | 0, t, _ => t
  | k + 1, t, a => if 2 * a + 1 < t.r.length ∧ aheadM t.w (R t (nx t a)) (R t a) = true then swDown k (sw t a (nx t a)) (nx t a) else t
theorem nx_or (t : HS) (a : Nat) : nx t a = 2 * a + 2 ∧ 2 * a + 2 < t.r.length ∨ nx t a = 2 * a + 1 := by
  unfold nx
  split
  · rename_i h; exact .inl ⟨rfl, h.1⟩
  · exact .inr rfl
theorem downL_sw (k : Nat) (s : HS) (i a : Nat) (ha : a < s.r.length) : downL k s i a = swDown k (setM s a i) a := by
  induction k generalizing s a with
  | zero => rfl
  | succ k ih =>
    rw [downL, swDown]
    have e1 : R (setM s a i) a = i := by rw [R_set ha, if_pos rfl]
    have g : ∀ j, j ≠ a → R (setM s a i) j = s.r.getD j 0 := fun j hj => by rw [R_set ha, if_neg (fun e => hj e.symm)]; rfl
    have e2 : nx (setM s a i) a = nextM s a := by
      unfold nx nextM
      rw [g _ (by omega), g _ (by omega), setM_rlen, setM_w]
    have hn : nextM s a ≠ a := by
      unfold nextM
      split <;> omega
    rw [e1, e2, g _ hn, setM_w, setM_rlen]
    split
    · rename_i hc
      have hl := nextM_lt hc.1
      rw [ih _ _ (by simpa using hl), set_step s a _ i ha hl (fun e => hn e.symm)]
    · rfl
theorem downM_sw (s : HS) (a : Nat) (ha : a < s.r.length) (h : Ps s) : downM s a = swDown s.r.length s a := by
  rw [downM, downL_sw _ _ _ _ ha]
  have : setM s a (s.r.getD a 0) = s := by
    have hp := h.rp a ha
    have hl := h.ltp ha
    cases s with
    | mk w p r v =>
      simp only [setM, HS.mk.injEq, true_and, and_true]
      simp only [P, R] at hp hl
      exact ⟨by rw [← hp]; exact set_self_int _ _ hl, set_self_nat _ _ ha⟩
  rw [this]
/-- .. but for who is right below place a. -/
structure OrdDown (t : HS) (k a : Nat) : Prop where
  o : ∀ j, 0 < j → j < t.r.length → k ≤ (j - 1) / 2 → (j - 1) / 2 ≠ a → ¬ lt t.w (R t j) (R t ((j - 1) / 2))
  x : ∀ j, 0 < j → j < t.r.length → (j - 1) / 2 = a → 0 < a → k ≤ (a - 1) / 2 → ¬ lt t.w (R t j) (R t ((a - 1) / 2))
theorem swDown_ok (f : Nat) (t : HS) (k a : Nat) (h : Ps t) (ha : a < t.r.length) (hf : t.r.length ≤ a + f) (hka : k ≤ a) (ho : OrdDown t k a) : Kept t (swDown f t a) ∧ Ord (swDown f t a) k := by
  induction f generalizing t a with
  | zero => omega
  | succ f ih =>
    rw [swDown]
    have hbest : ∀ j, 0 < j → j < t.r.length → (j - 1) / 2 = a → ¬ lt t.w (R t j) (R t (nx t a)) := by
      intro j j0 jn hj
      unfold nx
      split
      · rename_i hc
        have hc2 := (ahead_iff _ _ _).1 hc.2
        rcases (show j = 2 * a + 1 ∨ j = 2 * a + 2 by omega) with rfl | rfl
        · exact lt_asymm hc2
        · exact lt_irrefl
      · rename_i hc
        rcases (show j = 2 * a + 1 ∨ j = 2 * a + 2 by omega) with rfl | rfl
        · exact lt_irrefl
        · exact fun hl => hc ⟨jn, (ahead_iff _ _ _).2 hl⟩
    split
    · rename_i hc
      obtain ⟨h1, hl⟩ := hc
      rw [ahead_iff] at hl
      obtain ⟨c, hce⟩ : ∃ c, c = nx t a := ⟨_, rfl⟩
      rw [← hce] at hl hbest ⊢
      have hca : (c - 1) / 2 = a ∧ a < c ∧ c < t.r.length := by
        rcases nx_or t a with ⟨e, h2⟩ | e <;> rw [← hce] at e <;> omega
      obtain ⟨cp, ca, cn⟩ := hca
      have hk1 := (Kept.refl h).sw ha cn (by omega)
      suffices hO : OrdDown (sw t a c) k c by
        obtain ⟨i1, i2⟩ := ih (sw t a c) c hk1.ps (by simpa using cn) (by rw [sw_len]; omega) (by omega) hO
        exact ⟨hk1.trans i1, i2⟩
      refine ⟨fun j j0 jn hkj hj => ?_, fun j j0 jn hj hc0 hkc => ?_⟩
      · rw [sw_len] at jn
        rw [sw_w, R_sw ha cn, R_sw ha cn]
        by_cases e1 : c = j
        · subst e1
          rw [if_pos rfl, if_neg (show ¬ c = (c - 1) / 2 by omega), if_pos cp.symm]
          exact lt_asymm hl
        · rw [if_neg e1]
          by_cases e2 : a = j
          · subst e2
            rw [if_pos rfl, if_neg (show ¬ c = (a - 1) / 2 by omega), if_neg (show ¬ a = (a - 1) / 2 by omega)]
            exact ho.x c (by omega) cn cp j0 hkj
          · rw [if_neg e2, if_neg (fun e => hj e.symm)]
            by_cases e3 : a = (j - 1) / 2
            · rw [if_pos e3]
              exact hbest j j0 jn e3.symm
            · rw [if_neg e3]
              exact ho.o j j0 jn hkj (fun e => e3 e.symm)
      · rw [sw_len] at jn
        rw [sw_w, R_sw ha cn, R_sw ha cn, if_neg (show ¬ c = j by omega), if_neg (show ¬ a = j by omega), if_neg (show ¬ c = (c - 1) / 2 by omega), if_pos cp.symm]
        have := ho.o j j0 jn (by omega) (by omega)
        rwa [hj] at this
    · rename_i hc
      refine ⟨Kept.refl h, fun j h1 h2 h3 => ?_⟩
      by_cases e : (j - 1) / 2 = a
      · have hb := hbest j h1 h2 e
        rw [e]
        by_cases h4 : 2 * a + 1 < t.r.length
        · have : ¬ lt t.w (R t (nx t a)) (R t a) := fun hl => hc ⟨h4, (ahead_iff _ _ _).2 hl⟩
          exact nlt_trans hb this
        · omega
      · exact ho.o j h1 h2 h3 e
end Go.Proofs.Ytegcfaohhcjajaa.HM
