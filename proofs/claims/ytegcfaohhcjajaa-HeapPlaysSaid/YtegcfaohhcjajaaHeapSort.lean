/- What heap.All tells is in order: plain law; who is raised stands no later. -/
import Derived.Test.YtegcfaohhcjajaaHeapAll
namespace Go.Proofs.Ytegcfaohhcjajaa.HM
set_option linter.unusedVariables false
set_option linter.unusedSimpArgs false

theorem allM_spec (k : Nat) (s : HS) (hg : Good s) (hk : s.r.length = k) : (∀ x, x ∈ allM k s ↔ In s x) ∧ (allM k s).Pairwise (lt s.w) := by
  induction k generalizing s with
  | zero =>
    refine ⟨fun x => ⟨(fun h => by cases h), fun h => ?_⟩, List.Pairwise.nil⟩
    obtain ⟨i, hi, _⟩ := hg.in_row h
    omega
  | succ k ih =>
    have h0 : 0 < s.r.length := by omega
    obtain ⟨g1, g2, g3, g4⟩ := pop_good hg h0
    obtain ⟨i1, i2⟩ := ih (popM s) g1 (by omega)
    have hin : ∀ x, In (popM s) x ↔ In s x ∧ x ≠ R s 0 := by
      intro x
      unfold In
      rw [g2]
      exact ⟨fun h => ⟨⟨h.1, ((g4 x h.1).1 h.2).1⟩, ((g4 x h.1).1 h.2).2⟩, fun h => ⟨h.1.1, (g4 x h.1.1).2 ⟨h.1.2, h.2⟩⟩⟩
    refine ⟨fun x => ?_, ?_⟩
    · rw [allM, List.mem_cons, i1, hin]
      constructor
      · rintro (rfl | h)
        · exact hg.row_in h0
        · exact h.1
      · intro h
        by_cases e : x = R s 0
        · exact .inl e
        · exact .inr ⟨h, e⟩
    · rw [allM, List.pairwise_cons]
      refine ⟨fun y hy => ?_, by rw [← g2]; exact i2⟩
      have := (hin y).1 ((i1 y).1 hy)
      exact hg.top h0 this.1 this.2
/-- Rows in one order with the same members are one. -/
theorem sorted_eq {w : List Int} : ∀ (l1 l2 : List Nat), l1.Pairwise (lt w) → l2.Pairwise (lt w) → (∀ x, x ∈ l1 ↔ x ∈ l2) → l1 = l2
  | [], [], _, _, _ => rfl
  | [], b :: l2, _, _, h => absurd ((h b).2 (by simp)) (by simp)
  | a :: l1, [], _, _, h => absurd ((h a).1 (by simp)) (by simp)
  | a :: l1, b :: l2, h1, h2, h => by
    rw [List.pairwise_cons] at h1 h2
    have e : a = b := by
      rcases List.mem_cons.1 ((h a).1 (by simp)) with e | e
      · exact e
      · rcases List.mem_cons.1 ((h b).2 (by simp)) with e2 | e2
        · exact e2.symm
        · exact absurd (h1.1 b e2) (lt_asymm (h2.1 a e))
    subst e
    rw [sorted_eq l1 l2 h1.2 h2.2 (fun x => ?_)]
    constructor
    · intro hx
      rcases List.mem_cons.1 ((h x).1 (by simp [hx])) with e | e
      · subst e; exact absurd (h1.1 x hx) lt_irrefl
      · exact e
    · intro hx
      rcases List.mem_cons.1 ((h x).2 (by simp [hx])) with e | e
      · subst e; exact absurd (h2.1 x hx) lt_irrefl
      · exact e
/-- Two rows that are one but for where i stands: no later in the second. -/
structure Cmp (was now : List Nat) (i n a a' : Nat) (C : List Nat) : Prop where
  wl : was.length = n
  nl : now.length = n
  cl : C.length + 1 = n
  an : a < n
  aa : a' ≤ a
  wat : ∀ j, j < n → was.getD j 0 = if j < a then C.getD j 0 else if j = a then i else C.getD (j - 1) 0
  nat : ∀ j, j < n → now.getD j 0 = if j < a' then C.getD j 0 else if j = a' then i else C.getD (j - 1) 0
  ne : ∀ j, j + 1 < n → C.getD j 0 ≠ i
theorem getD_mid (A B : List Nat) (i j : Nat) (hj : j < (A ++ i :: B).length) : (A ++ i :: B).getD j 0 = if j < A.length then (A ++ B).getD j 0 else if j = A.length then i else (A ++ B).getD (j - 1) 0 := by
  simp only [List.getD_eq_getElem?_getD]
  by_cases h1 : j < A.length
  · rw [if_pos h1, List.getElem?_append_left h1, List.getElem?_append_left h1]
  · rw [if_neg h1, List.getElem?_append_right (by omega)]
    by_cases h2 : j = A.length
    · rw [if_pos h2, h2]; simp
    · rw [if_neg h2, List.getElem?_append_right (by omega)]
      obtain ⟨q, hq⟩ : ∃ q, j - A.length = q + 1 := ⟨j - A.length - 1, by omega⟩
      rw [hq, List.getElem?_cons_succ, show j - 1 - A.length = q by omega]
theorem cmp_of (w w' : List Int) (was now : List Nat) (i n : Nat) (h1 : was.Pairwise (lt w)) (h2 : now.Pairwise (lt w')) (m1 : ∀ x, x ∈ was ↔ x < n) (m2 : ∀ x, x ∈ now ↔ x < n) (l1 : was.length = n) (l2 : now.length = n) (hi : i < n)
    (hlt : ∀ x y, x ≠ i → y ≠ i → (lt w' x y ↔ lt w x y)) (hup : ∀ y, y ≠ i → lt w' y i → lt w y i) : ∃ a a' C, Cmp was now i n a a' C := by
  obtain ⟨A, B, rfl⟩ := List.append_of_mem ((m1 i).2 hi)
  obtain ⟨A', B', rfl⟩ := List.append_of_mem ((m2 i).2 hi)
  have p1 := List.pairwise_append.1 h1
  have p2 := List.pairwise_append.1 h2
  have q1 := List.pairwise_cons.1 p1.2.1
  have q2 := List.pairwise_cons.1 p2.2.1
  have nA : ∀ x ∈ A, x ≠ i := fun x hx e => absurd (p1.2.2 x hx i (by simp)) (by rw [e]; exact lt_irrefl)
  have nB : ∀ x ∈ B, x ≠ i := fun x hx e => absurd (q1.1 x hx) (by rw [e]; exact lt_irrefl)
  have nA' : ∀ x ∈ A', x ≠ i := fun x hx e => absurd (p2.2.2 x hx i (by simp)) (by rw [e]; exact lt_irrefl)
  have nB' : ∀ x ∈ B', x ≠ i := fun x hx e => absurd (q2.1 x hx) (by rw [e]; exact lt_irrefl)
  have s1 : (A ++ B).Pairwise (lt w) := List.pairwise_append.2 ⟨p1.1, q1.2, fun x hx y hy => p1.2.2 x hx y (by simp [hy])⟩
  have s2 : (A' ++ B').Pairwise (lt w') := List.pairwise_append.2 ⟨p2.1, q2.2, fun x hx y hy => p2.2.2 x hx y (by simp [hy])⟩
  have nC : ∀ x ∈ A ++ B, x ≠ i := fun x hx => (List.mem_append.1 hx).elim (nA x) (nB x)
  have nC' : ∀ x ∈ A' ++ B', x ≠ i := fun x hx => (List.mem_append.1 hx).elim (nA' x) (nB' x)
  have s3 : (A' ++ B').Pairwise (lt w) := s2.imp_of_mem (fun {x y} hx hy h => (hlt x y (nC' x hx) (nC' y hy)).1 h)
  have hC : A ++ B = A' ++ B' := sorted_eq _ _ s1 s3 (fun x => by
    constructor
    · intro hx
      have h3 : x ∈ A' ++ i :: B' := (m2 x).2 ((m1 x).1 (by rcases List.mem_append.1 hx with h | h <;> simp [h]))
      rcases List.mem_append.1 h3 with h | h
      · simp [h]
      · rcases List.mem_cons.1 h with h | h
        · exact absurd h (nC x hx)
        · simp [h]
    · intro hx
      have h3 : x ∈ A ++ i :: B := (m1 x).2 ((m2 x).1 (by rcases List.mem_append.1 hx with h | h <;> simp [h]))
      rcases List.mem_append.1 h3 with h | h
      · simp [h]
      · rcases List.mem_cons.1 h with h | h
        · exact absurd h (nC' x hx)
        · simp [h])
  have hle : A'.length ≤ A.length := by
    refine Nat.le_of_not_lt fun hc => ?_
    have hlB : 0 < B.length := by
      have h3 := congrArg List.length hC
      simp only [List.length_append] at h3
      omega
    have hy1 : B[0] ∈ B := List.getElem_mem hlB
    have e1 : (A ++ B)[A.length]? = some B[0] := by rw [List.getElem?_append_right (Nat.le_refl _)]; simp [hlB]
    have e2 : (A' ++ B')[A.length]? = some A'[A.length] := by rw [List.getElem?_append_left hc]; exact List.getElem?_eq_getElem hc
    rw [hC, e2] at e1
    have e3 : A'[A.length] = B[0] := by injection e1
    have hy2 : B[0] ∈ A' := by rw [← e3]; exact List.getElem_mem hc
    have c1 := hup B[0] (nB _ hy1) (p2.2.2 _ hy2 i (by simp))
    exact lt_asymm c1 (q1.1 _ hy1)
  refine ⟨A.length, A'.length, A ++ B, ⟨l1, l2, by simp at l1 ⊢; omega, by simp at l1; omega, hle, fun j hj => getD_mid A B i j (by omega), fun j hj => ?_, fun j hj => ?_⟩⟩
  · rw [getD_mid A' B' i j (by omega), hC]
  · have hj2 : j < (A ++ B).length := by simp at l1 ⊢; omega
    rw [List.getD_eq_getElem?_getD, List.getElem?_eq_getElem hj2]
    exact nC _ (List.getElem_mem hj2)
/-- Where the comparison stands at place n: c of the others have been seen; q: the place in the first row; at_, st: where the one was met. -/
structure St (a a' n c q : Nat) (at_ st : Int) : Prop where
  cE : c = if n ≤ a' then n else n - 1
  qE : q = if c ≤ a then c else c + 1
  aE : at_ = if n ≤ a' then -1 else (a' : Int)
  sE : st = if n ≤ a then -1 else (a : Int)
theorem St.zero (a a' : Nat) : St a a' 0 0 0 (-1) (-1) := ⟨by simp, by simp, by simp, by simp⟩
theorem Cmp.was_i {was now : List Nat} {i k a a' : Nat} {C : List Nat} (h : Cmp was now i k a a' C) {n : Nat} (hn : n < k) : was.getD n 0 = i ↔ n = a := by
  rw [h.wat n hn]
  by_cases h1 : n < a
  · rw [if_pos h1]; exact ⟨fun e => absurd e (h.ne n (by have := h.an; omega)), fun e => by omega⟩
  · rw [if_neg h1]
    by_cases h2 : n = a
    · rw [if_pos h2]; exact ⟨fun _ => h2, fun _ => rfl⟩
    · rw [if_neg h2]; exact ⟨fun e => absurd e (h.ne (n - 1) (by omega)), fun e => absurd e h2⟩
theorem Cmp.now_i {was now : List Nat} {i k a a' : Nat} {C : List Nat} (h : Cmp was now i k a a' C) (hn : a' < k) : now.getD a' 0 = i := by
  rw [h.nat a' hn, if_neg (Nat.lt_irrefl _), if_pos rfl]
theorem Cmp.step {was now : List Nat} {i k a a' : Nat} {C : List Nat} (h : Cmp was now i k a a' C) {n c q : Nat} {at_ st : Int} (hs : St a a' n c q at_ st) (hn : n < k) (hne : n ≠ a') :
    now.getD n 0 = C.getD c 0 ∧ C.getD c 0 ≠ i ∧ q < k ∧ (c = a → was.getD q 0 = i ∧ q + 1 < k ∧ was.getD (q + 1) 0 = C.getD c 0) ∧ (c ≠ a → was.getD q 0 = C.getD c 0) := by
  have hc := hs.cE
  have hq := hs.qE
  have h1 := h.an
  have h2 := h.aa
  have hck : c + 1 < k := by split at hc <;> omega
  refine ⟨?_, h.ne c hck, by split at hq <;> omega, fun e => ?_, fun e => ?_⟩
  · rw [h.nat n hn]
    by_cases h3 : n < a'
    · rw [if_pos h3, hc, if_pos (by omega)]
    · rw [if_neg h3, if_neg hne, hc, if_neg (by omega)]
  · have hqa : q = a := by rw [hq, if_pos (by omega), e]
    refine ⟨(h.was_i (by omega)).2 hqa, by omega, ?_⟩
    rw [h.wat (q + 1) (by omega), if_neg (by omega), if_neg (by omega), Nat.add_sub_cancel, hqa, e]
  · rw [h.wat q (by split at hq <;> omega)]
    by_cases h3 : c ≤ a
    · rw [if_pos h3] at hq
      rw [if_pos (by omega), hq]
    · rw [if_neg h3] at hq
      rw [if_neg (by omega), if_neg (by omega), hq, Nat.add_sub_cancel]
theorem St.met {a a' n c q : Nat} {at_ st st' : Int} (hs : St a a' n c q at_ st) (hn : n = a') (hst : st' = if n = a then (n : Int) else st) : St a a' (n + 1) c q (n : Int) st' := by
  have hc := hs.cE
  have h2 := hs.sE
  refine ⟨?_, hs.qE, ?_, ?_⟩
  · rw [if_neg (by omega)]; rw [if_pos (by omega)] at hc; omega
  · rw [if_neg (by omega), hn]
  · rw [hst]
    by_cases e : n = a
    · rw [if_pos e, if_neg (by omega), e]
    · rw [if_neg e, h2]
      by_cases e2 : n ≤ a
      · rw [if_pos e2, if_pos (by omega)]
      · rw [if_neg e2, if_neg (by omega)]
theorem St.past {a a' n c q q' : Nat} {at_ st st' : Int} (hs : St a a' n c q at_ st) (hn : n ≠ a') (hst : st' = if n = a then (n : Int) else st) (hq' : q' = if c = a then q + 2 else q + 1) : St a a' (n + 1) (c + 1) q' at_ st' := by
  have hc := hs.cE
  have hq := hs.qE
  have h1 := hs.aE
  have h2 := hs.sE
  refine ⟨?_, ?_, ?_, ?_⟩
  · split at hc
    · rw [if_pos (by omega)]; omega
    · rw [if_neg (by omega)]; omega
  · rw [hq']
    by_cases e : c = a
    · rw [if_pos e, if_neg (by omega)]
      rw [if_pos (by omega)] at hq
      omega
    · rw [if_neg e]
      by_cases e2 : c ≤ a
      · rw [if_pos e2] at hq; rw [if_pos (by omega)]; omega
      · rw [if_neg e2] at hq; rw [if_neg (by omega)]; omega
  · rw [h1]
    by_cases e : n ≤ a'
    · rw [if_pos e, if_pos (by omega)]
    · rw [if_neg e, if_neg (by omega)]
  · rw [hst]
    by_cases e : n = a
    · rw [if_pos e, if_neg (by omega), e]
    · rw [if_neg e, h2]
      by_cases e2 : n ≤ a
      · rw [if_pos e2, if_pos (by omega)]
      · rw [if_neg e2, if_neg (by omega)]
/-- Of a heap with all its numbers in it, before and after one is raised. -/
theorem raised_cmp {s s' : HS} (hg : Good s) (hg' : Good s') (n : Nat) (hn : s.w.length = n) (hall : ∀ x, x < n → In s x) (hr : s.r.length = n) (hr' : s'.r.length = n) (i : Nat) (hi : i < n) (d : Int) (hd : 0 ≤ d) (hw : s'.w = s.w.set i (s.w.getD i 0 + d)) (hin : ∀ y, 0 ≤ P s' y ↔ 0 ≤ P s y) :
    ∃ a a' C, Cmp (allM n s) (allM n s') i n a a' C := by
  obtain ⟨m1, p1⟩ := allM_spec n s hg hr
  obtain ⟨m2, p2⟩ := allM_spec n s' hg' hr'
  have hwg : ∀ y, s'.w.getD y 0 = if i = y then s.w.getD i 0 + d else s.w.getD y 0 := fun y => by rw [hw]; exact getD_set_int _ _ _ _ (by omega)
  have hl' : s'.w.length = n := by rw [hw]; simpa using hn
  refine cmp_of s.w s'.w _ _ i n p1 p2 (fun x => (m1 x).trans ⟨fun h => by have := h.1; omega, hall x⟩) (fun x => (m2 x).trans ⟨fun h => by have := h.1; omega, fun h => ⟨by omega, (hin x).2 (hall x h).2⟩⟩) (allM_len _ _) (allM_len _ _) hi (fun x y hx hy => ?_) (fun y hy hl => ?_)
  · unfold lt
    rw [hwg, hwg, if_neg (fun e => hx e.symm), if_neg (fun e => hy e.symm)]
  · unfold lt at hl ⊢
    rw [hwg, hwg, if_neg (fun e => hy e.symm), if_pos rfl] at hl
    omega
end Go.Proofs.Ytegcfaohhcjajaa.HM
