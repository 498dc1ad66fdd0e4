/- Terms, in plain Lean: sums of a term and numbers; as many numerals as may be. -/
import Derived.Test.YtmgbodmpjholiaaTermM
namespace Go.Proofs.Ytmgbodmpjholiaa.TM
set_option linter.unusedVariables false

theorem put_some {l : List NodeM} {n : NodeM} {i : Nat} (h : findM n l = some i) : putM l n = ((i : Int), 0, l) := by unfold putM; rw [h]
theorem put_full {l : List NodeM} {n : NodeM} (h : findM n l = none) (hl : 20000 ≤ l.length) : putM l n = (0, 9, l) := by unfold putM; rw [h]; simp only; rw [if_pos hl]
theorem put_new {l : List NodeM} {n : NodeM} (h : findM n l = none) (hl : l.length < 20000) : putM l n = ((l.length : Int), 0, l ++ [n]) := by unfold putM; rw [h]; simp only; rw [if_neg (by omega)]
/-! ### Sums -/
def sumL : List NodeM := newM ++ [⟨5, 3, 0, 1, []⟩]
def Ext (S : List NodeM) : Prop := ∃ e, S = sumL ++ e
def plusN (s : Int) : NodeM := ⟨4, 0, s, 1, [3]⟩
/-- t is the term 3 and s. -/
def IsSum (S : List NodeM) (t s : Int) : Prop := (s = 0 ∧ t = 3) ∨ (s ≠ 0 ∧ ∃ i : Nat, findM (plusN s) S = some i ∧ t = (i : Int))
theorem find_more {n m : NodeM} {S : List NodeM} {i : Nat} (h : findM n S = some i) : findM n (S ++ [m]) = some i := by rw [findM_app, h]
theorem IsSum.more {S : List NodeM} {t s : Int} (h : IsSum S t s) (m : NodeM) : IsSum (S ++ [m]) t s := by
  rcases h with h | ⟨h0, i, h1, h2⟩
  · exact .inl h
  · exact .inr ⟨h0, i, find_more h1, h2⟩
theorem IsSum.uniq {S : List NodeM} {t u s : Int} (h : IsSum S t s) (k : IsSum S u s) : t = u := by
  rcases h with ⟨h0, h1⟩ | ⟨h0, i, h1, h2⟩ <;> rcases k with ⟨k0, k1⟩ | ⟨k0, j, k1, k2⟩
  · omega
  · omega
  · omega
  · rw [h1] at k1
    cases k1
    omega
theorem sum3 (S : List NodeM) : IsSum S 3 0 := .inl ⟨rfl, rfl⟩
theorem Ext.more {S : List NodeM} (h : Ext S) (m : NodeM) : Ext (S ++ [m]) := by
  obtain ⟨e, rfl⟩ := h
  exact ⟨e ++ [m], by rw [List.append_assoc]⟩
theorem ext_low {S : List NodeM} (h : Ext S) : 4 ≤ S.length := by
  obtain ⟨e, rfl⟩ := h
  simp [sumL, newM]
theorem ext_three {S : List NodeM} (h : Ext S) : nodeM S 3 = ⟨5, 3, 0, 1, []⟩ := by
  obtain ⟨e, rfl⟩ := h
  simp [nodeM, sumL, newM]
theorem split_of {S : List NodeM} {t : Int} (h : hasM S t = true) : splitM S t = if sortM S t ≠ 1 then (0, 0, 60) else if (nodeM S t).op = 3 then (2, (nodeM S t).num, 0) else if (nodeM S t).op = 4 then ((nodeM S t).args.getD 0 0, (nodeM S t).num, 0) else (t, 0, 0) := by
  unfold splitM
  rw [if_neg (by simp [thereM, h])]
theorem has_of {S : List NodeM} {i : Nat} (h : i < S.length) : hasM S (i : Int) = true := by
  unfold hasM
  simp [h]
theorem node_of {S : List NodeM} {i : Nat} {n : NodeM} (h : S[i]? = some n) : nodeM S (i : Int) = n := by
  unfold nodeM
  rw [Int.toNat_natCast, List.getD_eq_getElem?_getD, h]
  rfl
theorem IsSum.split {S : List NodeM} (he : Ext S) {t s : Int} (h : IsSum S t s) : splitM S t = (3, s, 0) := by
  rcases h with ⟨rfl, rfl⟩ | ⟨h0, i, h1, rfl⟩
  · have h1 : hasM S 3 = true := has_of (i := 3) (by have := ext_low he; omega)
    rw [split_of h1]
    unfold sortM
    rw [ext_three he]
    simp
  · have h2 := findM_some h1
    rw [split_of (has_of (findM_lt h1))]
    unfold sortM
    rw [node_of h2]
    simp [plusN]
/-- One more number. -/
theorem plus_sum {S : List NodeM} (he : Ext S) {t p n : Int} (h : IsSum S t p) (hn : boundM n = true) (hpn : boundM (p + n) = true) (hl : S.length < 20000) :
    ∃ r S', plusM S t n = (r, 0, S') ∧ IsSum S' r (p + n) ∧ Ext S' ∧ S'.length ≤ S.length + 1 ∧ ∀ u s, IsSum S u s → IsSum S' u s := by
  have hs := h.split he
  unfold plusM
  rw [hs]
  simp only [ne_eq, not_true_eq_false, if_false, hn, hpn, Bool.true_eq_false]
  by_cases h0 : p + n = 0
  · rw [if_neg (by omega), if_pos h0]
    exact ⟨3, S, rfl, by rw [h0]; exact sum3 S, he, by omega, fun _ _ h => h⟩
  · rw [if_neg (by omega), if_neg h0]
    show ∃ r S', putM S (plusN (p + n)) = (r, 0, S') ∧ _
    cases e : findM (plusN (p + n)) S with
    | some i => exact ⟨(i : Int), S, put_some e, .inr ⟨h0, i, e, rfl⟩, he, by omega, fun _ _ h => h⟩
    | none =>
      refine ⟨(S.length : Int), S ++ [plusN (p + n)], put_new e hl, .inr ⟨h0, S.length, ?_, rfl⟩, he.more _, by simp, fun u s hu => hu.more _⟩
      rw [findM_app, e]
      simp [(sameM_iff _ _).2 rfl]
theorem sum_bound {l : List Int} {B : Int} (hB : 0 ≤ B) (h : ∀ x ∈ l, -B ≤ x ∧ x ≤ B) : -(l.length * B) ≤ l.sum ∧ l.sum ≤ l.length * B := by
  induction l with
  | nil => simp
  | cons a l ih =>
    have h1 := h a (by simp)
    have h2 := ih fun x hx => h x (by simp [hx])
    have h3 : ((l.length + 1 : Nat) : Int) * B = l.length * B + B := by rw [Int.natCast_add, Int.add_mul]; simp
    simp only [List.length_cons, List.sum_cons]
    rw [h3]
    omega
/-- As it is turned. -/
def rot (l : List Int) (k : Nat) : List Int := l.drop (k % l.length) ++ l.take (k % l.length)
theorem rot_len (l : List Int) (k : Nat) : (rot l k).length = l.length := by
  unfold rot
  rcases Nat.eq_zero_or_pos l.length with h | h
  · have := List.eq_nil_of_length_eq_zero h
    subst this
    simp
  · have := Nat.mod_lt k h
    simp
    omega
theorem rot_sum (l : List Int) (k : Nat) : (rot l k).sum = l.sum := by
  unfold rot
  rw [List.sum_append, Int.add_comm, ← List.sum_append, List.take_append_drop]
theorem rot_mem {l : List Int} {k : Nat} {x : Int} (h : x ∈ rot l k) : x ∈ l := by
  unfold rot at h
  rcases List.mem_append.1 h with h | h
  · exact List.mem_of_mem_drop h
  · exact List.mem_of_mem_take h
theorem rot_get (l : List Int) (k i : Nat) (hi : i < l.length) : (rot l k).getD i 0 = l.getD ((i + k) % l.length) 0 := by
  have hp : 0 < l.length := by omega
  have hk := Nat.mod_lt k hp
  have e1 : (i + k) % l.length = if i + k % l.length < l.length then i + k % l.length else i + k % l.length - l.length := by
    rw [Nat.add_mod, Nat.mod_eq_of_lt hi]
    split
    · rename_i h
      exact Nat.mod_eq_of_lt h
    · rename_i h
      rw [Nat.mod_eq_sub_mod (by omega), Nat.mod_eq_of_lt (by omega)]
  unfold rot
  rw [List.getD_eq_getElem?_getD, List.getD_eq_getElem?_getD, e1]
  split
  · rename_i h
    rw [List.getElem?_append_left (by simp; omega), List.getElem?_drop, Nat.add_comm]
  · rename_i h
    rw [List.getElem?_append_right (by simp; omega), List.getElem?_take, List.length_drop]
    rw [if_pos (by omega)]
    congr 2
    omega
theorem take_sum_snoc (l : List Int) (i : Nat) (h : i < l.length) : (l.take (i + 1)).sum = (l.take i).sum + l.getD i 0 := by
  rw [List.take_succ_eq_append_getElem h, List.sum_append, List.getD_eq_getElem?_getD, List.getElem?_eq_getElem h]
  simp
theorem take_bound {l : List Int} (h : ∀ x ∈ l, -288230376151711744 ≤ x ∧ x ≤ 288230376151711744) (hl : l.length ≤ 8) (i : Nat) : -2305843009213693952 ≤ (l.take i).sum ∧ (l.take i).sum ≤ 2305843009213693952 := by
  have h1 := sum_bound (l := l.take i) (B := 288230376151711744) (by omega) fun x hx => h x (List.mem_of_mem_take hx)
  have h2 : (l.take i).length ≤ 8 := Nat.le_trans (List.length_take_le' _ _) hl
  omega

/-! ### Numerals -/
def numN (x : Int) : NodeM := ⟨3, 0, x, 1, []⟩
def numL (n : Int) (k : Nat) : List NodeM := newM ++ (List.range k).map fun (j : Nat) => numN (n + 3 + (j : Int))
theorem numL_len (n : Int) (k : Nat) : (numL n k).length = 3 + k := by
  simp [numL, newM]
  omega
theorem numL_succ (n : Int) (k : Nat) : numL n (k + 1) = numL n k ++ [numN (n + 3 + k)] := by
  unfold numL
  rw [List.range_succ, List.map_append, ← List.append_assoc]
  rfl
theorem numL_none (n : Int) (hn : 1 ≤ n) (k : Nat) : findM (numN (n + 3 + k)) (numL n k) = none := by
  rw [findM_none]
  intro h
  unfold numL at h
  rcases List.mem_append.1 h with h | h
  · simp [newM, numN] at h
    omega
  · rw [List.mem_map] at h
    obtain ⟨j, hj, e⟩ := h
    rw [List.mem_range] at hj
    have := congrArg NodeM.num e
    simp [numN] at this
    omega
theorem numL_find (n : Int) (hn : 1 ≤ n) (k : Nat) : findM (numN (n + 3)) (numL n (k + 1)) = some 3 := by
  induction k with
  | zero =>
    have h0 := numL_none n hn 0
    have e0 : n + 3 + ((0 : Nat) : Int) = n + 3 := by simp
    rw [e0] at h0
    rw [numL_succ, findM_app, e0, h0]
    simp only
    rw [if_pos ((sameM_iff (numN (n + 3)) _).2 rfl), numL_len]
  | succ k ih => rw [numL_succ, find_more ih]
theorem bound_num {n : Int} (h1 : 1 ≤ n) (h2 : n ≤ 1152921504606846976) {k : Nat} (hk : k ≤ 30000) : boundM (n + k) = true := (bound_iff _).2 (by omega)
theorem num_new (n : Int) (h1 : 1 ≤ n) (h2 : n ≤ 1152921504606846976) (k : Nat) (hk : 3 + k < 20000) : numM (numL n k) (n + ((3 + k : Nat) : Int)) = (((3 + k : Nat) : Int), 0, numL n (k + 1)) := by
  unfold numM
  rw [bound_num h1 h2 (by omega), if_neg (by simp)]
  have e : n + ((3 + k : Nat) : Int) = n + 3 + (k : Int) := by omega
  rw [e]
  show putM (numL n k) (numN (n + 3 + k)) = _
  rw [put_new (numL_none n h1 k) (by rw [numL_len]; omega), numL_len, numL_succ]
theorem num_full (n : Int) (h1 : 1 ≤ n) (h2 : n ≤ 1152921504606846976) : numM (numL n 19997) (n + 20000) = (0, 9, numL n 19997) := by
  unfold numM
  rw [show boundM (n + 20000) = true from bound_num (k := 20000) h1 h2 (by omega), if_neg (by simp)]
  have e : n + 20000 = n + 3 + ((19997 : Nat) : Int) := by omega
  rw [e]
  show putM (numL n 19997) (numN (n + 3 + ((19997 : Nat) : Int))) = _
  rw [put_full (numL_none n h1 19997) (by rw [numL_len]; omega)]
theorem num_again (n : Int) (h1 : 1 ≤ n) (h2 : n ≤ 1152921504606846976) : numM (numL n 19997) (n + 3) = (3, 0, numL n 19997) := by
  unfold numM
  rw [show boundM (n + 3) = true from bound_num (k := 3) h1 h2 (by omega), if_neg (by simp)]
  show putM (numL n 19997) (numN (n + 3)) = _
  rw [put_some (numL_find n h1 19996)]
  rfl
theorem num_zero (n : Int) (k : Nat) : plusM (numL n k) 2 0 = (2, 0, numL n k) := by
  have hn : (numL n k)[2]? = some (numN 0) := by
    unfold numL
    rw [List.getElem?_append_left (by simp [newM])]
    rfl
  have h1 : hasM (numL n k) 2 = true := has_of (i := 2) (by rw [numL_len]; omega)
  have h2 : splitM (numL n k) 2 = (2, 0, 0) := by
    rw [split_of h1]
    unfold sortM
    rw [show nodeM (numL n k) 2 = numN 0 from node_of (i := 2) hn]
    simp [numN]
  have h3 : findM (numN 0) (numL n k) = some 2 := by
    unfold numL newM
    simp [findM, sameM, numN]
  unfold plusM
  rw [h2]
  simp only [ne_eq, not_true_eq_false, if_false, Int.add_zero]
  rw [show boundM 0 = true from by decide]
  simp only [Bool.true_eq_false, if_false, if_true]
  unfold numM
  rw [show boundM 0 = true from by decide, if_neg (by simp)]
  show putM (numL n k) (numN 0) = _
  rw [put_some h3]
  rfl
end Go.Proofs.Ytmgbodmpjholiaa.TM
