/- Terms, in plain Lean: a call made once more, whatever has come in between, makes the same term, and no other one. -/
import Derived.Test.YtmgbodmpjholiaaTermPG
namespace Go.Proofs.Ytmgbodmpjholiaa.TM
set_option linter.unusedVariables false
set_option linter.unusedSimpArgs false

/-- What was answered is answered once more. -/
def Again (r : Ans) (F : List NodeM → Ans) : Prop := r.2.1 = 0 → ∀ e, F (r.2.2 ++ e) = (r.1, 0, r.2.2 ++ e)
theorem findM_ext {n : NodeM} {i : Nat} : ∀ {l : List NodeM} (d : List NodeM), findM n l = some i → findM n (l ++ d) = some i := by
  intro l d h
  induction l generalizing i with
  | nil => cases h
  | cons m r ih =>
    show findM n (m :: (r ++ d)) = _
    unfold findM at h ⊢
    split at h
    · rename_i e
      rw [if_pos e]
      exact h
    · rename_i e
      rw [if_neg e]
      cases e1 : findM n r with
      | none => rw [e1] at h; cases h
      | some j =>
        rw [e1] at h
        rw [ih e1]
        exact h
theorem put_ext (l : List NodeM) (n : NodeM) : ∃ d, (putM l n).2.2 = l ++ d := by
  unfold putM
  split
  · exact ⟨[], by simp⟩
  · split
    · exact ⟨[], by simp⟩
    · exact ⟨[n], rfl⟩
theorem put_again (l : List NodeM) (n : NodeM) : Again (putM l n) fun l => putM l n := by
  intro h e
  unfold putM at h ⊢
  cases hf : findM n l with
  | some i =>
    simp only [hf]
    rw [findM_ext e hf]
  | none =>
    simp only [hf] at h ⊢
    by_cases h2 : 20000 ≤ l.length
    · rw [if_pos h2] at h
      cases h
    · rw [if_neg h2]
      have h3 : findM n (l ++ [n]) = some l.length := by
        rw [findM_app, hf]
        show (if _ then _ else _) = _
        rw [if_pos ((sameM_iff n n).2 rfl)]
      show (match findM n (l ++ [n] ++ e) with | some i => _ | none => _) = _
      rw [findM_ext e h3]
theorem again_put {l : List NodeM} {n : NodeM} {F : List NodeM → Ans} (hF : ∀ d, F (l ++ d) = putM (l ++ d) n) : Again (putM l n) F := by
  intro h e
  obtain ⟨d, hd⟩ := put_ext l n
  have h1 := put_again l n h e
  rw [hd, List.append_assoc] at h1 ⊢
  rw [hF]
  exact h1
theorem again_same {l : List NodeM} {t : Int} {F : List NodeM → Ans} (hF : ∀ d, F (l ++ d) = (t, 0, l ++ d)) : Again (t, 0, l) F := fun _ e => hF e
theorem again_no {l : List NodeM} {t x : Int} {F : List NodeM → Ans} (hx : x ≠ 0) : Again (t, x, l) F := fun h => absurd h hx
theorem has_app {l : List NodeM} {x : Int} (h : hasM l x = true) (d : List NodeM) : hasM (l ++ d) x = true := by
  simp only [hasM, Bool.and_eq_true, decide_eq_true_eq, List.length_append] at h ⊢
  omega
theorem node_app {l : List NodeM} {x : Int} (h : hasM l x = true) (d : List NodeM) : nodeM (l ++ d) x = nodeM l x := by
  have h1 := getD_mem h
  unfold nodeM
  rw [List.getD_eq_getElem?_getD, List.getD_eq_getElem?_getD, List.getElem?_append_left h1.2.2.1]
theorem sort_app {l : List NodeM} {x : Int} (h : hasM l x = true) (d : List NodeM) : sortM (l ++ d) x = sortM l x := by unfold sortM; rw [node_app h]
theorem there_app {l : List NodeM} {xs : List Int} (h : ¬ thereM l xs = false) (d : List NodeM) : ¬ thereM (l ++ d) xs = false := by
  have h1 := there_all (not_bool h)
  have h2 : thereM (l ++ d) xs = true := by
    unfold thereM
    rw [List.all_eq_true]
    exact fun x hx => has_app (h1 x hx) d
  rw [h2]
  simp
theorem of_app {l : List NodeM} {xs : List Int} {s : Int} (h : ∀ x ∈ xs, hasM l x = true) (h2 : ¬ ofM l s xs = false) (d : List NodeM) : ¬ ofM (l ++ d) s xs = false := by
  have h1 := of_all (not_bool h2)
  have h3 : ofM (l ++ d) s xs = true := by
    unfold ofM
    rw [List.all_eq_true]
    exact fun x hx => by rw [sort_app (h x hx)]; simpa using h1 x hx
  rw [h3]
  simp
theorem split_app {l : List NodeM} {a : Int} (h : ¬ (splitM l a).2.2 ≠ 0) (d : List NodeM) : splitM (l ++ d) a = splitM l a := by
  have e : (splitM l a).2.2 = 0 := by simpa using h
  unfold splitM at e ⊢
  split at e
  · simp at e
  · rename_i h1
    have hh : hasM l a = true := by simpa [thereM] using h1
    rw [if_neg (there_app h1 d), if_neg h1, sort_app hh, node_app hh]
theorem no_again (l : List NodeM) (a : Int) : Again (TM.notM l a) fun l => TM.notM l a := by
  unfold TM.notM
  split
  · exact again_no (by omega)
  · rename_i h1
    split
    · exact again_no (by omega)
    · rename_i h2
      exact again_put fun d => by rw [if_neg (there_app h1 d), if_neg (of_app (there_all (not_bool h1)) h2 d)]
theorem many_again (l : List NodeM) (op z : Int) (xs : List Int) : Again (manyM l op z xs) fun l => manyM l op z xs := by
  unfold manyM
  split
  · exact again_no (by omega)
  · rename_i h1
    split
    · exact again_no (by omega)
    · rename_i h2
      split
      · exact again_no (by omega)
      · rename_i h3
        have T := fun d => there_app h1 d
        have O := fun d => of_app (there_all (not_bool h1)) h3 d
        split
        · rename_i h4
          exact again_same fun d => by simp only [if_neg (T d), if_neg (O d)]
        · rename_i h4
          split
          · rename_i h5
            exact again_same fun d => by simp only [if_neg (T d), if_neg (O d)]
          · rename_i h5
            exact again_put fun d => by simp only [if_neg (T d), if_neg h2, if_neg (O d), if_neg h4, if_neg h5]
theorem eq_again (l : List NodeM) (a b : Int) : Again (eqM l a b) fun l => eqM l a b := by
  unfold eqM
  split
  · exact again_no (by omega)
  · rename_i h1
    split
    · exact again_no (by omega)
    · rename_i h2
      have b1 := there_all (not_bool h1)
      exact again_put fun d => by simp only [if_neg (there_app h1 d), sort_app (b1 a (by simp)), if_neg (of_app (fun x hx => b1 x (by simp at hx; simp [hx])) h2 d)]
theorem ite_again (l : List NodeM) (c a b : Int) : Again (iteM l c a b) fun l => iteM l c a b := by
  unfold iteM
  split
  · exact again_no (by omega)
  · rename_i h1
    split
    · exact again_no (by omega)
    · rename_i h2
      split
      · exact again_no (by omega)
      · rename_i h3
        have b1 := there_all (not_bool h1)
        exact again_put fun d => by simp only [if_neg (there_app h1 d), if_neg (of_app (fun x hx => b1 x (by simp at hx; simp [hx])) h2 d), sort_app (b1 a (by simp)), if_neg (of_app (fun x hx => b1 x (by simp at hx; simp [hx])) h3 d)]
theorem app_again (l : List NodeM) (f s : Int) (xs : List Int) : Again (appM l f s xs) fun l => appM l f s xs := by
  unfold appM
  split
  · exact again_no (by omega)
  · rename_i h1
    split
    · exact again_no (by omega)
    · rename_i h2
      split
      · exact again_no (by omega)
      · rename_i h3
        split
        · exact again_no (by omega)
        · rename_i h4
          exact again_put fun d => by simp only [if_neg h1, if_neg h2, if_neg (there_app h3 d), if_neg h4]
theorem number_again (l : List NodeM) (n : Int) : Again (numM l n) fun l => numM l n := by
  unfold numM
  split
  · exact again_no (by omega)
  · rename_i h1
    exact again_put fun d => by simp only [if_neg h1]
theorem plus_again (l : List NodeM) (a n : Int) : Again (plusM l a n) fun l => plusM l a n := by
  unfold plusM
  split
  · rename_i h1
    exact again_no h1
  · rename_i h1
    have S := fun d => split_app h1 d
    split
    · exact again_no (by omega)
    · rename_i h2
      split
      · exact again_no (by omega)
      · rename_i h3
        split
        · rename_i h4
          unfold numM
          rw [if_neg h3]
          exact again_put fun d => by simp only [S d, if_neg h1, if_neg h2, if_neg h3, if_pos h4, if_neg h3]
        · rename_i h4
          split
          · rename_i h5
            exact again_same fun d => by simp only [S d, if_neg h1, if_neg h2, if_neg h3, if_neg h4, if_pos h5]
          · rename_i h5
            exact again_put fun d => by simp only [S d, if_neg h1, if_neg h2, if_neg h3, if_neg h4, if_neg h5]
theorem le_again (l : List NodeM) (a b n : Int) : Again (leM l a b n) fun l => leM l a b n := by
  unfold leM
  split
  · exact again_no (by omega)
  · rename_i h0
    split
    · exact again_no (by omega)
    · rename_i h1
      split
      · exact again_no (by omega)
      · rename_i h2
        have S := fun d => split_app h1 d
        have T := fun d => split_app h2 d
        have C : ∀ d, leC (l ++ d) a b n = leC l a b n := fun d => by unfold leC; rw [S d, T d]
        split
        · exact again_no (by omega)
        · rename_i h3
          split
          · exact again_no (by omega)
          · rename_i h4
            split
            · rename_i h5
              split
              · rename_i h6
                exact again_same fun d => by simp only [if_neg (there_app h0 d), S d, T d, C d, if_neg h1, if_neg h2, if_neg h3, if_neg h4, if_pos h5, if_pos h6]
              · rename_i h6
                exact again_same fun d => by simp only [if_neg (there_app h0 d), S d, T d, C d, if_neg h1, if_neg h2, if_neg h3, if_neg h4, if_pos h5, if_neg h6]
            · rename_i h5
              exact again_put fun d => by simp only [if_neg (there_app h0 d), S d, T d, C d, if_neg h1, if_neg h2, if_neg h3, if_neg h4, if_neg h5]
open Go.Proofs.Ytmgbodmpjholiaa.BT in
theorem near_no (x : Int) (n : Nat) : nearM x n false = x := rfl
open Go.Proofs.Ytmgbodmpjholiaa.BT in
theorem made_again (l : List NodeM) (o : OpM) (hm : o.m = false) : Again (madeM l o) fun l => madeM l o := by
  have e1 : ∀ (S : List NodeM) x, near1 S o x = x := fun S x => by unfold near1; rw [hm]; rfl
  have e2 : ∀ (S : List NodeM) xs, nearL S o xs = xs := fun S xs => by
    unfold nearL
    rw [hm]
    exact List.map_id' xs
  have e : ∀ S, madeM S o = if o.kd = 0 then TM.notM S o.a else if o.kd = 1 then andM S o.L else if o.kd = 2 then orM S o.L else if o.kd = 3 then eqM S o.a o.b else
      if o.kd = 4 then iteM S o.a o.b o.c else if o.kd = 5 then appM S o.fn o.so o.L else if o.kd = 6 then numM S o.n else if o.kd = 7 then plusM S o.a o.n else
      if o.kd = 8 then leM S o.a o.b o.n else (0, 0, S) := fun S => by
    unfold madeM
    simp only [e1, e2]
  have e' : (fun S => madeM S o) = fun S => _ := funext e
  rw [e', e l]
  by_cases h0 : o.kd = 0
  · simp only [if_pos h0]
    exact no_again l o.a
  simp only [if_neg h0]
  by_cases h0 : o.kd = 1
  · simp only [if_pos h0]
    exact many_again l 10 0 o.L
  simp only [if_neg h0]
  by_cases h0 : o.kd = 2
  · simp only [if_pos h0]
    exact many_again l 11 1 o.L
  simp only [if_neg h0]
  by_cases h0 : o.kd = 3
  · simp only [if_pos h0]
    exact eq_again l o.a o.b
  simp only [if_neg h0]
  by_cases h0 : o.kd = 4
  · simp only [if_pos h0]
    exact ite_again l o.a o.b o.c
  simp only [if_neg h0]
  by_cases h0 : o.kd = 5
  · simp only [if_pos h0]
    exact app_again l o.fn o.so o.L
  simp only [if_neg h0]
  by_cases h0 : o.kd = 6
  · simp only [if_pos h0]
    exact number_again l o.n
  simp only [if_neg h0]
  by_cases h0 : o.kd = 7
  · simp only [if_pos h0]
    exact plus_again l o.a o.n
  simp only [if_neg h0]
  by_cases h0 : o.kd = 8
  · simp only [if_pos h0]
    exact le_again l o.a o.b o.n
  simp only [if_neg h0]
  exact again_same fun d => rfl
end Go.Proofs.Ytmgbodmpjholiaa.TM
