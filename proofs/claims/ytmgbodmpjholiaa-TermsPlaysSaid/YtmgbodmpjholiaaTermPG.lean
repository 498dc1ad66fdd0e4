/- Terms, in plain Lean: what all nodes are like, whatever is made. -/
import Derived.Test.YtmgbodmpjholiaaTermPS
import Derived.Test.YtmgbodmpjholiaaMade
namespace Go.Proofs.Ytmgbodmpjholiaa.TM
set_option linter.unusedVariables false

def isBase (S : List NodeM) (x : Int) : Prop := (nodeM S x).op ≠ 3 ∧ (nodeM S x).op ≠ 4
/-- A node that may be. -/
structure Ok (S : List NodeM) (n : NodeM) : Prop where
  has : ∀ x ∈ n.args, hasM S x = true
  op : 1 ≤ n.op ∧ n.op ≤ 11
  bool : n.op = 9 ∨ n.op = 10 ∨ n.op = 11 → ∀ x ∈ n.args, sortM S x = 0
  eq : n.op = 7 → n.args.length = 2 ∧ ∀ x ∈ n.args, sortM S x = sortM S (n.args.getD 0 0)
  plus : n.op = 4 → n.args.length = 1 ∧ ∀ x ∈ n.args, sortM S x = 1 ∧ isBase S x
  le : n.op = 8 → n.args.length = 2 ∧ ∀ x ∈ n.args, sortM S x = 1 ∧ (isBase S x ∨ x = 2)
  ite : n.op = 6 → n.args.length = 3 ∧ sortM S (n.args.getD 0 0) = 0 ∧ ∀ k, 0 < k → k < n.args.length → sortM S (n.args.getD k 0) = n.sort
  not : n.op = 9 → n.args.length = 1
  many : n.op = 10 ∨ n.op = 11 → 2 ≤ n.args.length
  sort0 : n.op = 7 ∨ n.op = 8 ∨ 9 ≤ n.op → n.sort = 0
structure Good (S : List NodeM) : Prop where
  pre : ∃ e, S = newM ++ e
  ok : ∀ (i : Nat) n, S[i]? = some n → Ok S n
  low : ∀ (i : Nat) n, S[i]? = some n → ∀ x ∈ n.args, 0 ≤ x ∧ x < (i : Int)
  one : ∀ (i j : Nat) n, S[i]? = some n → S[j]? = some n → i = j
theorem has_more {S : List NodeM} {x : Int} (h : hasM S x = true) (m : NodeM) : hasM (S ++ [m]) x = true := by
  simp [hasM] at h ⊢
  omega
theorem node_more {S : List NodeM} {x : Int} (h : hasM S x = true) (m : NodeM) : nodeM (S ++ [m]) x = nodeM S x := by
  have h1 := getD_mem h
  unfold nodeM
  rw [List.getD_eq_getElem?_getD, List.getD_eq_getElem?_getD, List.getElem?_append_left h1.2.2.1]
theorem sort_more {S : List NodeM} {x : Int} (h : hasM S x = true) (m : NodeM) : sortM (S ++ [m]) x = sortM S x := by unfold sortM; rw [node_more h]
theorem getD_in {l : List Int} {k : Nat} (h : k < l.length) : l.getD k 0 ∈ l := by
  rw [List.getD_eq_getElem?_getD, List.getElem?_eq_getElem h]
  exact List.getElem_mem h
theorem Ok.more {S : List NodeM} {n : NodeM} (h : Ok S n) (m : NodeM) : Ok (S ++ [m]) n where
  has := fun x hx => has_more (h.has x hx) m
  op := h.op
  bool := fun e x hx => by rw [sort_more (h.has x hx)]; exact h.bool e x hx
  eq := fun e => ⟨(h.eq e).1, fun x hx => by
    rw [sort_more (h.has x hx), sort_more (h.has _ (getD_in (by have := (h.eq e).1; omega)))]
    exact (h.eq e).2 x hx⟩
  plus := fun e => ⟨(h.plus e).1, fun x hx => by
    rw [sort_more (h.has x hx)]
    refine ⟨((h.plus e).2 x hx).1, ?_⟩
    unfold isBase
    rw [node_more (h.has x hx)]
    exact ((h.plus e).2 x hx).2⟩
  le := fun e => ⟨(h.le e).1, fun x hx => by
    rw [sort_more (h.has x hx)]
    refine ⟨((h.le e).2 x hx).1, ?_⟩
    unfold isBase
    rw [node_more (h.has x hx)]
    exact ((h.le e).2 x hx).2⟩
  ite := fun e => ⟨(h.ite e).1, by
    rw [sort_more (h.has _ (getD_in (by have := (h.ite e).1; omega)))]
    exact (h.ite e).2.1, fun k hk hl => by
    rw [sort_more (h.has _ (getD_in hl))]
    exact (h.ite e).2.2 k hk hl⟩
  not := h.not
  many := h.many
  sort0 := h.sort0
theorem Good.put {S : List NodeM} {n : NodeM} (h : Good S) (hn : Ok S n) : Good (putM S n).2.2 := by
  unfold putM
  split
  · exact h
  · rename_i hf
    split
    · exact h
    · have hnot := findM_none.1 hf
      obtain ⟨e, he⟩ := h.pre
      have at_ : ∀ (i : Nat) m, (S ++ [n])[i]? = some m → S[i]? = some m ∨ (i = S.length ∧ m = n) := by
        intro i m hm
        rcases Nat.lt_or_ge i S.length with h1 | h1
        · rw [List.getElem?_append_left h1] at hm
          exact .inl hm
        · have hl := (List.getElem?_eq_some_iff.1 hm).1
          rw [List.length_append, List.length_singleton] at hl
          have : i = S.length := by omega
          subst this
          rw [List.getElem?_append_right (Nat.le_refl _)] at hm
          exact .inr ⟨rfl, by simpa using hm.symm⟩
      refine ⟨⟨e ++ [n], by rw [he, List.append_assoc]⟩, fun i m hm => ?_, fun i m hm x hx => ?_, fun i j m hi hj => ?_⟩
      · rcases at_ i m hm with h1 | ⟨_, h1⟩
        · exact (h.ok i m h1).more n
        · rw [h1]
          exact hn.more n
      · rcases at_ i m hm with h1 | ⟨h2, h1⟩
        · exact h.low i m h1 x hx
        · rw [h1] at hx
          have := getD_mem (hn.has x hx)
          omega
      · rcases at_ i m hi with h1 | ⟨h2, h1⟩ <;> rcases at_ j m hj with k1 | ⟨k2, k1⟩
        · exact h.one i j m h1 k1
        · exact absurd (k1 ▸ List.mem_of_getElem? h1) hnot
        · exact absurd (h1 ▸ List.mem_of_getElem? k1) hnot
        · omega
theorem Good.new : Good newM where
  pre := ⟨[], by simp⟩
  ok := fun i n h => by
    have hm : n ∈ newM := List.mem_of_getElem? h
    simp only [newM, List.mem_cons, List.not_mem_nil, or_false] at hm
    rcases hm with rfl | rfl | rfl <;> exact ⟨by simp, by simp, by simp, by simp, by simp, by simp, by simp, by simp, by simp, by simp⟩
  low := fun i n h => by
    have hm : n ∈ newM := List.mem_of_getElem? h
    simp only [newM, List.mem_cons, List.not_mem_nil, or_false] at hm
    rcases hm with rfl | rfl | rfl <;> simp
  one := fun i j n hi hj => by
    have h1 := (List.getElem?_eq_some_iff.1 hi).1
    have h2 := (List.getElem?_eq_some_iff.1 hj).1
    simp [newM] at h1 h2
    rcases i with _ | _ | _ | i <;> rcases j with _ | _ | _ | j <;> simp [newM] at hi hj <;> first | omega | (rw [← hi] at hj; simp at hj)
theorem there_all {S : List NodeM} {xs : List Int} (h : thereM S xs = true) : ∀ x ∈ xs, hasM S x = true := by
  unfold thereM at h
  rw [List.all_eq_true] at h
  exact h
theorem of_all {S : List NodeM} {s : Int} {xs : List Int} (h : ofM S s xs = true) : ∀ x ∈ xs, sortM S x = s := by
  unfold ofM at h
  rw [List.all_eq_true] at h
  exact fun x hx => by simpa using h x hx
theorem has_two {S : List NodeM} (h : Good S) : hasM S 2 = true ∧ nodeM S 2 = ⟨3, 0, 0, 1, []⟩ := by
  obtain ⟨e, rfl⟩ := h.pre
  refine ⟨has_of (S := newM ++ e) (i := 2) (by simp [newM]), ?_⟩
  simp [nodeM, newM]
theorem not_bool {b : Bool} (h : ¬ b = false) : b = true := by simpa using h
theorem Good.not_ {S : List NodeM} (h : Good S) (a : Int) : Good (TM.notM S a).2.2 := by
  unfold TM.notM
  split
  · exact h
  · rename_i h1
    split
    · exact h
    · rename_i h2
      have b1 := there_all (not_bool h1)
      have b2 := of_all (not_bool h2)
      exact h.put ⟨b1, by simp, fun _ => b2, by simp, by simp, by simp, by simp, by simp, by simp, by simp⟩
theorem Good.many_ {S : List NodeM} (h : Good S) (op z : Int) (hop : op = 10 ∨ op = 11) (xs : List Int) : Good (manyM S op z xs).2.2 := by
  unfold manyM
  split
  · exact h
  · rename_i h1
    split
    · exact h
    · split
      · exact h
      · rename_i h3
        split
        · exact h
        · rename_i h4
          split
          · exact h
          · rename_i h5
            have b1 := there_all (not_bool h1)
            have b2 := of_all (not_bool h3)
            refine h.put ⟨b1, by show 1 ≤ op ∧ op ≤ 11; omega, fun _ => b2, fun e => ?_, fun e => ?_, fun e => ?_, fun e => ?_, fun e => ?_, fun _ => by show 2 ≤ xs.length; omega, fun _ => rfl⟩
            all_goals
              have e' : op = _ := e
              omega
theorem Good.eq_ {S : List NodeM} (h : Good S) (a b : Int) : Good (eqM S a b).2.2 := by
  unfold eqM
  split
  · exact h
  · rename_i h1
    split
    · exact h
    · rename_i h2
      have b1 := there_all (not_bool h1)
      have b2 := of_all (not_bool h2) b (by simp)
      refine h.put ⟨b1, by simp, by simp, fun _ => ⟨rfl, fun x hx => ?_⟩, by simp, by simp, by simp, by simp, by simp, by simp⟩
      have hx' : x = a ∨ x = b := by simpa using hx
      rcases hx' with rfl | rfl
      · rfl
      · exact b2
theorem Good.ite_ {S : List NodeM} (h : Good S) (c a b : Int) : Good (iteM S c a b).2.2 := by
  unfold iteM
  split
  · exact h
  · rename_i h1
    split
    · exact h
    · rename_i h2
      split
      · exact h
      · rename_i h3
        have b1 := there_all (not_bool h1)
        have b2 := of_all (not_bool h2) c (by simp)
        have b3 := of_all (not_bool h3) b (by simp)
        refine h.put ⟨b1, by simp, by simp, by simp, by simp, by simp, fun _ => ⟨rfl, b2, fun k h0 hk => ?_⟩, by simp, by simp, by simp⟩
        have hk' : k < 3 := hk
        rcases k with _ | _ | _ | k
        · omega
        · rfl
        · exact b3
        · omega
theorem Good.app_ {S : List NodeM} (h : Good S) (f s : Int) (xs : List Int) : Good (appM S f s xs).2.2 := by
  unfold appM
  split
  · exact h
  · split
    · exact h
    · split
      · exact h
      · rename_i h1
        split
        · exact h
        · exact h.put ⟨there_all (not_bool h1), by simp, by simp, by simp, by simp, by simp, by simp, by simp, by simp, by simp⟩
theorem Good.num_ {S : List NodeM} (h : Good S) (n : Int) : Good (numM S n).2.2 := by
  unfold numM
  split
  · exact h
  · exact h.put ⟨by simp, by simp, by simp, by simp, by simp, by simp, by simp, by simp, by simp, by simp⟩
theorem split_base {S : List NodeM} (h : Good S) {a : Int} (e : (splitM S a).2.2 = 0) : hasM S (splitM S a).1 = true ∧ sortM S (splitM S a).1 = 1 ∧ (isBase S (splitM S a).1 ∨ (splitM S a).1 = 2) := by
  unfold splitM at e ⊢
  split at e
  · simp at e
  · rename_i h1
    have hh : hasM S a = true := by simpa [thereM] using h1
    split at e
    · simp at e
    · rename_i h2
      rw [if_neg h1, if_neg h2]
      have h2' : sortM S a = 1 := by simpa using h2
      have hok := h.ok _ _ (getD_mem hh).2.1
      split
      · have := has_two h
        exact ⟨this.1, by unfold sortM; rw [this.2], .inr rfl⟩
      · rename_i h3
        split
        · rename_i h4
          have hp := hok.plus h4
          have hin := getD_in (l := (nodeM S a).args) (k := 0) (by omega)
          exact ⟨hok.has _ hin, (hp.2 _ hin).1, .inl (hp.2 _ hin).2⟩
        · rename_i h4
          exact ⟨hh, h2', .inl ⟨h3, h4⟩⟩
theorem Good.plus_ {S : List NodeM} (h : Good S) (a n : Int) : Good (plusM S a n).2.2 := by
  unfold plusM
  split
  · exact h
  · rename_i h1
    split
    · exact h
    · split
      · exact h
      · split
        · exact h.num_ _
        · rename_i h4
          split
          · exact h
          · have hb := split_base h (a := a) (by simpa using h1)
            refine h.put ⟨fun x hx => ?_, by simp, by simp, by simp, fun _ => ⟨rfl, fun x hx => ?_⟩, by simp, by simp, by simp, by simp, by simp⟩
            · rw [List.mem_singleton.1 hx]
              exact hb.1
            · rw [List.mem_singleton.1 hx]
              exact ⟨hb.2.1, hb.2.2.resolve_right h4⟩
theorem Good.le_ {S : List NodeM} (h : Good S) (a b n : Int) : Good (leM S a b n).2.2 := by
  unfold leM
  split
  · exact h
  · split
    · exact h
    · rename_i h1
      split
      · exact h
      · rename_i h2
        split
        · exact h
        · split
          · exact h
          · split
            · split
              · exact h
              · exact h
            · have ha := split_base h (a := a) (by simpa using h1)
              have hb := split_base h (a := b) (by simpa using h2)
              refine h.put ⟨fun x hx => ?_, by simp, by simp, by simp, by simp, fun _ => ⟨rfl, fun x hx => ?_⟩, by simp, by simp, by simp, by simp⟩
              · have hx' : x = (splitM S a).1 ∨ x = (splitM S b).1 := by simpa using hx
                rcases hx' with rfl | rfl
                · exact ha.1
                · exact hb.1
              · have hx' : x = (splitM S a).1 ∨ x = (splitM S b).1 := by simpa using hx
                rcases hx' with rfl | rfl
                · exact ha.2
                · exact hb.2
open Go.Proofs.Ytmgbodmpjholiaa.BT in
theorem Good.made {S : List NodeM} (h : Good S) (o : OpM) : Good (madeM S o).2.2 := by
  unfold madeM
  split
  · exact h.not_ _
  · split
    · exact h.many_ 10 0 (.inl rfl) _
    · split
      · exact h.many_ 11 1 (.inr rfl) _
      · split
        · exact h.eq_ _ _
        · split
          · exact h.ite_ _ _ _
          · split
            · exact h.app_ _ _ _
            · split
              · exact h.num_ _
              · split
                · exact h.plus_ _ _
                · split
                  · exact h.le_ _ _ _
                  · exact h
end Go.Proofs.Ytmgbodmpjholiaa.TM
