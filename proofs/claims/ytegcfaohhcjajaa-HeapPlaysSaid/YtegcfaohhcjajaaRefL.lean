/- The document's heap and the heap: plain law. -/
import Derived.Test.YtegcfaohhcjajaaRefF
import Derived.Test.YtegcfaohhcjajaaHeapSort
namespace Go.Proofs.Ytegcfaohhcjajaa.RH
open Go.Proofs.Ytegcfaohhcjajaa.HM
set_option linter.unusedVariables false

/-- One state of both. -/
structure Rel (s : HS) (W : List Int) (I : List Bool) : Prop where
  w : s.w = W
  len : I.length = W.length
  ins : ∀ x, x < W.length → (I.getD x false = true ↔ In s x)
variable {s : HS} {W : List Int} {I : List Bool}
theorem firstD_spec (W : List Int) (I : List Bool) (k : Nat) : (firstD W I k = -1 ∧ ∀ x, x < k → I.getD x false = false) ∨ ∃ j : Nat, firstD W I k = (j : Int) ∧ j < k ∧ I.getD j false = true ∧ ∀ x, x < k → I.getD x false = true → x ≠ j → lt W j x := by
  induction k with
  | zero => exact .inl ⟨rfl, fun x hx => by omega⟩
  | succ k ih =>
    rw [firstD]
    cases hb : I.getD k false with
    | false =>
      rw [if_neg (by simp)]
      rcases ih with ⟨h1, h2⟩ | ⟨j, h1, h2, h3, h4⟩
      · refine .inl ⟨h1, fun x hx => ?_⟩
        by_cases e : x = k
        · rw [e]; exact hb
        · exact h2 x (by omega)
      · refine .inr ⟨j, h1, by omega, h3, fun x hx hi hne => ?_⟩
        by_cases e : x = k
        · rw [e, hb] at hi; cases hi
        · exact h4 x (by omega) hi hne
    | true =>
      rcases ih with ⟨h1, h2⟩ | ⟨j, h1, h2, h3, h4⟩
      · rw [if_pos ⟨rfl, .inl (by rw [h1]; decide)⟩]
        exact .inr ⟨k, rfl, by omega, hb, fun x hx hi hne => by rw [h2 x (by omega)] at hi; cases hi⟩
      · rw [h1, Int.toNat_natCast]
        by_cases c : W.getD k 0 > W.getD j 0
        · rw [if_pos ⟨rfl, .inr c⟩]
          refine .inr ⟨k, rfl, by omega, hb, fun x hx hi hne => ?_⟩
          by_cases e : x = j
          · subst e; exact .inl c
          · exact lt_trans (.inl c) (h4 x (by omega) hi e)
        · rw [if_neg (fun q => q.2.elim (fun q => by omega) c)]
          refine .inr ⟨j, rfl, by omega, h3, fun x hx hi hne => ?_⟩
          by_cases e : x = k
          · subst e
            unfold lt
            omega
          · exact h4 x (by omega) hi hne
theorem Rel.first (hg : HM.Good s) (h : Rel s W I) (h0 : 0 < s.r.length) : firstD W I W.length = (R s 0 : Nat) := by
  have hin := hg.row_in h0
  have hl : R s 0 < W.length := by rw [← h.w]; exact hin.1
  rcases firstD_spec W I W.length with ⟨_, h2⟩ | ⟨j, h1, h2, h3, h4⟩
  · have := h2 _ hl
    rw [(h.ins _ hl).2 hin] at this
    cases this
  · rw [h1]
    by_cases e : j = R s 0
    · rw [e]
    · have a1 := hg.top h0 ((h.ins j h2).1 h3) e
      have a2 := h4 _ hl ((h.ins _ hl).2 hin) (fun q => e q.symm)
      rw [h.w] at a1
      exact absurd a1 (lt_asymm a2)
theorem Rel.none (hg : HM.Good s) (h : Rel s W I) (h0 : s.r.length = 0) : firstD W I W.length = -1 := by
  rcases firstD_spec W I W.length with ⟨h1, _⟩ | ⟨j, h1, h2, h3, h4⟩
  · exact h1
  · obtain ⟨i, hi, _⟩ := hg.in_row ((h.ins j h2).1 h3)
    omega
theorem getD_set_bool (l : List Bool) (i j : Nat) (b : Bool) (h : i < l.length) : (l.set i b).getD j false = if i = j then b else l.getD j false := by
  simp only [List.getD_eq_getElem?_getD, List.getElem?_set]
  by_cases e : i = j
  · rw [if_pos e, if_pos e, if_pos h]; rfl
  · rw [if_neg e, if_neg e]
theorem Rel.put {s' : HS} (h : Rel s W I) (x : Nat) (hx : x < W.length) (hw : s'.w = s.w) (hin : ∀ y, y < s.w.length → (In s' y ↔ In s y ∨ y = x)) : Rel s' W (I.set x true) where
  w := hw.trans h.w
  len := by simp [h.len]
  ins := fun y hy => by
    rw [getD_set_bool _ _ _ _ (by rw [h.len]; exact hx), hin y (by rw [h.w]; exact hy)]
    by_cases e : x = y
    · rw [if_pos e]; exact ⟨fun _ => .inr e.symm, fun _ => rfl⟩
    · rw [if_neg e, h.ins y hy]
      exact ⟨.inl, fun q => q.elim id (fun q => absurd q.symm e)⟩
theorem Rel.out {s' : HS} (h : Rel s W I) (x : Nat) (hx : x < W.length) (hw : s'.w = s.w) (hin : ∀ y, y < s.w.length → (In s' y ↔ In s y ∧ y ≠ x)) : Rel s' W (I.set x false) where
  w := hw.trans h.w
  len := by simp [h.len]
  ins := fun y hy => by
    rw [getD_set_bool _ _ _ _ (by rw [h.len]; exact hx), hin y (by rw [h.w]; exact hy)]
    by_cases e : x = y
    · rw [if_pos e]; exact ⟨(fun q => by cases q), fun q => absurd e.symm q.2⟩
    · rw [if_neg e, h.ins y hy]
      exact ⟨fun q => ⟨q, fun q => e q.symm⟩, And.left⟩
theorem Rel.weights {s' : HS} {W' : List Int} (h : Rel s W I) (hw : s'.w = W') (hl : W'.length = W.length) (hin : ∀ y, 0 ≤ P s' y ↔ 0 ≤ P s y) : Rel s' W' I where
  w := hw
  len := by rw [h.len, hl]
  ins := fun y hy => by
    rw [h.ins y (by omega)]
    unfold In
    rw [hw, h.w, hl, hin]
theorem popM_in (hg : HM.Good s) (h0 : 0 < s.r.length) (x : Nat) : In (popM s) x ↔ In s x ∧ x ≠ R s 0 := by
  obtain ⟨_, g2, _, g4⟩ := pop_good hg h0
  unfold In
  rw [g2]
  exact ⟨fun h => ⟨⟨h.1, ((g4 x h.1).1 h.2).1⟩, ((g4 x h.1).1 h.2).2⟩, fun h => ⟨h.1.1, (g4 x h.1.1).2 ⟨h.1.2, h.2⟩⟩⟩
end Go.Proofs.Ytegcfaohhcjajaa.RH
