/- Rows of calls in memory (printed by wip/tools/ops.py). -/
import Derived.Test.YtmgbodmpjholiaaMade
namespace Go.Proofs.Ytmgbodmpjholiaa.BT
open Go.RowKit Go.Maps Go.Proofs.YtmgbodmpjholiaaW.PrintWords Go.Proofs.Ytmgbodmpjholiaa.MM Go.Proofs.Ytmgbodmpjholiaa.KM Go.Proofs.Ytmgbodmpjholiaa.TM
set_option linter.unusedVariables false
def flatO : List OpM → List Value → List Value
  | n :: ns, x :: xs => opCells n x ++ flatO ns xs
  | _, _ => []
theorem flatO_snoc (n : OpM) (x : Value) : ∀ (l : List OpM) (vs : List Value), vs.length = l.length → flatO (l ++ [n]) (vs ++ [x]) = flatO l vs ++ opCells n x
  | [], [], _ => by simp [flatO]
  | m :: l, y :: vs, h => by
    simp only [List.cons_append, flatO]
    rw [flatO_snoc n x l vs (by simpa using h)]
    simp
  | [], y :: vs, h => by simp at h
  | m :: l, [], h => by simp at h
theorem flatO_get : ∀ (l : List OpM) (vs : List Value) (i j : Nat) (n : OpM) (x : Value), l[i]? = some n → vs[i]? = some x → j < 9 → (flatO l vs)[i * 9 + j]? = (opCells n x)[j]?
  | m :: l, y :: vs, 0, j, n, x, h1, h2, hj => by
    cases h1
    cases h2
    simp only [flatO]
    rw [List.getElem?_append_left (by simp; omega)]
    simp
  | m :: l, y :: vs, i + 1, j, n, x, h1, h2, hj => by
    simp only [flatO]
    rw [List.getElem?_append_right (by simp; omega)]
    have := flatO_get l vs i j n x (by simpa using h1) (by simpa using h2) hj
    rw [← this]
    congr 1
    simp
    omega
  | [], _, i, j, n, x, h1, h2, hj => by simp at h1
  | m :: l, [], i, j, n, x, h1, h2, hj => by simp at h2
/-- The slice v shows the calls; their terms' rows lie in A. -/
structure Opers (w : World) (v : Value) (l : List OpM) (A : Nat → Prop) : Prop where
  own : ∃ vs, vs.length = l.length ∧ w.ownsRow 0 45 9 v l.length (flatO l vs) ∧ ∀ (i : Nat) (n : OpM) (x : Value), l[i]? = some n → vs[i]? = some x → Row w 26 x (lits n.L) ∧ ∀ g, x.ownBlock = some g → A g
  ap : ∀ g, v.ownBlock = some g → ¬ A g
  old : ∀ g, A g → g < w.heap.size
variable {w w1 : World} {v : Value} {l : List OpM} {A G : Nat → Prop}
theorem Opers.keep (h : Opers w v l A) (hk : Keep G w w1) (hv : ∀ g, v.ownBlock = some g → ¬ G g) (hA : ∀ g, A g → ¬ G g) : Opers w1 v l A where
  own := by
    obtain ⟨vs, h1, h2, h3⟩ := h.own
    refine ⟨vs, h1, TM.own_move h2 fun g hg => hk.block g (h2.lt g hg).2 (hv g hg), fun i n x hn hx => ?_⟩
    obtain ⟨h4, h5⟩ := h3 i n x hn hx
    exact ⟨h4.keep hk fun g hg => hA g (h5 g hg), h5⟩
  ap := h.ap
  old := fun g hg => Nat.lt_of_lt_of_le (h.old g hg) hk.size
theorem Opers.below (h : Opers w v l A) (hb : Below w.heap.size w w1) : Opers w1 v l A := h.keep (Keep.ofBelow (F := fun _ => False) hb) (fun _ _ h => h) (fun _ _ h => h)
theorem Opers.lt (h : Opers w v l A) : ∀ g, v.ownBlock = some g → g < w.heap.size := by
  obtain ⟨vs, _, h2, _⟩ := h.own
  exact fun g hg => (h2.lt g hg).2
theorem Opers.shape (h : Opers w v l A) : ∃ a c, v = .slice a l.length c := by
  obtain ⟨vs, _, h2, _⟩ := h.own
  rcases h2.2 with ⟨rfl, h0⟩ | ⟨g, cap, cur, rfl, _⟩
  · exact ⟨none, 0, by rw [h0]⟩
  · exact ⟨_, _, rfl⟩
theorem Opers.typed (h : Opers w v l A) : ∀ g, v.ownBlock = some g → ∃ cur, w.heap[g]? = some (.cells cur 45 (0, 0)) := by
  obtain ⟨vs, _, h2, _⟩ := h.own
  rcases h2.2 with ⟨rfl, h0⟩ | ⟨g, cap, cur, rfl, _, hg, _⟩
  · intro g hg; cases hg
  · intro g' hg'
    cases hg'
    exact ⟨cur, hg⟩
/-- A call's cells. -/
theorem Opers.cells (h : Opers w v l A) {i : Nat} {n : OpM} (hi : l[i]? = some n) : ∃ g cap x, v = .slice (some ⟨g, 0, none⟩) l.length cap ∧ g < w.heap.size ∧ (∀ j u, (opCells n x)[j]? = some u → w.cell? ⟨g, i * 9 + j, none⟩ = some u) ∧ Row w 26 x (lits n.L) ∧ (∀ g, x.ownBlock = some g → A g) := by
  obtain ⟨vs, h1, h2, h3⟩ := h.own
  have hl := (List.getElem?_eq_some_iff.1 hi).1
  obtain ⟨x, hx⟩ : ∃ x, vs[i]? = some x := ⟨vs[i]'(by omega), List.getElem?_eq_getElem (by omega)⟩
  obtain ⟨h4, h5⟩ := h3 i n x hi hx
  rcases h2.2 with ⟨rfl, h0⟩ | ⟨g, cap, cur, rfl, _, hg, _⟩
  · omega
  · refine ⟨g, cap, x, rfl, blk_lt hg, fun j u hu => ?_, h4, h5⟩
    have := h2.cells (g := g) rfl (i * 9 + j) u (by
      have hj : j < 9 := by
        have := (List.getElem?_eq_some_iff.1 hu).1
        simpa using this
      rw [flatO_get l vs i j n x hi hx hj]
      exact hu)
    rw [← this, Addr.add_lit]
    simp
/-- A call more. -/
theorem Opers.push {w2 : World} {v' x : Value} {n : OpM} (h : Opers w v l A) (hk : Keep (fun k => v.ownBlock = some k) w w2) (vs : List Value) (h1 : vs.length = l.length)
    (hrows : ∀ (i : Nat) (n : OpM) (x : Value), l[i]? = some n → vs[i]? = some x → Row w 26 x (lits n.L) ∧ ∀ g, x.ownBlock = some g → A g)
    (hown : w2.ownsRow 0 45 9 v' (l.length + 1) (flatO l vs ++ opCells n x)) (hat : ∀ g, v'.ownBlock = some g → v.ownBlock = some g ∨ w.heap.size ≤ g)
    (hx : Row w 26 x (lits n.L)) (hvx : ∀ g, x.ownBlock = some g → v.ownBlock ≠ some g) : Opers w2 v' (l ++ [n]) (fun g => A g ∨ x.ownBlock = some g) where
  own := by
    refine ⟨vs ++ [x], by simp [h1], ?_, fun i m y hm hy => ?_⟩
    · rw [flatO_snoc n x l vs h1, List.length_append, List.length_singleton]
      exact hown
    · rcases Nat.lt_or_ge i l.length with hi | hi
      · rw [List.getElem?_append_left hi] at hm
        rw [List.getElem?_append_left (by omega)] at hy
        obtain ⟨h4, h5⟩ := hrows i m y hm hy
        exact ⟨h4.keep hk fun g hg e => h.ap g e (h5 g hg), fun g hg => .inl (h5 g hg)⟩
      · have hi' : i = l.length := by
          have := (List.getElem?_eq_some_iff.1 hm).1
          simp at this
          omega
        subst hi'
        rw [List.getElem?_append_right (Nat.le_refl _)] at hm
        rw [← h1, List.getElem?_append_right (Nat.le_refl _)] at hy
        have hm' : n = m := by simpa using hm
        have hy' : x = y := by simpa using hy
        subst hm' hy'
        exact ⟨hx.keep hk fun g hg => hvx g hg, fun g hg => .inr hg⟩
  ap := fun g hg hA => by
    rcases hat g hg with h2 | h2
    · rcases hA with h3 | h3
      · exact h.ap g h2 h3
      · exact hvx g h3 h2
    · rcases hA with h3 | h3
      · have := h.old g h3
        omega
      · have := hx.lt g h3
        omega
  old := fun g hg => by
    rcases hg with h3 | h3
    · exact Nat.lt_of_lt_of_le (h.old g h3) hk.size
    · exact Nat.lt_of_lt_of_le (hx.lt g h3) hk.size

end Go.Proofs.Ytmgbodmpjholiaa.BT
