/- The stores of terms in memory: nodes with their arguments' rows, both maps; what calls leave. -/
import Derived.Test.YtmgbodmpjholiaaTermK
import Derived.Test.YtmgbodmpjholiaaOb
import Derived.Laws.AppendOwn
namespace Go.Proofs.Ytmgbodmpjholiaa.TM
open Go.RowKit Go.Maps Go.Proofs.YtmgbodmpjholiaaW.PrintWords Go.Proofs.Ytmgbodmpjholiaa.MM Go.Proofs.Ytmgbodmpjholiaa.KM
set_option linter.unusedVariables false

abbrev ptr (t : Nat) : Value := .pointer (some ⟨t, 0, none⟩)
/-- A node's cells, its arguments' slice. -/
abbrev head (n : NodeM) (x : Value) : List Value := [.int .u8 n.op, .int .i64 n.fn, .int .i64 n.num, .int .i64 n.sort, x]
def flat : List NodeM → List Value → List Value
  | n :: ns, x :: xs => head n x ++ flat ns xs
  | _, _ => []
theorem flat_snoc (n : NodeM) (x : Value) : ∀ (l : List NodeM) (vs : List Value), vs.length = l.length → flat (l ++ [n]) (vs ++ [x]) = flat l vs ++ head n x
  | [], [], _ => by simp [flat]
  | m :: l, y :: vs, h => by
    simp only [List.cons_append, flat]
    rw [flat_snoc n x l vs (by simpa using h)]
    simp
  | [], y :: vs, h => by simp at h
  | m :: l, [], h => by simp at h
theorem flat_get : ∀ (l : List NodeM) (vs : List Value) (i j : Nat) (n : NodeM) (x : Value), l[i]? = some n → vs[i]? = some x → j < 5 → (flat l vs)[i * 5 + j]? = (head n x)[j]?
  | m :: l, y :: vs, 0, j, n, x, h1, h2, hj => by
    cases h1
    cases h2
    simp only [flat]
    rw [List.getElem?_append_left (by simp; omega)]
    simp
  | m :: l, y :: vs, i + 1, j, n, x, h1, h2, hj => by
    simp only [flat]
    rw [List.getElem?_append_right (by simp; omega)]
    have := flat_get l vs i j n x (by simpa using h1) (by simpa using h2) hj
    rw [← this]
    congr 1
    simp
    omega
  | [], _, i, j, n, x, h1, h2, hj => by simp at h1
  | m :: l, [], i, j, n, x, h1, h2, hj => by simp at h2
theorem own_move {w w1 : World} {base : Nat} {e : TypeId} {size n : Nat} {v : Value} {xs : List Value} (h : w.ownsRow base e size v n xs) (hb : ∀ g, v.ownBlock = some g → w1.heap[g]? = w.heap[g]?) : w1.ownsRow base e size v n xs := by
  obtain ⟨h0, h⟩ := h
  refine ⟨h0, ?_⟩
  rcases h with h | ⟨g, cap, cur, rfl, h1, hg, h2⟩
  · exact .inl h
  · exact .inr ⟨g, cap, cur, rfl, h1, (hb g rfl).trans hg, h2⟩
/-- The slice v shows the nodes; their arguments' rows lie in A. -/
structure Nodes (w : World) (v : Value) (l : List NodeM) (A : Nat → Prop) : Prop where
  own : ∃ vs, vs.length = l.length ∧ w.ownsRow 0 54 5 v l.length (flat l vs) ∧ ∀ (i : Nat) (n : NodeM) (x : Value), l[i]? = some n → vs[i]? = some x → Row w 26 x (lits n.args) ∧ ∀ g, x.ownBlock = some g → A g
  ap : ∀ g, v.ownBlock = some g → ¬ A g
  old : ∀ g, A g → g < w.heap.size
variable {w w1 : World} {v : Value} {l : List NodeM} {A G : Nat → Prop}
theorem Nodes.keep (h : Nodes w v l A) (hk : Keep G w w1) (hv : ∀ g, v.ownBlock = some g → ¬ G g) (hA : ∀ g, A g → ¬ G g) : Nodes w1 v l A where
  own := by
    obtain ⟨vs, h1, h2, h3⟩ := h.own
    refine ⟨vs, h1, own_move h2 fun g hg => hk.block g (h2.lt g hg).2 (hv g hg), fun i n x hn hx => ?_⟩
    obtain ⟨h4, h5⟩ := h3 i n x hn hx
    exact ⟨h4.keep hk fun g hg => hA g (h5 g hg), h5⟩
  ap := h.ap
  old := fun g hg => Nat.lt_of_lt_of_le (h.old g hg) hk.size
theorem Nodes.below (h : Nodes w v l A) (hb : Below w.heap.size w w1) : Nodes w1 v l A := h.keep (Keep.ofBelow (F := fun _ => False) hb) (fun _ _ h => h) (fun _ _ h => h)
theorem Nodes.lt (h : Nodes w v l A) : ∀ g, v.ownBlock = some g → g < w.heap.size := by
  obtain ⟨vs, _, h2, _⟩ := h.own
  exact fun g hg => (h2.lt g hg).2
theorem Nodes.shape (h : Nodes w v l A) : ∃ a c, v = .slice a l.length c := by
  obtain ⟨vs, _, h2, _⟩ := h.own
  rcases h2.2 with ⟨rfl, h0⟩ | ⟨g, cap, cur, rfl, _⟩
  · exact ⟨none, 0, by rw [h0]⟩
  · exact ⟨_, _, rfl⟩
theorem Nodes.typed (h : Nodes w v l A) : ∀ g, v.ownBlock = some g → ∃ cur, w.heap[g]? = some (.cells cur 54 (0, 0)) := by
  obtain ⟨vs, _, h2, _⟩ := h.own
  rcases h2.2 with ⟨rfl, h0⟩ | ⟨g, cap, cur, rfl, _, hg, _⟩
  · intro g hg; cases hg
  · intro g' hg'
    cases hg'
    exact ⟨cur, hg⟩
/-- A node's cells. -/
theorem Nodes.cells (h : Nodes w v l A) {i : Nat} {n : NodeM} (hi : l[i]? = some n) : ∃ g cap x, v = .slice (some ⟨g, 0, none⟩) l.length cap ∧ g < w.heap.size ∧ (∀ j u, (head n x)[j]? = some u → w.cell? ⟨g, i * 5 + j, none⟩ = some u) ∧ Row w 26 x (lits n.args) ∧ (∀ g, x.ownBlock = some g → A g) := by
  obtain ⟨vs, h1, h2, h3⟩ := h.own
  have hl := (List.getElem?_eq_some_iff.1 hi).1
  obtain ⟨x, hx⟩ : ∃ x, vs[i]? = some x := ⟨vs[i]'(by omega), List.getElem?_eq_getElem (by omega)⟩
  obtain ⟨h4, h5⟩ := h3 i n x hi hx
  rcases h2.2 with ⟨rfl, h0⟩ | ⟨g, cap, cur, rfl, _, hg, _⟩
  · omega
  · refine ⟨g, cap, x, rfl, blk_lt hg, fun j u hu => ?_, h4, h5⟩
    have := h2.cells (g := g) rfl (i * 5 + j) u (by
      have hj : j < 5 := by
        have := (List.getElem?_eq_some_iff.1 hu).1
        simpa using this
      rw [flat_get l vs i j n x hi hx hj]
      exact hu)
    rw [← this, Addr.add_lit]
    simp
/-- A node more. -/
theorem Nodes.push {w2 : World} {v' x : Value} {n : NodeM} (h : Nodes w v l A) (hk : Keep (fun k => v.ownBlock = some k) w w2) (vs : List Value) (h1 : vs.length = l.length)
    (hrows : ∀ (i : Nat) (n : NodeM) (x : Value), l[i]? = some n → vs[i]? = some x → Row w 26 x (lits n.args) ∧ ∀ g, x.ownBlock = some g → A g)
    (hown : w2.ownsRow 0 54 5 v' (l.length + 1) (flat l vs ++ head n x)) (hat : ∀ g, v'.ownBlock = some g → v.ownBlock = some g ∨ w.heap.size ≤ g)
    (hx : Row w 26 x (lits n.args)) (hvx : ∀ g, x.ownBlock = some g → v.ownBlock ≠ some g) : Nodes w2 v' (l ++ [n]) (fun g => A g ∨ x.ownBlock = some g) where
  own := by
    refine ⟨vs ++ [x], by simp [h1], ?_, fun i m y hm hy => ?_⟩
    · rw [flat_snoc n x l vs h1, List.length_append, List.length_singleton]
      exact hown
    · rcases Nat.lt_or_ge i l.length with hi | hi
      · rw [List.getElem?_append_left hi] at hm
        rw [List.getElem?_append_left (by omega)] at hy
        obtain ⟨h4, h5⟩ := hrows i m y hm hy
        exact ⟨h4.keep hk fun g hg e => h.ap g e (h5 g hg), fun g hg => .inl (h5 g hg)⟩
      · have hi' : i = l.length := by
          have := (List.getElem?_eq_some_iff.1 hm).1
          simp at this
          omega
        subst hi'
        rw [List.getElem?_append_right (Nat.le_refl _)] at hm
        rw [← h1, List.getElem?_append_right (Nat.le_refl _)] at hy
        have hm' : n = m := by simpa using hm
        have hy' : x = y := by simpa using hy
        subst hm' hy'
        exact ⟨hx.keep hk fun g hg => hvx g hg, fun g hg => .inr hg⟩
  ap := fun g hg hA => by
    rcases hat g hg with h2 | h2
    · rcases hA with h3 | h3
      · exact h.ap g h2 h3
      · exact hvx g h3 h2
    · rcases hA with h3 | h3
      · have := h.old g h3
        omega
      · have := hx.lt g h3
        omega
  old := fun g hg => by
    rcases hg with h3 | h3
    · exact Nat.lt_of_lt_of_le (h.old g h3) hk.size
    · exact Nat.lt_of_lt_of_le (hx.lt g h3) hk.size

/-! ### The document's store -/
def Rs (w : World) (t : Nat) (l : List NodeM) (F : Nat → Prop) : Prop :=
  ∃ v A, w.heap[t]? = some (.cells #[v] 48 (0, 0)) ∧ Nodes w v l A ∧ ¬ A t ∧ F t ∧ (∀ g, v.ownBlock = some g → F g ∧ g ≠ t) ∧ (∀ g, A g → F g) ∧ (∀ g, F g → g < w.heap.size) ∧ Hid (Wf l)
/-! ### The program's store -/
abbrev tV (i : Nat) : Value := .int .i64 (i : Int)
structure StO (w : World) (t : Nat) (l : List NodeM) (q : Nat) (A : Nat → Prop) (v : Value) (b1 b2 : Nat) (L : CL) (g1 : KeyM → Option Nat) (g2 : Nat × Int → Option Nat) : Prop where
  blk : w.heap[t]? = some (.cells #[v, .map (some b1), .map (some b2)] 63 (0, 0))
  nodes : Nodes w v l A
  m1 : KMap Try.prog 79 keyV w b1 l.length (fun k => (g1 k).map tV)
  m2 : KMap Try.prog 82 cellV w b2 L.length (fun k => (g2 k).map tV)
  maps : Maps l L g1 g2
  ne : t ≠ b1 ∧ t ≠ b2 ∧ b1 ≠ b2
  nA : ¬ A t ∧ ¬ A b1 ∧ ¬ A b2
  nv : ∀ g, v.ownBlock = some g → g ≠ t ∧ g ≠ b1 ∧ g ≠ b2
  wf : Wf l
  lq : L.length ≤ q
def St (w : World) (t : Nat) (l : List NodeM) (q : Nat) (F : Nat → Prop) : Prop :=
  ∃ A v b1 b2 L g1 g2, StO w t l q A v b1 b2 L g1 g2 ∧ (F t ∧ F b1 ∧ F b2) ∧ (∀ g, v.ownBlock = some g → F g) ∧ (∀ g, A g → F g) ∧ ∀ g, F g → g < w.heap.size
/-- What a call leaves. -/
def LeftS (w : World) (t : Nat) (l : List NodeM) (q : Nat) (F : Nat → Prop) (w' : World) : Prop := ∃ F', St w' t l q F' ∧ Keep F w w' ∧ ∀ j, F' j → F j ∨ w.heap.size ≤ j
def LeftR (w : World) (t : Nat) (l : List NodeM) (F : Nat → Prop) (w' : World) : Prop := ∃ F', Rs w' t l F' ∧ Keep F w w' ∧ ∀ j, F' j → F j ∨ w.heap.size ≤ j
theorem Rs.keep {t : Nat} {F : Nat → Prop} (h : Rs w t l F) (hk : Keep G w w1) (hn : ∀ j, F j → ¬ G j) : Rs w1 t l F := by
  obtain ⟨v, A, h1, h2, h3, h4, h5, h6, h7, h8⟩ := h
  exact ⟨v, A, hk.blk h1 (hn _ h4), h2.keep hk (fun g hg => hn g (h5 g hg).1) (fun g hg => hn g (h6 g hg)), h3, h4, h5, h6, fun g hg => Nat.lt_of_lt_of_le (h7 g hg) hk.size, h8⟩
theorem Rs.below {t : Nat} {F : Nat → Prop} (h : Rs w t l F) (hb : Below w.heap.size w w1) : Rs w1 t l F := h.keep (Keep.ofBelow (F := fun _ => False) hb) (fun _ _ h => h)
theorem StO.keep {t q b1 b2 : Nat} {L : CL} {g1 : KeyM → Option Nat} {g2 : Nat × Int → Option Nat} (h : StO w t l q A v b1 b2 L g1 g2) (hk : Keep G w w1) (ht : ¬ G t ∧ ¬ G b1 ∧ ¬ G b2) (hv : ∀ g, v.ownBlock = some g → ¬ G g) (hA : ∀ g, A g → ¬ G g) : StO w1 t l q A v b1 b2 L g1 g2 where
  blk := hk.blk h.blk ht.1
  nodes := h.nodes.keep hk hv hA
  m1 := h.m1.move (hk.block _ h.m1.lt ht.2.1)
  m2 := h.m2.move (hk.block _ h.m2.lt ht.2.2)
  maps := h.maps
  ne := h.ne
  nA := h.nA
  nv := h.nv
  wf := h.wf
  lq := h.lq
theorem St.keep {t q : Nat} {F : Nat → Prop} (h : St w t l q F) (hk : Keep G w w1) (hn : ∀ j, F j → ¬ G j) : St w1 t l q F := by
  obtain ⟨A, v, b1, b2, L, g1, g2, h1, h2, h3, h4, h5⟩ := h
  exact ⟨A, v, b1, b2, L, g1, g2, h1.keep hk ⟨hn _ h2.1, hn _ h2.2.1, hn _ h2.2.2⟩ (fun g hg => hn g (h3 g hg)) (fun g hg => hn g (h4 g hg)), h2, h3, h4, fun g hg => Nat.lt_of_lt_of_le (h5 g hg) hk.size⟩
theorem St.below {t q : Nat} {F : Nat → Prop} (h : St w t l q F) (hb : Below w.heap.size w w1) : St w1 t l q F := h.keep (Keep.ofBelow (F := fun _ => False) hb) (fun _ _ h => h)
theorem St.more {t q q' : Nat} {F : Nat → Prop} (h : St w t l q F) (hq : q ≤ q') : St w t l q' F := by
  obtain ⟨A, v, b1, b2, L, g1, g2, h1, h2⟩ := h
  exact ⟨A, v, b1, b2, L, g1, g2, { h1 with lq := Nat.le_trans h1.lq hq }, h2⟩
theorem St.wf {t q : Nat} {F : Nat → Prop} (h : St w t l q F) : Wf l := by
  obtain ⟨A, v, b1, b2, L, g1, g2, h1, h2⟩ := h
  exact h1.wf
theorem Rs.wf {t : Nat} {F : Nat → Prop} (h : Rs w t l F) : Wf l := by
  obtain ⟨v, A, h1, h2, h3, h4, h5, h6, h7, h8⟩ := h
  exact h8.out
theorem LeftS.more {t q q' : Nat} {F : Nat → Prop} (h : LeftS w t l q F w1) (hq : q ≤ q') : LeftS w t l q' F w1 := by
  obtain ⟨F', h1, h2⟩ := h
  exact ⟨F', h1.more hq, h2⟩
theorem LeftS.below {w2 : World} {t q : Nat} {F : Nat → Prop} (hb : Below w.heap.size w w1) (h : LeftS w1 t l q F w2) : LeftS w t l q F w2 := by
  obtain ⟨F', h1, h2, h3⟩ := h
  refine ⟨F', h1, (Keep.ofBelow (F := F) hb).trans h2 (fun _ h => h) (fun _ h => .inl h), fun j hj => ?_⟩
  rcases h3 j hj with h4 | h4
  · exact .inl h4
  · exact .inr (Nat.le_trans hb.size h4)
theorem LeftR.below {w2 : World} {t : Nat} {F : Nat → Prop} (hb : Below w.heap.size w w1) (h : LeftR w1 t l F w2) : LeftR w t l F w2 := by
  obtain ⟨F', h1, h2, h3⟩ := h
  refine ⟨F', h1, (Keep.ofBelow (F := F) hb).trans h2 (fun _ h => h) (fun _ h => .inl h), fun j hj => ?_⟩
  rcases h3 j hj with h4 | h4
  · exact .inl h4
  · exact .inr (Nat.le_trans hb.size h4)
theorem LeftS.same {t q : Nat} {F : Nat → Prop} (h : St w t l q F) (hb : Below w.heap.size w w1) : LeftS w t l q F w1 := ⟨F, h.below hb, Keep.ofBelow hb, fun _ h => .inl h⟩
theorem LeftR.same {t : Nat} {F : Nat → Prop} (h : Rs w t l F) (hb : Below w.heap.size w w1) : LeftR w t l F w1 := ⟨F, h.below hb, Keep.ofBelow hb, fun _ h => .inl h⟩
theorem lits_get (l : List Int) (i : Nat) (h : i < l.length) : (lits l)[i]? = some (.int .i64 (l.getD i 0)) := by simp [lits, h]
theorem nodes_get {l : List NodeM} {x : Int} (h : hasM l x = true) : l[x.toNat]? = some (nodeM l x) := (getD_mem h).2.1
end Go.Proofs.Ytmgbodmpjholiaa.TM
