/- An object in memory: a struct whose first cells are slices, each with a row of its own; what stores leave. Over any program. -/
import Derived.Test.YtiajmgmidfinfaaMem
namespace Go.Proofs.Ytiajmgmidfinfaa.MM
open Go.RowKit Go.Proofs.YtiajmgmidfinfaaW.PrintWords
set_option linter.unusedVariables false

theorem hid {P : Prop} (h : P) : Hid P := h
abbrev lits (l : List Int) : List Value := l.map (Value.int .i64)
abbrev nats (l : List Nat) : List Value := l.map fun (n : Nat) => Value.int .i64 (n : Int)
abbrev at_ (hs : List Value) (i : Nat) : Value := hs.getD i undef
/-- The object at block t: cells cs; the first of them are slices that show the rows rs (type, elements); all of it lies in F. -/
structure Ob (ts : TypeId) (w : World) (t : Nat) (cs : List Value) (rs : List (TypeId × List Value)) (F : Nat → Prop) : Prop where
  blk : w.heap[t]? = some (.cells cs.toArray ts (0, 0))
  rows : ∀ i r, rs[i]? = some r → Row w r.1 (at_ cs i) r.2
  len : rs.length ≤ cs.length
  fp : F t
  fr : ∀ i r, rs[i]? = some r → ∀ j, (at_ cs i).ownBlock = some j → F j ∧ j ≠ t
  ap : ∀ i j ri rj, rs[i]? = some ri → rs[j]? = some rj → i ≠ j → ∀ g, (at_ cs i).ownBlock = some g → (at_ cs j).ownBlock ≠ some g
  old : ∀ j, F j → j < w.heap.size

variable {ts : TypeId} {w w1 w2 : World} {t : Nat} {cs : List Value} {rs : List (TypeId × List Value)} {F G : Nat → Prop}

theorem Ob.keep (h : Ob ts w t cs rs F) (hk : Keep G w w1) (hn : ∀ j, F j → ¬ G j) : Ob ts w1 t cs rs F where
  blk := hk.blk h.blk (hn _ h.fp)
  rows := fun i r hr => (h.rows i r hr).keep hk fun j hj => hn _ (h.fr i r hr j hj).1
  len := h.len
  fp := h.fp
  fr := h.fr
  ap := h.ap
  old := fun j hj => Nat.lt_of_lt_of_le (h.old j hj) hk.size
theorem Ob.drew (h : Ob ts w t cs rs F) : Ob ts w.drew t cs rs F := ⟨h.blk, h.rows, h.len, h.fp, h.fr, h.ap, h.old⟩
theorem Ob.below (h : Ob ts w t cs rs F) (hb : Below w.heap.size w w1) : Ob ts w1 t cs rs F :=
  h.keep (Keep.ofBelow (F := fun _ => False) hb) (fun _ _ h => h)
theorem Ob.cell (h : Ob ts w t cs rs F) (i : Nat) (v : Value) (hv : cs[i]? = some v) : w.cell? ⟨t, i, none⟩ = some v := by
  rw [blk_cell h.blk]
  simpa using hv
theorem Ob.frozen (h : Ob ts w t cs rs F) (i : Nat) : w.frozen? ⟨t, i, none⟩ = false := blk_frozen h.blk i
theorem Ob.row (h : Ob ts w t cs rs F) (i : Nat) (e : TypeId) (xs : List Value) (v : Value) (hr : rs[i]? = some (e, xs)) (hv : cs[i]? = some v) : Row w e v xs := by
  have := h.rows i _ hr
  rwa [show at_ cs i = v from by simp [at_, List.getD_eq_getElem?_getD, hv]] at this

theorem setCell_keep (w : World) (p i : Nat) (u : Value) : Keep (fun j => j = p) w (w.setCell ⟨p, i, none⟩ u) :=
  ⟨rfl, rfl, rfl, by simp [World.setCell], fun k _ hk => Below.heap_setCell w ⟨p, i, none⟩ u k (fun e => hk e)⟩
theorem at_set {cs : List Value} {i j : Nat} {v : Value} (hi : i < cs.length) : at_ (cs.set i v) j = if i = j then v else at_ cs j := by
  unfold at_
  rw [List.getD_eq_getElem?_getD, List.getD_eq_getElem?_getD, List.getElem?_set]
  split
  · rename_i e
    subst e
    try rw [if_pos hi]
    rfl
  · rfl

/-- The front of a slice. -/
theorem Row.front {w : World} {e : TypeId} {A : Option Addr} {n c : Nat} {xs : List Value} (h : Row w e (.slice A n c) xs) (k : Nat) (hk : k ≤ xs.length) : Row w e (.slice A k c) (xs.take k) := by
  rcases h with ⟨hv, rfl⟩ | ⟨g, off, cap, cur, hv, hg, h1, h2, h3, h4⟩
  · injection hv with a1 a2 a3
    subst a1 a3
    obtain rfl : k = 0 := by simpa using hk
    exact .inl ⟨rfl, rfl⟩
  · injection hv with a1 _ a3
    subst a1 a3
    have hl : (xs.take k).length = k := by rw [List.length_take]; omega
    refine .inr ⟨g, off, c, cur, by rw [hl], hg, by omega, h2, h3, ?_⟩
    rw [hl]
    have : xs.take k = ((cur.toList.drop off).take xs.length).take k := by rw [h4]
    rw [this, List.take_take, Nat.min_eq_left hk]
/-- .. and no room behind it. -/
theorem Row.trim {w : World} {e : TypeId} {A : Option Addr} {n c : Nat} {xs : List Value} (h : Row w e (.slice A n c) xs) (k : Nat) (hk : k ≤ xs.length) : Row w e (.slice A k k) (xs.take k) := by
  rcases h.front k hk with ⟨hv, h0⟩ | ⟨g, off, cap, cur, hv, hg, h1, h2, h3, h4⟩
  · injection hv with a1 a2 a3
    subst a1 a2
    exact .inl ⟨rfl, h0⟩
  · injection hv with a1 a2 a3
    subst a1
    exact .inr ⟨g, off, k, cur, by rw [← a2], hg, by omega, by omega, by omega, h4⟩
/-- A slice of it that has turned is stored. -/
theorem Ob.turn (h : Ob ts w t cs rs F) (i : Nat) (e e' : TypeId) (xs xs' : List Value) (v v' : Value) (hr : rs[i]? = some (e, xs)) (hv : cs[i]? = some v)
    (hk : Keep (fun k => v.ownBlock = some k) w w1) (hrow : Row w1 e' v' xs') (hat : v'.ownBlock = none ∨ v'.ownBlock = v.ownBlock ∨ ∃ b, v'.ownBlock = some b ∧ w.heap.size ≤ b) :
    Ob ts (w1.setCell ⟨t, i, none⟩ v') t (cs.set i v') (rs.set i (e', xs')) (fun j => F j ∨ w.heap.size ≤ j ∧ j < w1.heap.size) ∧ Keep F w (w1.setCell ⟨t, i, none⟩ v') := by
  have ks := setCell_keep w1 t i v'
  have hvi : at_ cs i = v := by simp [at_, List.getD_eq_getElem?_getD, hv]
  have hil : i < cs.length := (List.getElem?_eq_some_iff.1 hv).1
  have hirl : i < rs.length := (List.getElem?_eq_some_iff.1 hr).1
  have hfv : ∀ j, v.ownBlock = some j → F j ∧ j ≠ t := fun j hj => h.fr i _ hr j (by rw [hvi]; exact hj)
  have hb1 : w1.heap[t]? = some (.cells cs.toArray ts (0, 0)) := hk.blk h.blk fun e => (hfv t e).2 rfl
  have htl := blk_lt h.blk
  have hv' : ∀ j, v'.ownBlock = some j → j ≠ t ∧ j < w1.heap.size ∧ (F j ∨ w.heap.size ≤ j) := by
    intro j hj
    refine ⟨?_, hrow.lt j hj, ?_⟩
    · rcases hat with e | e | ⟨b, e, hb⟩
      · rw [e] at hj; cases hj
      · exact (hfv j (e ▸ hj)).2
      · rw [e] at hj; cases hj; omega
    · rcases hat with e | e | ⟨b, e, hb⟩
      · rw [e] at hj; cases hj
      · exact .inl (hfv j (e ▸ hj)).1
      · rw [e] at hj; cases hj; exact .inr hb
  have hap' : ∀ m r, rs[m]? = some r → m ≠ i → ∀ g, (at_ cs m).ownBlock = some g → v'.ownBlock ≠ some g := by
    intro m r hm hmi g hg hg'
    rcases hat with e | e | ⟨b, e, hb⟩
    · rw [e] at hg'; cases hg'
    · exact h.ap m i _ _ hm hr hmi g hg (by rw [hvi, ← e]; exact hg')
    · rw [e] at hg'
      cases hg'
      have := h.old _ (h.fr m r hm _ hg).1
      omega
  refine ⟨⟨?_, fun m r hm => ?_, by simpa using h.len, .inl h.fp, fun m r hm j hj => ?_, fun m n rm rn hm hn hmn g hg => ?_, fun j hj => ?_⟩, ?_⟩
  · rw [blk_set hb1]
    simp
  · rw [List.getElem?_set] at hm
    rw [at_set hil]
    split at hm
    · rename_i e1
      try rw [if_pos hirl] at hm
      cases hm
      rw [if_pos e1]
      exact hrow.keep ks fun j hj => (hv' j hj).1
    · rename_i e1
      rw [if_neg e1]
      exact ((h.rows m r hm).keep hk fun j hj e2 => h.ap m i _ _ hm hr (fun e3 => e1 e3.symm) j hj (by rw [hvi]; exact e2)).keep ks fun j hj => (h.fr m r hm j hj).2
  · rw [List.getElem?_set] at hm
    rw [at_set hil] at hj
    split at hm
    · rename_i e1
      rw [if_pos e1] at hj
      obtain ⟨a1, a2, a3⟩ := hv' j hj
      exact ⟨a3.imp id fun a => ⟨a, a2⟩, a1⟩
    · rename_i e1
      rw [if_neg e1] at hj
      exact ⟨.inl (h.fr m r hm j hj).1, (h.fr m r hm j hj).2⟩
  · rw [List.getElem?_set] at hm hn
    rw [at_set hil] at hg ⊢
    by_cases e1 : i = m
    · rw [if_pos e1] at hg
      by_cases e2 : i = n
      · exact absurd (e1.symm.trans e2) hmn
      · rw [if_neg e2] at hn ⊢
        intro hg'
        exact hap' n rn hn (fun e3 => e2 e3.symm) g hg' hg
    · rw [if_neg e1] at hg hm
      by_cases e2 : i = n
      · rw [if_pos e2]
        exact hap' m rm hm (fun e3 => e1 e3.symm) g hg
      · rw [if_neg e2] at hn ⊢
        exact h.ap m n _ _ hm hn hmn g hg
  · rcases hj with hj | ⟨_, hj⟩
    · exact Nat.lt_of_lt_of_le (h.old j hj) (Nat.le_trans hk.size ks.size)
    · exact Nat.lt_of_lt_of_le hj ks.size
  · exact hk.trans ks (fun j hj => (hfv j hj).1) fun j hj => .inl (by rw [hj]; exact h.fp)
/-- An element of a row of it is stored. -/
theorem Ob.put (h : Ob ts w t cs rs F) (i : Nat) (e : TypeId) (xs : List Value) (g off n cap : Nat) (hr : rs[i]? = some (e, xs)) (hv : cs[i]? = some (.slice (some ⟨g, off, none⟩) n cap)) (j : Nat) (hj : j < xs.length) (u : Value) :
    Ob ts (w.setCell ⟨g, off + j, none⟩ u) t cs (rs.set i (e, xs.set j u)) F ∧ Keep F w (w.setCell ⟨g, off + j, none⟩ u) := by
  have ks := setCell_keep w g (off + j) u
  have hvi : at_ cs i = .slice (some ⟨g, off, none⟩) n cap := by simp [at_, List.getD_eq_getElem?_getD, hv]
  have hirl : i < rs.length := (List.getElem?_eq_some_iff.1 hr).1
  have hg : F g ∧ g ≠ t := h.fr i _ hr g (by rw [hvi]; rfl)
  refine ⟨⟨?_, fun m r hm => ?_, by simpa using h.len, h.fp, fun m r hm k hk => ?_, fun m n' rm rn hm hn hmn k hk => ?_, fun k hk => Nat.lt_of_lt_of_le (h.old k hk) ks.size⟩, ks.mono fun k hk => by rw [hk]; exact hg.1⟩
  · exact ks.blk h.blk fun e1 => hg.2 e1.symm
  · rw [List.getElem?_set] at hm
    split at hm
    · rename_i e1
      try rw [if_pos hirl] at hm
      cases hm
      subst e1
      have := h.rows i _ hr
      rw [hvi] at this ⊢
      exact this.set j hj u
    · rename_i e1
      exact (h.rows m r hm).keep ks fun k hk e2 => h.ap m i _ _ hm hr (fun e3 => e1 e3.symm) k hk (by rw [hvi, e2]; rfl)
  · rw [List.getElem?_set] at hm
    split at hm
    · rename_i e1
      subst e1
      exact h.fr i _ hr k hk
    · exact h.fr m r hm k hk
  · rw [List.getElem?_set] at hm hn
    have a1 : ∃ r, rs[m]? = some r := by
      split at hm
      · rename_i e1; subst e1; exact ⟨_, hr⟩
      · exact ⟨_, hm⟩
    have a2 : ∃ r, rs[n']? = some r := by
      split at hn
      · rename_i e1; subst e1; exact ⟨_, hr⟩
      · exact ⟨_, hn⟩
    obtain ⟨r1, a1⟩ := a1
    obtain ⟨r2, a2⟩ := a2
    exact h.ap m n' _ _ a1 a2 hmn k hk
/-- A cell of it behind its slices is stored. -/
theorem Ob.other (h : Ob ts w t cs rs F) (i : Nat) (hi : rs.length ≤ i) (hil : i < cs.length) (u : Value) :
    Ob ts (w.setCell ⟨t, i, none⟩ u) t (cs.set i u) rs F ∧ Keep F w (w.setCell ⟨t, i, none⟩ u) := by
  have ks := setCell_keep w t i u
  have hat : ∀ m r, rs[m]? = some r → at_ (cs.set i u) m = at_ cs m := by
    intro m r hm
    rw [at_set hil, if_neg]
    have := (List.getElem?_eq_some_iff.1 hm).1
    omega
  refine ⟨⟨?_, fun m r hm => ?_, by simpa using h.len, h.fp, fun m r hm k hk => ?_, fun m n rm rn hm hn hmn k hk => ?_, fun k hk => Nat.lt_of_lt_of_le (h.old k hk) ks.size⟩, ks.mono fun k hk => by rw [hk]; exact h.fp⟩
  · rw [blk_set h.blk]
    simp
  · rw [hat m r hm]
    exact (h.rows m r hm).keep ks fun k hk => (h.fr m r hm k hk).2
  · rw [hat m r hm] at hk
    exact h.fr m r hm k hk
  · rw [hat m rm hm] at hk
    rw [hat n rn hn]
    exact h.ap m n _ _ hm hn hmn k hk
/-- More may be said to be its own. -/
theorem Ob.more (h : Ob ts w t cs rs F) (hF : ∀ j, F j → G j) (ho : ∀ j, G j → j < w.heap.size) : Ob ts w t cs rs G where
  blk := h.blk
  rows := h.rows
  len := h.len
  fp := hF _ h.fp
  fr := fun i r hr j hj => ⟨hF _ (h.fr i r hr j hj).1, (h.fr i r hr j hj).2⟩
  ap := h.ap
  old := ho
/-- A new one, of no rows. -/
theorem Ob.made (w : World) (ts : TypeId) (cs : List Value) (rs : List (TypeId × List Value)) (hl : rs.length ≤ cs.length) (hr : ∀ i r, rs[i]? = some r → r.2 = [] ∧ at_ cs i = .slice none 0 0) :
    Ob ts (w.alloc (.cells cs.toArray ts)) w.heap.size cs rs (fun j => j = w.heap.size) where
  blk := heap_alloc_new w _
  rows := fun i r h => by
    obtain ⟨h1, h2⟩ := hr i r h
    rw [h1, h2]
    exact .nil _ _
  len := hl
  fp := rfl
  fr := fun i r h j hj => by
    rw [(hr i r h).2] at hj
    cases hj
  ap := fun i j ri rj h1 h2 _ g hg => by
    rw [(hr i ri h1).2] at hg
    cases hg
  old := fun j hj => by
    subst hj
    simp
end Go.Proofs.Ytiajmgmidfinfaa.MM
