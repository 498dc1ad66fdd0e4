/- Stores of clauses in memory: rows of forms, the map of texts. -/
import Derived.Test.YtiajmgmidfinfaaSide
import Derived.Test.YtiajmgmidfinfaaChecked
import Derived.Test.YtiajmgmidfinfaaKMap
import Derived.Test.YtiajmgmidfinfaaClP
import Derived.Maps.Keyed
namespace Go.Proofs.Ytiajmgmidfinfaa.SM
open Go.RowKit Go.Maps Go.Proofs.YtiajmgmidfinfaaW.PrintWords Go.Proofs.Ytiajmgmidfinfaa.MM Go.Proofs.Ytiajmgmidfinfaa.KM Go.Proofs.Ytiajmgmidfinfaa.SP Go.Proofs.Ytiajmgmidfinfaa.TW
set_option linter.unusedVariables false

abbrev ptr (t : Nat) : Value := .pointer (some ⟨t, 0, none⟩)
theorem bel {w w1 w2 : World} (h1 : Below w.heap.size w w1) (h2 : Below w1.heap.size w1 w2) : Below w.heap.size w w2 := h1.trans (h2.mono h1.size)
theorem Row.bel {w w1 : World} {e : TypeId} {v : Value} {xs : List Value} (h : Row w e v xs) (hb : Below w.heap.size w w1) : Row w1 e v xs := h.keep (Keep.ofBelow (F := fun _ => False) hb) (fun _ _ h => h)
theorem lits_get (l : List Int) (i : Nat) (h : i < l.length) : (lits l)[i]? = some (.int .i64 (l.getD i 0)) := by simp [lits, h]
theorem lits_len (l : List Int) : (lits l).length = l.length := by simp [lits]
theorem one_cells (xs : List Int) : ∀ u ∈ lits xs, u.oneCell' = true := by
  intro u hu
  obtain ⟨x, _, rfl⟩ := List.mem_map.1 hu
  simp [Value.oneCell']
/-- A row as a kind's row, and back. -/
theorem C_of_Row {w : World} {e : TypeId} {v : Value} {xs : List Int} (h : Row w e v (lits xs)) : ∃ A c, v = .slice A xs.length c ∧ xs.length ≤ c ∧ Kd.C (Kd.int .i64) w A xs.length xs := by
  rcases h with ⟨rfl, h0⟩ | ⟨g, off, cap, cur, rfl, hg, h2, h3, h4, h5⟩
  · obtain rfl : xs = [] := by simpa using h0
    exact ⟨none, 0, rfl, Nat.le_refl _, rfl, by simp, fun h => absurd h (by simp)⟩
  · rw [lits_len] at h2 h5 ⊢
    refine ⟨some ⟨g, off, none⟩, cap, rfl, h2, rfl, by simp only [maxLen] at h3; omega, fun _ => ⟨_, rfl, fun j p hj => ?_⟩⟩
    refine ⟨[.int .i64 p], rfl, rfl, fun i u hu => ?_⟩
    have hi : i = 0 := by have := (List.getElem?_eq_some_iff.1 hu).1; simp at this; exact this
    subst hi
    have hu : Value.int .i64 p = u := by simpa using hu
    subst hu
    show w.cell? (Addr.add ⟨g, off, none⟩ (j * 1 + 0)) = _
    rw [Nat.mul_one, Nat.add_zero, Addr.add_lit, blk_cell hg]
    refine shown (xs := lits xs) (by rw [lits_len]; exact h5) ?_
    simp [lits, hj]
theorem Row_of_R {e : TypeId} {w : World} {base : Nat} {ok : Nat → Prop} {v : Value} {xs : List Int} (h : Kd.R (Kd.int .i64) e w base ok v xs) : Row w e v (lits xs) ∧ ∀ g, v.ownBlock = some g → base ≤ g := by
  obtain ⟨h0, inner, ho, hr⟩ := h
  have ho' : w.ownsRow base e 1 v xs.length inner := ho
  obtain ⟨a1, a2, a3⟩ := Row.ofOwns ho'
  have e1 : inner = lits xs := by
    refine List.ext_getElem? fun j => ?_
    rcases Nat.lt_or_ge j xs.length with hj | hj
    · have h1 := hr.2 j xs[j] (List.getElem?_eq_getElem hj)
      have h2 : (inner.drop (j * 1)).take 1 = [Value.int .i64 xs[j]] := h1
      have hji : j < inner.length := by omega
      rw [Nat.mul_one, List.drop_eq_getElem_cons hji] at h2
      rw [List.take_succ_cons] at h2
      have h3 : inner[j] = Value.int .i64 xs[j] := (List.cons.inj h2).1
      rw [List.getElem?_eq_getElem hji, h3]
      simp [lits, hj]
    · rw [List.getElem?_eq_none (by omega), List.getElem?_eq_none (by simp [lits]; omega)]
  rw [e1] at a1
  exact ⟨a1, a3⟩
/-- The slice v shows the forms; their rows lie in A. -/
structure Forms (w : World) (v : Value) (fs : List (List Int)) (A : Nat → Prop) : Prop where
  own : ∃ vs, vs.length = fs.length ∧ Row w 22 v vs ∧ (∀ u ∈ vs, u.oneCell' = true) ∧ ∀ (i : Nat) (f : List Int) (x : Value), fs[i]? = some f → vs[i]? = some x → Row w 25 x (lits f) ∧ ∀ g, x.ownBlock = some g → A g
  ap : ∀ g, v.ownBlock = some g → ¬ A g
  old : ∀ g, A g → g < w.heap.size
variable {w w1 : World} {v : Value} {fs : List (List Int)} {A G : Nat → Prop}
theorem Forms.nil (w : World) : Forms w (.slice none 0 0) [] (fun _ => False) := ⟨⟨[], rfl, .nil _ _, by simp, fun i f x h => by simp at h⟩, fun _ _ h => h, fun _ h => h.elim⟩
theorem Forms.keep (h : Forms w v fs A) (hk : Keep G w w1) (hv : ∀ g, v.ownBlock = some g → ¬ G g) (hA : ∀ g, A g → ¬ G g) : Forms w1 v fs A where
  own := by
    obtain ⟨vs, h1, h2, h0, h3⟩ := h.own
    refine ⟨vs, h1, h2.keep hk hv, h0, fun i n x hn hx => ?_⟩
    obtain ⟨h4, h5⟩ := h3 i n x hn hx
    exact ⟨h4.keep hk fun g hg => hA g (h5 g hg), h5⟩
  ap := h.ap
  old := fun g hg => Nat.lt_of_lt_of_le (h.old g hg) hk.size
theorem Forms.below (h : Forms w v fs A) (hb : Below w.heap.size w w1) : Forms w1 v fs A := h.keep (Keep.ofBelow (F := fun _ => False) hb) (fun _ _ h => h) (fun _ _ h => h)
theorem Forms.lt (h : Forms w v fs A) : ∀ g, v.ownBlock = some g → g < w.heap.size := by
  obtain ⟨vs, _, h2, _⟩ := h.own
  exact h2.lt
theorem Forms.typed (h : Forms w v fs A) : ∀ g, v.ownBlock = some g → ∃ cur, w.heap[g]? = some (.cells cur 22 (0, 0)) := by
  obtain ⟨vs, _, h2, _⟩ := h.own
  exact h2.typed
theorem Forms.typedA (h : Forms w v fs A) (hA : ∀ g, A g → ∃ (i : Nat) (f : List Int) (x : Value), True) : True := trivial
theorem Forms.shape (h : Forms w v fs A) : ∃ a c, v = .slice a fs.length c := by
  obtain ⟨vs, h1, h2, _⟩ := h.own
  obtain ⟨a, c, h3, _⟩ := h2.shape
  exact ⟨a, c, by rw [h3, h1]⟩
/-- A form's slice. -/
theorem Forms.at (h : Forms w v fs A) {i : Nat} {f : List Int} (hi : fs[i]? = some f) : ∃ g off cap x, v = .slice (some ⟨g, off, none⟩) fs.length cap ∧ g < w.heap.size ∧ w.cell? ⟨g, off + i, none⟩ = some x ∧ Row w 25 x (lits f) ∧ (∀ g, x.ownBlock = some g → A g) := by
  obtain ⟨vs, h1, h2, _, h3⟩ := h.own
  have hl := (List.getElem?_eq_some_iff.1 hi).1
  obtain ⟨g, off, cap, hv, _, _, hg, hc, _⟩ := h2.cells (by omega)
  obtain ⟨x, hx⟩ : ∃ x, vs[i]? = some x := ⟨vs[i]'(by omega), List.getElem?_eq_getElem (by omega)⟩
  obtain ⟨h4, h5⟩ := h3 i f x hi hx
  exact ⟨g, off, cap, x, by rw [hv, h1], hg, (hc i (by omega)).trans hx, h4, h5⟩
/-- A form more. -/
theorem Forms.push {w2 : World} {v' x : Value} {f : List Int} {vs : List Value} (h : Forms w v fs A) (hk : Keep (fun k => v.ownBlock = some k) w w2) (h1 : vs.length = fs.length) (h0 : ∀ u ∈ vs, u.oneCell' = true)
    (hrows : ∀ (i : Nat) (f : List Int) (x : Value), fs[i]? = some f → vs[i]? = some x → Row w 25 x (lits f) ∧ ∀ g, x.ownBlock = some g → A g)
    (hrow : Row w2 22 v' (vs ++ [x])) (hat : ∀ g, v'.ownBlock = some g → v.ownBlock = some g ∨ w.heap.size ≤ g)
    (hx : Row w 25 x (lits f)) (hvx : ∀ g, x.ownBlock = some g → v.ownBlock ≠ some g) : Forms w2 v' (fs ++ [f]) (fun g => A g ∨ x.ownBlock = some g) where
  own := by
    refine ⟨vs ++ [x], by simp [h1], hrow, fun u hu => ?_, fun i m y hm hy => ?_⟩
    · rcases List.mem_append.1 hu with hu | hu
      · exact h0 u hu
      · rw [List.mem_singleton.1 hu]
        obtain ⟨a, c, rfl, _⟩ := hx.shape
        simp [Value.oneCell']
    · rcases Nat.lt_or_ge i fs.length with hi | hi
      · rw [List.getElem?_append_left hi] at hm
        rw [List.getElem?_append_left (by omega)] at hy
        obtain ⟨h4, h5⟩ := hrows i m y hm hy
        exact ⟨h4.keep hk fun g hg e => h.ap g e (h5 g hg), fun g hg => .inl (h5 g hg)⟩
      · have hi' : i = fs.length := by
          have := (List.getElem?_eq_some_iff.1 hm).1
          simp at this
          omega
        subst hi'
        rw [List.getElem?_append_right (Nat.le_refl _)] at hm
        rw [← h1, List.getElem?_append_right (Nat.le_refl _)] at hy
        have hm' : f = m := by simpa using hm
        have hy' : x = y := by simpa using hy
        subst hm' hy'
        exact ⟨hx.keep hk fun g hg => hvx g hg, fun g hg => .inr hg⟩
  ap := fun g hg hA => by
    rcases hat g hg with h2 | h2
    · rcases hA with h3 | h3
      · exact h.ap g h2 h3
      · exact hvx g h3 h2
    · rcases hA with h3 | h3
      · have := h.old g h3
        omega
      · have := hx.lt g h3
        omega
  old := fun g hg => by
    rcases hg with h3 | h3
    · exact Nat.lt_of_lt_of_le (h.old g h3) hk.size
    · exact Nat.lt_of_lt_of_le (hx.lt g h3) hk.size
def sideForms (v : Value) (l : List (List Int)) (A : Nat → Prop) : Side := ⟨fun w => Forms w v l A, fun j => v.ownBlock = some j ∨ A j, fun hk hd h => h.keep hk (fun g hg => hd g (.inl hg)) (fun g hg => hd g (.inr hg)), fun w h j hj => hj.elim (h.lt j) (h.old j)⟩
/-- The store. -/
abbrev numV (i : Nat) : Value := .int .i64 (i : Int)
structure ClO (w : World) (s b : Nat) (v : Value) (fs : List (List Int)) (top : Int) (A : Nat → Prop) : Prop where
  blk : w.heap[s]? = some (.cells #[v, .map (some b), .int .i64 top] 41 (0, 0))
  forms : Forms w v fs A
  map : ∃ n, n ≤ fs.length ∧ KMap Try.prog 9 Value.string w b n (fun k => (byM fs k).map numV)
  ne : s ≠ b
  nA : ¬ A s ∧ ¬ A b
  nv : ∀ g, v.ownBlock = some g → g ≠ s ∧ g ≠ b
  tb : 0 ≤ top ∧ top ≤ 1048576
  len : fs.length ≤ 1000
  inb : ∀ f ∈ fs, (∀ x ∈ f, InB x) ∧ f.Pairwise LF.litLt ∧ f.length ≤ 1000
def Cl (w : World) (s : Nat) (fs : List (List Int)) (top : Int) (F : Nat → Prop) : Prop :=
  ∃ b v A, ClO w s b v fs top A ∧ (F s ∧ F b) ∧ (∀ g, v.ownBlock = some g → F g) ∧ (∀ g, A g → F g) ∧ ∀ g, F g → g < w.heap.size
theorem ClO.blt {s b : Nat} {top : Int} (h : ClO w s b v fs top A) : b < w.heap.size := by
  obtain ⟨n, _, h1⟩ := h.map
  exact h1.lt
theorem ClO.keep {s b : Nat} {top : Int} (h : ClO w s b v fs top A) (hk : Keep G w w1) (hs : ¬ G s ∧ ¬ G b) (hv : ∀ g, v.ownBlock = some g → ¬ G g) (hA : ∀ g, A g → ¬ G g) : ClO w1 s b v fs top A where
  blk := hk.blk h.blk hs.1
  forms := h.forms.keep hk hv hA
  map := by
    obtain ⟨n, h1, h2⟩ := h.map
    exact ⟨n, h1, h2.move (hk.block _ h2.lt hs.2)⟩
  ne := h.ne
  nA := h.nA
  nv := h.nv
  tb := h.tb
  len := h.len
  inb := h.inb
theorem Cl.keep {s : Nat} {top : Int} {F : Nat → Prop} (h : Cl w s fs top F) (hk : Keep G w w1) (hn : ∀ j, F j → ¬ G j) : Cl w1 s fs top F := by
  obtain ⟨b, v, A, h1, h2, h3, h4, h5⟩ := h
  exact ⟨b, v, A, h1.keep hk ⟨hn _ h2.1, hn _ h2.2⟩ (fun g hg => hn g (h3 g hg)) (fun g hg => hn g (h4 g hg)), h2, h3, h4, fun g hg => Nat.lt_of_lt_of_le (h5 g hg) hk.size⟩
theorem Cl.below {s : Nat} {top : Int} {F : Nat → Prop} (h : Cl w s fs top F) (hb : Below w.heap.size w w1) : Cl w1 s fs top F := h.keep (Keep.ofBelow (F := fun _ => False) hb) (fun _ _ h => h)
/-- What a call leaves. -/
def LeftC (w : World) (s : Nat) (fs : List (List Int)) (top : Int) (F : Nat → Prop) (w' : World) : Prop := ∃ F', Cl w' s fs top F' ∧ Keep F w w' ∧ ∀ j, F' j → F j ∨ w.heap.size ≤ j
/-- A store beside what stands beside. -/
structure ClAt (sd : Side) (w0 w : World) (s : Nat) (fs : List (List Int)) (top : Int) : Prop where
  bel : Below w0.heap.size w0 w
  st : ∃ F, Cl w s fs top F ∧ ∀ j, F j → w0.heap.size ≤ j ∧ ¬ sd.D j
  side : sd.P w
variable {sd sd2 sd3 : Side} {w0 : World} {s : Nat} {top : Int}
theorem ClAt.below (h : ClAt sd w0 w s fs top) (hb : Below w.heap.size w w1) : ClAt sd w0 w1 s fs top := by
  obtain ⟨F, h1, h2⟩ := h.st
  exact ⟨SM.bel h.bel hb, ⟨F, h1.below hb, h2⟩, sd.mv (Keep.ofBelow (F := fun _ => False) hb) (fun _ _ h => h) h.side⟩
theorem ClAt.inb (h : ClAt sd w0 w s fs top) : ∀ f ∈ fs, (∀ x ∈ f, InB x) ∧ f.Pairwise LF.litLt ∧ f.length ≤ 1000 := by
  obtain ⟨F, ⟨b, v, A, h1, _⟩, _⟩ := h.st
  exact h1.inb
theorem ClAt.call {P : Program} {f : FuncId} {args : Array Value} {r : Ending → Prop} {fs2 : List (List Int)} {top2 : Int} (h : ClAt sd w0 w s fs top) (hc : ∀ F, Cl w s fs top F → Calls P f args w fun e w' => r e ∧ LeftC w s fs2 top2 F w') :
    Calls P f args w fun e w' => r e ∧ ClAt sd w0 w' s fs2 top2 := by
  obtain ⟨F, h1, h2⟩ := h.st
  refine (hc F h1).mono fun e w' ⟨he, F', y1, y2, y3⟩ => ⟨he, ?_⟩
  have hlt := sd.lt _ h.side
  refine ⟨h.bel.trans (y2.below (fun j hj => (h2 j hj).1) h.bel.size), ⟨F', y1, fun j hj => ?_⟩, sd.mv y2 (fun j hj hF => (h2 j hF).2 hj) h.side⟩
  rcases y3 j hj with h5 | h5
  · exact h2 j h5
  · exact ⟨Nat.le_trans h.bel.size h5, fun hd => by have := hlt j hd; omega⟩
theorem ClAt.read {P : Program} {f : FuncId} {args : Array Value} {Q : Ending → World → Prop} (h : ClAt sd w0 w s fs top) (hc : ∀ F, Cl w s fs top F → Calls P f args w (fun e w' => Q e w' ∧ Below w.heap.size w w')) :
    Calls P f args w fun e w' => Q e w' ∧ Below w.heap.size w w' ∧ ClAt sd w0 w' s fs top := by
  obtain ⟨F, h1, h2⟩ := h.st
  exact (hc F h1).mono fun e w' hg => ⟨hg.1, hg.2, h.below hg.2⟩
theorem ClAt.beside (h : ClAt sd w0 w s fs top) (hb : Below w.heap.size w w1) (h2 : sd2.P w1) (hD : ∀ j, sd2.D j → w.heap.size ≤ j) : ClAt (sd.and sd2) w0 w1 s fs top := by
  obtain ⟨F, a1, a3⟩ := h.st
  have hF : ∀ j, F j → j < w.heap.size := by
    obtain ⟨b, v, A, z1, z2, z3, z4, z5⟩ := a1
    exact z5
  have hB := h.below hb
  refine ⟨hB.bel, ⟨F, a1.below hb, fun j hj => ⟨(a3 j hj).1, fun hd => ?_⟩⟩, hB.side, h2⟩
  rcases hd with h5 | h5
  · exact (a3 j hj).2 h5
  · have := hD j h5
    have := hF j hj
    omega
theorem ClAt.drop (h : ClAt (sd.and sd2) w0 w s fs top) : ClAt sd w0 w s fs top := by
  obtain ⟨F, a1, a3⟩ := h.st
  exact ⟨h.bel, ⟨F, a1, fun j hj => ⟨(a3 j hj).1, fun hd => (a3 j hj).2 (.inl hd)⟩⟩, h.side.1⟩
theorem ClAt.conv (h : ClAt sd w0 w s fs top) (hP : sd.P w → sd2.P w) (hD : ∀ j, sd2.D j → sd.D j) : ClAt sd2 w0 w s fs top := by
  obtain ⟨F, a1, a3⟩ := h.st
  exact ⟨h.bel, ⟨F, a1, fun j hj => ⟨(a3 j hj).1, fun hd => (a3 j hj).2 (hD j hd)⟩⟩, hP h.side⟩
/-- What stands beside is turned. -/
theorem ClAt.turn (h : ClAt (sd.and sd2) w0 w s fs top) (hk : Keep (fun j => sd2.D j) w w1) (hsd : ∀ j, sd.D j → ¬ sd2.D j) (h0 : ∀ j, sd2.D j → w0.heap.size ≤ j) (h3 : sd3.P w1) (hD : ∀ j, sd3.D j → sd2.D j ∨ w.heap.size ≤ j) : ClAt (sd.and sd3) w0 w1 s fs top := by
  obtain ⟨F, a1, a3⟩ := h.st
  have hF : ∀ j, F j → j < w.heap.size := by
    obtain ⟨b, v, A, z1, z2, z3, z4, z5⟩ := a1
    exact z5
  refine ⟨h.bel.trans (hk.below (fun j hj => h0 j hj) h.bel.size), ⟨F, a1.keep hk (fun j hj hd => (a3 j hj).2 (.inr hd)), fun j hj => ⟨(a3 j hj).1, fun hd => ?_⟩⟩, sd.mv hk hsd h.side.1, h3⟩
  rcases hd with h5 | h5
  · exact (a3 j hj).2 (.inl h5)
  · rcases hD j h5 with h6 | h6
    · exact (a3 j hj).2 (.inr h6)
    · have := hF j hj
      omega
end Go.Proofs.Ytiajmgmidfinfaa.SM
