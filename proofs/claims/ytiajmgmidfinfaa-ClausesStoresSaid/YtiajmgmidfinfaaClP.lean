/- Stores of clauses in plain Lean: a form's text as a key; the first form of which something is true. -/
import Derived.IntWalk
import Derived.Laws.BytesArg
import Derived.Test.YtiajmgmidfinfaaLitForm
namespace Go.Proofs.Ytiajmgmidfinfaa.SP
open Go.RowKit Go.Proofs.Ytiajmgmidfinfaa.LF
set_option linter.unusedVariables false

/-- A literal's four bytes. -/
def num4 (x : Int) : Int := x % 4294967296
def b4 (x : Int) : List Int := [num4 x % 256, num4 x / 256 % 256, num4 x / 65536 % 256, num4 x / 16777216 % 256]
def textN : List Int → List Int
  | [] => []
  | x :: l => b4 x ++ textN l
theorem textN_snoc (l : List Int) (x : Int) : textN (l ++ [x]) = textN l ++ b4 x := by
  induction l with
  | nil => simp [textN]
  | cons y l ih => simp [textN, ih]
theorem textN_len (l : List Int) : (textN l).length = 4 * l.length := by
  induction l with
  | nil => rfl
  | cons y l ih => simp [textN, b4, ih]; omega
theorem b4_byte (x : Int) : ∀ n ∈ b4 x, 0 ≤ n ∧ n ≤ 255 := by
  intro n hn
  simp only [b4, List.mem_cons, List.not_mem_nil, or_false] at hn
  unfold num4 at hn
  rcases hn with rfl | rfl | rfl | rfl <;> omega
theorem textN_byte (l : List Int) : ∀ n ∈ textN l, 0 ≤ n ∧ n ≤ 255 := by
  induction l with
  | nil => simp [textN]
  | cons y l ih =>
    intro n hn
    rcases List.mem_append.1 hn with h | h
    · exact b4_byte y n h
    · exact ih n h
def InB (x : Int) : Prop := -1048576 ≤ x ∧ x ≤ 1048576
theorem b4_inj {x y : Int} (hx : InB x) (hy : InB y) (h : b4 x = b4 y) : x = y := by
  simp only [b4, List.cons.injEq, and_true] at h
  obtain ⟨h1, h2, h3, h4⟩ := h
  obtain ⟨x1, x2⟩ := hx
  obtain ⟨y1, y2⟩ := hy
  have e : num4 x = num4 y := by
    have a1 : 0 ≤ num4 x ∧ num4 x < 4294967296 := by unfold num4; omega
    have a2 : 0 ≤ num4 y ∧ num4 y < 4294967296 := by unfold num4; omega
    generalize num4 x = a at *
    generalize num4 y = b at *
    omega
  unfold num4 at e
  omega
theorem textN_inj : ∀ {l m : List Int}, (∀ x ∈ l, InB x) → (∀ x ∈ m, InB x) → textN l = textN m → l = m
  | [], [], _, _, _ => rfl
  | [], y :: m, _, _, h => by simp [textN, b4] at h
  | x :: l, [], _, _, h => by simp [textN, b4] at h
  | x :: l, y :: m, h1, h2, h => by
    simp only [textN] at h
    obtain ⟨e1, e2⟩ := List.append_inj h (by simp [b4])
    rw [b4_inj (h1 x (by simp)) (h2 y (by simp)) e1, textN_inj (fun z hz => h1 z (by simp [hz])) (fun z hz => h2 z (by simp [hz])) e2]
theorem bytes_inj : ∀ {l m : List Int}, (∀ n ∈ l, 0 ≤ n ∧ n ≤ 255) → (∀ n ∈ m, 0 ≤ n ∧ n ≤ 255) → (l.map fun n => UInt8.ofNat n.toNat) = (m.map fun n => UInt8.ofNat n.toNat) → l = m
  | [], [], _, _, _ => rfl
  | [], y :: m, _, _, h => by simp at h
  | x :: l, [], _, _, h => by simp at h
  | x :: l, y :: m, h1, h2, h => by
    simp only [List.map_cons, List.cons.injEq] at h
    have hx := h1 x (by simp)
    have hy := h2 y (by simp)
    have e : x.toNat = y.toNat := by
      have h3 := congrArg UInt8.toNat h.1
      rw [UInt8.toNat_ofNat', UInt8.toNat_ofNat'] at h3
      omega
    rw [show x = y by omega, bytes_inj (fun z hz => h1 z (by simp [hz])) (fun z hz => h2 z (by simp [hz])) h.2]
def keyF (l : List Int) : ByteArray := strOfNums (textN l)
theorem keyF_inj {l m : List Int} (h1 : ∀ x ∈ l, InB x) (h2 : ∀ x ∈ m, InB x) (h : keyF l = keyF m) : l = m := by
  refine textN_inj h1 h2 (bytes_inj (textN_byte l) (textN_byte m) ?_)
  have := congrArg (fun b : ByteArray => b.data.toList) h
  simpa [keyF, strOfNums_data] using this
/-- The first one of which p is true. -/
def idx (p : List Int → Bool) : List (List Int) → Option Nat
  | [] => none
  | f :: r => if p f = true then some 0 else (idx p r).map (· + 1)
theorem idx_snoc (p : List Int → Bool) (f : List Int) : ∀ l, idx p (l ++ [f]) = match idx p l with
    | some i => some i
    | none => if p f = true then some l.length else none
  | [] => by simp only [List.nil_append, idx, List.length_nil]; split <;> rfl
  | g :: l => by
    show idx p (g :: (l ++ [f])) = _
    unfold idx
    by_cases e : p g = true
    · rw [if_pos e, if_pos e]
    · rw [if_neg e, if_neg e, idx_snoc p f l]
      cases idx p l with
      | some i => rfl
      | none =>
        show Option.map _ (if _ then _ else _) = if _ then _ else _
        split <;> simp
theorem idx_congr {p q : List Int → Bool} : ∀ {l : List (List Int)}, (∀ f ∈ l, p f = q f) → idx p l = idx q l
  | [], _ => rfl
  | f :: l, h => by
    unfold idx
    rw [h f (by simp), idx_congr fun g hg => h g (by simp [hg])]
theorem idx_lt {p : List Int → Bool} : ∀ {l : List (List Int)} {i : Nat}, idx p l = some i → i < l.length
  | f :: l, i, h => by
    unfold idx at h
    split at h
    · cases h; simp
    · cases e : idx p l with
      | none => rw [e] at h; cases h
      | some j => rw [e] at h; cases h; have := idx_lt e; simp; omega
/-- What the map holds of forms: the number of the first one of that text, from 1 on. -/
def byM (fs : List (List Int)) (k : ByteArray) : Option Nat := (idx (fun f => decide (keyF f = k)) fs).map (· + 1)
theorem byM_snoc_some {fs : List (List Int)} {f : List Int} {i : Nat} (h : byM fs (keyF f) = some i) : byM (fs ++ [f]) = byM fs := by
  funext k
  unfold byM at h ⊢
  rw [idx_snoc]
  cases e : idx (fun f => decide (keyF f = k)) fs with
  | some j => rfl
  | none =>
    by_cases hk : keyF f = k
    · rw [← hk] at e
      rw [e] at h
      cases h
    · simp [hk]
theorem byM_snoc_none {fs : List (List Int)} {f : List Int} (h : byM fs (keyF f) = none) (k : ByteArray) : byM (fs ++ [f]) k = if k = keyF f then some (fs.length + 1) else byM fs k := by
  unfold byM at h ⊢
  rw [idx_snoc]
  by_cases hk : k = keyF f
  · rw [if_pos hk]
    subst hk
    cases e : idx (fun g => decide (keyF g = keyF f)) fs with
    | some j => rw [e] at h; cases h
    | none => simp
  · rw [if_neg hk]
    cases e : idx (fun g => decide (keyF g = k)) fs with
    | some j => rfl
    | none => simp [show ¬ keyF f = k from fun e => hk e.symm]
/-- The greatest atom. -/
def topOf (t : Int) (l : List Int) : Int := l.foldl (fun a x => max a (litAtom x)) t
theorem topOf_le (l : List Int) : ∀ (t m : Int), topOf t l ≤ m ↔ t ≤ m ∧ ∀ x ∈ l, litAtom x ≤ m := by
  induction l with
  | nil => intro t m; simp [topOf]
  | cons y l ih =>
    intro t m
    show topOf (max t (litAtom y)) l ≤ m ↔ _
    rw [ih]
    simp only [List.mem_cons, forall_eq_or_imp]
    rw [Int.max_le]
    exact and_assoc
theorem topOf_congr {l m : List Int} (t : Int) (h : ∀ x, x ∈ l ↔ x ∈ m) : topOf t l = topOf t m := by
  have key : ∀ a, topOf t l ≤ a ↔ topOf t m ≤ a := fun a => by
    rw [topOf_le, topOf_le]
    exact and_congr_right fun _ => ⟨fun k x hx => k x ((h x).2 hx), fun k x hx => k x ((h x).1 hx)⟩
  have h1 := (key (topOf t m)).2 (Int.le_refl _)
  have h2 := (key (topOf t l)).1 (Int.le_refl _)
  omega
theorem topOf_canon (t : Int) (l : List Int) : topOf t (canon l) = topOf t l := topOf_congr t fun x => mem_canon x l
theorem topOf_snoc (t : Int) (l : List Int) (x : Int) : topOf t (l ++ [x]) = max (topOf t l) (litAtom x) := by simp [topOf]
theorem topOf_bound {t : Int} {l : List Int} (h0 : 0 ≤ t) (h1 : t ≤ 1048576) (h : ∀ x ∈ l, InB x) : 0 ≤ topOf t l ∧ topOf t l ≤ 1048576 := by
  refine ⟨?_, (topOf_le l t _).2 ⟨h1, fun x hx => ?_⟩⟩
  · have := (topOf_le l t (topOf t l)).1 (Int.le_refl _)
    omega
  · have := h x hx
    unfold InB at this
    unfold litAtom
    split <;> omega
/-- Both ways within: the forms are one. -/
def bothB (f c : List Int) : Bool := f.all (c.contains ·) && c.all (f.contains ·)
theorem bothB_iff {f c : List Int} : bothB f c = true ↔ ∀ x, x ∈ f ↔ x ∈ c := by
  unfold bothB
  rw [Bool.and_eq_true, List.all_eq_true, List.all_eq_true]
  simp only [List.contains_iff_mem]
  exact ⟨fun h x => ⟨h.1 x, h.2 x⟩, fun h => ⟨fun x hx => (h x).1 hx, fun x hx => (h x).2 hx⟩⟩
theorem both_canon {f c : List Int} (hf : f.Pairwise litLt) : bothB f c = true ↔ f = canon c := by
  rw [bothB_iff]
  constructor
  · exact fun h => (canon_eq hf h).symm
  · rintro rfl x
    exact mem_canon x c
theorem both_key {f c : List Int} (hf : f.Pairwise litLt) (h1 : ∀ x ∈ f, InB x) (h2 : ∀ x ∈ c, InB x) : bothB f c = decide (keyF f = keyF (canon c)) := by
  rw [Bool.eq_iff_iff, both_canon hf, decide_eq_true_iff]
  exact ⟨fun h => by rw [h], fun h => keyF_inj h1 (fun x hx => h2 x ((mem_canon x c).1 hx)) h⟩
/-- What the loop from the last one on has found. -/
def foundAt (p : List Int → Bool) (fs : List (List Int)) (k : Nat) : Nat × Bool := match idx p (fs.drop k) with
  | some i => (i + k, true)
  | none => (0, false)
theorem foundAt_last (p : List Int → Bool) (fs : List (List Int)) : foundAt p fs fs.length = (0, false) := by
  unfold foundAt
  rw [List.drop_length]
  rfl
theorem foundAt_step {p : List Int → Bool} {fs : List (List Int)} {k : Nat} (h : k < fs.length) : foundAt p fs k = if p (fs.getD k []) = true then (k, true) else foundAt p fs (k + 1) := by
  unfold foundAt
  rw [List.drop_eq_getElem_cons h]
  have e : fs.getD k [] = fs[k] := by simp [List.getD_eq_getElem?_getD, h]
  rw [e]
  show (match (if p fs[k] = true then some 0 else (idx p (fs.drop (k + 1))).map (· + 1)) with | some i => (i + k, true) | none => (0, false)) = _
  by_cases hp : p fs[k] = true
  · rw [if_pos hp, if_pos hp]
    simp
  · rw [if_neg hp, if_neg hp]
    cases idx p (fs.drop (k + 1)) with
    | none => rfl
    | some i =>
      show (i + 1 + k, true) = (i + (k + 1), true)
      rw [show i + 1 + k = i + (k + 1) by omega]
end Go.Proofs.Ytiajmgmidfinfaa.SP
