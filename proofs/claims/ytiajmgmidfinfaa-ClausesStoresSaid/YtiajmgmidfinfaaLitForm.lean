/- Plain law: the form of a list of literals: sorted by atoms (the greater one of a pair first), each once: what sorting and leaving out neighbours alike come to. No program in sight. -/
import Derived.Shelf.SlSortCmp.NoneTotal
import Derived.Lib.SlicesCompact
namespace Go.Proofs.Ytiajmgmidfinfaa.LF
open Go.Lib Go.Sort Go.Proofs

def litAtom (x : Int) : Int := if x < 0 then -x else x
/-- The order of a form. -/
def litLt (x y : Int) : Prop := litAtom x < litAtom y ∨ litAtom x = litAtom y ∧ y < x
instance (x y : Int) : Decidable (litLt x y) := by unfold litLt; infer_instance
def litLe (x y : Int) : Bool := !decide (litLt y x)
theorem litLt_irrefl (x : Int) : ¬ litLt x x := by unfold litLt; omega
theorem litLt_trans {x y z : Int} (h : litLt x y) (k : litLt y z) : litLt x z := by unfold litLt at *; omega
theorem litLt_total (x y : Int) : litLt x y ∨ x = y ∨ litLt y x := by unfold litLt litAtom; split <;> split <;> omega
theorem litLt_asymm {x y : Int} (h : litLt x y) : ¬ litLt y x := fun k => litLt_irrefl _ (litLt_trans h k)

/-- Two rising rows with the same members are one. -/
theorem rising_unique : ∀ {l m : List Int}, l.Pairwise litLt → m.Pairwise litLt → (∀ x, x ∈ l ↔ x ∈ m) → l = m
  | [], [], _, _, _ => rfl
  | [], b :: m, _, _, h => by have := (h b).2 (by simp); simp at this
  | a :: l, [], _, _, h => by have := (h a).1 (by simp); simp at this
  | a :: l, b :: m, hl, hm, h => by
    rw [List.pairwise_cons] at hl hm
    have e : a = b := by
      rcases litLt_total a b with hab | hab | hab
      · have := (h a).1 (by simp)
        rcases List.mem_cons.1 this with rfl | hx
        · rfl
        · exact absurd hab (litLt_asymm (hm.1 a hx))
      · exact hab
      · have := (h b).2 (by simp)
        rcases List.mem_cons.1 this with rfl | hx
        · rfl
        · exact absurd hab (litLt_asymm (hl.1 b hx))
    subst e
    rw [rising_unique hl.2 hm.2 (fun x => ?_)]
    constructor
    · intro hx
      rcases List.mem_cons.1 ((h x).1 (List.mem_cons_of_mem _ hx)) with rfl | hy
      · exact absurd (hl.1 x hx) (litLt_irrefl x)
      · exact hy
    · intro hx
      rcases List.mem_cons.1 ((h x).2 (List.mem_cons_of_mem _ hx)) with rfl | hy
      · exact absurd (hm.1 x hx) (litLt_irrefl x)
      · exact hy

/-- Insertion into a rising row, each once. -/
def ins (x : Int) : List Int → List Int
  | [] => [x]
  | y :: l => if litLt x y then x :: y :: l else if x = y then y :: l else y :: ins x l
theorem mem_ins (x z : Int) : ∀ l, z ∈ ins x l ↔ z = x ∨ z ∈ l
  | [] => by simp [ins]
  | y :: l => by
    unfold ins
    split
    · simp
    · split
      · rename_i h; subst h; simp
      · simp [mem_ins x z l]; constructor <;> (rintro (h | h | h) <;> simp [h])
theorem rising_ins (x : Int) : ∀ {l}, l.Pairwise litLt → (ins x l).Pairwise litLt
  | [], _ => by simp [ins]
  | y :: l, h => by
    rw [List.pairwise_cons] at h
    unfold ins
    split
    · rename_i hxy
      rw [List.pairwise_cons]
      refine ⟨fun z hz => ?_, List.pairwise_cons.2 h⟩
      rcases List.mem_cons.1 hz with rfl | hz
      · exact hxy
      · exact litLt_trans hxy (h.1 z hz)
    · split
      · exact List.pairwise_cons.2 h
      · rename_i h1 h2
        rw [List.pairwise_cons]
        refine ⟨fun z hz => ?_, rising_ins x h.2⟩
        rcases (mem_ins x z l).1 hz with rfl | hz
        · rcases litLt_total z y with k | k | k
          · exact absurd k h1
          · exact absurd k h2
          · exact k
        · exact h.1 z hz
/-- The form. -/
def canon (l : List Int) : List Int := l.foldr ins []
theorem mem_canon (x : Int) : ∀ l, x ∈ canon l ↔ x ∈ l
  | [] => by simp [canon]
  | y :: l => by
    have : canon (y :: l) = ins y (canon l) := rfl
    rw [this, mem_ins, mem_canon x l, List.mem_cons]
theorem rising_canon : ∀ l, (canon l).Pairwise litLt
  | [] => by simp [canon]
  | y :: l => rising_ins y (rising_canon l)
theorem canon_eq {l m : List Int} (hm : m.Pairwise litLt) (h : ∀ x, x ∈ m ↔ x ∈ l) : canon l = m :=
  rising_unique (rising_canon l) hm (fun x => by rw [mem_canon, h])
theorem length_ins_le (x : Int) : ∀ l, (ins x l).length ≤ l.length + 1
  | [] => by simp [ins]
  | y :: l => by
    unfold ins
    split
    · simp
    · split
      · simp
      · simp; exact length_ins_le x l
theorem length_canon_le : ∀ l, (canon l).length ≤ l.length
  | [] => by simp [canon]
  | y :: l => by
    have h1 : canon (y :: l) = ins y (canon l) := rfl
    have h2 := length_ins_le y (canon l)
    have h3 := length_canon_le l
    rw [h1, List.length_cons]
    omega

/-! #### what is handed to the library's sort -/
/-- Literals in bounds. -/
abbrev BL := {x : Int // -1048576 ≤ x ∧ x ≤ 1048576}
instance : Inhabited BL := ⟨⟨0, by omega⟩⟩
/-- What the code's comparison tells. -/
def litCf (x y : BL) : Int := if litAtom x.1 = litAtom y.1 then y.1 - x.1 else litAtom x.1 - litAtom y.1
theorem litCf_lt (x y : BL) : ltOf litCf x y = decide (litLt x.1 y.1) := by
  have h : litCf x y < 0 ↔ litLt x.1 y.1 := by
    unfold litCf litLt
    split <;> omega
  unfold ltOf
  exact decide_eq_decide.2 h
theorem litCf_swo : SWO (ltOf litCf) where
  irrefl x := by rw [litCf_lt]; exact decide_eq_false (litLt_irrefl _)
  trans x y z h k := by rw [litCf_lt] at *; exact decide_eq_true (litLt_trans (of_decide_eq_true h) (of_decide_eq_true k))
  ntrans x y z h k := by
    rw [litCf_lt] at *
    have h := of_decide_eq_false h
    have k := of_decide_eq_false k
    refine decide_eq_false fun hxz => ?_
    rcases litLt_total x.1 y.1 with a | a | a
    · exact h a
    · rw [a] at hxz; exact k hxz
    · exact k (litLt_trans a hxz)
theorem litCf_parts (x y : BL) (h : ltOf litCf x y = false) (k : ltOf litCf y x = false) : x = y := by
  rw [litCf_lt] at *
  have h := of_decide_eq_false h
  have k := of_decide_eq_false k
  rcases litLt_total x.1 y.1 with a | a | a
  · exact absurd a h
  · exact Subtype.ext a
  · exact absurd a k

/-- The neighbours alike left out of a row that falls nowhere: rising, with the same members. -/
theorem compact_rising (d : Array BL) (hs : ∀ i j, i < j → j < d.size → ¬ litLt d[j]!.1 d[i]!.1) : ∀ m, m ≤ d.size →
    (((compactUpTo d m).map (·.1)).Pairwise litLt) ∧ (∀ x, x ∈ (compactUpTo d m).map (·.1) ↔ ∃ j, j < m ∧ d[j]!.1 = x)
  | 0, _ => by simp [compactUpTo]
  | m + 1, hm => by
    obtain ⟨h1, h2⟩ := compact_rising d hs m (by omega)
    rw [compactUpTo_succ]
    by_cases hk : keeps d m = true
    · rw [if_pos hk, List.map_append, List.map_cons, List.map_nil]
      constructor
      · rw [List.pairwise_append]
        refine ⟨h1, by simp, fun a ha b hb => ?_⟩
        have hb' : b = d[m]!.1 := by simpa using hb
        subst hb'
        obtain ⟨j, hj, rfl⟩ := (h2 a).1 ha
        rcases litLt_total d[j]!.1 d[m]!.1 with k | k | k
        · exact k
        · exfalso
          have hm0 : m ≠ 0 := by omega
          have hne : d[m]! ≠ d[m - 1]! := by
            have := of_decide_eq_true hk
            rcases this with h | h
            · exact absurd h hm0
            · exact h
          apply hne
          apply Subtype.ext
          rcases litLt_total d[m]!.1 d[m - 1]!.1 with q | q | q
          · exact absurd q (hs (m - 1) m (by omega) (by omega))
          · exact q
          · rcases Nat.lt_or_ge j (m - 1) with hj' | hj'
            · exact absurd (k ▸ q) (hs j (m - 1) hj' (by omega))
            · have : j = m - 1 := by omega
              subst this
              exact k.symm
        · exact absurd k (hs j m hj (by omega))
      · intro x
        rw [List.mem_append, h2 x]
        constructor
        · rintro (⟨j, hj, e⟩ | hx)
          · exact ⟨j, by omega, e⟩
          · exact ⟨m, by omega, by simpa using (by simpa using hx : x = d[m]!.1).symm⟩
        · rintro ⟨j, hj, e⟩
          rcases Nat.lt_or_ge j m with h | h
          · exact .inl ⟨j, h, e⟩
          · have : j = m := by omega
            subst this
            exact .inr (by simp [e])
    · rw [if_neg hk, List.append_nil]
      refine ⟨h1, fun x => ?_⟩
      rw [h2 x]
      constructor
      · rintro ⟨j, hj, e⟩
        exact ⟨j, by omega, e⟩
      · rintro ⟨j, hj, e⟩
        rcases Nat.lt_or_ge j m with h | h
        · exact ⟨j, h, e⟩
        · have : j = m := by omega
          subst this
          have hk' : ¬ (j = 0 ∨ d[j]! ≠ d[j - 1]!) := fun hh => hk (decide_eq_true hh)
          refine ⟨j - 1, by omega, ?_⟩
          rw [← e]
          have : d[j]! = d[j - 1]! := Classical.byContradiction fun hh => hk' (.inr hh)
          rw [this]

/-- What the sort and the leaving out come to is the form. -/
theorem compact_sorted (l : List BL) (s : Array BL) (hs : s = (l.mergeSort fun x y => !(ltOf litCf) y x).toArray) :
    (compactUpTo s s.size).map (·.1) = canon (l.map (·.1)) := by
  have hp := List.pairwise_mergeSort (le := fun x y => !(ltOf litCf) y x) (fun a b c h k => by
    have h : ltOf litCf b a = false := by simpa using h
    have k : ltOf litCf c b = false := by simpa using k
    have := litCf_swo.ntrans c b a k h
    simp [this]) (fun a b => by
      cases h : ltOf litCf b a with
      | false => simp
      | true =>
        have : ltOf litCf a b = false := by
          rw [litCf_lt] at *
          exact decide_eq_false (litLt_asymm (of_decide_eq_true h))
        simp [this]) l
  have hsz : s.size = (l.mergeSort fun x y => !(ltOf litCf) y x).length := by rw [hs]; simp
  have hget : ∀ j (h : j < s.size), s[j]! = (l.mergeSort fun x y => !(ltOf litCf) y x)[j]'(by omega) := by
    intro j h
    subst hs
    rw [getElem!_pos _ j h]
    simp
  have hr := compact_rising s (fun i j hij hj => by
    have := List.pairwise_iff_getElem.1 hp i j (by omega) (by omega) hij
    rw [hget j hj, hget i (by omega)]
    rw [litCf_lt] at this
    intro k
    rw [decide_eq_true k] at this
    simp at this) s.size (Nat.le_refl _)
  symm
  refine canon_eq hr.1 fun x => ?_
  rw [hr.2 x, List.mem_map]
  constructor
  · rintro ⟨j, hj, rfl⟩
    refine ⟨s[j]!, ?_, rfl⟩
    rw [hget j hj]
    exact List.mem_mergeSort.1 (List.getElem_mem _)
  · rintro ⟨y, hy, rfl⟩
    obtain ⟨j, hj, e⟩ := List.getElem_of_mem (List.mem_mergeSort.2 hy : y ∈ l.mergeSort fun x y => !(ltOf litCf) y x)
    exact ⟨j, by omega, by rw [hget j (by omega), e]⟩
end Go.Proofs.Ytiajmgmidfinfaa.LF
