/- What the base of rup is, and what its calls make of it: plain functions. What comes by the base of rup is what comes of its clauses by units: plain lists. All that comes by the base of rup is just what comes of its clauses by units. A base that stands for clauses: what is added, and what comes of them. -/
namespace Go.Proofs.Ytjlkjgoncfdaeaa.RM

/-- The base: its clauses (the first two literals of each are watched), where each literal is watched, the units, whether one is empty. -/
structure RB where
  all : List (List Int)
  by_ : Int → List Int
  units : List Int
  empty : Bool
/-- The map's rows, told by the literals. -/
def updI (f : Int → List Int) (x : Int) (l : List Int) : Int → List Int := fun y => if y = x then l else f y

/-- A form added to the base. -/
def addM (b : RB) : List Int → RB
  | [] => { b with empty := true }
  | [x] => { b with units := b.units ++ [x] }
  | x :: y :: r => { b with by_ := updI (updI b.by_ x (b.by_ x ++ [(b.all.length : Int)])) y (updI b.by_ x (b.by_ x ++ [(b.all.length : Int)]) y ++ [(b.all.length : Int)]), all := b.all ++ [x :: y :: r] }

/-- The literal that falls is watched second. -/
def turnC (l : Int) (c : List Int) : List Int := if c.getD 0 0 = l then (c.set 0 (c.getD 1 0)).set 1 (c.getD 0 0) else c
/-- The next literal that is not against those that hold. -/
def findC (H : List Int) : List Int → Nat → Option Nat
  | [], _ => none
  | x :: r, i => if -x ∈ H then findC H r (i + 1) else some i
def moveC (i : Nat) (c : List Int) : List Int := (c.set 1 (c.getD i 0)).set i (c.getD 1 0)
structure FS where
  all : List (List Int)
  by_ : Int → List Int
  stay : List Int
  come : List Int
/-- One clause that is looked at. -/
def fstep (l : Int) (H : List Int) (s : FS) (n : Nat) : FS × Bool :=
  let c := turnC l (s.all.getD n [])
  if c.getD 0 0 ∈ H then ({ s with all := s.all.set n c, stay := s.stay ++ [(n : Int)] }, true)
  else match findC H (c.drop 2) 2 with
    | some i => ({ s with all := s.all.set n (moveC i c), by_ := updI s.by_ (c.getD i 0) (s.by_ (c.getD i 0) ++ [(n : Int)]) }, true)
    | none => if -(c.getD 0 0) ∈ H then ({ s with all := s.all.set n c, stay := s.stay ++ [(n : Int)] }, false)
      else ({ s with all := s.all.set n c, stay := s.stay ++ [(n : Int)], come := s.come ++ [c.getD 0 0] }, true)
/-- All that are looked at. -/
def falls (l : Int) (H : List Int) : List Int → FS → FS × Bool
  | [], s => (s, true)
  | n :: rest, s =>
    match fstep l H s n.toNat with
    | (s', true) => falls l H rest s'
    | (s', false) => ({ s' with stay := s'.stay ++ rest }, false)
/-- The base behind a fall. -/
def fallB (l : Int) (H : List Int) (b : RB) : RB := { b with all := (falls l H (b.by_ l) ⟨b.all, b.by_, [], []⟩).1.all, by_ := updI (falls l H (b.by_ l) ⟨b.all, b.by_, [], []⟩).1.by_ l (falls l H (b.by_ l) ⟨b.all, b.by_, [], []⟩).1.stay }
def fallC (l : Int) (H : List Int) (b : RB) : List Int := (falls l H (b.by_ l) ⟨b.all, b.by_, [], []⟩).1.come
def fallO (l : Int) (H : List Int) (b : RB) : Bool := (falls l H (b.by_ l) ⟨b.all, b.by_, [], []⟩).2
/-- All that comes, in so many steps. -/
def runM : Nat → RB → List Int → List Int → Option (Option (List Int) × RB)
  | 0, _, _, _ => none
  | _ + 1, b, H, [] => some (some H, b)
  | m + 1, b, H, l :: q =>
    if l ∈ H then runM m b H q
    else if -l ∈ H then some (none, b)
    else if fallO (-l) (l :: H) b = true then runM m (fallB (-l) (l :: H) b) (l :: H) (q ++ fallC (-l) (l :: H) b)
    else some (none, fallB (-l) (l :: H) b)

/-- What comes of clauses and what is given, by units. -/
inductive Drv (db : List (List Int)) (given : List Int) : Int → Prop
  | given {x} : x ∈ given → Drv db given x
  | unit {c x} : c ∈ db → x ∈ c → (∀ y ∈ c, y ≠ x → Drv db given (-y)) → Drv db given x
def Conf (db : List (List Int)) (given : List Int) : Prop := [] ∈ db ∨ ∃ x, Drv db given x ∧ Drv db given (-x)
theorem Drv.least {db : List (List Int)} {given : List Int} {S : Int → Prop} (hg : ∀ x ∈ given, S x) (hu : ∀ c ∈ db, ∀ x ∈ c, (∀ y ∈ c, y ≠ x → S (-y)) → S x) {x : Int} (h : Drv db given x) : S x := by
  induction h with
  | given h => exact hg _ h
  | unit hc hx _ ih => exact hu _ hc _ hx ih

/-- All clauses of the base, as clauses. -/
def clsB (b : RB) : List (List Int) := b.all ++ b.units.map (fun x => [x]) ++ (if b.empty then [[]] else [])

abbrev nth (l : List (List Int)) (n : Nat) : List Int := l.getD n []
abbrev fst_ (c : List Int) : Int := c.getD 0 0
abbrev snd_ (c : List Int) : Int := c.getD 1 0
/-- Each clause is watched at its first two literals, and nowhere else. -/
structure Inv (all : List (List Int)) (by_ : Int → List Int) : Prop where
  two : ∀ n, n < all.length → 2 ≤ (nth all n).length
  nodup : ∀ n, n < all.length → (nth all n).Nodup
  bd : ∀ n, n < all.length → ∀ x ∈ nth all n, x ≠ 0 ∧ -1048576 ≤ x ∧ x ≤ 1048576
  watch : ∀ x i, i ∈ by_ x → ∃ n : Nat, i = n ∧ n < all.length ∧ (x = fst_ (nth all n) ∨ x = snd_ (nth all n))
  watched : ∀ n, n < all.length → (n : Int) ∈ by_ (fst_ (nth all n)) ∧ (n : Int) ∈ by_ (snd_ (nth all n))
  once : ∀ x, (by_ x).Nodup

theorem nth_set {all : List (List Int)} {n : Nat} (c : List Int) (k : Nat) : nth (all.set n c) k = if n = k ∧ n < all.length then c else nth all k := by
  unfold nth
  rw [List.getD_eq_getElem?_getD, List.getD_eq_getElem?_getD, List.getElem?_set]
  by_cases e : n = k
  · subst e
    by_cases hl : n < all.length
    · simp [hl]
    · simp [hl]
  · simp [e]

/-- A clause of two or more literals begins with both that are watched. -/
theorem two_parts {c : List Int} (h : 2 ≤ c.length) : ∃ x y r, c = x :: y :: r := by
  match c, h with
  | x :: y :: r, _ => exact ⟨x, y, r, rfl⟩

theorem turnC_cases (l : Int) {c : List Int} (h : 2 ≤ c.length) : ∃ x y r, c = x :: y :: r ∧ turnC l c = (if x = l then y :: x :: r else x :: y :: r) := by
  obtain ⟨x, y, r, rfl⟩ := two_parts h
  refine ⟨x, y, r, rfl, ?_⟩
  unfold turnC
  simp only [List.getD_cons_zero, List.getD_cons_succ, List.set_cons_zero, List.set_cons_succ]
theorem turnC_perm (l : Int) {c : List Int} (h : 2 ≤ c.length) : (turnC l c).Perm c := by
  obtain ⟨x, y, r, rfl, e⟩ := turnC_cases l h
  rw [e]
  split
  · exact List.Perm.swap _ _ _
  · exact List.Perm.refl _
theorem moveC_perm (i : Nat) {c : List Int} (h : 1 < c.length) (hi : i < c.length) : (moveC i c).Perm c := by
  unfold moveC
  have := List.set_set_perm (as := c) (i := 1) (j := i) h hi
  rw [show c.getD i 0 = c[i] from by simp [List.getD_eq_getElem?_getD, hi], show c.getD 1 0 = c[1] from by simp [List.getD_eq_getElem?_getD, h]]
  exact this
end Go.Proofs.Ytjlkjgoncfdaeaa.RM

namespace Go.Proofs.Ytjlkjgoncfdaeaa.RM

theorem findC_some {H : List Int} : ∀ {r : List Int} {i k : Nat}, findC H r i = some k → i ≤ k ∧ k - i < r.length ∧ -(r.getD (k - i) 0) ∉ H
  | [], i, k, h => by cases h
  | x :: r, i, k, h => by
    unfold findC at h
    split at h
    · obtain ⟨h1, h2, h3⟩ := findC_some h
      have e : k - i = (k - (i + 1)) + 1 := by omega
      rw [e]
      exact ⟨by omega, by simp; omega, h3⟩
    · rename_i hn
      injection h with h
      subst h
      simp only [Nat.sub_self]
      exact ⟨Nat.le_refl _, by simp, hn⟩
theorem findC_none {H : List Int} : ∀ {r : List Int} {i : Nat}, findC H r i = none → ∀ y ∈ r, -y ∈ H
  | [], _, _, y, hy => by cases hy
  | x :: r, i, h, y, hy => by
    unfold findC at h
    split at h
    · rename_i hx
      rcases List.mem_cons.1 hy with rfl | hy
      · exact hx
      · exact findC_none h y hy
    · cases h

/-- The map's rows while a row is looked at. -/
abbrev mid (s : FS) (l : Int) (rest : List Int) : Int → List Int := updI s.by_ l (s.stay ++ rest)

theorem Inv.same {all : List (List Int)} {by_ : Int → List Int} (h : Inv all by_) {n : Nat} (hn : n < all.length) {c : List Int} (hp : c.Perm (nth all n))
    (hw : fst_ c = fst_ (nth all n) ∧ snd_ c = snd_ (nth all n) ∨ fst_ c = snd_ (nth all n) ∧ snd_ c = fst_ (nth all n)) : Inv (all.set n c) by_ where
  two := fun k hk => by
    rw [List.length_set] at hk
    rw [nth_set]
    split
    · rw [hp.length_eq]; exact h.two n hn
    · exact h.two k hk
  nodup := fun k hk => by
    rw [List.length_set] at hk
    rw [nth_set]
    split
    · exact (hp.nodup_iff).2 (h.nodup n hn)
    · exact h.nodup k hk
  bd := fun k hk => by
    rw [List.length_set] at hk
    rw [nth_set]
    split
    · exact fun x hx => h.bd n hn x (hp.mem_iff.1 hx)
    · exact h.bd k hk
  watch := fun x i hi => by
    obtain ⟨k, rfl, hk, hx⟩ := h.watch x i hi
    refine ⟨k, rfl, by rw [List.length_set]; exact hk, ?_⟩
    rw [nth_set]
    split
    · rename_i e
      rw [← e.1] at hx
      rcases hw with ⟨e1, e2⟩ | ⟨e1, e2⟩
      · rw [e1, e2]; exact hx
      · rw [e1, e2]; exact hx.symm
    · exact hx
  watched := fun k hk => by
    rw [List.length_set] at hk
    rw [nth_set]
    split
    · rename_i e
      rcases hw with ⟨e1, e2⟩ | ⟨e1, e2⟩
      · rw [e1, e2, ← e.1]; exact h.watched n hn
      · rw [e1, e2, ← e.1]; exact ⟨(h.watched n hn).2, (h.watched n hn).1⟩
    · exact h.watched k hk
  once := h.once

theorem Inv.moved {all : List (List Int)} {f : Int → List Int} {l : Int} {st rest : List Int} {n : Nat} (h : Inv all (updI f l (st ++ (n : Int) :: rest))) (hn : n < all.length) {c : List Int} (hp : c.Perm (nth all n))
    (hs : snd_ (nth all n) = l ∨ fst_ (nth all n) = l) (hc : fst_ c ≠ l ∧ (fst_ c = fst_ (nth all n) ∨ fst_ c = snd_ (nth all n))) (hz : snd_ c ≠ fst_ (nth all n) ∧ snd_ c ≠ snd_ (nth all n)) :
    Inv (all.set n c) (updI (updI f (snd_ c) (f (snd_ c) ++ [(n : Int)])) l (st ++ rest)) := by
  have hzl : snd_ c ≠ l := by
    rcases hs with e | e
    · rw [← e]; exact hz.2
    · rw [← e]; exact hz.1
  have hnone : (n : Int) ∉ f (snd_ c) := by
    intro hm
    have := h.watch (snd_ c) n (by unfold updI; rw [if_neg hzl]; exact hm)
    obtain ⟨k, e, hk, hx⟩ := this
    have e : n = k := by omega
    subst e
    rcases hx with e | e
    · exact hz.1 e
    · exact hz.2 e
  have hl := h.once l
  unfold updI at hl
  rw [if_pos rfl] at hl
  have hnl : (n : Int) ∉ st ++ rest := by
    intro hm
    rw [List.nodup_append] at hl
    obtain ⟨h1, h2, h3⟩ := hl
    rw [List.nodup_cons] at h2
    rcases List.mem_append.1 hm with hm | hm
    · exact h3 _ hm _ (by simp) rfl
    · exact h2.1 hm
  have hother : ∀ x, x ≠ l → x ≠ snd_ c → updI (updI f (snd_ c) (f (snd_ c) ++ [(n : Int)])) l (st ++ rest) x = updI f l (st ++ (n : Int) :: rest) x := by
    intro x h1 h2
    unfold updI
    rw [if_neg h1, if_neg h2, if_neg h1]
  have hatl : updI (updI f (snd_ c) (f (snd_ c) ++ [(n : Int)])) l (st ++ rest) l = st ++ rest := by unfold updI; rw [if_pos rfl]
  have hatz : updI (updI f (snd_ c) (f (snd_ c) ++ [(n : Int)])) l (st ++ rest) (snd_ c) = f (snd_ c) ++ [(n : Int)] := by unfold updI; rw [if_neg hzl, if_pos rfl]
  have hatl0 : updI f l (st ++ (n : Int) :: rest) l = st ++ (n : Int) :: rest := by unfold updI; rw [if_pos rfl]
  have hatz0 : updI f l (st ++ (n : Int) :: rest) (snd_ c) = f (snd_ c) := by unfold updI; rw [if_neg hzl]
  constructor
  · intro k hk
    rw [List.length_set] at hk
    rw [nth_set]
    split
    · rw [hp.length_eq]; exact h.two n hn
    · exact h.two k hk
  · intro k hk
    rw [List.length_set] at hk
    rw [nth_set]
    split
    · exact (hp.nodup_iff).2 (h.nodup n hn)
    · exact h.nodup k hk
  · intro k hk
    rw [List.length_set] at hk
    rw [nth_set]
    split
    · exact fun x hx => h.bd n hn x (hp.mem_iff.1 hx)
    · exact h.bd k hk
  · intro x i hi
    by_cases e1 : x = l
    · subst e1
      rw [hatl] at hi
      have hi2 : i ∈ updI f x (st ++ (n : Int) :: rest) x := by
        rw [hatl0]
        rcases List.mem_append.1 hi with h1 | h1
        · exact List.mem_append_left _ h1
        · exact List.mem_append_right _ (by simp [h1])
      obtain ⟨k, rfl, hk, hx⟩ := h.watch x i hi2
      have hne : n ≠ k := by rintro rfl; exact hnl hi
      refine ⟨k, rfl, by rw [List.length_set]; exact hk, ?_⟩
      rw [nth_set, if_neg (fun e => hne e.1)]
      exact hx
    · by_cases e2 : x = snd_ c
      · subst e2
        rw [hatz] at hi
        rcases List.mem_append.1 hi with h1 | h1
        · obtain ⟨k, rfl, hk, hx⟩ := h.watch (snd_ c) i (by rw [hatz0]; exact h1)
          have hne : n ≠ k := by rintro rfl; exact hnone h1
          refine ⟨k, rfl, by rw [List.length_set]; exact hk, ?_⟩
          rw [nth_set, if_neg (fun e => hne e.1)]
          exact hx
        · have h1 : i = n := by simpa using h1
          subst h1
          refine ⟨n, rfl, by rw [List.length_set]; exact hn, ?_⟩
          rw [nth_set, if_pos ⟨rfl, hn⟩]
          exact .inr rfl
      · rw [hother x e1 e2] at hi
        obtain ⟨k, rfl, hk, hx⟩ := h.watch x i hi
        refine ⟨k, rfl, by rw [List.length_set]; exact hk, ?_⟩
        rw [nth_set]
        split
        · rename_i e
          rw [← e.1] at hx
          rcases hc.2 with e3 | e3
          · rcases hx with h1 | h1
            · exact .inl (by rw [h1, e3])
            · rcases hs with h2 | h2
              · exact absurd (h1.trans h2) e1
              · exact absurd (e3.trans h2) hc.1
          · rcases hx with h1 | h1
            · rcases hs with h2 | h2
              · exact absurd (e3.trans h2) hc.1
              · exact absurd (h1.trans h2) e1
            · exact .inl (by rw [h1, e3])
        · exact hx
  · intro k hk
    rw [List.length_set] at hk
    rw [nth_set]
    split
    · have hzz : (n : Int) ∈ updI (updI f (snd_ c) (f (snd_ c) ++ [(n : Int)])) l (st ++ rest) (snd_ c) := by rw [hatz]; simp
      rename_i e
      rw [← e.1]
      refine ⟨?_, hzz⟩
      have hw := h.watched n hn
      by_cases e2 : fst_ c = snd_ c
      · rw [e2]; exact hzz
      · rw [hother _ hc.1 e2]
        rcases hc.2 with e3 | e3
        · rw [e3]; exact hw.1
        · rw [e3]; exact hw.2
    · rename_i hne
      have hw := h.watched k hk
      have lift : ∀ x, (k : Int) ∈ updI f l (st ++ (n : Int) :: rest) x → (k : Int) ∈ updI (updI f (snd_ c) (f (snd_ c) ++ [(n : Int)])) l (st ++ rest) x := by
        intro x hx
        by_cases e1 : x = l
        · subst e1
          rw [hatl]
          rw [hatl0] at hx
          rcases List.mem_append.1 hx with h1 | h1
          · exact List.mem_append_left _ h1
          · rcases List.mem_cons.1 h1 with h1 | h1
            · exact absurd ⟨by omega, hn⟩ hne
            · exact List.mem_append_right _ h1
        · by_cases e2 : x = snd_ c
          · subst e2
            rw [hatz]
            rw [hatz0] at hx
            exact List.mem_append_left _ hx
          · rw [hother x e1 e2]; exact hx
      exact ⟨lift _ hw.1, lift _ hw.2⟩
  · intro x
    by_cases e1 : x = l
    · subst e1
      rw [hatl]
      rw [List.nodup_append] at hl ⊢
      refine ⟨hl.1, (List.nodup_cons.1 hl.2.1).2, fun a ha b hb => hl.2.2 a ha b (by simp [hb])⟩
    · by_cases e2 : x = snd_ c
      · subst e2
        rw [hatz]
        have := h.once (snd_ c)
        rw [hatz0] at this
        rw [List.nodup_append]
        refine ⟨this, by simp, fun a ha b hb => ?_⟩
        rintro rfl
        simp at hb
        subst hb
        exact hnone ha
      · rw [hother x e1 e2]; exact h.once x

/-- What is told of the clause that is looked at. -/
theorem looked {s : FS} {l : Int} {n : Nat} {rest : List Int} (h : Inv s.all (mid s l ((n : Int) :: rest))) : n < s.all.length ∧ ∃ o r, turnC l (nth s.all n) = o :: l :: r ∧ (nth s.all n = o :: l :: r ∨ nth s.all n = l :: o :: r) ∧ o ≠ l ∧ l ∉ r ∧ o ∉ r := by
  obtain ⟨k, e, hk, hx⟩ := h.watch l n (by unfold mid updI; rw [if_pos rfl]; simp)
  have e : n = k := by omega
  subst e
  refine ⟨hk, ?_⟩
  have hnd := h.nodup n hk
  obtain ⟨x, y, r, e, e2⟩ := turnC_cases l (h.two n hk)
  rw [e2, e]
  rw [e] at hnd hx
  simp only [fst_, snd_, List.getD_cons_zero, List.getD_cons_succ] at hx
  rw [List.nodup_cons, List.nodup_cons] at hnd
  simp only [List.mem_cons, not_or] at hnd
  by_cases ex : x = l
  · subst ex
    rw [if_pos rfl]
    exact ⟨y, r, rfl, .inr rfl, Ne.symm hnd.1.1, hnd.1.2, hnd.2.1⟩
  · rw [if_neg ex]
    rcases hx with h1 | h1
    · exact absurd h1.symm ex
    · subst h1
      exact ⟨x, r, rfl, .inl rfl, ex, hnd.2.1, hnd.1.2⟩

/-- One step keeps all. -/
structure Stepped (l : Int) (H : List Int) (s : FS) (n : Nat) (rest : List Int) (s' : FS) (ok : Bool) : Prop where
  inv : Inv s'.all (mid s' l rest)
  len : s'.all.length = s.all.length
  perm : ∀ k, (nth s'.all k).Perm (nth s.all k)
theorem set_perm {all : List (List Int)} {n : Nat} {c : List Int} (hp : c.Perm (nth all n)) : ∀ k, (nth (all.set n c) k).Perm (nth all k) := by
  intro k
  rw [nth_set]
  split
  · rename_i e; rw [← e.1]; exact hp
  · exact List.Perm.refl _
theorem fstep_cases {l : Int} {H : List Int} {s : FS} {n : Nat} {rest : List Int} (h : Inv s.all (mid s l ((n : Int) :: rest))) :
    ∃ o r, (nth s.all n = o :: l :: r ∨ nth s.all n = l :: o :: r) ∧ o ≠ l ∧ l ∉ r ∧ o ∉ r ∧ n < s.all.length ∧
      ((o ∈ H ∧ fstep l H s n = ({ s with all := s.all.set n (o :: l :: r), stay := s.stay ++ [(n : Int)] }, true)) ∨
       (o ∉ H ∧ ∃ i, i < r.length ∧ -(r.getD i 0) ∉ H ∧ fstep l H s n = ({ s with all := s.all.set n (o :: (r.getD i 0) :: r.set i l), by_ := updI s.by_ (r.getD i 0) (s.by_ (r.getD i 0) ++ [(n : Int)]) }, true)) ∨
       (o ∉ H ∧ (∀ y ∈ r, -y ∈ H) ∧ -o ∈ H ∧ fstep l H s n = ({ s with all := s.all.set n (o :: l :: r), stay := s.stay ++ [(n : Int)] }, false)) ∨
       (o ∉ H ∧ (∀ y ∈ r, -y ∈ H) ∧ -o ∉ H ∧ fstep l H s n = ({ s with all := s.all.set n (o :: l :: r), stay := s.stay ++ [(n : Int)], come := s.come ++ [o] }, true))) := by
  obtain ⟨hn, o, r, e, h1, h2, h3, h4⟩ := looked h
  refine ⟨o, r, h1, h2, h3, h4, hn, ?_⟩
  unfold fstep
  rw [show s.all.getD n [] = nth s.all n from rfl, e]
  simp only [List.getD_cons_zero, List.drop_succ_cons, List.drop_zero]
  by_cases ho : o ∈ H
  · exact .inl ⟨ho, by rw [if_pos ho]⟩
  · rw [if_neg ho]
    cases hf : findC H r 2 with
    | some i =>
      obtain ⟨i1, i2, i3⟩ := findC_some hf
      refine .inr (.inl ⟨ho, i - 2, i2, i3, ?_⟩)
      obtain ⟨j, rfl⟩ : ∃ j, i = j + 2 := ⟨i - 2, by omega⟩
      simp [moveC]
    | none =>
      by_cases hno : -o ∈ H
      · exact .inr (.inr (.inl ⟨ho, findC_none hf, hno, by rw [if_pos hno]⟩))
      · exact .inr (.inr (.inr ⟨ho, findC_none hf, hno, by rw [if_neg hno]⟩))

theorem swap_same {c : List Int} {o l : Int} {r : List Int} (h : c = o :: l :: r ∨ c = l :: o :: r) : (o :: l :: r).Perm c ∧ (fst_ (o :: l :: r) = fst_ c ∧ snd_ (o :: l :: r) = snd_ c ∨ fst_ (o :: l :: r) = snd_ c ∧ snd_ (o :: l :: r) = fst_ c) := by
  rcases h with rfl | rfl
  · exact ⟨List.Perm.refl _, .inl ⟨rfl, rfl⟩⟩
  · exact ⟨List.Perm.swap _ _ _, .inr ⟨rfl, rfl⟩⟩
theorem set_perm_cons {r : List Int} {i : Nat} (hi : i < r.length) (l : Int) : ((r.getD i 0) :: r.set i l).Perm (l :: r) := by
  have := List.set_set_perm (as := l :: r) (i := 0) (j := i + 1) (by simp) (by simpa using hi)
  simpa [List.getD_eq_getElem?_getD, hi] using this
theorem fstep_kept {l : Int} {H : List Int} {s : FS} {n : Nat} {rest : List Int} (h : Inv s.all (mid s l ((n : Int) :: rest))) : Stepped l H s n rest (fstep l H s n).1 (fstep l H s n).2 := by
  obtain ⟨o, r, hc, h2, h3, h4, hn, hcase⟩ := fstep_cases (H := H) h
  have hsame := swap_same hc
  have hst : Inv (s.all.set n (o :: l :: r)) (updI s.by_ l ((s.stay ++ [(n : Int)]) ++ rest)) := by
    rw [List.append_assoc]
    exact h.same hn hsame.1 hsame.2
  rcases hcase with ⟨_, e⟩ | ⟨_, i, hi, _, e⟩ | ⟨_, _, _, e⟩ | ⟨_, _, _, e⟩
  · rw [e]; exact ⟨hst, by simp, set_perm hsame.1⟩
  · rw [e]
    have hp : (o :: (r.getD i 0) :: r.set i l).Perm (nth s.all n) := ((set_perm_cons hi l).cons o).trans hsame.1
    refine ⟨?_, by simp, set_perm hp⟩
    have hzr : r.getD i 0 ∈ r := by
      rw [List.getD_eq_getElem?_getD, List.getElem?_eq_getElem hi]
      exact List.getElem_mem hi
    have hzo : r.getD i 0 ≠ o := fun e => h4 (e ▸ hzr)
    have hzl : r.getD i 0 ≠ l := fun e => h3 (e ▸ hzr)
    refine h.moved hn hp ?_ ?_ ?_
    · rcases hc with e | e
      · rw [e]; exact .inl rfl
      · rw [e]; exact .inr rfl
    · rcases hc with e | e
      · rw [e]; exact ⟨h2, .inl rfl⟩
      · rw [e]; exact ⟨h2, .inr rfl⟩
    · rcases hc with e | e
      · rw [e]; exact ⟨hzo, hzl⟩
      · rw [e]; exact ⟨hzl, hzo⟩
  · rw [e]; exact ⟨hst, by simp, set_perm hsame.1⟩
  · rw [e]; exact ⟨hst, by simp, set_perm hsame.1⟩

/-- No literal holds with its negative. -/
def Sane (H : List Int) : Prop := ∀ x ∈ H, -x ∉ H
/-- Where one that is watched falls, the other one holds, or will. -/
def Fine (all : List (List Int)) (H Q : List Int) (l : Int) (rest : List Int) : Prop :=
  ∀ n, n < all.length → ∀ a o, (a = fst_ (nth all n) ∧ o = snd_ (nth all n) ∨ a = snd_ (nth all n) ∧ o = fst_ (nth all n)) → -a ∈ H → (a = l ∧ (n : Int) ∈ rest) ∨ o ∈ H ∨ o ∈ Q
def Doom (H Q : List Int) : Prop := ∃ x ∈ Q, -x ∈ H
/-- D is closed under the units of all clauses. -/
def Shut (all : List (List Int)) (D : Int → Prop) : Prop := ∀ n, n < all.length → ∀ x ∈ nth all n, (∀ y ∈ nth all n, y ≠ x → D (-y)) → D x

/-- What a step tells: of the sound, and of the whole. -/
theorem fstep_sound {l : Int} {H : List Int} {s : FS} {n : Nat} {rest : List Int} (h : Inv s.all (mid s l ((n : Int) :: rest))) (hl : -l ∈ H) {D : Int → Prop} (hH : ∀ x ∈ H, D x) (hsh : Shut s.all D)
    (hcome : ∀ x ∈ s.come, D x) : (∀ x ∈ (fstep l H s n).1.come, D x) ∧ ((fstep l H s n).2 = false → ∃ x, D x ∧ D (-x)) := by
  obtain ⟨o, r, hc, h2, h3, h4, hn, hcase⟩ := fstep_cases (H := H) h
  have hmem : ∀ y, y ∈ nth s.all n ↔ y = o ∨ y = l ∨ y ∈ r := by
    intro y
    rcases hc with e | e
    · rw [e]; simp
    · rw [e]; simp only [List.mem_cons]; constructor <;> (rintro (h | h | h) <;> simp [h])
  have unit : (∀ y ∈ r, -y ∈ H) → D o := by
    intro hr
    refine hsh n hn o ((hmem o).2 (.inl rfl)) fun y hy hne => ?_
    rcases (hmem y).1 hy with e | e | e
    · exact absurd e hne
    · rw [e]; exact hH _ hl
    · exact hH _ (hr y e)
  rcases hcase with ⟨_, e⟩ | ⟨_, i, hi, _, e⟩ | ⟨_, hr, hno, e⟩ | ⟨_, hr, _, e⟩
  · rw [e]; exact ⟨hcome, fun h => by cases h⟩
  · rw [e]; exact ⟨hcome, fun h => by cases h⟩
  · rw [e]; exact ⟨hcome, fun _ => ⟨o, unit hr, hH _ hno⟩⟩
  · rw [e]
    refine ⟨fun x hx => ?_, fun h => by cases h⟩
    rcases List.mem_append.1 hx with h1 | h1
    · exact hcome x h1
    · rw [List.mem_singleton.1 h1]; exact unit hr

theorem fstep_fine {l : Int} {H q : List Int} {s : FS} {n : Nat} {rest : List Int} (h : Inv s.all (mid s l ((n : Int) :: rest))) (hl : -l ∈ H) (hs : Sane H)
    (hf : Fine s.all H (q ++ s.come) l ((n : Int) :: rest) ∨ Doom H (q ++ s.come)) (hok : (fstep l H s n).2 = true) :
    Fine (fstep l H s n).1.all H (q ++ (fstep l H s n).1.come) l rest ∨ Doom H (q ++ (fstep l H s n).1.come) := by
  obtain ⟨o, r, hc, h2, h3, h4, hn, hcase⟩ := fstep_cases (H := H) h
  have hlH : l ∉ H := fun h => hs l h hl
  have tail : ∀ {a : Int} {k : Nat} {X : Prop}, k ≠ n → (a = l ∧ (k : Int) ∈ (n : Int) :: rest) ∨ X → (a = l ∧ (k : Int) ∈ rest) ∨ X := by
    rintro a k X hk (⟨h1, h2⟩ | h1)
    · refine .inl ⟨h1, ?_⟩
      rcases List.mem_cons.1 h2 with e | e
      · exact absurd (by omega) hk
      · exact e
    · exact .inr h1
  have keepD : ∀ {Q Q' : List Int}, (∀ x ∈ Q, x ∈ Q') → Doom H Q → Doom H Q' := fun hsub ⟨x, hx, hx2⟩ => ⟨x, hsub x hx, hx2⟩
  rcases hcase with ⟨ho, e⟩ | ⟨ho, i, hi, hz, e⟩ | ⟨_, hr, hno, e⟩ | ⟨_, hr, _, e⟩
  · rw [e]
    rcases hf with hf | hf
    · refine .inl fun k hk a p hap ha => ?_
      rw [List.length_set] at hk
      rw [nth_set] at hap
      split at hap
      · rename_i e1
        obtain ⟨rfl, _⟩ := e1
        simp only [fst_, snd_, List.getD_cons_zero, List.getD_cons_succ] at hap
        rcases hap with ⟨rfl, rfl⟩ | ⟨rfl, rfl⟩
        · exact absurd ha (hs _ ho)
        · exact .inr (.inl ho)
      · rename_i e1
        exact tail (fun e => e1 ⟨e.symm, hn⟩) (hf k hk a p hap ha)
    · exact .inr hf
  · rw [e]
    rcases hf with hf | hf
    · have hold : -o ∈ H → Doom H (q ++ s.come) := by
        intro hno
        have := hf n hn o l (by
          rcases hc with e | e
          · rw [e]; exact .inl ⟨rfl, rfl⟩
          · rw [e]; exact .inr ⟨rfl, rfl⟩) hno
        rcases this with ⟨e1, _⟩ | h1 | h1
        · exact absurd e1 h2
        · exact absurd h1 hlH
        · exact ⟨l, h1, hl⟩
      by_cases hno : -o ∈ H
      · exact .inr (hold hno)
      · refine .inl fun k hk a p hap ha => ?_
        rw [List.length_set] at hk
        rw [nth_set] at hap
        split at hap
        · rename_i e1
          obtain ⟨rfl, _⟩ := e1
          simp only [fst_, snd_, List.getD_cons_zero, List.getD_cons_succ] at hap
          rcases hap with ⟨rfl, rfl⟩ | ⟨rfl, rfl⟩
          · exact absurd ha hno
          · exact absurd ha hz
        · rename_i e1
          exact tail (fun e => e1 ⟨e.symm, hn⟩) (hf k hk a p hap ha)
    · exact .inr hf
  · rw [e] at hok; cases hok
  · rw [e]
    rcases hf with hf | hf
    · refine .inl fun k hk a p hap ha => ?_
      rw [List.length_set] at hk
      rw [nth_set] at hap
      have hin : ∀ x, x ∈ q ++ s.come → x ∈ q ++ (s.come ++ [o]) := by
        intro x hx
        rw [← List.append_assoc]
        exact List.mem_append_left _ hx
      split at hap
      · rename_i e1 hno
        obtain ⟨rfl, _⟩ := hno
        simp only [fst_, snd_, List.getD_cons_zero, List.getD_cons_succ] at hap
        rcases hap with ⟨rfl, rfl⟩ | ⟨rfl, rfl⟩
        · exact absurd ha e1
        · exact .inr (.inr (by simp))
      · rename_i e1
        rcases tail (fun e => e1 ⟨e.symm, hn⟩) (hf k hk a p hap ha) with h1 | h1 | h1
        · exact .inl h1
        · exact .inr (.inl h1)
        · exact .inr (.inr (hin _ h1))
    · exact .inr (keepD (fun x hx => by rw [← List.append_assoc]; exact List.mem_append_left _ hx) hf)

theorem shut_perm {all all' : List (List Int)} {D : Int → Prop} (h : Shut all D) (hl : all'.length = all.length) (hp : ∀ k, (nth all' k).Perm (nth all k)) : Shut all' D := by
  intro n hn x hx hy
  exact h n (by omega) x ((hp n).mem_iff.1 hx) fun y hy1 hne => hy y ((hp n).mem_iff.2 hy1) hne

/-- All that is told of a whole fall. -/
structure Fell (l : Int) (H q : List Int) (s : FS) (r : FS × Bool) (D : Int → Prop) : Prop where
  inv : Inv r.1.all (mid r.1 l [])
  len : r.1.all.length = s.all.length
  perm : ∀ k, (nth r.1.all k).Perm (nth s.all k)
  come : ∀ x ∈ r.1.come, D x
  bad : r.2 = false → ∃ x, D x ∧ D (-x)
  fine : r.2 = true → Fine r.1.all H (q ++ r.1.come) l [] ∨ Doom H (q ++ r.1.come)
theorem falls_fell {l : Int} {H q : List Int} (hl : -l ∈ H) (hs : Sane H) {D : Int → Prop} (hH : ∀ x ∈ H, D x) : ∀ (rest : List Int) (s : FS), Inv s.all (mid s l rest) → Shut s.all D → (∀ x ∈ s.come, D x) →
    (Fine s.all H (q ++ s.come) l rest ∨ Doom H (q ++ s.come)) → Fell l H q s (falls l H rest s) D
  | [], s, hi, hsh, hc, hf => ⟨hi, rfl, fun _ => List.Perm.refl _, hc, (fun h => by cases h), fun _ => hf⟩
  | n :: rest, s, hi, hsh, hc, hf => by
    obtain ⟨k, rfl, hk, _⟩ := hi.watch l n (by unfold mid updI; rw [if_pos rfl]; simp)
    have h1 := fstep_kept (H := H) hi
    have h2 := fstep_sound hi hl hH hsh hc
    have h3 := fstep_fine (q := q) hi hl hs hf
    unfold falls
    rw [Int.toNat_natCast]
    rcases hst : fstep l H s k with ⟨s', ok⟩
    rw [hst] at h1 h2 h3
    cases ok with
    | true =>
      have ih := falls_fell hl hs hH (q := q) rest s' h1.inv (shut_perm hsh h1.len h1.perm) h2.1 (h3 rfl)
      exact ⟨ih.inv, ih.len.trans h1.len, fun k => (ih.perm k).trans (h1.perm k), ih.come, ih.bad, ih.fine⟩
    | false =>
      refine ⟨?_, h1.len, h1.perm, h2.1, fun _ => h2.2 rfl, (fun h => by cases h)⟩
      have := h1.inv
      unfold mid at this ⊢
      simpa using this
end Go.Proofs.Ytjlkjgoncfdaeaa.RM

namespace Go.Proofs.Ytjlkjgoncfdaeaa.RM

theorem falls_kept {l : Int} {H : List Int} : ∀ (rest : List Int) (s : FS), Inv s.all (mid s l rest) →
    Inv (falls l H rest s).1.all (mid (falls l H rest s).1 l []) ∧ (falls l H rest s).1.all.length = s.all.length ∧ (∀ k, (nth (falls l H rest s).1.all k).Perm (nth s.all k)) ∧
    (∀ x ∈ (falls l H rest s).1.come, x ∈ s.come ∨ ∃ n, n < s.all.length ∧ x ∈ nth s.all n) ∧ (falls l H rest s).1.come.length ≤ s.come.length + rest.length
  | [], s, hi => ⟨hi, rfl, fun _ => List.Perm.refl _, fun x hx => .inl hx, by simp [falls]⟩
  | n :: rest, s, hi => by
    obtain ⟨k, rfl, hk, _⟩ := hi.watch l n (by unfold mid updI; rw [if_pos rfl]; simp)
    have h1 := fstep_kept (H := H) hi
    obtain ⟨o, r, hc, h2, h3, h4, hn, hcase⟩ := fstep_cases (H := H) hi
    have hmo : o ∈ nth s.all k := by
      rcases hc with e | e
      · rw [e]; simp
      · rw [e]; simp
    have hcome : ∀ x ∈ (fstep l H s k).1.come, x ∈ s.come ∨ ∃ n, n < s.all.length ∧ x ∈ nth s.all n := by
      rcases hcase with ⟨_, e⟩ | ⟨_, i, hi, _, e⟩ | ⟨_, _, _, e⟩ | ⟨_, _, _, e⟩
      · rw [e]; exact fun x hx => .inl hx
      · rw [e]; exact fun x hx => .inl hx
      · rw [e]; exact fun x hx => .inl hx
      · rw [e]
        intro x hx
        rcases List.mem_append.1 hx with h | h
        · exact .inl h
        · rw [List.mem_singleton.1 h]; exact .inr ⟨k, hn, hmo⟩
    have hlen : (fstep l H s k).1.come.length ≤ s.come.length + 1 := by
      rcases hcase with ⟨_, e⟩ | ⟨_, i, hi, _, e⟩ | ⟨_, _, _, e⟩ | ⟨_, _, _, e⟩ <;> rw [e] <;> simp
    unfold falls
    rw [Int.toNat_natCast]
    rcases hst : fstep l H s k with ⟨s', ok⟩
    rw [hst] at h1 hcome hlen
    cases ok with
    | true =>
      obtain ⟨i1, i2, i3, i4, i5⟩ := falls_kept (H := H) rest s' h1.inv
      refine ⟨i1, i2.trans h1.len, fun k => (i3 k).trans (h1.perm k), fun x hx => ?_, by simp only [List.length_cons]; simp only at hlen; omega⟩
      rcases i4 x hx with h | ⟨n, hn, hx⟩
      · exact hcome x h
      · exact .inr ⟨n, by have := h1.len; simp only at this; omega, (h1.perm n).mem_iff.1 hx⟩
    | false =>
      refine ⟨?_, h1.len, h1.perm, hcome, by simp only [List.length_cons]; simp only at hlen; omega⟩
      have := h1.inv
      unfold mid at this ⊢
      simpa using this

theorem nodup_lenI {l S : List Int} (h : l.Nodup) (hs : ∀ x ∈ l, x ∈ S) : l.length ≤ S.length := by
  induction l generalizing S with
  | nil => simp
  | cons a l ih =>
    rw [List.nodup_cons] at h
    obtain ⟨s1, s2, rfl⟩ := List.append_of_mem (hs a (by simp))
    have := ih h.2 (S := s1 ++ s2) (fun x hx => by
      have h1 := hs x (by simp [hx])
      rw [List.mem_append, List.mem_cons] at h1
      rw [List.mem_append]
      rcases h1 with h1 | h1 | h1
      · exact .inl h1
      · exact absurd (h1 ▸ hx) h.1
      · exact .inr h1)
    simp only [List.length_cons, List.length_append] at this ⊢
    omega
theorem Inv.few {all : List (List Int)} {by_ : Int → List Int} (h : Inv all by_) (x : Int) : (by_ x).length ≤ all.length := by
  have := nodup_lenI (l := by_ x) (S := (List.range all.length).map fun (i : Nat) => (i : Int)) (h.once x) (fun i hi => by
    obtain ⟨n, rfl, hn, _⟩ := h.watch x i hi
    exact List.mem_map.2 ⟨n, List.mem_range.2 hn, rfl⟩)
  simpa using this
/-- The bases differ but in the order within clauses, and where they are watched. -/
structure Kin (b b' : RB) : Prop where
  len : b'.all.length = b.all.length
  perm : ∀ k, (nth b'.all k).Perm (nth b.all k)
  units : b'.units = b.units
  empty : b'.empty = b.empty
theorem Kin.refl (b : RB) : Kin b b := ⟨rfl, fun _ => List.Perm.refl _, rfl, rfl⟩
theorem Kin.trans {a b c : RB} (h : Kin a b) (k : Kin b c) : Kin a c := ⟨k.len.trans h.len, fun n => (k.perm n).trans (h.perm n), k.units.trans h.units, k.empty.trans h.empty⟩

theorem mid_start (b : RB) (l : Int) : mid ⟨b.all, b.by_, [], []⟩ l (b.by_ l) = b.by_ := by
  funext y
  unfold mid updI
  split
  · rename_i e; rw [e]; rfl
  · rfl
theorem fallB_kept (l : Int) (H : List Int) (b : RB) (h : Inv b.all b.by_) : Inv (fallB l H b).all (fallB l H b).by_ ∧ Kin b (fallB l H b) ∧ (∀ x ∈ fallC l H b, ∃ n, n < b.all.length ∧ x ∈ nth b.all n) ∧ (fallC l H b).length ≤ (b.by_ l).length := by
  obtain ⟨i1, i2, i3, i4, i5⟩ := falls_kept (l := l) (H := H) (b.by_ l) ⟨b.all, b.by_, [], []⟩ (by rw [mid_start]; exact h)
  refine ⟨?_, ⟨i2, i3, rfl, rfl⟩, fun x hx => ?_, by simpa [fallC] using i5⟩
  · unfold mid at i1
    rw [List.append_nil] at i1
    exact i1
  · rcases i4 x hx with h1 | h1
    · cases h1
    · exact h1
theorem fall_fell {l : Int} {H q : List Int} {b : RB} (h : Inv b.all b.by_) (hl : -l ∈ H) (hs : Sane H) {D : Int → Prop} (hH : ∀ x ∈ H, D x) (hsh : Shut b.all D) (hf : Fine b.all H q l (b.by_ l) ∨ Doom H q) :
    (∀ x ∈ fallC l H b, D x) ∧ (fallO l H b = false → ∃ x, D x ∧ D (-x)) ∧ (fallO l H b = true → Fine (fallB l H b).all H (q ++ fallC l H b) l [] ∨ Doom H (q ++ fallC l H b)) := by
  have := falls_fell hl hs hH (q := q) (b.by_ l) ⟨b.all, b.by_, [], []⟩ (by rw [mid_start]; exact h) hsh (fun _ h => by cases h) (by simpa using hf)
  exact ⟨this.come, this.bad, this.fine⟩

theorem Fine.any {all : List (List Int)} {H Q : List Int} {l l' : Int} (h : Fine all H Q l []) : Fine all H Q l' [] := by
  intro n hn a o hao ha
  rcases h n hn a o hao ha with ⟨_, h1⟩ | h1
  · cases h1
  · exact .inr h1

/-- What a run tells. -/
def Told (D : Int → Prop) (H Q : List Int) (b' : RB) : Option (List Int) → Prop
  | none => ∃ x, D x ∧ D (-x)
  | some H' => Sane H' ∧ H'.Nodup ∧ (∀ x ∈ H', D x) ∧ (∀ x ∈ H, x ∈ H') ∧ (∀ x ∈ Q, x ∈ H') ∧ Fine b'.all H' [] 0 []
theorem runM_ok {D : Int → Prop} (h0 : ¬ D 0) : ∀ (m : Nat) (b : RB) (H Q : List Int) (r : Option (List Int)) (b' : RB), Inv b.all b.by_ → Sane H → H.Nodup → (∀ x ∈ H, D x) → (∀ x ∈ Q, D x) → Shut b.all D →
    (Fine b.all H Q 0 [] ∨ Doom H Q) → runM m b H Q = some (r, b') → Inv b'.all b'.by_ ∧ Kin b b' ∧ Told D H Q b' r
  | 0, _, _, _, _, _, _, _, _, _, _, _, _, h => by cases h
  | m + 1, b, H, [], r, b', hi, hs, hnd, hH, _, _, hf, h => by
    unfold runM at h
    injection h with h
    injection h with h1 h2
    subst h1 h2
    refine ⟨hi, Kin.refl _, hs, hnd, hH, fun _ h => h, (fun x hx => by cases hx), ?_⟩
    rcases hf with hf | ⟨x, hx, _⟩
    · exact hf
    · cases hx
  | m + 1, b, H, l :: q, r, b', hi, hs, hnd, hH, hQ, hsh, hf, h => by
    unfold runM at h
    split at h
    · rename_i hl
      obtain ⟨k1, k2, k3⟩ := runM_ok h0 m b H q r b' hi hs hnd hH (fun x hx => hQ x (by simp [hx])) hsh (by
        rcases hf with hf | ⟨x, hx, hx2⟩
        · refine .inl fun n hn a o hao ha => ?_
          rcases hf n hn a o hao ha with h1 | h1 | h1
          · exact .inl h1
          · exact .inr (.inl h1)
          · rcases List.mem_cons.1 h1 with rfl | h1
            · exact .inr (.inl hl)
            · exact .inr (.inr h1)
        · rcases List.mem_cons.1 hx with rfl | hx
          · exact absurd hx2 (hs _ hl)
          · exact .inr ⟨x, hx, hx2⟩) h
      refine ⟨k1, k2, ?_⟩
      cases r with
      | none => exact k3
      | some H' =>
        obtain ⟨a1, a2, a3, a4, a5, a6⟩ := k3
        refine ⟨a1, a2, a3, a4, fun x hx => ?_, a6⟩
        rcases List.mem_cons.1 hx with rfl | hx
        · exact a4 _ hl
        · exact a5 x hx
    · rename_i hl
      split at h
      · rename_i hnl
        injection h with h
        injection h with h1 h2
        subst h1 h2
        exact ⟨hi, Kin.refl _, l, hQ l (by simp), hH _ hnl⟩
      · rename_i hnl
        have hDl : D l := hQ l (by simp)
        have hl0 : l ≠ 0 := by rintro rfl; exact h0 hDl
        have hs' : Sane (l :: H) := by
          intro x hx hx2
          rcases List.mem_cons.1 hx with rfl | hx
          · rcases List.mem_cons.1 hx2 with e | e
            · omega
            · exact hnl e
          · rcases List.mem_cons.1 hx2 with e | e
            · have : x = -l := by omega
              exact hnl (this ▸ hx)
            · exact hs x hx e
        have hnd' : (l :: H).Nodup := List.nodup_cons.2 ⟨hl, hnd⟩
        have hH' : ∀ x ∈ l :: H, D x := by
          intro x hx
          rcases List.mem_cons.1 hx with rfl | hx
          · exact hDl
          · exact hH x hx
        have hF : Fine b.all (l :: H) q (-l) (b.by_ (-l)) ∨ Doom (l :: H) q := by
          rcases hf with hf | ⟨x, hx, hx2⟩
          · refine .inl fun n hn a o hao ha => ?_
            rcases List.mem_cons.1 ha with e | ha
            · refine .inl ⟨by omega, ?_⟩
              have hw := hi.watched n hn
              have e : a = -l := by omega
              rcases hao with ⟨e1, _⟩ | ⟨e1, _⟩
              · rw [← e, e1]; exact hw.1
              · rw [← e, e1]; exact hw.2
            · rcases hf n hn a o hao ha with ⟨_, h1⟩ | h1 | h1
              · cases h1
              · exact .inr (.inl (by simp [h1]))
              · rcases List.mem_cons.1 h1 with e | h1
                · exact .inr (.inl (by simp [e]))
                · exact .inr (.inr h1)
          · rcases List.mem_cons.1 hx with rfl | hx
            · exact absurd hx2 hnl
            · exact .inr ⟨x, hx, by simp [hx2]⟩
        obtain ⟨f1, f2, f3⟩ := fall_fell hi (by simp) hs' hH' hsh hF
        obtain ⟨g1, g2, g3, g4⟩ := fallB_kept (-l) (l :: H) b hi
        split at h
        · rename_i hok
          obtain ⟨k1, k2, k3⟩ := runM_ok h0 m _ (l :: H) _ r b' g1 hs' hnd' hH' (fun x hx => by
            rcases List.mem_append.1 hx with hx | hx
            · exact hQ x (by simp [hx])
            · exact f1 x hx) (shut_perm hsh g2.len g2.perm) ((f3 hok).imp Fine.any id) h
          refine ⟨k1, g2.trans k2, ?_⟩
          cases r with
          | none => exact k3
          | some H' =>
            obtain ⟨a1, a2, a3, a4, a5, a6⟩ := k3
            refine ⟨a1, a2, a3, fun x hx => a4 x (by simp [hx]), fun x hx => ?_, a6⟩
            rcases List.mem_cons.1 hx with rfl | hx
            · exact a4 _ (by simp)
            · exact a5 x (by simp [hx])
        · rename_i hok
          injection h with h
          injection h with h1 h2
          subst h1 h2
          exact ⟨g1, g2, f2 (by simpa using hok)⟩

/-- A run ends. -/
theorem runM_ends (U : List Int) : ∀ (a : Nat) (b : RB) (H : List Int), Inv b.all b.by_ → (∀ n, n < b.all.length → ∀ x ∈ nth b.all n, x ∈ U) → (U.filter (fun x => !H.contains x)).length ≤ a →
    ∀ Q : List Int, (∀ x ∈ Q, x ∈ U) → ∃ m r, runM m b H Q = some r := by
  intro a
  induction a with
  | zero =>
    intro b H hi hU ha Q
    induction Q with
    | nil => exact fun _ => ⟨1, _, rfl⟩
    | cons l q ih =>
      intro hQ
      obtain ⟨m, r, hr⟩ := ih fun x hx => hQ x (by simp [hx])
      refine ⟨m + 1, r, ?_⟩
      have hl : l ∈ H := by
        have h1 : U.filter (fun x => !H.contains x) = [] := List.eq_nil_of_length_eq_zero (by omega)
        have := List.filter_eq_nil_iff.1 h1 l (hQ l (by simp))
        simpa using this
      unfold runM
      rw [if_pos hl, hr]
  | succ a iha =>
    intro b H hi hU ha Q
    induction Q with
    | nil => exact fun _ => ⟨1, _, rfl⟩
    | cons l q ih =>
      intro hQ
      by_cases hl : l ∈ H
      · obtain ⟨m, r, hr⟩ := ih fun x hx => hQ x (by simp [hx])
        refine ⟨m + 1, r, ?_⟩
        unfold runM
        rw [if_pos hl, hr]
      · by_cases hnl : -l ∈ H
        · exact ⟨1, (none, b), by unfold runM; rw [if_neg hl, if_pos hnl]⟩
        · by_cases hok : fallO (-l) (l :: H) b = true
          · obtain ⟨g1, g2, g3, g4⟩ := fallB_kept (-l) (l :: H) b hi
            have hlt : (U.filter (fun x => !(l :: H).contains x)).length ≤ a := by
              have e : U.filter (fun x => !(l :: H).contains x) = (U.filter (fun x => !H.contains x)).filter (fun x => x != l) := by
                rw [List.filter_filter]
                refine List.filter_congr fun x _ => ?_
                rw [List.contains_cons]
                cases h1 : x == l <;> simp [bne, h1]
              have h2 : ((U.filter (fun x => !H.contains x)).filter (fun x => x != l)).length < (U.filter (fun x => !H.contains x)).length := by
                rw [List.length_filter_lt_length_iff_exists]
                exact ⟨l, List.mem_filter.2 ⟨hQ l (by simp), by simpa using hl⟩, by simp⟩
              rw [e]
              omega
            obtain ⟨m, r, hr⟩ := iha (fallB (-l) (l :: H) b) (l :: H) g1 (fun n hn x hx => hU n (by rw [← g2.len]; exact hn) x ((g2.perm n).mem_iff.1 hx)) hlt (q ++ fallC (-l) (l :: H) b) (fun x hx => by
              rcases List.mem_append.1 hx with h1 | h1
              · exact hQ x (by simp [h1])
              · obtain ⟨n, hn, hx⟩ := g3 x h1
                exact hU n hn x hx)
            refine ⟨m + 1, r, ?_⟩
            unfold runM
            rw [if_neg hl, if_neg hnl, if_pos hok, hr]
          · exact ⟨1, _, by unfold runM; rw [if_neg hl, if_neg hnl, if_neg hok]⟩

theorem runM_more : ∀ (m : Nat) (b : RB) (H Q : List Int) (r : Option (List Int) × RB), runM m b H Q = some r → runM (m + 1) b H Q = some r
  | 0, _, _, _, _, h => by cases h
  | m + 1, b, H, [], r, h => by unfold runM at h ⊢; exact h
  | m + 1, b, H, l :: q, r, h => by
    unfold runM at h
    unfold runM
    split at h
    · rename_i hl; rw [if_pos hl]; exact runM_more m _ _ _ _ h
    · rename_i hl
      rw [if_neg hl]
      split at h
      · rename_i hn; rw [if_pos hn]; exact h
      · rename_i hn
        rw [if_neg hn]
        split at h
        · rename_i ho; rw [if_pos ho]; exact runM_more m _ _ _ _ h
        · rename_i ho; rw [if_neg ho]; exact h
theorem runM_mores {m : Nat} {b : RB} {H Q : List Int} {r : Option (List Int) × RB} (h : runM m b H Q = some r) : ∀ k, runM (m + k) b H Q = some r
  | 0 => h
  | k + 1 => runM_more _ _ _ _ _ (runM_mores h k)
/-- A run ends within so many steps. -/
theorem runM_within (U : List Int) (N : Nat) : ∀ (a : Nat) (b : RB) (H : List Int), Inv b.all b.by_ → b.all.length ≤ N → (∀ x, (b.by_ x).length ≤ b.all.length) → (∀ n, n < b.all.length → ∀ x ∈ nth b.all n, x ∈ U) → (U.filter (fun x => !H.contains x)).length ≤ a →
    ∀ Q : List Int, (∀ x ∈ Q, x ∈ U) → ∃ r, runM (a * (N + 1) + Q.length + 1) b H Q = some r := by
  intro a
  induction a with
  | zero =>
    intro b H hi hN hby hU ha Q
    induction Q with
    | nil => exact fun _ => ⟨_, rfl⟩
    | cons l q ih =>
      intro hQ
      obtain ⟨r, hr⟩ := ih fun x hx => hQ x (by simp [hx])
      refine ⟨r, ?_⟩
      have hl : l ∈ H := by
        have h1 : U.filter (fun x => !H.contains x) = [] := List.eq_nil_of_length_eq_zero (by omega)
        have := List.filter_eq_nil_iff.1 h1 l (hQ l (by simp))
        simpa using this
      have e : 0 * (N + 1) + (l :: q).length + 1 = (0 * (N + 1) + q.length + 1) + 1 := by simp
      rw [e, runM, if_pos hl, hr]
  | succ a iha =>
    intro b H hi hN hby hU ha Q
    induction Q with
    | nil => exact fun _ => ⟨_, rfl⟩
    | cons l q ih =>
      intro hQ
      have e : (a + 1) * (N + 1) + (l :: q).length + 1 = ((a + 1) * (N + 1) + q.length + 1) + 1 := by simp; omega
      by_cases hl : l ∈ H
      · obtain ⟨r, hr⟩ := ih fun x hx => hQ x (by simp [hx])
        refine ⟨r, ?_⟩
        rw [e, runM, if_pos hl, hr]
      · by_cases hnl : -l ∈ H
        · exact ⟨(none, b), by rw [e, runM, if_neg hl, if_pos hnl]⟩
        · by_cases hok : fallO (-l) (l :: H) b = true
          · obtain ⟨g1, g2, g3, g4⟩ := fallB_kept (-l) (l :: H) b hi
            have hlt : (U.filter (fun x => !(l :: H).contains x)).length ≤ a := by
              have e : U.filter (fun x => !(l :: H).contains x) = (U.filter (fun x => !H.contains x)).filter (fun x => x != l) := by
                rw [List.filter_filter]
                refine List.filter_congr fun x _ => ?_
                rw [List.contains_cons]
                cases h1 : x == l <;> simp [bne, h1]
              have h2 : ((U.filter (fun x => !H.contains x)).filter (fun x => x != l)).length < (U.filter (fun x => !H.contains x)).length := by
                rw [List.length_filter_lt_length_iff_exists]
                exact ⟨l, List.mem_filter.2 ⟨hQ l (by simp), by simpa using hl⟩, by simp⟩
              rw [e]
              omega
            obtain ⟨r, hr⟩ := iha (fallB (-l) (l :: H) b) (l :: H) g1 (by rw [g2.len]; exact hN) (fun x => g1.few x) (fun n hn x hx => hU n (by rw [← g2.len]; exact hn) x ((g2.perm n).mem_iff.1 hx)) hlt (q ++ fallC (-l) (l :: H) b) (fun x hx => by
              rcases List.mem_append.1 hx with h1 | h1
              · exact hQ x (by simp [h1])
              · obtain ⟨n, hn, hx⟩ := g3 x h1
                exact hU n hn x hx)
            refine ⟨r, ?_⟩
            have hc : (fallC (-l) (l :: H) b).length ≤ N := Nat.le_trans g4 (Nat.le_trans (hby _) hN)
            obtain ⟨k, hk⟩ : ∃ k, (a + 1) * (N + 1) + q.length + 1 = (a * (N + 1) + (q ++ fallC (-l) (l :: H) b).length + 1) + k := by
              refine ⟨(a + 1) * (N + 1) + q.length + 1 - (a * (N + 1) + (q ++ fallC (-l) (l :: H) b).length + 1), ?_⟩
              rw [List.length_append, Nat.add_mul]
              omega
            rw [e, runM, if_neg hl, if_neg hnl, if_pos hok, hk]
            exact runM_mores hr k
          · exact ⟨_, by rw [e, runM, if_neg hl, if_neg hnl, if_neg hok]⟩

/-- r is what comes of the clauses and what is given: none for a conflict. -/
def Ans (db : List (List Int)) (given : List Int) : Option (List Int) → Prop
  | none => Conf db given
  | some l => ¬ Conf db given ∧ ∀ x, x ∈ l ↔ Drv db given x

theorem mem_clsB {b : RB} {c : List Int} : c ∈ clsB b ↔ (∃ n, n < b.all.length ∧ nth b.all n = c) ∨ (∃ x ∈ b.units, c = [x]) ∨ (b.empty = true ∧ c = []) := by
  unfold clsB
  rw [List.mem_append, List.mem_append, List.mem_map]
  constructor
  · rintro ((h | ⟨x, hx, rfl⟩) | h)
    · obtain ⟨n, hn, rfl⟩ := List.getElem_of_mem h
      exact .inl ⟨n, hn, by simp [nth, List.getD_eq_getElem?_getD, hn]⟩
    · exact .inr (.inl ⟨x, hx, rfl⟩)
    · split at h
      · rename_i he; exact .inr (.inr ⟨he, by simpa using h⟩)
      · cases h
  · rintro (⟨n, hn, rfl⟩ | ⟨x, hx, rfl⟩ | ⟨he, rfl⟩)
    · exact .inl (.inl (by simp [nth, List.getD_eq_getElem?_getD, hn]))
    · exact .inl (.inr ⟨x, hx, rfl⟩)
    · exact .inr (by rw [he]; simp)

theorem drv_ne0 {db : List (List Int)} {given : List Int} (hdb : ∀ c ∈ db, (0 : Int) ∉ c) (hg : (0 : Int) ∉ given) : ¬ Drv db given 0 := by
  intro h
  cases h with
  | given h => exact hg h
  | unit hc hx _ => exact hdb _ hc hx

theorem run_ans {b : RB} (hi : Inv b.all b.by_) (he : b.empty = false) (hu : (0 : Int) ∉ b.units) {given : List Int} (hg : (0 : Int) ∉ given) {m : Nat} {r : Option (List Int)} {b' : RB} (h : runM m b [] (b.units ++ given) = some (r, b')) :
    Inv b'.all b'.by_ ∧ Kin b b' ∧ Ans (clsB b) given r ∧ ∀ l, r = some l → l.Nodup := by
  have h0 : ¬ Drv (clsB b) given 0 := by
    refine drv_ne0 (fun c hc h0 => ?_) hg
    rcases mem_clsB.1 hc with ⟨n, hn, rfl⟩ | ⟨x, hx, rfl⟩ | ⟨he, rfl⟩
    · exact (hi.bd n hn 0 h0).1 rfl
    · exact hu (by rw [List.mem_singleton.1 h0]; exact hx)
    · cases h0
  obtain ⟨k1, k2, k3⟩ := runM_ok (D := Drv (clsB b) given) h0 m b [] _ r b' hi (fun _ h => by cases h) List.nodup_nil (fun _ h => by cases h) (fun x hx => by
    rcases List.mem_append.1 hx with h1 | h1
    · exact Drv.unit (c := [x]) (mem_clsB.2 (.inr (.inl ⟨x, h1, rfl⟩))) (by simp) (fun y hy hne => absurd (List.mem_singleton.1 hy) hne)
    · exact Drv.given h1) (fun n hn x hx hy => Drv.unit (mem_clsB.2 (.inl ⟨n, hn, rfl⟩)) hx hy) (.inl fun n hn a o _ ha => by cases ha) h
  refine ⟨k1, k2, ?_⟩
  cases r with
  | none => exact ⟨.inr k3, fun _ h => by cases h⟩
  | some l =>
    obtain ⟨a1, a2, a3, a4, a5, a6⟩ := k3
    have hsub : ∀ x, Drv (clsB b) given x → x ∈ l := by
      intro x hx
      refine Drv.least (S := fun x => x ∈ l) (fun x hx => a5 x (List.mem_append_right _ hx)) (fun c hc x hx hy => ?_) hx
      rcases mem_clsB.1 hc with ⟨n, hn, rfl⟩ | ⟨u, hu, rfl⟩ | ⟨he2, _⟩
      · have hn' : n < b'.all.length := by rw [k2.len]; exact hn
        have hp := k2.perm n
        obtain ⟨p, q, rr, e⟩ := two_parts (k1.two n hn')
        have hmem : ∀ y, y ∈ nth b.all n ↔ y = p ∨ y = q ∨ y ∈ rr := fun y => by rw [← hp.mem_iff, e]; simp
        have hw := a6 n hn'
        rw [e] at hw
        have w1 : -p ∈ l → q ∈ l := fun h => by
          rcases hw p q (.inl ⟨rfl, rfl⟩) h with ⟨_, h1⟩ | h1 | h1
          · cases h1
          · exact h1
          · cases h1
        have w2 : -q ∈ l → p ∈ l := fun h => by
          rcases hw q p (.inr ⟨rfl, rfl⟩) h with ⟨_, h1⟩ | h1 | h1
          · cases h1
          · exact h1
          · cases h1
        have hpq : p ≠ q := by
          have := k1.nodup n hn'
          rw [e, List.nodup_cons] at this
          intro e2
          exact this.1 (by simp [e2])
        by_cases e1 : x = p
        · rw [e1]; rw [e1] at hy
          exact w2 (hy q ((hmem q).2 (.inr (.inl rfl))) (Ne.symm hpq))
        · by_cases e2 : x = q
          · rw [e2]; rw [e2] at hy
            exact w1 (hy p ((hmem p).2 (.inl rfl)) hpq)
          · have np := hy p ((hmem p).2 (.inl rfl)) (Ne.symm e1)
            have nq := hy q ((hmem q).2 (.inr (.inl rfl))) (Ne.symm e2)
            exact absurd np (a1 p (w2 nq))
      · rw [List.mem_singleton.1 hx]
        exact a5 u (List.mem_append_left _ hu)
      · rw [he] at he2; cases he2
    refine ⟨⟨?_, fun x => ⟨a3 x, hsub x⟩⟩, fun l' h => by injection h with h; rw [← h]; exact a2⟩
    rintro (hc | ⟨x, h1, h2⟩)
    · rcases mem_clsB.1 hc with ⟨n, hn, e⟩ | ⟨u, hu, e⟩ | ⟨he2, _⟩
      · have := hi.two n hn
        rw [e] at this
        simp at this
      · cases e
      · rw [he] at he2; cases he2
    · exact a1 x (hsub x h1) (hsub _ h2)
end Go.Proofs.Ytjlkjgoncfdaeaa.RM

namespace Go.Proofs.Ytjlkjgoncfdaeaa.RM

abbrev Bd (x : Int) : Prop := x ≠ 0 ∧ -1048576 ≤ x ∧ x ≤ 1048576
structure Stands (b : RB) (db : List (List Int)) : Prop where
  inv : Inv b.all b.by_
  ubd : ∀ x ∈ b.units, Bd x
  dbd : ∀ c ∈ db, ∀ x ∈ c, Bd x
  to : ∀ c ∈ db, (∃ x ∈ c, -x ∈ c) ∨ ∃ c' ∈ clsB b, ∀ x, x ∈ c' ↔ x ∈ c
  back : ∀ c' ∈ clsB b, ∃ c ∈ db, ∀ x, x ∈ c' ↔ x ∈ c
  sizeA : b.all.length ≤ db.length
  sizeU : b.units.length ≤ db.length

theorem Inv.empty : Inv [] (fun _ => []) where
  two := fun n hn => by cases hn
  nodup := fun n hn => by cases hn
  bd := fun n hn => by cases hn
  watch := fun x i hi => by cases hi
  watched := fun n hn => by cases hn
  once := fun _ => List.nodup_nil
theorem Stands.empty : Stands ⟨[], fun _ => [], [], false⟩ [] :=
  ⟨Inv.empty, (fun _ h => by cases h), (fun _ h => by cases h), (fun _ h => by cases h), (fun c h => by simp [clsB] at h), Nat.le_refl _, Nat.le_refl _⟩

theorem Stands.skip {b : RB} {db : List (List Int)} (h : Stands b db) {c : List Int} (hc : ∃ x ∈ c, -x ∈ c) (hb : ∀ x ∈ c, Bd x) : Stands b (db ++ [c]) where
  inv := h.inv
  ubd := h.ubd
  dbd := fun d hd => by
    rcases List.mem_append.1 hd with h1 | h1
    · exact h.dbd d h1
    · rw [List.mem_singleton.1 h1]; exact hb
  to := fun d hd => by
    rcases List.mem_append.1 hd with h1 | h1
    · exact h.to d h1
    · rw [List.mem_singleton.1 h1]; exact .inl hc
  back := fun d hd => by
    obtain ⟨e, he, hx⟩ := h.back d hd
    exact ⟨e, List.mem_append_left _ he, hx⟩
  sizeA := Nat.le_trans h.sizeA (by simp)
  sizeU := Nat.le_trans h.sizeU (by simp)

theorem Inv.push {all : List (List Int)} {f : Int → List Int} (h : Inv all f) {x y : Int} {r : List Int} (hn : (x :: y :: r).Nodup) (hb : ∀ z ∈ x :: y :: r, Bd z) :
    Inv (all ++ [x :: y :: r]) (updI (updI f x (f x ++ [(all.length : Int)])) y (updI f x (f x ++ [(all.length : Int)]) y ++ [(all.length : Int)])) := by
  have hxy : x ≠ y := fun e => (List.nodup_cons.1 hn).1 (by simp [e])
  have hnth : ∀ k, nth (all ++ [x :: y :: r]) k = if k < all.length then nth all k else if k = all.length then x :: y :: r else [] := by
    intro k
    unfold nth
    simp only [List.getD_eq_getElem?_getD, List.getElem?_append]
    split
    · rfl
    · split
      · rename_i h1 h2; subst h2; simp
      · rename_i h1 h2
        rw [List.getElem?_eq_none (by simp; omega)]
        rfl
  have hby : ∀ z, updI (updI f x (f x ++ [(all.length : Int)])) y (updI f x (f x ++ [(all.length : Int)]) y ++ [(all.length : Int)]) z = if z = x ∨ z = y then f z ++ [(all.length : Int)] else f z := by
    intro z
    unfold updI
    by_cases e1 : z = y
    · subst e1
      rw [if_pos rfl, if_neg (Ne.symm hxy), if_pos (.inr rfl)]
    · by_cases e2 : z = x
      · subst e2
        rw [if_neg e1, if_pos rfl, if_pos (.inl rfl)]
      · rw [if_neg e1, if_neg e2, if_neg (by simp [e1, e2])]
  have cases_ : ∀ {P : List Int → Prop}, (∀ n, n < all.length → P (nth all n)) → P (x :: y :: r) → ∀ n, n < (all ++ [x :: y :: r]).length → P (nth (all ++ [x :: y :: r]) n) := by
    intro P h1 h2 n hn
    rw [List.length_append] at hn
    simp only [List.length_singleton] at hn
    rw [hnth]
    by_cases e : n < all.length
    · rw [if_pos e]; exact h1 n e
    · rw [if_neg e, if_pos (by omega)]; exact h2
  have hfresh : ∀ z, (all.length : Int) ∉ f z := by
    intro z hz
    obtain ⟨n, e, hn, _⟩ := h.watch z _ hz
    omega
  constructor
  · exact cases_ (P := fun c => 2 ≤ c.length) h.two (by simp)
  · exact cases_ (P := fun c => c.Nodup) h.nodup hn
  · exact cases_ (P := fun c => ∀ x ∈ c, x ≠ 0 ∧ -1048576 ≤ x ∧ x ≤ 1048576) h.bd hb
  · intro z i hi
    rw [hby] at hi
    have old : i ∈ f z → ∃ n : Nat, i = n ∧ n < (all ++ [x :: y :: r]).length ∧ (z = fst_ (nth (all ++ [x :: y :: r]) n) ∨ z = snd_ (nth (all ++ [x :: y :: r]) n)) := by
      intro hz
      obtain ⟨n, rfl, hn, hx⟩ := h.watch z i hz
      refine ⟨n, rfl, by simp; omega, ?_⟩
      rw [hnth, if_pos hn]
      exact hx
    split at hi
    · rename_i hz
      rcases List.mem_append.1 hi with h1 | h1
      · exact old h1
      · refine ⟨all.length, List.mem_singleton.1 h1, by simp, ?_⟩
        rw [hnth, if_neg (by omega), if_pos rfl]
        exact hz
    · exact old hi
  · intro n hn
    rw [hby, hby, hnth]
    rw [List.length_append] at hn
    simp only [List.length_singleton] at hn
    by_cases e : n < all.length
    · rw [if_pos e]
      have := h.watched n e
      refine ⟨?_, ?_⟩
      · split
        · exact List.mem_append_left _ this.1
        · exact this.1
      · split
        · exact List.mem_append_left _ this.2
        · exact this.2
    · have : n = all.length := by omega
      subst this
      rw [if_neg e, if_pos rfl]
      simp
  · intro z
    rw [hby]
    split
    · rw [List.nodup_append]
      refine ⟨h.once z, by simp, fun a ha b hb => ?_⟩
      rintro rfl
      rw [List.mem_singleton.1 hb] at ha
      exact hfresh z ha
    · exact h.once z

theorem Stands.add {b : RB} {db : List (List Int)} (h : Stands b db) {c f : List Int} (hb : ∀ x ∈ c, Bd x) (hf : f.Nodup) (hm : ∀ x, x ∈ f ↔ x ∈ c) : Stands (addM b f) (db ++ [c]) := by
  have hd : ∀ d ∈ db ++ [c], ∀ x ∈ d, Bd x := by
    intro d hd
    rcases List.mem_append.1 hd with h1 | h1
    · exact h.dbd d h1
    · rw [List.mem_singleton.1 h1]; exact hb
  -- what is in the base behind it
  have key : ∀ c', c' ∈ clsB (addM b f) ↔ c' ∈ clsB b ∨ c' = f := by
    intro c'
    match f with
    | [] =>
      unfold addM clsB
      by_cases e : b.empty = true
      · simp [e, or_assoc]
      · simp [e, or_assoc]
    | [x] =>
      unfold addM clsB
      simp only [List.map_append, List.mem_append, List.map_cons, List.map_nil, List.mem_singleton]
      constructor
      · rintro ((h1 | h1 | h1) | h1)
        · exact .inl (.inl (.inl h1))
        · exact .inl (.inl (.inr h1))
        · exact .inr h1
        · exact .inl (.inr h1)
      · rintro (((h1 | h1) | h1) | h1)
        · exact .inl (.inl h1)
        · exact .inl (.inr (.inl h1))
        · exact .inr h1
        · exact .inl (.inr (.inr h1))
    | x :: y :: r =>
      unfold addM clsB
      simp only [List.mem_append, List.mem_singleton]
      constructor
      · rintro (((h1 | h1) | h1) | h1)
        · exact .inl (.inl (.inl h1))
        · exact .inr h1
        · exact .inl (.inl (.inr h1))
        · exact .inl (.inr h1)
      · rintro (((h1 | h1) | h1) | h1)
        · exact .inl (.inl (.inl h1))
        · exact .inl (.inr h1)
        · exact .inr h1
        · exact .inl (.inl (.inr h1))
  have hto : ∀ d ∈ db ++ [c], (∃ x ∈ d, -x ∈ d) ∨ ∃ c' ∈ clsB (addM b f), ∀ x, x ∈ c' ↔ x ∈ d := by
    intro d hd
    rcases List.mem_append.1 hd with h1 | h1
    · rcases h.to d h1 with h2 | ⟨c', h2, h3⟩
      · exact .inl h2
      · exact .inr ⟨c', (key c').2 (.inl h2), h3⟩
    · rw [List.mem_singleton.1 h1]; exact .inr ⟨f, (key f).2 (.inr rfl), hm⟩
  have hback : ∀ c' ∈ clsB (addM b f), ∃ d ∈ db ++ [c], ∀ x, x ∈ c' ↔ x ∈ d := by
    intro c' hc'
    rcases (key c').1 hc' with h1 | rfl
    · obtain ⟨d, h2, h3⟩ := h.back c' h1
      exact ⟨d, List.mem_append_left _ h2, h3⟩
    · exact ⟨c, by simp, hm⟩
  have hA := h.sizeA
  have hU := h.sizeU
  match f, hf, hm, hto, hback with
  | [], _, hm, hto, hback => exact ⟨h.inv, h.ubd, hd, hto, hback, by simp [addM]; omega, by simp [addM]; omega⟩
  | [x], _, hm, hto, hback =>
    refine ⟨h.inv, fun z hz => ?_, hd, hto, hback, by simp [addM]; omega, by simp [addM]; omega⟩
    rcases List.mem_append.1 hz with h1 | h1
    · exact h.ubd z h1
    · rw [List.mem_singleton.1 h1]; exact hb x ((hm x).1 (by simp))
  | x :: y :: r, hf, hm, hto, hback => exact ⟨h.inv.push hf fun z hz => hb z ((hm z).1 hz), h.ubd, hd, hto, hback, by simp [addM]; omega, by simp [addM]; omega⟩

theorem Stands.kin {b b' : RB} {db : List (List Int)} (h : Stands b db) (hi : Inv b'.all b'.by_) (hk : Kin b b') : Stands b' db := by
  have lift : ∀ {p q : RB}, Kin p q → ∀ c ∈ clsB p, ∃ c' ∈ clsB q, ∀ x, x ∈ c' ↔ x ∈ c := by
    intro p q hk c hc
    rcases mem_clsB.1 hc with ⟨n, hn, rfl⟩ | ⟨x, hx, rfl⟩ | ⟨he, rfl⟩
    · exact ⟨_, mem_clsB.2 (.inl ⟨n, by rw [hk.len]; exact hn, rfl⟩), fun x => (hk.perm n).mem_iff⟩
    · exact ⟨[x], mem_clsB.2 (.inr (.inl ⟨x, by rw [hk.units]; exact hx, rfl⟩)), fun _ => Iff.rfl⟩
    · exact ⟨[], mem_clsB.2 (.inr (.inr ⟨by rw [hk.empty]; exact he, rfl⟩)), fun _ => Iff.rfl⟩
  have hk' : Kin b' b := ⟨hk.len.symm, fun n => (hk.perm n).symm, hk.units.symm, hk.empty.symm⟩
  refine ⟨hi, by rw [hk.units]; exact h.ubd, h.dbd, fun c hc => ?_, fun c hc => ?_, by rw [hk.len]; exact h.sizeA, by rw [hk.units]; exact h.sizeU⟩
  · rcases h.to c hc with h1 | ⟨c', h1, h2⟩
    · exact .inl h1
    · obtain ⟨d, h3, h4⟩ := lift hk c' h1
      exact .inr ⟨d, h3, fun x => (h4 x).trans (h2 x)⟩
  · obtain ⟨d, h3, h4⟩ := lift hk' c hc
    obtain ⟨e, h5, h6⟩ := h.back d h3
    exact ⟨e, h5, fun x => (h4 x).symm.trans (h6 x)⟩

/-- Derivations go over from clauses to others that have the same members, or none that matter. -/
theorem drv_over {db db' : List (List Int)} {given : List Int} (h0 : ∀ c ∈ db, (0 : Int) ∉ c) (h : ∀ c ∈ db, (∃ x ∈ c, -x ∈ c) ∨ ∃ c' ∈ db', ∀ x, x ∈ c' ↔ x ∈ c) {x : Int} (hx : Drv db given x) : Drv db' given x ∨ Conf db' given := by
  refine Drv.least (S := fun x => Drv db' given x ∨ Conf db' given) (fun x hx => .inl (.given hx)) (fun c hc x hx hy => ?_) hx
  by_cases hcf : Conf db' given
  · exact .inr hcf
  · have hy' : ∀ y ∈ c, y ≠ x → Drv db' given (-y) := fun y h1 h2 => (hy y h1 h2).resolve_right hcf
    rcases h c hc with ⟨z, hz, hnz⟩ | ⟨c', hc', hm⟩
    · have hx0 : x ≠ 0 := by rintro rfl; exact h0 c hc hx
      by_cases e : z = x
      · have := hy' (-z) hnz (by omega)
        rw [Int.neg_neg, e] at this
        exact .inl this
      · have h1 := hy' z hz e
        by_cases e2 : -z = x
        · rw [e2] at h1; exact .inl h1
        · have h2 := hy' (-z) hnz e2
          rw [Int.neg_neg] at h2
          exact .inr (.inr ⟨z, h2, h1⟩)
    · exact .inl (.unit hc' ((hm x).2 hx) fun y h1 h2 => hy' y ((hm y).1 h1) h2)
theorem conf_over {db db' : List (List Int)} {given : List Int} (h0 : ∀ c ∈ db, (0 : Int) ∉ c) (h : ∀ c ∈ db, (∃ x ∈ c, -x ∈ c) ∨ ∃ c' ∈ db', ∀ x, x ∈ c' ↔ x ∈ c) (hc : Conf db given) : Conf db' given := by
  rcases hc with hc | ⟨x, h1, h2⟩
  · rcases h _ hc with ⟨x, hx, _⟩ | ⟨c', hc', hm⟩
    · cases hx
    · have : c' = [] := List.eq_nil_iff_forall_not_mem.2 fun x hx => by cases (hm x).1 hx
      exact .inl (this ▸ hc')
  · rcases drv_over h0 h h1 with h1 | h1
    · rcases drv_over h0 h h2 with h2 | h2
      · exact .inr ⟨x, h1, h2⟩
      · exact h2
    · exact h1
theorem Ans.over {db db' : List (List Int)} {given : List Int} (h0 : ∀ c ∈ db, (0 : Int) ∉ c) (h : ∀ c ∈ db, (∃ x ∈ c, -x ∈ c) ∨ ∃ c' ∈ db', ∀ x, x ∈ c' ↔ x ∈ c)
    (h0' : ∀ c ∈ db', (0 : Int) ∉ c) (h' : ∀ c ∈ db', (∃ x ∈ c, -x ∈ c) ∨ ∃ c' ∈ db, ∀ x, x ∈ c' ↔ x ∈ c) {r : Option (List Int)} (ha : Ans db given r) : Ans db' given r := by
  cases r with
  | none => exact conf_over h0 h ha
  | some l =>
    refine ⟨fun hc => ha.1 (conf_over h0' h' hc), fun x => (ha.2 x).trans ⟨fun hx => ?_, fun hx => ?_⟩⟩
    · exact (drv_over h0 h hx).resolve_right fun hc => ha.1 (conf_over h0' h' hc)
    · exact (drv_over h0' h' hx).resolve_right ha.1
theorem Stands.zero {b : RB} {db : List (List Int)} (h : Stands b db) : ∀ c ∈ clsB b, (0 : Int) ∉ c := by
  intro c hc h0
  obtain ⟨d, hd, hm⟩ := h.back c hc
  exact (h.dbd d hd 0 ((hm 0).1 h0)).1 rfl
theorem Stands.ans {b : RB} {db : List (List Int)} (h : Stands b db) {given : List Int} {r : Option (List Int)} (ha : Ans (clsB b) given r) : Ans db given r :=
  ha.over h.zero (fun c hc => by obtain ⟨d, hd, hm⟩ := h.back c hc; exact .inr ⟨d, hd, fun x => (hm x).symm⟩) (fun c hc h0 => (h.dbd c hc 0 h0).1 rfl) h.to
theorem Stands.conf {b : RB} {db : List (List Int)} (h : Stands b db) (he : b.empty = true) (given : List Int) : Conf db given := by
  have := h.ans (given := given) (r := none) (.inl (mem_clsB.2 (.inr (.inr ⟨he, rfl⟩))))
  exact this

/-- What comes, or a conflict, whatever order it is told in. -/
theorem ans_unique {db : List (List Int)} {given : List Int} {r r' : Option (List Int)} (h : Ans db given r) (h' : Ans db given r') : (r = none ∧ r' = none) ∨ ∃ l l', r = some l ∧ r' = some l' ∧ ∀ x, x ∈ l ↔ x ∈ l' := by
  cases r with
  | none =>
    cases r' with
    | none => exact .inl ⟨rfl, rfl⟩
    | some l' => exact absurd h h'.1
  | some l =>
    cases r' with
    | none => exact absurd h' h.1
    | some l' => exact .inr ⟨l, l', rfl, rfl, fun x => (h.2 x).trans (h'.2 x).symm⟩
end Go.Proofs.Ytjlkjgoncfdaeaa.RM
