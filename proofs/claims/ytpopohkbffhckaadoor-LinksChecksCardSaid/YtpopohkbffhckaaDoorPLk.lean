/- Certificates of congruence in plain Lean: what is right stays right with more told, more vertices, more atoms; each link twice; what is certified is so. -/
import Derived.Test.YtpopohkbffhckaaDoorLkBase
namespace Go.Proofs.YtpopohkbffhckaaDoor.KL
set_option linter.unusedVariables false
set_option linter.unusedSimpArgs false
variable {v : List Vx} {a : List At} {t : List Pr}
theorem tell_some {i : Int} {p : Pr} : tellM t i = some p ↔ 0 ≤ i ∧ t[i.toNat]? = some p := by
 unfold tellM
 constructor
 ·
  intro h
  split at h
  ·
   rename_i hc
   refine ⟨hc.1, ?_⟩
   have hl : i.toNat < t.length := by omega
   have h : t.getD i.toNat (0, 0) = p := Option.some.inj h
   rw [List.getElem?_eq_getElem hl]
   rw [List.getD_eq_getElem?_getD, List.getElem?_eq_getElem hl] at h
   exact congrArg some h
  ·
   cases h
 ·
  intro ⟨h0, h1⟩
  have hl : i.toNat < t.length := (List.getElem?_eq_some_iff.1 h1).1
  rw [if_pos ⟨h0, by omega⟩, List.getD_eq_getElem?_getD, h1]
  rfl
theorem tell_none {i : Int} : tellM t i = none ↔ ¬ (0 ≤ i ∧ i < (t.length : Int)) := by
 unfold tellM
 constructor
 ·
  intro h
  split at h
  ·
   cases h
  ·
   assumption
 ·
  intro h
  exact if_neg h
theorem tell_more {i : Int} {p : Pr} (r : List Pr) (h : tellM t i = some p) : tellM (t ++ r) i = some p := by
 obtain ⟨h0, h1⟩ := tell_some.1 h
 refine tell_some.2 ⟨h0, ?_⟩
 rw [List.getElem?_append_left (List.getElem?_eq_some_iff.1 h1).1]
 exact h1
theorem list_more (r : List Pr) : ∀ (l ps qs : List Int), listM t l ps qs = true → listM (t ++ r) l ps qs = true
 | [], _, _, _ => by simp [listM]
 | _ :: _, [], _, _ => by simp [listM]
 | _ :: _, _ :: _, [], _ => by simp [listM]
 | n :: l, p :: ps, q :: qs, h => by
  simp only [listM, Bool.and_eq_true, decide_eq_true_eq] at h ⊢
  exact ⟨tell_more r h.1, list_more r l ps qs h.2⟩
/-- The atom of a literal, with more atoms behind. -/
theorem atom_more (b : List At) {l : Int} {x : At} (h : atomM a l = some x) : atomM (a ++ b) l = some x := by
 unfold atomM at h ⊢
 split at h
 ·
  rename_i hc
  rw [if_pos ⟨hc.1, by rw [List.length_append]; omega⟩, ← h]
  congr 1
  rw [List.getD_eq_getElem?_getD, List.getD_eq_getElem?_getD, List.getElem?_append_left (by omega)]
 ·
  cases h
theorem given_more (b : List At) {l : Int} {p : Pr} (h : givenM a l = some p) : givenM (a ++ b) l = some p := by
 unfold givenM at h ⊢
 cases hx : atomM a l with
 | none => rw [hx] at h; cases h
 | some x => rw [atom_more b hx]; rw [hx] at h; exact h
theorem against_more (b : List At) {r : List Pr} {x : Lk} (h : againstM a t x = true) : againstM (a ++ b) (t ++ r) x = true := by
 unfold againstM at h ⊢
 cases hx : atomM a x.f1 with
 | none => rw [hx] at h; cases h
 | some y =>
  cases hp : tellM t x.f4 with
  | none => rw [hx, hp] at h; cases h
  | some p => rw [hx, hp] at h; rw [atom_more b hx, tell_more r hp]; exact h
theorem vx_more (u : List Vx) {i : Int} (h : inB v.length i = true) : vxM (v ++ u) i = vxM v i := by
 unfold inB at h
 simp only [Bool.and_eq_true, decide_eq_true_eq] at h
 unfold vxM
 rw [List.getD_eq_getElem?_getD, List.getD_eq_getElem?_getD, List.getElem?_append_left (by omega)]
theorem in_more (u : List Vx) {i : Int} (h : inB v.length i = true) : inB (v ++ u).length i = true := by
 unfold inB at h ⊢
 simp only [Bool.and_eq_true, decide_eq_true_eq, List.length_append] at h ⊢
 omega
theorem apply_more (u : List Vx) {r : List Pr} {x : Lk} (h : applyB v t x = true) : applyB (v ++ u) (t ++ r) x = true := by
 unfold applyB at h ⊢
 simp only [Bool.and_eq_true] at h ⊢
 obtain ⟨h1, h2, h3, h4, h5⟩ := h
 rw [vx_more u h1, vx_more u h2]
 exact ⟨in_more u h1, in_more u h2, h3, h4, list_more r _ _ _ h5⟩
/-- What is right is the same with more of all. -/
theorem link_more (u : List Vx) (b : List At) (r : List Pr) {x : Lk} (h : (linkM v a t x).2.2 = true) : linkM (v ++ u) (a ++ b) (t ++ r) x = linkM v a t x := by
 unfold linkM at h ⊢
 by_cases h1 : x.f0 = 1
 ·
  simp only [if_pos h1] at h ⊢
  obtain ⟨p, hp⟩ := Option.isSome_iff_exists.1 h
  rw [given_more b hp, hp]
 simp only [if_neg h1] at h ⊢
 by_cases h2 : x.f0 = 2
 ·
  simp only [if_pos h2] at h ⊢
  rw [in_more u h, h]
 simp only [if_neg h2] at h ⊢
 by_cases h3 : x.f0 = 3
 ·
  simp only [if_pos h3] at h ⊢
  obtain ⟨p, hp⟩ := Option.isSome_iff_exists.1 h
  rw [tell_more r hp, hp]
 simp only [if_neg h3] at h ⊢
 by_cases h4 : x.f0 = 4
 ·
  simp only [if_pos h4, Bool.and_eq_true] at h ⊢
  obtain ⟨p, hp⟩ := Option.isSome_iff_exists.1 h.1
  obtain ⟨q, hq⟩ := Option.isSome_iff_exists.1 h.2.1
  rw [tell_more r hp, hp, tell_more r hq, hq]
 simp only [if_neg h4] at h ⊢
 by_cases h5 : x.f0 = 5
 ·
  simp only [if_pos h5, applyM] at h ⊢
  by_cases hb : applyB v t x = true
  ·
   rw [if_pos hb, if_pos (apply_more u hb)]
  ·
   rw [if_neg hb] at h; cases h
 simp only [if_neg h5] at h ⊢
 by_cases h6 : x.f0 = 6
 ·
  simp only [if_pos h6] at h ⊢
  rw [against_more b h, h]
 simp only [if_neg h6] at h ⊢
 by_cases h7 : x.f0 = 7
 ·
  simp only [if_pos h7, Bool.and_eq_true] at h ⊢
  obtain ⟨p, hp⟩ := Option.isSome_iff_exists.1 h.1
  rw [tell_more r hp, hp]
 simp only [if_neg h7] at h ⊢
theorem chk_more (u : List Vx) (b : List At) : ∀ (l : List Lk) (t : List Pr) (s : List Int) (e : Bool) (o : List Int), goM v a t s e l = some o → goM (v ++ u) (a ++ b) t s e l = some o
 | [], _, _, _, _, h => h
 | x :: l, t, s, e, o, h => by
  unfold goM at h ⊢
  have hm := link_more (t := t) (v := v) (a := a) u b [] (x := x)
  rw [List.append_nil] at hm
  rcases hL : linkM v a t x with ⟨p, e', ok⟩
  rw [hL] at h hm
  dsimp only at h hm
  split at h
  ·
   rename_i hc
   rw [hm hc.1]
   dsimp only
   rw [if_pos hc]
   exact chk_more u b l _ _ _ _ h
  ·
   cases h
/-! ### without its last link, with one more -/
theorem chk_cut : ∀ (l : List Lk) (t : List Pr) (s : List Int) (x : Lk) (o : List Int), goM v a t s false (l ++ [x]) = some o → goM v a t s false l = none
 | [], _, _, _, _, _ => rfl
 | [y], t, s, x, o, h => by
  simp only [List.cons_append, List.nil_append] at h
  unfold goM at h ⊢
  rcases hL : linkM v a t y with ⟨p, e', ok⟩
  rw [hL] at h
  dsimp only at h ⊢
  split at h
  ·
   rename_i hc
   rw [if_neg]
   rintro ⟨_, h2⟩
   rw [hc.2] at h2
   simp at h2
  ·
   cases h
 | y :: z :: l, t, s, x, o, h => by
  simp only [List.cons_append] at h
  unfold goM at h ⊢
  rcases hL : linkM v a t y with ⟨p, e', ok⟩
  rw [hL] at h
  dsimp only at h ⊢
  split at h
  ·
   rename_i hc
   have he : e' = false := by rw [hc.2]; simp
   subst he
   rw [if_pos ⟨hc.1, by simp⟩]
   exact chk_cut (z :: l) _ _ x o h
  ·
   cases h
theorem chk_one_more (m : Lk) : ∀ (l : List Lk) (t : List Pr) (s : List Int) (e : Bool) (x : Lk) (o : List Int), goM v a t s e (l ++ [x]) = some o → goM v a t s e ((l ++ [x]) ++ [m]) = none
 | [], t, s, e, x, o, h => by
  simp only [List.cons_append, List.nil_append] at h ⊢
  unfold goM at h ⊢
  rcases hL : linkM v a t x with ⟨p, e', ok⟩
  rw [hL] at h
  dsimp only at h ⊢
  split at h
  ·
   rename_i hc
   rw [if_neg]
   rintro ⟨_, h2⟩
   rw [hc.2] at h2
   simp at h2
  ·
   cases h
 | y :: l, t, s, e, x, o, h => by
  simp only [List.cons_append] at h ⊢
  unfold goM at h ⊢
  rcases hL : linkM v a t y with ⟨p, e', ok⟩
  rw [hL] at h
  dsimp only at h ⊢
  split at h
  ·
   rename_i hc
   have he : e' = false := by rw [hc.2]; simp
   subst he
   rw [if_pos ⟨hc.1, by simp⟩]
   exact chk_one_more m l _ _ _ x o h
  ·
   cases h
/-! ### each link twice -/
def dblT : List Pr → List Pr
 | [] => []
 | p :: t => p :: p :: dblT t
def dblL (x : Lk) : Lk := { x with f4 := 2 * x.f4, f5 := 2 * x.f5, f6 := x.f6.map (2 * ·) }
def dblAll : List Lk → List Lk
 | [] => []
 | [x] => [dblL x]
 | x :: y :: l => dblL x :: dblL x :: dblAll (y :: l)
theorem dblT_len : ∀ t : List Pr, (dblT t).length = 2 * t.length
 | [] => rfl
 | p :: t => by simp only [dblT, List.length_cons, dblT_len t]; omega
theorem dblT_get : ∀ (t : List Pr) (i : Nat), (dblT t)[2 * i]? = t[i]?
 | [], i => rfl
 | p :: t, 0 => rfl
 | p :: t, i + 1 => by
  rw [show 2 * (i + 1) = 2 * i + 1 + 1 by omega]
  simp only [dblT, List.getElem?_cons_succ]
  exact dblT_get t i
theorem dblT_snoc (p : Pr) : ∀ t : List Pr, dblT (t ++ [p]) = dblT t ++ [p] ++ [p]
 | [] => rfl
 | q :: t => by simp [dblT, dblT_snoc p t]
theorem tell_dbl (i : Int) : tellM (dblT t) (2 * i) = tellM t i := by
 cases h : tellM t i with
 | none =>
  have h := tell_none.1 h
  refine tell_none.2 ?_
  rw [dblT_len]
  omega
 | some p =>
  obtain ⟨h0, h1⟩ := tell_some.1 h
  refine tell_some.2 ⟨by omega, ?_⟩
  rw [show (2 * i).toNat = 2 * i.toNat by omega, dblT_get]
  exact h1
theorem list_dbl : ∀ (l ps qs : List Int), listM (dblT t) (l.map (2 * ·)) ps qs = listM t l ps qs
 | [], _, _ => by simp [listM]
 | _ :: _, [], _ => by simp [listM]
 | _ :: _, _ :: _, [] => by simp [listM]
 | n :: l, p :: ps, q :: qs => by simp only [List.map_cons, listM, tell_dbl, list_dbl l ps qs]
theorem link_dbl (x : Lk) : linkM v a (dblT t) (dblL x) = linkM v a t x := by
 have h6 : (dblL x).f6.length = x.f6.length := by simp [dblL]
 have hb : applyB v (dblT t) (dblL x) = applyB v t x := by
  unfold applyB
  rw [h6]
  simp only [dblL, list_dbl]
  rfl
 have ha : againstM a (dblT t) (dblL x) = againstM a t x := by
  unfold againstM
  show (match atomM a x.f1, tellM (dblT t) (2 * x.f4) with | some y, some p => decide (x.f1 < 0) && (decide (y.f0 = 1) && decide (p = (y.f1, y.f2))) | _, _ => false) = _
  rw [tell_dbl]
  rfl
 have hp : applyM v (dblT t) (dblL x) = applyM v t x := by
  unfold applyM
  rw [hb]
  rfl
 unfold linkM
 rw [ha, hp]
 simp only [dblL, tell_dbl]
theorem link_dbl2 (x : Lk) (p : Pr) (h : (linkM v a t x).2.2 = true) : linkM v a (dblT t ++ [p]) (dblL x) = linkM v a t x := by
 have h2 := link_more (v := v) (a := a) (t := dblT t) [] [] [p] (x := dblL x) (by rw [link_dbl]; exact h)
 rw [List.append_nil, List.append_nil] at h2
 rw [h2, link_dbl]
theorem lits_dbl (x : Lk) : litsOf (dblL x) = litsOf x := rfl
def Alike2 : Option (List Int) → Option (List Int) → Prop
 | none, none => True
 | some u, some u' => (∀ y, y ∈ u ↔ y ∈ u') ∧ u'.length ≤ 2 * u.length
 | _, _ => False
theorem chk_cons {s : List Int} {e : Bool} {x : Lk} {l : List Lk} : goM v a t s e (x :: l) = if (linkM v a t x).2.2 = true ∧ (linkM v a t x).2.1 = decide (l = []) then goM v a (t ++ [(linkM v a t x).1]) (s ++ litsOf x) (linkM v a t x).2.1 l else none := rfl
theorem chk_dbl : ∀ (l : List Lk) (t : List Pr) (s s2 : List Int) (e : Bool), (∀ y, y ∈ s ↔ y ∈ s2) → s2.length ≤ 2 * s.length → Alike2 (goM v a t s e l) (goM v a (dblT t) s2 e (dblAll l))
 | [], t, s, s2, e, h1, h2 => by
  unfold dblAll goM
  cases e
  ·
   exact trivial
  ·
   exact ⟨h1, h2⟩
 | [x], t, s, s2, e, h1, h2 => by
  unfold dblAll goM
  rw [link_dbl]
  rcases hL : linkM v a t x with ⟨p, e', ok⟩
  dsimp only
  by_cases hc : ok = true ∧ e' = decide (([] : List Lk) = [])
  ·
   rw [if_pos hc, if_pos hc]
   obtain rfl : e' = true := by rw [hc.2]; simp
   refine ⟨fun y => ?_, ?_⟩
   ·
    rw [List.mem_append, List.mem_append, h1, lits_dbl]
   ·
    rw [List.length_append, List.length_append, lits_dbl]
    omega
  ·
   rw [if_neg hc, if_neg hc]
   exact trivial
 | x :: z :: l, t, s, s2, e, h1, h2 => by
  rw [dblAll, chk_cons, chk_cons (x := dblL x), link_dbl]
  rcases hL : linkM v a t x with ⟨p, e', ok⟩
  dsimp only
  by_cases hc : ok = true ∧ e' = false
  ·
   obtain ⟨rfl, rfl⟩ := hc
   rw [if_pos ⟨rfl, by simp⟩, if_pos ⟨rfl, by simp⟩]
   have h3 := link_dbl2 (v := v) (a := a) (t := t) x p (by rw [hL])
   rw [hL] at h3
   have hne : dblAll (z :: l) ≠ [] := by cases l <;> simp [dblAll]
   rw [chk_cons (x := dblL x) (l := dblAll (z :: l)), h3, if_pos ⟨rfl, by simp [hne]⟩, ← dblT_snoc]
   refine chk_dbl (z :: l) _ _ _ _ (fun y => ?_) ?_
   ·
    simp only [List.mem_append, h1, lits_dbl]
    grind
   ·
    simp only [List.length_append, lits_dbl]
    omega
  ·
   rw [if_neg (by rintro ⟨h3, h4⟩; exact hc ⟨h3, by rw [h4]; simp⟩), if_neg (by rintro ⟨h3, h4⟩; exact hc ⟨h3, by rw [h4]; simp⟩)]
   exact trivial
/-! ### what is certified is so -/
def val (value : List Int) (i : Int) : Int := value.getD i.toNat 0
def holdsM (a : List At) (value : List Int) (l : Int) : Bool := match atomM a l with
 | none => true
 | some x => if x.f0 = 1 then (decide (val value x.f1 = val value x.f2) == decide (0 < l)) else if x.f0 = 3 then (if 0 < l then decide (val value x.f1 = val value 0) else decide (val value x.f1 = val value 1)) else true
structure FitsP (v : List Vx) (value : List Int) : Prop where
 ne : val value 0 ≠ val value 1
 fn : ∀ i k : Int, inB v.length i = true → inB v.length k = true → sameFn (vxM v i) (vxM v k) = true → (∀ n : Nat, n < (vxM v i).f1.length → val value ((vxM v i).f1.getD n 0) = val value ((vxM v k).f1.getD n 0)) → val value i = val value k
theorem list_at (value : List Int) (ht : ∀ p ∈ t, val value p.1 = val value p.2) : ∀ (l ps qs : List Int), listM t l ps qs = true → l.length = ps.length → ps.length = qs.length → ∀ n : Nat, n < ps.length → val value (ps.getD n 0) = val value (qs.getD n 0)
 | [], ps, _, _, h, _, n, hn => by simp at h; omega
 | _ :: _, [], _, _, h, _, n, hn => by simp at hn
 | _ :: _, _ :: _, [], _, _, h, n, hn => by simp at h
 | m :: l, p :: ps, q :: qs, h, h1, h2, n, hn => by
  simp only [listM, Bool.and_eq_true, decide_eq_true_eq] at h
  cases n with
  | zero =>
   obtain ⟨_, h3⟩ := tell_some.1 h.1
   exact ht _ (List.mem_of_getElem? h3)
  | succ n =>
   have := list_at value ht l ps qs h.2 (by simpa using h1) (by simpa using h2) n (by simpa using hn)
   simpa using this
theorem chk_lits : ∀ (l : List Lk) (t : List Pr) (s : List Int) (e : Bool) (o : List Int), goM v a t s e l = some o → ∀ y ∈ s, y ∈ o
 | [], t, s, e, o, h => by
  unfold goM at h
  split at h
  ·
   cases h; exact fun y hy => hy
  ·
   cases h
 | x :: l, t, s, e, o, h => by
  unfold goM at h
  rcases hL : linkM v a t x with ⟨p, e', ok⟩
  rw [hL] at h
  dsimp only at h
  split at h
  ·
   exact fun y hy => chk_lits l _ _ _ _ h y (List.mem_append_left _ hy)
  ·
   cases h
/-- Each literal of a right certificate is of an atom. -/
theorem chk_range : ∀ (l : List Lk) (t : List Pr) (s : List Int) (e : Bool) (o : List Int), goM v a t s e l = some o → (∀ y ∈ s, (atomM a y).isSome = true) → ∀ y ∈ o, (atomM a y).isSome = true
 | [], t, s, e, o, h, hs => by
  unfold goM at h
  split at h
  ·
   cases h; exact hs
  ·
   cases h
 | x :: l, t, s, e, o, h, hs => by
  unfold goM at h
  rcases hL : linkM v a t x with ⟨p, e', ok⟩
  rw [hL] at h
  dsimp only at h
  split at h
  ·
   rename_i hc
   refine chk_range l _ _ _ _ h fun y hy => ?_
   rcases List.mem_append.1 hy with hy | hy
   ·
    exact hs y hy
   ·
    unfold litsOf at hy
    split at hy
    ·
     obtain rfl : y = x.f1 := by simpa using hy
     have hok := hc.1
     unfold linkM at hL
     by_cases h1 : x.f0 = 1
     ·
      rw [if_pos h1] at hL
      simp only [Prod.mk.injEq] at hL
      rw [← hL.2.2] at hok
      unfold givenM at hok
      cases hx : atomM a x.f1 with
      | none => rw [hx] at hok; cases hok
      | some z => rfl
     ·
      have h6 : x.f0 = 6 := by rename_i hor; omega
      rw [if_neg h1, if_neg (by omega), if_neg (by omega), if_neg (by omega), if_neg (by omega), if_pos h6] at hL
      simp only [Prod.mk.injEq] at hL
      rw [← hL.2.2] at hok
      unfold againstM at hok
      cases hx : atomM a x.f1 with
      | none => rw [hx] at hok; cases hok
      | some z => rfl
    ·
     cases hy
  ·
   cases h
theorem tell_mem {i : Int} {p : Pr} (h : tellM t i = some p) : p ∈ t := List.mem_of_getElem? (tell_some.1 h).2
theorem sound (value : List Int) (hf : FitsP v value) : ∀ (l : List Lk) (t : List Pr) (s : List Int) (o : List Int), goM v a t s false l = some o → (∀ p ∈ t, val value p.1 = val value p.2) → (∀ y ∈ o, holdsM a value y = true) → False
 | [], t, s, o, h, _, _ => by
  unfold goM at h
  cases h
 | x :: l, t, s, o, h, ht, ho => by
  unfold goM at h
  rcases hL : linkM v a t x with ⟨p, e', ok⟩
  rw [hL] at h
  dsimp only at h
  split at h
  ·
   rename_i hc
   obtain ⟨rfl, he⟩ := hc
   have hl : ∀ y ∈ litsOf x, holdsM a value y = true := fun y hy => ho y (chk_lits l _ _ _ _ h y (List.mem_append_right _ hy))
   have key : (e' = false ∧ val value p.1 = val value p.2) ∨ False := by
    unfold linkM at hL
    by_cases h1 : x.f0 = 1
    ·
     rw [if_pos h1] at hL
     simp only [Prod.mk.injEq] at hL
     obtain ⟨hp, rfl, hs⟩ := hL
     refine .inl ⟨rfl, ?_⟩
     have hh := hl x.f1 (by simp [litsOf, h1])
     unfold holdsM at hh
     unfold givenM at hp hs
     cases hx : atomM a x.f1 with
     | none => rw [hx] at hs; cases hs
     | some z =>
      rw [hx] at hh hs hp
      dsimp only at hh hs hp
      by_cases g1 : z.f0 = 1
      ·
       by_cases g2 : 0 < x.f1
       ·
        rw [if_pos ⟨g1, g2⟩] at hp
        subst hp
        rw [if_pos g1, decide_eq_true g2] at hh
        simpa [prO] using hh
       ·
        rw [if_neg (fun h => g2 h.2), if_neg (fun h => g2 h.2), if_neg (by omega)] at hs
        cases hs
      ·
       by_cases g3 : z.f0 = 3
       ·
        by_cases g2 : 0 < x.f1
        ·
         rw [if_neg (fun h => g1 h.1), if_pos ⟨g3, g2⟩] at hp
         subst hp
         rw [if_neg g1, if_pos g3, if_pos g2] at hh
         simpa [prO] using hh
        ·
         rw [if_neg (fun h => g1 h.1), if_neg (fun h => g2 h.2), if_pos g3] at hp
         subst hp
         rw [if_neg g1, if_pos g3, if_neg g2] at hh
         simpa [prO] using hh
       ·
        rw [if_neg (fun h => g1 h.1), if_neg (fun h => g3 h.1), if_neg g3] at hs
        cases hs
    rw [if_neg h1] at hL
    by_cases h2 : x.f0 = 2
    ·
     rw [if_pos h2] at hL
     simp only [Prod.mk.injEq] at hL
     obtain ⟨rfl, rfl, _⟩ := hL
     exact .inl ⟨rfl, rfl⟩
    rw [if_neg h2] at hL
    by_cases h3 : x.f0 = 3
    ·
     rw [if_pos h3] at hL
     simp only [Prod.mk.injEq] at hL
     obtain ⟨rfl, rfl, hs⟩ := hL
     obtain ⟨q, hq⟩ := Option.isSome_iff_exists.1 hs
     rw [hq]
     exact .inl ⟨rfl, (ht q (tell_mem hq)).symm⟩
    rw [if_neg h3] at hL
    by_cases h4 : x.f0 = 4
    ·
     rw [if_pos h4] at hL
     simp only [Prod.mk.injEq, Bool.and_eq_true, decide_eq_true_eq] at hL
     obtain ⟨rfl, rfl, hs1, hs2, hs3⟩ := hL
     obtain ⟨q, hq⟩ := Option.isSome_iff_exists.1 hs1
     obtain ⟨r, hr⟩ := Option.isSome_iff_exists.1 hs2
     rw [hq, hr] at hs3 ⊢
     refine .inl ⟨rfl, ?_⟩
     have e1 := ht q (tell_mem hq)
     have e2 := ht r (tell_mem hr)
     simp only [prO, Option.getD_some] at hs3 ⊢
     rw [e1, hs3, e2]
    rw [if_neg h4] at hL
    by_cases h5 : x.f0 = 5
    ·
     rw [if_pos h5] at hL
     simp only [Prod.mk.injEq] at hL
     obtain ⟨rfl, rfl, hs⟩ := hL
     refine .inl ⟨rfl, ?_⟩
     unfold applyM at hs ⊢
     split at hs
     ·
      rename_i hb
      rw [if_pos hb]
      unfold applyB at hb
      simp only [Bool.and_eq_true, decide_eq_true_eq] at hb
      obtain ⟨i1, i2, i3, i4, i5⟩ := hb
      have i3' := i3
      unfold sameFn at i3'
      simp only [Bool.and_eq_true, decide_eq_true_eq] at i3'
      exact hf.fn _ _ i1 i2 i3 (list_at value ht _ _ _ i5 i4 i3'.2.2)
     ·
      cases hs
    rw [if_neg h5] at hL
    by_cases h6 : x.f0 = 6
    ·
     rw [if_pos h6] at hL
     simp only [Prod.mk.injEq] at hL
     obtain ⟨rfl, rfl, hs⟩ := hL
     have hh := hl x.f1 (by simp [litsOf, h6])
     unfold holdsM at hh
     unfold againstM at hs
     cases hx : atomM a x.f1 with
     | none => rw [hx] at hs; cases hs
     | some z =>
      cases hp : tellM t x.f4 with
      | none => rw [hx, hp] at hs; cases hs
      | some q =>
       rw [hx, hp] at hs
       rw [hx] at hh
       simp only [Bool.and_eq_true, decide_eq_true_eq] at hs
       obtain ⟨k1, k2, rfl⟩ := hs
       dsimp only at hh
       have e1 := ht _ (tell_mem hp)
       simp only at e1
       rw [if_pos k2, decide_eq_true e1, decide_eq_false (by omega)] at hh
       cases hh
    rw [if_neg h6] at hL
    by_cases h7 : x.f0 = 7
    ·
     rw [if_pos h7] at hL
     simp only [Prod.mk.injEq, Bool.and_eq_true, decide_eq_true_eq] at hL
     obtain ⟨rfl, rfl, hs1, hs2⟩ := hL
     obtain ⟨q, hq⟩ := Option.isSome_iff_exists.1 hs1
     rw [hq] at hs2
     have hs2 : q = (0, 1) := hs2
     subst hs2
     exact absurd (ht _ (tell_mem hq)) hf.ne
    ·
     rw [if_neg h7] at hL
     simp only [Prod.mk.injEq] at hL
     exact absurd hL.2.2 (by simp)
   rcases key with ⟨rfl, hv⟩ | hF
   ·
    refine sound value hf l _ _ o h (fun q hq => ?_) ho
    rcases List.mem_append.1 hq with hq | hq
    ·
     exact ht q hq
    ·
     obtain rfl : q = p := by simpa using hq
     exact hv
   ·
    exact hF
  ·
   cases h
end Go.Proofs.YtpopohkbffhckaaDoor.KL
