/- The terms of layer 6 in plain Lean: nodes, what each call answers, and lists told by numbers. -/
import Derived.IntWalk
namespace Go.Proofs.Ytmgbodmpjholiaa.TM

/-- A node. -/
structure NodeM where
  op : Int
  fn : Int
  num : Int
  sort : Int
  args : List Int
def sameM (a b : NodeM) : Bool := decide (a.op = b.op) && (decide (a.fn = b.fn) && (decide (a.num = b.num) && (decide (a.sort = b.sort) && decide (a.args = b.args))))
theorem sameM_iff (a b : NodeM) : sameM a b = true ↔ a = b := by
  cases a
  cases b
  simp [sameM]
theorem sameM_ne {a b : NodeM} (h : a ≠ b) : sameM a b = false := by
  cases e : sameM a b with
  | false => rfl
  | true => exact absurd ((sameM_iff a b).1 e) h
def findM (n : NodeM) : List NodeM → Option Nat
  | [] => none
  | m :: r => if sameM m n = true then some 0 else (findM n r).map (· + 1)
theorem findM_some {n : NodeM} : ∀ {l : List NodeM} {i : Nat}, findM n l = some i → l[i]? = some n
  | m :: r, i, h => by
    unfold findM at h
    split at h
    · rename_i e
      cases h
      rw [(sameM_iff m n).1 e]
      rfl
    · cases e : findM n r with
      | none => rw [e] at h; cases h
      | some j =>
        rw [e] at h
        cases h
        exact findM_some (l := r) e
theorem findM_lt {n : NodeM} {l : List NodeM} {i : Nat} (h : findM n l = some i) : i < l.length := (List.getElem?_eq_some_iff.1 (findM_some h)).1
theorem findM_mem {n : NodeM} {l : List NodeM} {i : Nat} (h : findM n l = some i) : n ∈ l := List.mem_of_getElem? (findM_some h)
theorem findM_none {n : NodeM} : ∀ {l : List NodeM}, findM n l = none ↔ n ∉ l
  | [] => by simp [findM]
  | m :: r => by
    unfold findM
    split
    · rename_i e
      rw [(sameM_iff m n).1 e]
      simp
    · rename_i e
      have hne : m ≠ n := fun h => e ((sameM_iff m n).2 h)
      rw [Option.map_eq_none_iff, findM_none (l := r), List.mem_cons, not_or]
      exact ⟨fun h => ⟨fun h1 => hne h1.symm, h⟩, fun h => h.2⟩
theorem findM_app {n m : NodeM} : ∀ {l : List NodeM}, findM n (l ++ [m]) = match findM n l with
    | some i => some i
    | none => if sameM m n = true then some l.length else none
  | [] => by
    simp only [List.nil_append, findM, List.length_nil]
    split <;> rfl
  | a :: r => by
    show findM n (a :: (r ++ [m])) = _
    unfold findM
    by_cases e : sameM a n = true
    · rw [if_pos e, if_pos e]
    · rw [if_neg e, if_neg e, findM_app (l := r)]
      cases findM n r with
      | some i => rfl
      | none =>
        show Option.map _ (if _ then _ else _) = if _ then _ else _
        split <;> simp

/-- A call's answer: the term, the refusal, what is there. -/
abbrev Ans := Int × Int × List NodeM
def putM (l : List NodeM) (n : NodeM) : Ans := match findM n l with
  | some i => ((i : Int), 0, l)
  | none => if 20000 ≤ l.length then (0, 9, l) else ((l.length : Int), 0, l ++ [n])
def hasM (l : List NodeM) (x : Int) : Bool := decide (0 ≤ x) && decide (x < (l.length : Int))
def thereM (l : List NodeM) (xs : List Int) : Bool := xs.all (hasM l)
def nodeM (l : List NodeM) (x : Int) : NodeM := l.getD x.toNat ⟨0, 0, 0, 0, []⟩
def sortM (l : List NodeM) (x : Int) : Int := (nodeM l x).sort
def ofM (l : List NodeM) (s : Int) (xs : List Int) : Bool := xs.all fun x => decide (sortM l x = s)
def notM (l : List NodeM) (a : Int) : Ans := if thereM l [a] = false then (0, 7, l) else if ofM l 0 [a] = false then (0, 60, l) else putM l ⟨9, 0, 0, 0, [a]⟩
def manyM (l : List NodeM) (op none_ : Int) (xs : List Int) : Ans :=
  if thereM l xs = false then (0, 7, l) else if 2000 < xs.length then (0, 3, l) else if ofM l 0 xs = false then (0, 60, l) else
  if xs.length = 0 then (none_, 0, l) else if xs.length = 1 then (xs.getD 0 0, 0, l) else putM l ⟨op, 0, 0, 0, xs⟩
def andM (l : List NodeM) (xs : List Int) : Ans := manyM l 10 0 xs
def orM (l : List NodeM) (xs : List Int) : Ans := manyM l 11 1 xs
def eqM (l : List NodeM) (a b : Int) : Ans := if thereM l [a, b] = false then (0, 7, l) else if ofM l (sortM l a) [b] = false then (0, 60, l) else putM l ⟨7, 0, 0, 0, [a, b]⟩
def iteM (l : List NodeM) (c a b : Int) : Ans :=
  if thereM l [c, a, b] = false then (0, 7, l) else if ofM l 0 [c] = false then (0, 60, l) else if ofM l (sortM l a) [b] = false then (0, 60, l) else putM l ⟨6, 0, 0, sortM l a, [c, a, b]⟩
def appM (l : List NodeM) (f s : Int) (xs : List Int) : Ans :=
  if f < 0 then (0, 2, l) else if s < 0 then (0, 2, l) else if thereM l xs = false then (0, 7, l) else if 20 < xs.length then (0, 3, l) else putM l ⟨5, f, 0, s, xs⟩
def boundM (n : Int) : Bool := decide (-4611686018427387903 ≤ n) && decide (n ≤ 4611686018427387903)
def numM (l : List NodeM) (n : Int) : Ans := if boundM n = false then (0, 6, l) else putM l ⟨3, 0, n, 1, []⟩
/-- Base, offset, refusal. -/
def splitM (l : List NodeM) (t : Int) : Int × Int × Int :=
  if thereM l [t] = false then (0, 0, 7) else if sortM l t ≠ 1 then (0, 0, 60) else
  if (nodeM l t).op = 3 then (2, (nodeM l t).num, 0) else if (nodeM l t).op = 4 then ((nodeM l t).args.getD 0 0, (nodeM l t).num, 0) else (t, 0, 0)
def plusM (l : List NodeM) (a n : Int) : Ans :=
  if (splitM l a).2.2 ≠ 0 then (0, (splitM l a).2.2, l) else if boundM n = false then (0, 6, l) else if boundM ((splitM l a).2.1 + n) = false then (0, 6, l) else
  if (splitM l a).1 = 2 then numM l ((splitM l a).2.1 + n) else if (splitM l a).2.1 + n = 0 then ((splitM l a).1, 0, l) else putM l ⟨4, 0, (splitM l a).2.1 + n, 1, [(splitM l a).1]⟩
def leC (l : List NodeM) (a b n : Int) : Int := n + ((splitM l b).2.1 - (splitM l a).2.1)
def leM (l : List NodeM) (a b n : Int) : Ans :=
  if thereM l [a, b] = false then (0, 7, l) else if (splitM l a).2.2 ≠ 0 then (0, 60, l) else if (splitM l b).2.2 ≠ 0 then (0, 60, l) else
  if boundM n = false then (0, 6, l) else if boundM (leC l a b n) = false then (0, 6, l) else
  if (splitM l a).1 = (splitM l b).1 then (if 0 ≤ leC l a b n then (0, 0, l) else (1, 0, l)) else putM l ⟨8, 0, leC l a b n, 0, [(splitM l a).1, (splitM l b).1]⟩
/-- What is always there. -/
def newM : List NodeM := [⟨1, 0, 0, 0, []⟩, ⟨2, 0, 0, 0, []⟩, ⟨3, 0, 0, 1, []⟩]

def wf64 (x : Int) : Prop := -9223372036854775808 ≤ x ∧ x ≤ 9223372036854775807
/-- A node whose parts are numbers of their kinds, and that can be split. -/
structure WfN (n : NodeM) : Prop where
  op : 0 ≤ n.op ∧ n.op ≤ 255
  fn : wf64 n.fn
  num : wf64 n.num
  sort : wf64 n.sort
  args : ∀ x ∈ n.args, wf64 x
  len : n.args.length ≤ 2000
  bd : n.op = 3 ∨ n.op = 4 → boundM n.num = true
  one : n.op = 4 → n.args.length = 1
structure Wf (l : List NodeM) : Prop where
  node : ∀ n ∈ l, WfN n
  high : l.length ≤ 20000
theorem wf64_zero : wf64 0 := ⟨by omega, by omega⟩
theorem getD_mem {l : List NodeM} {x : Int} (h : hasM l x = true) : nodeM l x ∈ l ∧ l[x.toNat]? = some (nodeM l x) ∧ x.toNat < l.length ∧ ((x.toNat : Nat) : Int) = x := by
  unfold hasM at h
  rw [Bool.and_eq_true, decide_eq_true_iff, decide_eq_true_iff] at h
  have h1 : x.toNat < l.length := by omega
  have h2 : nodeM l x = l[x.toNat] := by
    unfold nodeM
    rw [List.getD_eq_getElem?_getD, List.getElem?_eq_getElem h1]
    rfl
  refine ⟨by rw [h2]; exact List.getElem_mem h1, by rw [List.getElem?_eq_getElem h1, h2], h1, by omega⟩
theorem Wf.put {l : List NodeM} {n : NodeM} (h : Wf l) (hn : WfN n) : Wf (putM l n).2.2 := by
  unfold putM
  split
  · exact h
  · split
    · exact h
    · refine ⟨fun m hm => ?_, ?_⟩
      · rcases List.mem_append.1 hm with h1 | h1
        · exact h.node m h1
        · rw [List.mem_singleton.1 h1]
          exact hn
      · simp
        omega
theorem bound_iff (n : Int) : boundM n = true ↔ -4611686018427387903 ≤ n ∧ n ≤ 4611686018427387903 := by simp [boundM]
theorem Wf.has {l : List NodeM} (h : Wf l) {x : Int} (hx : hasM l x = true) : WfN (nodeM l x) := h.node _ (getD_mem hx).1
theorem has_wf {l : List NodeM} (h : Wf l) {x : Int} (hx : hasM l x = true) : wf64 x := by
  have h1 := getD_mem hx
  have := h.high
  unfold wf64
  omega
theorem Wf.split {l : List NodeM} (h : Wf l) (t : Int) : boundM (splitM l t).2.1 = true ∧ ((splitM l t).2.2 = 0 → hasM l t = true ∧ wf64 (splitM l t).1) := by
  unfold splitM
  by_cases h1 : thereM l [t] = false
  · rw [if_pos h1]
    exact ⟨by decide, fun e => by simp at e⟩
  · rw [if_neg h1]
    have h2 : hasM l t = true := by simpa [thereM] using h1
    have hw := h.has h2
    split
    · exact ⟨by decide, fun e => by simp at e⟩
    · split
      · rename_i e
        exact ⟨hw.bd (.inl e), fun _ => ⟨h2, by show wf64 2; exact ⟨by omega, by omega⟩⟩⟩
      · split
        · rename_i e
          refine ⟨hw.bd (.inr e), fun _ => ⟨h2, ?_⟩⟩
          have h3 := hw.one e
          refine hw.args _ ?_
          show (nodeM l t).args.getD 0 0 ∈ _
          rw [List.getD_eq_getElem?_getD, List.getElem?_eq_getElem (by omega)]
          exact List.getElem_mem _
        · exact ⟨by show boundM 0 = true; decide, fun _ => ⟨h2, has_wf h h2⟩⟩

/-! ### Lists by numbers -/
abbrev CL := List (Nat × Int)
/-- The number n tells the list xs. -/
inductive Dec (L : CL) : Nat → List Int → Prop
  | nil : Dec L 0 []
  | snoc {i a : Nat} {x : Int} {xs : List Int} : L[i]? = some (a, x) → Dec L a xs → Dec L (i + 1) (xs ++ [x])
theorem Dec.fun {L : CL} {n : Nat} {xs ys : List Int} (h : Dec L n xs) (k : Dec L n ys) : xs = ys := by
  induction h generalizing ys with
  | nil => cases k; rfl
  | snoc h1 _ ih =>
    cases k with
    | snoc h2 k2 =>
      rw [h1] at h2
      cases h2
      rw [ih k2]
theorem nodup_idx {L : CL} (hd : L.Nodup) {i j : Nat} {c : Nat × Int} (hi : L[i]? = some c) (hj : L[j]? = some c) : i = j := by
  obtain ⟨h1, e1⟩ := List.getElem?_eq_some_iff.1 hi
  obtain ⟨h2, e2⟩ := List.getElem?_eq_some_iff.1 hj
  have hp := List.pairwise_iff_getElem.1 hd
  rcases Nat.lt_trichotomy i j with h | h | h
  · exact absurd (e1.trans e2.symm) (hp i j h1 h2 h)
  · exact h
  · exact absurd (e2.trans e1.symm) (hp j i h2 h1 h)
theorem Dec.inj {L : CL} (hd : L.Nodup) {n m : Nat} {xs : List Int} (h : Dec L n xs) (k : Dec L m xs) : n = m := by
  induction h generalizing m with
  | nil =>
    generalize e : ([] : List Int) = zs at k
    cases k with
    | nil => rfl
    | snoc _ _ => simp at e
  | @snoc i a x xs h1 _ ih =>
    generalize e : xs ++ [x] = zs at k
    cases k with
    | nil => simp at e
    | @snoc j b y ys h2 k2 =>
      obtain ⟨e1, e2⟩ := List.append_inj' e rfl
      cases e2
      subst e1
      have := ih k2
      subst this
      rw [nodup_idx hd h1 h2]
theorem Dec.more {L : CL} {n : Nat} {xs : List Int} (h : Dec L n xs) (e : CL) : Dec (L ++ e) n xs := by
  induction h with
  | nil => exact .nil
  | snoc h1 _ ih => exact .snoc (by rw [List.getElem?_append_left (List.getElem?_eq_some_iff.1 h1).1]; exact h1) ih
theorem Dec.le {L : CL} {n : Nat} {xs : List Int} (h : Dec L n xs) : n ≤ L.length := by
  cases h with
  | nil => omega
  | snoc h1 _ => exact (List.getElem?_eq_some_iff.1 h1).1

/-- What a key is made of: the node's parts, and its list's number. -/
structure KeyM where
  op : Int
  fn : Int
  num : Int
  sort : Int
  list : Nat
def KeyM.node (k : KeyM) (args : List Int) : NodeM := ⟨k.op, k.fn, k.num, k.sort, args⟩
def keyM (n : NodeM) (i : Nat) : KeyM := ⟨n.op, n.fn, n.num, n.sort, i⟩
/-- Both maps tell the nodes. -/
structure Maps (l : List NodeM) (L : CL) (g1 : KeyM → Option Nat) (g2 : Nat × Int → Option Nat) : Prop where
  nd : L.Nodup
  lists : ∀ c n, g2 c = some n ↔ ∃ i, n = i + 1 ∧ L[i]? = some c
  terms : ∀ k i, g1 k = some i ↔ ∃ args, Dec L k.list args ∧ findM (k.node args) l = some i
  all : ∀ n ∈ l, ∃ m, Dec L m n.args
open Classical in
noncomputable def upd2 {α β : Type} (g : α → Option β) (k : α) (v : β) : α → Option β := fun y => if y = k then some v else g y
theorem upd2_same {α β : Type} (g : α → Option β) (k : α) (v : β) : upd2 g k v k = some v := by simp [upd2]
theorem upd2_other {α β : Type} (g : α → Option β) {k y : α} (v : β) (h : y ≠ k) : upd2 g k v y = g y := by simp [upd2, h]
theorem Maps.new : Maps [] [] (fun _ => none) (fun _ => none) where
  nd := List.nodup_nil
  lists := fun c n => by simp
  terms := fun k i => by simp [findM]
  all := fun n h => by simp at h
/-- The list that is one longer is known. -/
theorem Maps.known {l : List NodeM} {L : CL} {g1 : KeyM → Option Nat} {g2 : Nat × Int → Option Nat} (h : Maps l L g1 g2) {a n : Nat} {x : Int} {xs : List Int} (hd : Dec L a xs) (hg : g2 (a, x) = some n) : Dec L n (xs ++ [x]) := by
  obtain ⟨i, rfl, hi⟩ := (h.lists _ _).1 hg
  exact .snoc hi hd
/-- It is not: it is made. -/
theorem Maps.add {l : List NodeM} {L : CL} {g1 : KeyM → Option Nat} {g2 : Nat × Int → Option Nat} (h : Maps l L g1 g2) {a : Nat} {x : Int} {xs : List Int} (hd : Dec L a xs) (hg : g2 (a, x) = none) :
    Maps l (L ++ [(a, x)]) g1 (upd2 g2 (a, x) (L.length + 1)) ∧ Dec (L ++ [(a, x)]) (L.length + 1) (xs ++ [x]) := by
  have hnot : (a, x) ∉ L := fun hm => by
    obtain ⟨i, hi⟩ := List.getElem?_of_mem hm
    have := (h.lists (a, x) (i + 1)).2 ⟨i, rfl, hi⟩
    rw [hg] at this
    cases this
  have hnd : (L ++ [(a, x)]).Nodup := by
    rw [List.nodup_append]
    refine ⟨h.nd, by simp, fun y hy z hz => ?_⟩
    rw [List.mem_singleton.1 hz]
    intro e
    exact hnot (e ▸ hy)
  have hnew : Dec (L ++ [(a, x)]) (L.length + 1) (xs ++ [x]) := .snoc (a := a) (by simp) (hd.more _)
  refine ⟨⟨hnd, fun c n => ?_, fun k i => ?_, fun n hn => ?_⟩, hnew⟩
  · by_cases e : c = (a, x)
    · subst e
      rw [upd2_same]
      constructor
      · intro h1
        cases h1
        exact ⟨L.length, rfl, by simp⟩
      · rintro ⟨i, rfl, hi⟩
        have : i = L.length := nodup_idx hnd hi (by simp)
        rw [this]
    · rw [upd2_other _ _ e, h.lists c n]
      constructor
      · rintro ⟨i, rfl, hi⟩
        exact ⟨i, rfl, by rw [List.getElem?_append_left (List.getElem?_eq_some_iff.1 hi).1]; exact hi⟩
      · rintro ⟨i, rfl, hi⟩
        have hl := (List.getElem?_eq_some_iff.1 hi).1
        rw [List.length_append, List.length_singleton] at hl
        rcases Nat.lt_or_ge i L.length with h1 | h1
        · rw [List.getElem?_append_left h1] at hi
          exact ⟨i, rfl, hi⟩
        · have : i = L.length := by omega
          subst this
          rw [List.getElem?_append_right (Nat.le_refl _)] at hi
          simp at hi
          exact absurd hi.symm e
  · rw [h.terms k i]
    constructor
    · rintro ⟨args, h1, h2⟩
      exact ⟨args, h1.more _, h2⟩
    · rintro ⟨args, h1, h2⟩
      obtain ⟨m, hm⟩ := h.all _ (findM_mem h2)
      have : k.list = m := Dec.inj hnd h1 (hm.more _)
      refine ⟨args, ?_, h2⟩
      rw [this]
      exact hm
  · obtain ⟨m, hm⟩ := h.all n hn
    exact ⟨m, hm.more _⟩
/-- What the terms' map tells of a node whose list has a number. -/
theorem Maps.look {l : List NodeM} {L : CL} {g1 : KeyM → Option Nat} {g2 : Nat × Int → Option Nat} (h : Maps l L g1 g2) {n : NodeM} {m : Nat} (hd : Dec L m n.args) : g1 (keyM n m) = findM n l := by
  cases e : findM n l with
  | some i => exact (h.terms _ _).2 ⟨n.args, hd, e⟩
  | none =>
    cases e1 : g1 (keyM n m) with
    | none => rfl
    | some i =>
      obtain ⟨args, h1, h2⟩ := (h.terms _ _).1 e1
      have : args = n.args := h1.fun hd
      subst this
      have h3 : findM n l = some i := h2
      rw [e] at h3
      cases h3
/-- A node more. -/
theorem Maps.push {l : List NodeM} {L : CL} {g1 : KeyM → Option Nat} {g2 : Nat × Int → Option Nat} (h : Maps l L g1 g2) {n : NodeM} {m : Nat} (hd : Dec L m n.args) (hn : findM n l = none) : Maps (l ++ [n]) L (upd2 g1 (keyM n m) l.length) g2 where
  nd := h.nd
  lists := h.lists
  terms := fun k i => by
    by_cases e : k = keyM n m
    · subst e
      rw [upd2_same]
      constructor
      · intro h1
        cases h1
        refine ⟨n.args, hd, ?_⟩
        show findM n (l ++ [n]) = _
        rw [findM_app, hn]
        simp [(sameM_iff n n).2 rfl]
      · rintro ⟨args, h1, h2⟩
        have : args = n.args := h1.fun hd
        subst this
        have h3 : findM n (l ++ [n]) = some i := h2
        rw [findM_app, hn] at h3
        simpa [(sameM_iff n n).2 rfl] using h3
    · rw [upd2_other _ _ e, h.terms k i]
      have key : ∀ args, Dec L k.list args → sameM n (k.node args) = false := fun args h1 => sameM_ne fun e1 => e (by
        have h2 : m = k.list := hd.inj h.nd (by rw [e1]; exact h1)
        rw [e1]
        subst h2
        rfl)
      constructor
      · rintro ⟨args, h1, h2⟩
        exact ⟨args, h1, by rw [findM_app, h2]⟩
      · rintro ⟨args, h1, h2⟩
        refine ⟨args, h1, ?_⟩
        rw [findM_app] at h2
        cases e2 : findM (k.node args) l with
        | some j => rw [e2] at h2; exact h2
        | none =>
          rw [e2] at h2
          simp [key args h1] at h2
  all := fun a ha => by
    rcases List.mem_append.1 ha with h1 | h1
    · exact h.all a h1
    · rw [List.mem_singleton.1 h1]
      exact ⟨m, hd⟩
end Go.Proofs.Ytmgbodmpjholiaa.TM
