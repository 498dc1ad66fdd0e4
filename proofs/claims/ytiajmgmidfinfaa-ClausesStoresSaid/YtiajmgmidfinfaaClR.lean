/- What the law of stores calls: the document's calls, of rows that are read. -/
import Derived.Test.YtiajmgmidfinfaaClA
import Derived.Test.YtiajmgmidfinfaaHkx0
import Derived.Test.YtiajmgmidfinfaaHkx1
import Derived.Test.YtiajmgmidfinfaaHkx3
import Derived.Test.YtiajmgmidfinfaaHkx4
import Derived.Test.YtiajmgmidfinfaaPMay
import Derived.Test.YtiajmgmidfinfaaPAlike
import Derived.Test.YtiajmgmidfinfaaPAtom
import Derived.Test.YtiajmgmidfinfaaPNormal
import Derived.Test.YtiajmgmidfinfaaPCopied
import Derived.Test.YtiajmgmidfinfaaPKnown14
namespace Go.Proofs.Ytiajmgmidfinfaa.SM
open Go.Lib hiding hid
open Go.RowKit Go.Maps Go.Shelf Go.Proofs.YtiajmgmidfinfaaW.PrintWords Go.Proofs.YtiajmgmidfinfaaW.PrintLast Go.Proofs.YtiajmgmidfinfaaW.PrintMore Go.Proofs.Ytiajmgmidfinfaa.MM Go.Proofs.Ytiajmgmidfinfaa.KM Go.Proofs.Ytiajmgmidfinfaa.SP Go.Proofs.Ytiajmgmidfinfaa.TW Go.Proofs.Ytiajmgmidfinfaa.LF Go.Proofs.Ytiajmgmidfinfaa.Hk
set_option linter.unusedSimpArgs false
set_option linter.unusedVariables false

/-- A row that is read. -/
def ReadsL (w : World) (v : Value) (l : List Int) : Prop := ∃ A c, v = .slice A l.length c ∧ l.length ≤ c ∧ Kd.C (Kd.int .i64) w A l.length l
theorem ReadsL.of {w : World} {v : Value} {l : List Int} (h : Row w 25 v (lits l)) : ReadsL w v l := C_of_Row h
theorem ReadsL.below {w w1 : World} {v : Value} {l : List Int} (h : ReadsL w v l) (hb : Below w.heap.size w w1) : ReadsL w1 v l := by
  obtain ⟨A, c, h1, h2, h3⟩ := h
  exact ⟨A, c, h1, h2, Kd.C_below h3 hb⟩
theorem drawn_below {w w' : World} (h : Drawn0 w w') : Below w.heap.size w w' := h.below
theorem copied_R (w : World) (v : Value) (l : List Int) (h : ReadsL w v l) (hl : l.length ≤ 1000) : Calls Try.prog 16 #[v] w (ShowC w l) := by
  obtain ⟨A, c, rfl, h2, h3⟩ := h
  refine (juristref14_Copied.calls A c l l w h3 h2 (Pure.copied_some l (by omega))).mono fun e w' ⟨x, he, hR, hb⟩ => ?_
  obtain ⟨y1, y2⟩ := Row_of_R hR
  exact ⟨x, he, y1, y2, hb⟩
theorem may_R (w : World) (v : Value) (l : List Int) (h : ReadsL w v l) (hl : l.length ≤ 1000) : Calls Try.prog 18 #[v] w fun e w' => e = .returned (.bool (MC.mayB l)) ∧ Below w.heap.size w w' := by
  obtain ⟨A, c, rfl, h2, h3⟩ := h
  obtain ⟨k, hk⟩ := (Pure.may_ev l (by omega)).rounds
  exact (juristref14_May.calls k A c l _ w h3 h2 hk).mono fun e w' ⟨he, hd⟩ => ⟨he, drawn_below hd⟩
theorem normal_R (w : World) (v : Value) (l : List Int) (h : ReadsL w v l) (hl : l.length ≤ 1000) (hm : MC.mayB l = true) : Calls Try.prog 19 #[v] w (ShowC w (canon l)) := by
  obtain ⟨A, c, rfl, h2, h3⟩ := h
  have hw := (Pure.mayB_lits hm).2
  obtain ⟨k, hk⟩ := (Pure.normal_ev l (by omega) (fun x hx => ⟨(hw x hx).1, by have := (hw x hx).2; omega, by have := (hw x hx).2; omega⟩)).rounds
  refine (juristref14_Normal.calls k A c l _ w h3 h2 hk).mono fun e w' ⟨x, he, hR, hb⟩ => ?_
  obtain ⟨y1, y2⟩ := Row_of_R hR
  exact ⟨x, he, y1, y2, hb⟩
theorem alike_R (w : World) (v u : Value) (l m : List Int) (h : ReadsL w v l) (h' : ReadsL w u m) (hl : l.length ≤ 1000) : Calls Try.prog 14 #[v, u] w fun e w' => e = .returned (.bool (decide (l = m))) ∧ Below w.heap.size w w' := by
  obtain ⟨A, c, rfl, h2, h3⟩ := h
  obtain ⟨A', c', rfl, h5, h6⟩ := h'
  obtain ⟨k, hk⟩ := (Pure.alike_ev l m (by omega)).rounds
  exact (juristref14_Alike.calls k A c l A' c' m _ w h3 h2 h6 h5 hk).mono fun e w' ⟨he, hd⟩ => ⟨he, drawn_below hd⟩
theorem within_R (w : World) (v u : Value) (l m : List Int) (h : ReadsL w v l) (h' : ReadsL w u m) (hl : l.length ≤ 1000) (hm : m.length ≤ 1000) : Calls Try.prog 22 #[v, u] w fun e w' => e = .returned (.bool (l.all (m.contains ·))) ∧ Below w.heap.size w w' := by
  obtain ⟨A, c, rfl, h2, h3⟩ := h
  obtain ⟨A', c', rfl, h5, h6⟩ := h'
  obtain ⟨k, hk⟩ := (Pure.within_ev l m (by omega) (by omega)).rounds
  exact (juristref14_Within.calls k A c l A' c' m _ w h3 h2 h6 h5 hk).mono fun e w' ⟨he, hd⟩ => ⟨he, drawn_below hd⟩
theorem atom_R (w : World) (x : Int) (hx : InB x) : Calls Try.prog 31 #[.int .i64 x] w fun e w' => e = .returned (.int .i64 (litAtom x)) ∧ Below w.heap.size w w' := by
  obtain ⟨h1, h2⟩ := hx
  have h := Pure.atom_some (x := x) (Pure.wfI_iff.2 ⟨by omega, by omega⟩)
  rw [Pure.litAtom_wf ⟨by omega, by omega⟩] at h
  exact (juristref14_Atom.calls x _ w h).mono fun e w' ⟨he, hd⟩ => ⟨he, drawn_below hd⟩
theorem known_R (w : World) : Calls Try.prog 10 #[] w fun e w' => e = .returned (.bool true) ∧ Below w.heap.size w w' := by
  obtain ⟨k, hk⟩ := Pure.known_ev.rounds
  exact juristlaw14_known.calls k true w hk
/-- Rows that are handed in. -/
abbrev CC (w : World) (A : Option Addr) (l : List (List Int)) : Prop := Kd.C (Kd.slice 25 (Kd.int .i64)) w A l.length l
theorem CC.below {w w1 : World} {A : Option Addr} {l : List (List Int)} (h : CC w A l) (hb : Below w.heap.size w w1) : CC w1 A l := Kd.C_below h hb
theorem CC.at {w : World} {A : Option Addr} {l : List (List Int)} (h : CC w A l) (h0 : 0 < l.length) :
    ∃ b off, A = some ⟨b, off, none⟩ ∧ ∀ j, j < l.length → ∃ A' c', w.cell? ⟨b, off + j, none⟩ = some (.slice A' (l.getD j []).length c') ∧ ReadsL w (.slice A' (l.getD j []).length c') (l.getD j []) := by
  obtain ⟨ad, e, hc⟩ := h.2.2 h0
  have key : ∀ j, j < l.length → ∃ A' c', w.cell? (ad.add j) = some (.slice A' (l.getD j []).length c') ∧ ReadsL w (.slice A' (l.getD j []).length c') (l.getD j []) := by
    intro j hj
    obtain ⟨c, hc1, ⟨A', c', hcs, hle, hC⟩, hcell⟩ := hc j l[j] (List.getElem?_eq_getElem hj)
    subst hcs
    have h1 := hcell 0 _ rfl
    rw [show l.getD j [] = l[j] from by simp [List.getD_eq_getElem?_getD, hj]]
    refine ⟨A', c', ?_, A', c', rfl, hle, hC⟩
    have h2 : w.cell? (ad.add (j * 1 + 0)) = some (.slice A' l[j].length c') := h1
    simpa using h2
  obtain ⟨b, off, sp⟩ := ad
  have hsp : sp = none := by
    obtain ⟨A', c', hc', _⟩ := key 0 h0
    unfold World.cell? at hc'
    simp only [Addr.add] at hc'
    cases sp with
    | none => rfl
    | some s => split at hc' <;> simp at hc'
  subst hsp
  refine ⟨b, off, e, fun j hj => ?_⟩
  have := key j hj
  rw [Addr.add_lit] at this
  exact this
/-- One of the rows that are handed in, and where its slice stands. -/
structure LiAt (b o : Nat) (v : Value) (li : List Int) (W : World) : Prop where
  lt : b < W.heap.size
  c : W.cell? ⟨b, o, none⟩ = some v
  rd : ReadsL W v li
theorem LiAt.below {b o : Nat} {v : Value} {li : List Int} {w W : World} (h : LiAt b o v li w) (hb : Below w.heap.size w W) : LiAt b o v li W :=
  ⟨Nat.lt_of_lt_of_le h.lt hb.size, (hb.cell (p := ⟨b, o, none⟩) h.lt).trans h.c, h.rd.below hb⟩
theorem CC.li {w : World} {A : Option Addr} {l : List (List Int)} (h : CC w A l) {i : Nat} (hi : i < l.length) : ∃ b off A' c', A = some ⟨b, off, none⟩ ∧ LiAt b (off + i) (.slice A' (l.getD i []).length c') (l.getD i []) w := by
  obtain ⟨b, off, rfl, hc⟩ := h.at (by omega)
  obtain ⟨A', c', h1, h2⟩ := hc i hi
  exact ⟨b, off, A', c', rfl, World.block_lt_of_cell? w ⟨b, _, none⟩ h1, h1, h2⟩
/-- An element. -/
theorem ReadsL.cell {w : World} {v : Value} {l : List Int} (h : ReadsL w v l) {k : Nat} (hk : k < l.length) : ∃ g off c, v = .slice (some ⟨g, off, none⟩) l.length c ∧ w.cell? ⟨g, off + k, none⟩ = some (.int .i64 (l.getD k 0)) := by
  obtain ⟨A, c, rfl, h2, h3⟩ := h
  obtain ⟨g, off, rfl, hc⟩ := MC.cells_of_C h3 (by omega)
  refine ⟨g, off, c, rfl, ?_⟩
  rw [hc k hk]
  simp [List.getD_eq_getElem?_getD, hk]
theorem within_Q (w : World) (n : Nat) (v u : Value) (l m : List Int) (h : ReadsL w v l) (h' : ReadsL w u m) (hl : l.length ≤ 1000) (hm : m.length ≤ 1000) : Calls Try.prog 22 #[v, u] (w.drewN n) fun e w' => e = .returned (.bool (l.all (m.contains ·))) ∧ ∃ q, w' = w.drewN q := by
  have hb : Below w.heap.size w (w.drewN n) := pw_below_drewN (Below.refl _ _) n
  obtain ⟨A, c, rfl, h2, h3⟩ := h.below hb
  obtain ⟨A', c', rfl, h5, h6⟩ := h'.below hb
  obtain ⟨k, hk⟩ := (Pure.within_ev l m (by omega) (by omega)).rounds
  refine (juristref14_Within.calls k A c l A' c' m _ _ h3 h2 h6 h5 hk).mono fun e w' ⟨he, hd⟩ => ⟨he, ?_⟩
  obtain ⟨q, rfl⟩ := hd
  exact ⟨n + q, World.drewN_drewN ..⟩
/-- What the law holds: the store, and all forms beside. -/
structure StoresAt (w : World) (s i : Nat) (fs : List (List Int)) (top : Int) (va : Value) (wr : World) : Prop where
  two : ∃ A, ClAt (sideForms va fs A) w wr s fs top ∧ ∀ j, (sideForms va fs A).D j → w.heap.size ≤ j
  len : fs.length ≤ i
  tb : 0 ≤ top ∧ top ≤ 1048576
theorem StoresAt.start {w wr : World} {s : Nat} (h : ClAt Side.nothing w wr s [] 0) : StoresAt w s 0 [] 0 (.slice none 0 0) wr :=
  ⟨⟨fun _ => False, (h.beside (Below.refl _ _) (sd2 := sideForms (.slice none 0 0) [] (fun _ => False)) (Forms.nil _) (fun j hj => hj.elim (fun e => by cases e) fun e => e.elim)).conv (fun h => h.2) (fun j hj => .inr hj), fun j hj => hj.elim (fun e => by cases e) fun e => e.elim⟩, Nat.le_refl _, by omega, by omega⟩
theorem all_push {w w8 w9 w10 : World} {s : Nat} {FS fs : List (List Int)} {f : List Int} {top : Int} {va v5 y : Value} {vs : List Value} {A : Nat → Prop} (h : ClAt ((sideForms va fs A).and (Side.row 25 y (lits f))) w w8 s FS top) (hD : ∀ j, (sideForms va fs A).D j → w.heap.size ≤ j) (hyf : ∀ g, y.ownBlock = some g → w.heap.size ≤ g) (hyn : ∀ g, y.ownBlock = some g → va.ownBlock ≠ some g)
    (hb9 : Below w8.heap.size w8 w9) (h1 : vs.length = fs.length) (h0 : ∀ u ∈ vs, u.oneCell' = true) (hrows : ∀ (i : Nat) (f : List Int) (x : Value), fs[i]? = some f → vs[i]? = some x → Row w8 25 x (lits f) ∧ ∀ g, x.ownBlock = some g → A g)
    (hrow : Row w10 22 v5 (vs ++ [y])) (hk : Keep (fun k => va.ownBlock = some k) w9 w10) (hat : ∀ g, v5.ownBlock = some g → va.ownBlock = some g ∨ w9.heap.size ≤ g) :
    ∃ A', ClAt (sideForms v5 (fs ++ [f]) A') w w10 s FS top ∧ ∀ j, (sideForms v5 (fs ++ [f]) A').D j → w.heap.size ≤ j := by
  have t9 : ClAt (Side.nothing.and ((sideForms va fs A).and (Side.row 25 y (lits f)))) w w9 s FS top := (h.below hb9).conv (fun h => ⟨trivial, h⟩) (fun j hj => hj.elim (fun e => e.elim) id)
  have hF : Forms w9 va fs A := t9.side.2.1
  have hp := hF.push hk h1 h0 (fun i f x hf hx => ⟨Row.bel (hrows i f x hf hx).1 hb9, (hrows i f x hf hx).2⟩) hrow hat t9.side.2.2 hyn
  have t10 := t9.turn (sd3 := sideForms v5 (fs ++ [f]) (fun g => A g ∨ y.ownBlock = some g)) (hk.mono fun j hj => .inl (.inl hj)) (fun j hj => hj.elim) (fun j hj => hj.elim (hD j) (hyf j)) hp (fun j hj => by
    rcases hj with hj | hj | hj
    · exact (hat j hj).imp (fun h => .inl (.inl h)) id
    · exact .inl (.inl (.inr hj))
    · exact .inl (.inr hj))
  refine ⟨fun g => A g ∨ y.ownBlock = some g, t10.conv (fun h => h.2) (fun j hj => .inr hj), fun j hj => ?_⟩
  rcases hj with hj | hj | hj
  · rcases hat j hj with e | e
    · exact hD j (.inl e)
    · exact Nat.le_trans t9.bel.size e
  · exact hD j (.inr hj)
  · exact hyf j hj
/-- What Find tells is what the loop finds. -/
theorem find_found {fs : List (List Int)} {c : List Int} (h : ∀ f ∈ fs, (∀ x ∈ f, InB x) ∧ f.Pairwise litLt ∧ f.length ≤ 1000) : findC fs c = if MC.mayB c = true then foundAt (fun f => bothB f c) fs 0 else (0, false) := by
  unfold findC
  by_cases hm : MC.mayB c = true
  · rw [if_pos hm, if_pos hm]
    have hin := mayB_in hm
    have e : idx (fun f => bothB f c) fs = idx (fun f => decide (keyF f = keyF (canon c))) fs := idx_congr fun f hf => both_key (h f hf).2.1 (h f hf).1 hin
    unfold foundAt byM
    rw [List.drop_zero, e]
    cases idx (fun f => decide (keyF f = keyF (canon c))) fs with
    | none => rfl
    | some i => rfl
  · rw [if_neg hm, if_neg hm]
end Go.Proofs.Ytiajmgmidfinfaa.SM
