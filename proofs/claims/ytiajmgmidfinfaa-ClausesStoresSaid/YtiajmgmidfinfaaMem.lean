/- Slices in memory, at any place of their rows: what is read, stored, appended, cut. Over any program. -/
import Derived.WalkKit
import Derived.Maps.AppendAt
import Derived.Test.YtiajmgmidfinfaaWWords
namespace Go.Proofs.Ytiajmgmidfinfaa.MM
open Go.RowKit Go.Proofs.YtiajmgmidfinfaaW.PrintWords

/-- The slice v shows xs: elements of one cell each, in a row of type e. -/
def Row (w : World) (e : TypeId) (v : Value) (xs : List Value) : Prop :=
  (v = .slice none 0 0 ∧ xs = []) ∨
  ∃ g off cap cur, v = .slice (some ⟨g, off, none⟩) xs.length cap ∧ w.heap[g]? = some (.cells cur e (0, 0)) ∧ xs.length ≤ cap ∧ cap ≤ maxLen ∧ off + cap ≤ cur.size ∧ (cur.toList.drop off).take xs.length = xs

/-- All blocks but those in F are as they were. -/
structure Keep (F : Nat → Prop) (w w' : World) : Prop where
  os : w'.os = w.os
  tape : w'.tape = w.tape
  output : w'.output = w.output
  size : w.heap.size ≤ w'.heap.size
  block : ∀ k, k < w.heap.size → ¬ F k → w'.heap[k]? = w.heap[k]?

theorem Keep.refl (F : Nat → Prop) (w : World) : Keep F w w := ⟨rfl, rfl, rfl, Nat.le_refl _, fun _ _ _ => rfl⟩
theorem Keep.trans {F G H : Nat → Prop} {a b c : World} (h : Keep F a b) (k : Keep G b c) (hF : ∀ x, F x → H x) (hG : ∀ x, G x → H x ∨ a.heap.size ≤ x) : Keep H a c :=
  ⟨k.os.trans h.os, k.tape.trans h.tape, k.output.trans h.output, Nat.le_trans h.size k.size, fun i hi hn => (k.block i (Nat.lt_of_lt_of_le hi h.size) (fun hg => by rcases hG i hg with h1 | h1; exact hn h1; omega)).trans (h.block i hi (fun hf => hn (hF i hf)))⟩
theorem Keep.mono {F G : Nat → Prop} {a b : World} (h : Keep F a b) (hF : ∀ x, F x → G x) : Keep G a b := ⟨h.os, h.tape, h.output, h.size, fun i hi hn => h.block i hi (fun hf => hn (hF i hf))⟩
theorem Keep.below {F : Nat → Prop} {a b : World} {B : Nat} (h : Keep F a b) (hF : ∀ x, F x → B ≤ x) (hB : B ≤ a.heap.size) : Below B a b := ⟨h.os, h.tape, h.output, h.size, fun k hk => h.block k (by omega) (fun hf => by have := hF k hf; omega)⟩
theorem Keep.ofBelow {F : Nat → Prop} {a b : World} (h : Below a.heap.size a b) : Keep F a b := ⟨h.os, h.tape, h.output, h.size, fun k hk _ => h.block k hk⟩
theorem Keep.ofGrown {F : Nat → Prop} {a b : World} {r : Option Nat} (h : a.grownBy b r) (hF : ∀ k, r = some k → F k) : Keep F a b := ⟨h.os, h.tape, h.output, h.size, fun k hk hn => h.block k hk (fun e => hn (hF k e.symm))⟩
theorem Keep.blk {F : Nat → Prop} {a b : World} (h : Keep F a b) {k : Nat} {o : Obj} (ho : a.heap[k]? = some o) (hn : ¬ F k) : b.heap[k]? = some o := (h.block k (blk_lt ho) hn).trans ho

variable {w w1 : World} {e : TypeId} {v : Value} {xs : List Value}

theorem Row.nil (w : World) (e : TypeId) : Row w e (.slice none 0 0) [] := .inl ⟨rfl, rfl⟩
theorem Row.move (h : Row w e v xs) (hb : ∀ g, v.ownBlock = some g → w1.heap[g]? = w.heap[g]?) : Row w1 e v xs := by
  rcases h with ⟨rfl, rfl⟩ | ⟨g, off, cap, cur, rfl, hg, h1, h2, h3, h4⟩
  · exact .nil _ _
  · exact .inr ⟨g, off, cap, cur, rfl, (hb g rfl).trans hg, h1, h2, h3, h4⟩
theorem Row.lt (h : Row w e v xs) : ∀ g, v.ownBlock = some g → g < w.heap.size := by
  rcases h with ⟨rfl, rfl⟩ | ⟨g, off, cap, cur, rfl, hg, _⟩
  · intro g hg; cases hg
  · intro g' hg'
    cases hg'
    exact blk_lt hg
theorem Row.keep {F : Nat → Prop} (h : Row w e v xs) (hk : Keep F w w1) (hn : ∀ g, v.ownBlock = some g → ¬ F g) : Row w1 e v xs := h.move fun g hg => hk.block g (h.lt g hg) (hn g hg)
theorem Row.shape (h : Row w e v xs) : ∃ A c, v = .slice A xs.length c ∧ xs.length ≤ c ∧ c ≤ maxLen := by
  rcases h with ⟨rfl, rfl⟩ | ⟨g, off, cap, cur, rfl, _, h1, h2, _⟩
  · exact ⟨none, 0, rfl, Nat.le_refl _, by simp [maxLen]⟩
  · exact ⟨_, _, rfl, h1, h2⟩
theorem Row.typed (h : Row w e v xs) : ∀ g, v.ownBlock = some g → ∃ cur, w.heap[g]? = some (.cells cur e (0, 0)) := by
  rcases h with ⟨rfl, rfl⟩ | ⟨g, off, cap, cur, rfl, hg, _⟩
  · intro g hg; cases hg
  · intro g' hg'
    cases hg'
    exact ⟨cur, hg⟩
theorem Row.ofOwns {base n : Nat} (h : w.ownsRow base e 1 v n xs) : Row w e v xs ∧ n = xs.length ∧ ∀ g, v.ownBlock = some g → base ≤ g := by
  obtain ⟨h0, h⟩ := h
  have hn : n = xs.length := by omega
  subst hn
  rcases h with ⟨rfl, h1⟩ | ⟨g, cap, cur, rfl, hb, hg, h1, h2, h3, h4⟩
  · have : xs = [] := List.eq_nil_of_length_eq_zero h1
    subst this
    exact ⟨.nil _ _, rfl, by intro g hg; cases hg⟩
  · exact ⟨.inr ⟨g, 0, cap, cur, rfl, hg, h1, h2, by omega, by simpa using h4⟩, rfl, by intro g' hg'; cases hg'; exact hb⟩
/-- Where the slice lies, and its cells. -/
theorem Row.cells (h : Row w e v xs) (h0 : 0 < xs.length) : ∃ g off cap, v = .slice (some ⟨g, off, none⟩) xs.length cap ∧ xs.length ≤ cap ∧ cap ≤ maxLen ∧ g < w.heap.size ∧ (∀ i, i < xs.length → w.cell? ⟨g, off + i, none⟩ = xs[i]?) ∧ ∀ o, w.frozen? ⟨g, o, none⟩ = false := by
  rcases h with ⟨rfl, rfl⟩ | ⟨g, off, cap, cur, rfl, hg, h1, h2, h3, h4⟩
  · simp at h0
  · refine ⟨g, off, cap, rfl, h1, h2, blk_lt hg, fun i hi => ?_, fun o => blk_frozen hg o⟩
    rw [blk_cell hg]
    have : xs[i]? = ((cur.toList.drop off).take xs.length)[i]? := by rw [h4]
    rw [this, List.getElem?_take, if_pos hi, List.getElem?_drop, Array.getElem?_toList]
theorem Row.set {g off n cap : Nat} (h : Row w e (.slice (some ⟨g, off, none⟩) n cap) xs) (i : Nat) (hi : i < xs.length) (u : Value) : Row (w.setCell ⟨g, off + i, none⟩ u) e (.slice (some ⟨g, off, none⟩) n cap) (xs.set i u) := by
  rcases h with ⟨hv, rfl⟩ | ⟨g', off', cap', cur, hv, hg, h1, h2, h3, h4⟩
  · simp at hi
  · injection hv with a1 a2 a3
    injection a1 with a1
    injection a1 with b1 b2 _
    subst b1 b2 a2 a3
    refine .inr ⟨g, off, cap, cur.setIfInBounds (off + i) u, by simp, blk_set hg _ _, by simpa using h1, h2, by simpa using h3, ?_⟩
    rw [List.length_set, Array.toList_setIfInBounds]
    apply List.ext_getElem?
    intro j
    rw [List.getElem?_take, List.getElem?_drop, List.getElem?_set, List.getElem?_set]
    have key : ∀ j, j < xs.length → xs[j]? = cur.toList[off + j]? := by
      intro j hj
      have : xs[j]? = ((cur.toList.drop off).take xs.length)[j]? := by rw [h4]
      rw [this, List.getElem?_take, if_pos hj, List.getElem?_drop]
    have hlen : xs.length ≤ cur.size := by omega
    by_cases hj : j < xs.length
    · rw [if_pos hj]
      by_cases e1 : i = j
      · subst e1
        rw [if_pos rfl, if_pos rfl, if_pos hi, if_pos (by simp; omega)]
      · rw [if_neg (by omega), if_neg e1, key j hj]
    · rw [if_neg hj, if_neg (by omega), List.getElem?_eq_none (by omega)]
/-- A slice cut from a place on. -/
theorem Row.cut {A : Option Addr} {c : Nat} (h : Row w e (.slice A xs.length c) xs) (i : Nat) (hi : i ≤ xs.length) : Row w e (.slice (if c = i then A else A.map (·.add (i * 1))) (xs.length - i) (c - i)) (xs.drop i) := by
  rcases h with ⟨hv, rfl⟩ | ⟨g, off, cap, cur, hv, hg, h1, h2, h3, h4⟩
  · injection hv with a1 a2 a3
    subst a1 a3
    simp at hi
    subst hi
    exact .inl ⟨by simp, by simp⟩
  · injection hv with a1 _ a3
    subst a1 a3
    have hd : (cur.toList.drop (off + i)).take (xs.length - i) = xs.drop i := by
      have : xs.drop i = ((cur.toList.drop off).take xs.length).drop i := by rw [h4]
      rw [this, List.drop_take, List.drop_drop]
    by_cases hc : c = i
    · have : xs.length = i := by omega
      refine .inr ⟨g, off, c - i, cur, by simp [hc], hg, by simp; omega, by omega, by omega, ?_⟩
      rw [List.length_drop, show xs.length - i = 0 by omega, List.take_zero, List.drop_eq_nil_of_le (by omega)]
    · refine .inr ⟨g, off + i, c - i, cur, by simp [hc, Addr.add], hg, by simp; omega, by omega, by omega, ?_⟩
      rw [List.length_drop]
      exact hd

theorem shown {cur : Array Value} {off j : Nat} {xs : List Value} {u : Value} (h : (cur.toList.drop off).take xs.length = xs) (hj : xs[j]? = some u) : cur[off + j]? = some u := by
  have hl : j < xs.length := (List.getElem?_eq_some_iff.1 hj).1
  have : xs[j]? = ((cur.toList.drop off).take xs.length)[j]? := by rw [h]
  rw [this, List.getElem?_take, if_pos hl, List.getElem?_drop, Array.getElem?_toList] at hj
  exact hj
variable {P : Program}

theorem run_append_at (w : World) (t ty e : TypeId) (i : TypeInfo) (ht : P.underlying t = some (.slice e)) (hi : P.info? e = some i) (h1s : i.size = 1)
    (g off sLen sCap : Nat) (cur : Array Value) (hg : w.heap[g]? = some (.cells cur e (0, 0)))
    (a : Addr) (m c : Nat) (news : List Value) (hl : news.length = m) (hnews : ∀ j u, news[j]? = some u → w.cell? (a.add j) = some u) (h1 : ∀ u ∈ news, u.oneCell' = true)
    (hroom : sLen + m ≤ sCap) (hfit : off + sLen + news.length ≤ cur.size) :
    (Builtin.append_ #[t, t] ty #[.slice (some ⟨g, off, none⟩) sLen sCap, .slice (some a) m c]).run P w =
      .ok (.slice (some ⟨g, off, none⟩) (sLen + m) sCap) (w.setRow g (cur.toList.take (off + sLen) ++ news ++ cur.toList.drop (off + sLen + news.length)).toArray) := by
  have hf := run_firstCells_some (P := P) w i.size m a m c news (by rw [h1s]; omega) hnews
  rw [h1s] at hf
  have hst := run_storeCells_at P g (off + sLen) e news 0 cur w hg (by simpa using hfit) h1
  simp only [Nat.add_zero] at hst
  simp [Builtin.append_, run_underlying ht, sizeOf, typeInfo, hi, Builtin.lenOf, hroom, hf, Addr.add_lit, hst, h1s]

/-- What an append reads. -/
def Src (w : World) (x : Value) (ys : List Value) : Prop := (∃ c, x = .slice none 0 c ∧ ys = []) ∨ ∃ a c, x = .slice (some a) ys.length c ∧ ∀ j u, ys[j]? = some u → w.cell? (a.add j) = some u
theorem Row.src (h : Row w e v xs) : Src w v xs := by
  rcases h with ⟨rfl, rfl⟩ | ⟨gx, ox, cx, curx, rfl, hgx, hx1, hx2, hx3, hx4⟩
  · exact .inl ⟨0, rfl, rfl⟩
  · refine .inr ⟨_, _, rfl, fun j u hj => ?_⟩
    rw [Addr.add_lit, blk_cell hgx]
    exact shown hx4 hj

theorem run_append_src (w : World) (t ty e : TypeId) (i : TypeInfo) (z : Value) (ht : P.underlying t = some (.slice e)) (hi : P.info? e = some i) (hz : i.zero = some z) (h1s : i.size = 1) (hzs : z.cells.size = 1)
    {v x : Value} {xs ys : List Value} (h : Row w e v xs) (hx : Src w x ys) (h1 : ∀ u ∈ ys, u.oneCell' = true) (h63 : xs.length + ys.length ≤ maxLen) (hbytes : (xs.length + ys.length) * i.bytes ≤ 140737488355328) :
    ∃ v' w', (Builtin.append_ #[t, t] ty #[v, x]).run P w = .ok v' w' ∧ Row w' e v' (xs ++ ys) ∧ Keep (fun k => v.ownBlock = some k) w w' ∧ (v'.ownBlock = v.ownBlock ∨ v'.ownBlock = some w.heap.size) := by
  have hsmall : xs.length + ys.length ≤ 9223372036854775807 := by simp only [maxLen] at h63; omega
  rcases hx with ⟨c0, rfl, rfl⟩ | ⟨ax, cx, rfl, hnews⟩
  · refine ⟨v, w, ?_, by simpa using h, Keep.refl _ _, .inl rfl⟩
    rcases h with ⟨rfl, rfl⟩ | ⟨g, off, cap, cur, rfl, hg, h2, h3, h4, h5⟩
    · simp [Builtin.append_, run_underlying ht, sizeOf, typeInfo, hi, Builtin.lenOf, Builtin.firstCells]
    · simp [Builtin.append_, run_underlying ht, sizeOf, typeInfo, hi, Builtin.lenOf, Builtin.firstCells, h2, storeCells]
  · have grown : ∀ (old : Nat), old < xs.length + ys.length →
        Row (w.drew.alloc (.cells (xs.toArray ++ ys.toArray ++ Builtin.zeroCells z.cells (grownCap w (xs.length + ys.length) old e - (xs.length + ys.length))) e)) e
          (.slice (some ⟨w.heap.size, 0, none⟩) (xs.length + ys.length) (grownCap w (xs.length + ys.length) old e)) (xs ++ ys) := by
      intro old ho
      have hge := grownCap_ge w (xs.length + ys.length) old e
      have hcm : grownCap w (xs.length + ys.length) old e ≤ maxLen := grownCap_le_maxLen w (xs.length + ys.length) old e h63
      refine .inr ⟨w.heap.size, 0, _, _, by rw [List.length_append], heap_alloc_new w.drew _, by rw [List.length_append]; exact hge, hcm, ?_, ?_⟩
      · simp only [Array.size_append, List.size_toArray, size_zeroCells, hzs]
        omega
      · rw [List.drop_zero]
        simp only [Array.toList_append, List.append_assoc]
        rw [← List.append_assoc]
        exact List.take_left
    have kept : ∀ (F : Nat → Prop) (o : Obj), Keep F w (w.drew.alloc o) := fun F o => ⟨rfl, rfl, rfl, by simp, fun k hk _ => Go.heap_alloc_old w.drew _ hk⟩
    rcases h with ⟨rfl, rfl⟩ | ⟨g, off, cap, cur, rfl, hg, h2, h3, h4, h5⟩
    · by_cases hm : ys.length = 0
      · have : ys = [] := List.eq_nil_of_length_eq_zero hm
        subst this
        refine ⟨.slice none 0 0, w, ?_, .nil _ _, Keep.refl _ _, .inl rfl⟩
        simp [Builtin.append_, run_underlying ht, sizeOf, typeInfo, hi, Builtin.lenOf, Builtin.firstCells, loadCells, loadCellsFrom]
      · have hr := run_append_nil (P := P) w t ty e i z ht hi hz ax ys.length cx ys (by rw [h1s]; omega) hnews (by omega) (by simp at hsmall; omega) (by simp at hbytes; omega)
        have hgr := grown 0 (by simp; omega)
        simp only [List.length_nil, Nat.zero_add, List.nil_append, Array.empty_append] at hgr ⊢
        exact ⟨_, _, hr, hgr, kept _ _, .inr rfl⟩
    · by_cases hroom : xs.length + ys.length ≤ cap
      · have hfit : off + xs.length + ys.length ≤ cur.size := by omega
        have hr := run_append_at (P := P) w t ty e i ht hi h1s g off xs.length cap cur hg ax ys.length cx ys rfl hnews h1 hroom hfit
        refine ⟨_, _, hr, .inr ⟨g, off, cap, _, by rw [List.length_append], setRow_heap w g cur _ e _ hg, by rw [List.length_append]; exact hroom, h3, ?_, ?_⟩, ⟨rfl, rfl, rfl, by simp, fun k _ hk => setRow_other w g k _ (fun e => hk (by simp [Value.ownBlock, e]))⟩, .inl rfl⟩
        · simp only [List.size_toArray, List.length_append, List.length_take, List.length_drop, Array.length_toList]
          omega
        · rw [List.length_append]
          show (List.drop off (cur.toList.take (off + xs.length) ++ ys ++ cur.toList.drop (off + xs.length + ys.length))).take (xs.length + ys.length) = xs ++ ys
          have e1 : (cur.toList.take (off + xs.length)).drop off = xs := by
            rw [List.drop_take, show off + xs.length - off = xs.length by omega]
            exact h5
          rw [List.append_assoc, List.drop_append_of_le_length (by simp; omega), e1, ← List.append_assoc, ← List.length_append]
          exact List.take_left
      · have holds : ∀ j u, xs[j]? = some u → w.cell? ((⟨g, off, none⟩ : Addr).add j) = some u := by
          intro j u hj
          rw [Addr.add_lit, blk_cell hg]
          exact shown h5 hj
        have hr := run_append_grow (P := P) w t ty e i z ht hi hz ⟨g, off, none⟩ xs.length cap xs (by rw [h1s]; omega) holds ax ys.length cx ys (by rw [h1s]; omega) hnews (by omega) (by omega) (growslice_fits (by omega) hbytes)
        exact ⟨_, _, hr, grown cap (by omega), kept _ _, .inr rfl⟩

theorem wpList_append_row {ops : Array Oper} {rest : List Oper} {o : Oper} {a : Act} {Q : Exit → Act → World → Prop} (hgd : o.guard = none) (s x : Operand) (t : TypeId)
    (ho : o.op = .call { callee := .builtin .append, args := #[s, x], argTypes := #[t, t] })
    (e : TypeId) (i : TypeInfo) (z : Value) (ht : P.underlying t = some (.slice e)) (hi : P.info? e = some i) (hz : i.zero = some z) (h1s : i.size = 1) (hzs : z.cells.size = 1)
    (v u : Value) (xs ys : List Value) (hs : a.eval s = v) (hx : a.eval x = u) (h : Row w e v xs) (hy : Src w u ys) (h1 : ∀ u ∈ ys, u.oneCell' = true) (h63 : xs.length + ys.length ≤ maxLen) (hbytes : (xs.length + ys.length) * i.bytes ≤ 140737488355328)
    (hK : ∀ v' w', Row w' e v' (xs ++ ys) → Keep (fun k => v.ownBlock = some k) w w' → (v'.ownBlock = v.ownBlock ∨ v'.ownBlock = some w.heap.size) → wpList P ops Q rest (a.put o.dst v') w') :
    wpList P ops Q (o :: rest) a w := by
  refine wpList_plain hgd fun K hKK => ?_
  obtain ⟨v', w', hr, h2, h3, h4⟩ := run_append_src (P := P) w t o.type e i z ht hi hz h1s hzs h hy h1 h63 hbytes
  unfold Oper.wp execOp
  simp only [ho, resolve, invoke, builtin, Sem.run_bind, Sem.run_pure, Result.andThen_ok, List.map_toArray, List.map_cons, List.map_nil, hs, hx, hr]
  exact hKK _ _ (hK v' w' h2 h3 h4)

theorem wp_append_row (w : World) {o : Oper} {a : Act} {K : Act → World → Prop} {Q : Exit → Act → World → Prop} (s x : Operand) (t : TypeId)
    (ho : o.op = .call { callee := .builtin .append, args := #[s, x], argTypes := #[t, t] })
    (e : TypeId) (i : TypeInfo) (z : Value) (ht : P.underlying t = some (.slice e)) (hi : P.info? e = some i) (hz : i.zero = some z) (h1s : i.size = 1) (hzs : z.cells.size = 1)
    (v u : Value) (xs ys : List Value) (hs : a.eval s = v) (hx : a.eval x = u) (h : Row w e v xs) (hy : Src w u ys) (h1 : ∀ u ∈ ys, u.oneCell' = true) (h63 : xs.length + ys.length ≤ maxLen) (hbytes : (xs.length + ys.length) * i.bytes ≤ 140737488355328)
    (hK : ∀ v' w', Row w' e v' (xs ++ ys) → Keep (fun k => v.ownBlock = some k) w w' → (v'.ownBlock = v.ownBlock ∨ v'.ownBlock = some w.heap.size) → K (a.put o.dst v') w') :
    Oper.wp P o a w K Q := by
  obtain ⟨v', w', hr, h2, h3, h4⟩ := run_append_src (P := P) w t o.type e i z ht hi hz h1s hzs h hy h1 h63 hbytes
  unfold Oper.wp execOp
  simp only [ho, resolve, invoke, builtin, Sem.run_bind, Sem.run_pure, Result.andThen_ok, List.map_toArray, List.map_cons, List.map_nil, hs, hx, hr]
  exact hK v' w' h2 h3 h4
/-- At a step of a region that draws its order. -/
theorem step_append_row (w : World) {ops : Array Oper} {o : Oper} {a : Act} {K : Act → World → Prop} {Q : Exit → Act → World → Prop} {E : Prop} (hgd : o.guard = none) (s x : Operand) (t : TypeId)
    (ho : o.op = .call { callee := .builtin .append, args := #[s, x], argTypes := #[t, t] })
    (e : TypeId) (i : TypeInfo) (z : Value) (ht : P.underlying t = some (.slice e)) (hi : P.info? e = some i) (hz : i.zero = some z) (h1s : i.size = 1) (hzs : z.cells.size = 1)
    (v u : Value) (xs ys : List Value) (hs : a.eval s = v) (hx : a.eval x = u) (h : Row w e v xs) (hy : Src w u ys) (h1 : ∀ u ∈ ys, u.oneCell' = true) (h63 : xs.length + ys.length ≤ maxLen) (hbytes : (xs.length + ys.length) * i.bytes ≤ 140737488355328)
    (hK : ∀ v' w', Row w' e v' (xs ++ ys) → Keep (fun k => v.ownBlock = some k) w w' → (v'.ownBlock = v.ownBlock ∨ v'.ownBlock = some w.heap.size) → K (a.put o.dst v') w') :
    if Region.wanted o (yielded ops a.tmps) = true then Oper.wp P o a w K Q else E := by
  have hw : Region.wanted o (yielded ops a.tmps) = true := by simp [Region.wanted, hgd]
  rw [if_pos hw]
  exact wp_append_row w s x t ho e i z ht hi hz h1s hzs v u xs ys hs hx h hy h1 h63 hbytes hK
/-- A slice literal of one element. -/
theorem Row.one (w : World) (e : TypeId) (u : Value) : Row (w.alloc (.cells #[u] e)) e (.slice (some ⟨w.heap.size, 0, none⟩) 1 1) [u] :=
  .inr ⟨w.heap.size, 0, 1, #[u], rfl, heap_alloc_new w _, by simp, by simp [maxLen], by simp, rfl⟩
theorem Row.alloc (h : Row w e v xs) (o : Obj) : Row (w.alloc o) e v xs := h.keep (F := fun _ => False) ⟨rfl, rfl, rfl, by simp, fun k hk _ => Go.heap_alloc_old w _ hk⟩ (fun _ _ h => h)
theorem Row.drew (h : Row w e v xs) : Row w.drew e v xs := h
theorem old_alloc {w : World} {k : Nat} (o : Obj) (h : k < w.heap.size) : (w.alloc o).heap[k]? = w.heap[k]? := Go.heap_alloc_old w _ h
end Go.Proofs.Ytiajmgmidfinfaa.MM
