/- Slices in memory, at any place of their rows: what is read, stored, appended, cut. Over any program. Maps of a call's own, told as functions from keys to the values themselves (none where nothing is): look-ups and stores. Over any program, any kind of key and element. The base of rup in memory: its words, and what leaves it standing. Words for the walks of rup: what the base's steps do in memory. A fall of rup in memory: what each step of its loop leaves. -/
import Derived.WalkKit
import Derived.Maps.AppendAt
import Derived.Test.YtjlkjgoncfdaeaaWWords
import Derived.Maps.OwnOps
import Derived.Maps.OwnSet
import Derived.Maps.Range
import Derived.Test.YtjlkjgoncfdaeaaChecked
import Derived.Test.YtjlkjgoncfdaeaaWMore
import Derived.Test.YtjlkjgoncfdaeaaWGuard
import Derived.Test.YtjlkjgoncfdaeaaWLast
import Derived.WalkSpells
import Derived.Test.YtjlkjgoncfdaeaaRupPl
namespace Go.Proofs.Ytjlkjgoncfdaeaa.MM
open Go.RowKit Go.Proofs.YtjlkjgoncfdaeaaW.PrintWords

/-- The slice v shows xs: elements of one cell each, in a row of type e. -/
def Row (w : World) (e : TypeId) (v : Value) (xs : List Value) : Prop :=
  (v = .slice none 0 0 ∧ xs = []) ∨
  ∃ g off cap cur, v = .slice (some ⟨g, off, none⟩) xs.length cap ∧ w.heap[g]? = some (.cells cur e (0, 0)) ∧ xs.length ≤ cap ∧ cap ≤ maxLen ∧ off + cap ≤ cur.size ∧ (cur.toList.drop off).take xs.length = xs

/-- All blocks but those in F are as they were. -/
structure Keep (F : Nat → Prop) (w w' : World) : Prop where
  os : w'.os = w.os
  tape : w'.tape = w.tape
  output : w'.output = w.output
  size : w.heap.size ≤ w'.heap.size
  block : ∀ k, k < w.heap.size → ¬ F k → w'.heap[k]? = w.heap[k]?

theorem Keep.refl (F : Nat → Prop) (w : World) : Keep F w w := ⟨rfl, rfl, rfl, Nat.le_refl _, fun _ _ _ => rfl⟩
theorem Keep.trans {F G H : Nat → Prop} {a b c : World} (h : Keep F a b) (k : Keep G b c) (hF : ∀ x, F x → H x) (hG : ∀ x, G x → H x ∨ a.heap.size ≤ x) : Keep H a c :=
  ⟨k.os.trans h.os, k.tape.trans h.tape, k.output.trans h.output, Nat.le_trans h.size k.size, fun i hi hn => (k.block i (Nat.lt_of_lt_of_le hi h.size) (fun hg => by rcases hG i hg with h1 | h1; exact hn h1; omega)).trans (h.block i hi (fun hf => hn (hF i hf)))⟩
theorem Keep.mono {F G : Nat → Prop} {a b : World} (h : Keep F a b) (hF : ∀ x, F x → G x) : Keep G a b := ⟨h.os, h.tape, h.output, h.size, fun i hi hn => h.block i hi (fun hf => hn (hF i hf))⟩
theorem Keep.below {F : Nat → Prop} {a b : World} {B : Nat} (h : Keep F a b) (hF : ∀ x, F x → B ≤ x) (hB : B ≤ a.heap.size) : Below B a b := ⟨h.os, h.tape, h.output, h.size, fun k hk => h.block k (by omega) (fun hf => by have := hF k hf; omega)⟩
theorem Keep.ofBelow {F : Nat → Prop} {a b : World} (h : Below a.heap.size a b) : Keep F a b := ⟨h.os, h.tape, h.output, h.size, fun k hk _ => h.block k hk⟩
theorem Keep.ofGrown {F : Nat → Prop} {a b : World} {r : Option Nat} (h : a.grownBy b r) (hF : ∀ k, r = some k → F k) : Keep F a b := ⟨h.os, h.tape, h.output, h.size, fun k hk hn => h.block k hk (fun e => hn (hF k e.symm))⟩
theorem Keep.blk {F : Nat → Prop} {a b : World} (h : Keep F a b) {k : Nat} {o : Obj} (ho : a.heap[k]? = some o) (hn : ¬ F k) : b.heap[k]? = some o := (h.block k (blk_lt ho) hn).trans ho

variable {w w1 : World} {e : TypeId} {v : Value} {xs : List Value}

theorem Row.nil (w : World) (e : TypeId) : Row w e (.slice none 0 0) [] := .inl ⟨rfl, rfl⟩
theorem Row.move (h : Row w e v xs) (hb : ∀ g, v.ownBlock = some g → w1.heap[g]? = w.heap[g]?) : Row w1 e v xs := by
  rcases h with ⟨rfl, rfl⟩ | ⟨g, off, cap, cur, rfl, hg, h1, h2, h3, h4⟩
  · exact .nil _ _
  · exact .inr ⟨g, off, cap, cur, rfl, (hb g rfl).trans hg, h1, h2, h3, h4⟩
theorem Row.lt (h : Row w e v xs) : ∀ g, v.ownBlock = some g → g < w.heap.size := by
  rcases h with ⟨rfl, rfl⟩ | ⟨g, off, cap, cur, rfl, hg, _⟩
  · intro g hg; cases hg
  · intro g' hg'
    cases hg'
    exact blk_lt hg
theorem Row.keep {F : Nat → Prop} (h : Row w e v xs) (hk : Keep F w w1) (hn : ∀ g, v.ownBlock = some g → ¬ F g) : Row w1 e v xs := h.move fun g hg => hk.block g (h.lt g hg) (hn g hg)
theorem Row.shape (h : Row w e v xs) : ∃ A c, v = .slice A xs.length c ∧ xs.length ≤ c ∧ c ≤ maxLen := by
  rcases h with ⟨rfl, rfl⟩ | ⟨g, off, cap, cur, rfl, _, h1, h2, _⟩
  · exact ⟨none, 0, rfl, Nat.le_refl _, by simp [maxLen]⟩
  · exact ⟨_, _, rfl, h1, h2⟩
theorem Row.typed (h : Row w e v xs) : ∀ g, v.ownBlock = some g → ∃ cur, w.heap[g]? = some (.cells cur e (0, 0)) := by
  rcases h with ⟨rfl, rfl⟩ | ⟨g, off, cap, cur, rfl, hg, _⟩
  · intro g hg; cases hg
  · intro g' hg'
    cases hg'
    exact ⟨cur, hg⟩
theorem Row.ofOwns {base n : Nat} (h : w.ownsRow base e 1 v n xs) : Row w e v xs ∧ n = xs.length ∧ ∀ g, v.ownBlock = some g → base ≤ g := by
  obtain ⟨h0, h⟩ := h
  have hn : n = xs.length := by omega
  subst hn
  rcases h with ⟨rfl, h1⟩ | ⟨g, cap, cur, rfl, hb, hg, h1, h2, h3, h4⟩
  · have : xs = [] := List.eq_nil_of_length_eq_zero h1
    subst this
    exact ⟨.nil _ _, rfl, by intro g hg; cases hg⟩
  · exact ⟨.inr ⟨g, 0, cap, cur, rfl, hg, h1, h2, by omega, by simpa using h4⟩, rfl, by intro g' hg'; cases hg'; exact hb⟩
/-- Where the slice lies, and its cells. -/
theorem Row.cells (h : Row w e v xs) (h0 : 0 < xs.length) : ∃ g off cap, v = .slice (some ⟨g, off, none⟩) xs.length cap ∧ xs.length ≤ cap ∧ cap ≤ maxLen ∧ g < w.heap.size ∧ (∀ i, i < xs.length → w.cell? ⟨g, off + i, none⟩ = xs[i]?) ∧ ∀ o, w.frozen? ⟨g, o, none⟩ = false := by
  rcases h with ⟨rfl, rfl⟩ | ⟨g, off, cap, cur, rfl, hg, h1, h2, h3, h4⟩
  · simp at h0
  · refine ⟨g, off, cap, rfl, h1, h2, blk_lt hg, fun i hi => ?_, fun o => blk_frozen hg o⟩
    rw [blk_cell hg]
    have : xs[i]? = ((cur.toList.drop off).take xs.length)[i]? := by rw [h4]
    rw [this, List.getElem?_take, if_pos hi, List.getElem?_drop, Array.getElem?_toList]
theorem Row.set {g off n cap : Nat} (h : Row w e (.slice (some ⟨g, off, none⟩) n cap) xs) (i : Nat) (hi : i < xs.length) (u : Value) : Row (w.setCell ⟨g, off + i, none⟩ u) e (.slice (some ⟨g, off, none⟩) n cap) (xs.set i u) := by
  rcases h with ⟨hv, rfl⟩ | ⟨g', off', cap', cur, hv, hg, h1, h2, h3, h4⟩
  · simp at hi
  · injection hv with a1 a2 a3
    injection a1 with a1
    injection a1 with b1 b2 _
    subst b1 b2 a2 a3
    refine .inr ⟨g, off, cap, cur.setIfInBounds (off + i) u, by simp, blk_set hg _ _, by simpa using h1, h2, by simpa using h3, ?_⟩
    rw [List.length_set, Array.toList_setIfInBounds]
    apply List.ext_getElem?
    intro j
    rw [List.getElem?_take, List.getElem?_drop, List.getElem?_set, List.getElem?_set]
    have key : ∀ j, j < xs.length → xs[j]? = cur.toList[off + j]? := by
      intro j hj
      have : xs[j]? = ((cur.toList.drop off).take xs.length)[j]? := by rw [h4]
      rw [this, List.getElem?_take, if_pos hj, List.getElem?_drop]
    have hlen : xs.length ≤ cur.size := by omega
    by_cases hj : j < xs.length
    · rw [if_pos hj]
      by_cases e1 : i = j
      · subst e1
        rw [if_pos rfl, if_pos rfl, if_pos hi, if_pos (by simp; omega)]
      · rw [if_neg (by omega), if_neg e1, key j hj]
    · rw [if_neg hj, if_neg (by omega), List.getElem?_eq_none (by omega)]
/-- A slice cut from a place on. -/
theorem Row.cut {A : Option Addr} {c : Nat} (h : Row w e (.slice A xs.length c) xs) (i : Nat) (hi : i ≤ xs.length) : Row w e (.slice (if c = i then A else A.map (·.add (i * 1))) (xs.length - i) (c - i)) (xs.drop i) := by
  rcases h with ⟨hv, rfl⟩ | ⟨g, off, cap, cur, hv, hg, h1, h2, h3, h4⟩
  · injection hv with a1 a2 a3
    subst a1 a3
    simp at hi
    subst hi
    exact .inl ⟨by simp, by simp⟩
  · injection hv with a1 _ a3
    subst a1 a3
    have hd : (cur.toList.drop (off + i)).take (xs.length - i) = xs.drop i := by
      have : xs.drop i = ((cur.toList.drop off).take xs.length).drop i := by rw [h4]
      rw [this, List.drop_take, List.drop_drop]
    by_cases hc : c = i
    · have : xs.length = i := by omega
      refine .inr ⟨g, off, c - i, cur, by simp [hc], hg, by simp; omega, by omega, by omega, ?_⟩
      rw [List.length_drop, show xs.length - i = 0 by omega, List.take_zero, List.drop_eq_nil_of_le (by omega)]
    · refine .inr ⟨g, off + i, c - i, cur, by simp [hc, Addr.add], hg, by simp; omega, by omega, by omega, ?_⟩
      rw [List.length_drop]
      exact hd

theorem shown {cur : Array Value} {off j : Nat} {xs : List Value} {u : Value} (h : (cur.toList.drop off).take xs.length = xs) (hj : xs[j]? = some u) : cur[off + j]? = some u := by
  have hl : j < xs.length := (List.getElem?_eq_some_iff.1 hj).1
  have : xs[j]? = ((cur.toList.drop off).take xs.length)[j]? := by rw [h]
  rw [this, List.getElem?_take, if_pos hl, List.getElem?_drop, Array.getElem?_toList] at hj
  exact hj
variable {P : Program}

theorem run_append_at (w : World) (t ty e : TypeId) (i : TypeInfo) (ht : P.underlying t = some (.slice e)) (hi : P.info? e = some i) (h1s : i.size = 1)
    (g off sLen sCap : Nat) (cur : Array Value) (hg : w.heap[g]? = some (.cells cur e (0, 0)))
    (a : Addr) (m c : Nat) (news : List Value) (hl : news.length = m) (hnews : ∀ j u, news[j]? = some u → w.cell? (a.add j) = some u) (h1 : ∀ u ∈ news, u.oneCell' = true)
    (hroom : sLen + m ≤ sCap) (hfit : off + sLen + news.length ≤ cur.size) :
    (Builtin.append_ #[t, t] ty #[.slice (some ⟨g, off, none⟩) sLen sCap, .slice (some a) m c]).run P w =
      .ok (.slice (some ⟨g, off, none⟩) (sLen + m) sCap) (w.setRow g (cur.toList.take (off + sLen) ++ news ++ cur.toList.drop (off + sLen + news.length)).toArray) := by
  have hf := run_firstCells_some (P := P) w i.size m a m c news (by rw [h1s]; omega) hnews
  rw [h1s] at hf
  have hst := run_storeCells_at P g (off + sLen) e news 0 cur w hg (by simpa using hfit) h1
  simp only [Nat.add_zero] at hst
  simp [Builtin.append_, run_underlying ht, sizeOf, typeInfo, hi, Builtin.lenOf, hroom, hf, Addr.add_lit, hst, h1s]

/-- What an append reads. -/
def Src (w : World) (x : Value) (ys : List Value) : Prop := (∃ c, x = .slice none 0 c ∧ ys = []) ∨ ∃ a c, x = .slice (some a) ys.length c ∧ ∀ j u, ys[j]? = some u → w.cell? (a.add j) = some u
theorem Row.src (h : Row w e v xs) : Src w v xs := by
  rcases h with ⟨rfl, rfl⟩ | ⟨gx, ox, cx, curx, rfl, hgx, hx1, hx2, hx3, hx4⟩
  · exact .inl ⟨0, rfl, rfl⟩
  · refine .inr ⟨_, _, rfl, fun j u hj => ?_⟩
    rw [Addr.add_lit, blk_cell hgx]
    exact shown hx4 hj

theorem run_append_src (w : World) (t ty e : TypeId) (i : TypeInfo) (z : Value) (ht : P.underlying t = some (.slice e)) (hi : P.info? e = some i) (hz : i.zero = some z) (h1s : i.size = 1) (hzs : z.cells.size = 1)
    {v x : Value} {xs ys : List Value} (h : Row w e v xs) (hx : Src w x ys) (h1 : ∀ u ∈ ys, u.oneCell' = true) (h63 : xs.length + ys.length ≤ maxLen) (hbytes : (xs.length + ys.length) * i.bytes ≤ 140737488355328) :
    ∃ v' w', (Builtin.append_ #[t, t] ty #[v, x]).run P w = .ok v' w' ∧ Row w' e v' (xs ++ ys) ∧ Keep (fun k => v.ownBlock = some k) w w' ∧ (v'.ownBlock = v.ownBlock ∨ v'.ownBlock = some w.heap.size) := by
  have hsmall : xs.length + ys.length ≤ 9223372036854775807 := by simp only [maxLen] at h63; omega
  rcases hx with ⟨c0, rfl, rfl⟩ | ⟨ax, cx, rfl, hnews⟩
  · refine ⟨v, w, ?_, by simpa using h, Keep.refl _ _, .inl rfl⟩
    rcases h with ⟨rfl, rfl⟩ | ⟨g, off, cap, cur, rfl, hg, h2, h3, h4, h5⟩
    · simp [Builtin.append_, run_underlying ht, sizeOf, typeInfo, hi, Builtin.lenOf, Builtin.firstCells]
    · simp [Builtin.append_, run_underlying ht, sizeOf, typeInfo, hi, Builtin.lenOf, Builtin.firstCells, h2, storeCells]
  · have grown : ∀ (old : Nat), old < xs.length + ys.length →
        Row (w.drew.alloc (.cells (xs.toArray ++ ys.toArray ++ Builtin.zeroCells z.cells (grownCap w (xs.length + ys.length) old e - (xs.length + ys.length))) e)) e
          (.slice (some ⟨w.heap.size, 0, none⟩) (xs.length + ys.length) (grownCap w (xs.length + ys.length) old e)) (xs ++ ys) := by
      intro old ho
      have hge := grownCap_ge w (xs.length + ys.length) old e
      have hcm : grownCap w (xs.length + ys.length) old e ≤ maxLen := grownCap_le_maxLen w (xs.length + ys.length) old e h63
      refine .inr ⟨w.heap.size, 0, _, _, by rw [List.length_append], heap_alloc_new w.drew _, by rw [List.length_append]; exact hge, hcm, ?_, ?_⟩
      · simp only [Array.size_append, List.size_toArray, size_zeroCells, hzs]
        omega
      · rw [List.drop_zero]
        simp only [Array.toList_append, List.append_assoc]
        rw [← List.append_assoc]
        exact List.take_left
    have kept : ∀ (F : Nat → Prop) (o : Obj), Keep F w (w.drew.alloc o) := fun F o => ⟨rfl, rfl, rfl, by simp, fun k hk _ => Go.heap_alloc_old w.drew _ hk⟩
    rcases h with ⟨rfl, rfl⟩ | ⟨g, off, cap, cur, rfl, hg, h2, h3, h4, h5⟩
    · by_cases hm : ys.length = 0
      · have : ys = [] := List.eq_nil_of_length_eq_zero hm
        subst this
        refine ⟨.slice none 0 0, w, ?_, .nil _ _, Keep.refl _ _, .inl rfl⟩
        simp [Builtin.append_, run_underlying ht, sizeOf, typeInfo, hi, Builtin.lenOf, Builtin.firstCells, loadCells, loadCellsFrom]
      · have hr := run_append_nil (P := P) w t ty e i z ht hi hz ax ys.length cx ys (by rw [h1s]; omega) hnews (by omega) (by simp at hsmall; omega) (by simp at hbytes; omega)
        have hgr := grown 0 (by simp; omega)
        simp only [List.length_nil, Nat.zero_add, List.nil_append, Array.empty_append] at hgr ⊢
        exact ⟨_, _, hr, hgr, kept _ _, .inr rfl⟩
    · by_cases hroom : xs.length + ys.length ≤ cap
      · have hfit : off + xs.length + ys.length ≤ cur.size := by omega
        have hr := run_append_at (P := P) w t ty e i ht hi h1s g off xs.length cap cur hg ax ys.length cx ys rfl hnews h1 hroom hfit
        refine ⟨_, _, hr, .inr ⟨g, off, cap, _, by rw [List.length_append], setRow_heap w g cur _ e _ hg, by rw [List.length_append]; exact hroom, h3, ?_, ?_⟩, ⟨rfl, rfl, rfl, by simp, fun k _ hk => setRow_other w g k _ (fun e => hk (by simp [Value.ownBlock, e]))⟩, .inl rfl⟩
        · simp only [List.size_toArray, List.length_append, List.length_take, List.length_drop, Array.length_toList]
          omega
        · rw [List.length_append]
          show (List.drop off (cur.toList.take (off + xs.length) ++ ys ++ cur.toList.drop (off + xs.length + ys.length))).take (xs.length + ys.length) = xs ++ ys
          have e1 : (cur.toList.take (off + xs.length)).drop off = xs := by
            rw [List.drop_take, show off + xs.length - off = xs.length by omega]
            exact h5
          rw [List.append_assoc, List.drop_append_of_le_length (by simp; omega), e1, ← List.append_assoc, ← List.length_append]
          exact List.take_left
      · have holds : ∀ j u, xs[j]? = some u → w.cell? ((⟨g, off, none⟩ : Addr).add j) = some u := by
          intro j u hj
          rw [Addr.add_lit, blk_cell hg]
          exact shown h5 hj
        have hr := run_append_grow (P := P) w t ty e i z ht hi hz ⟨g, off, none⟩ xs.length cap xs (by rw [h1s]; omega) holds ax ys.length cx ys (by rw [h1s]; omega) hnews (by omega) (by omega) (growslice_fits (by omega) hbytes)
        exact ⟨_, _, hr, grown cap (by omega), kept _ _, .inr rfl⟩

theorem wpList_append_row {ops : Array Oper} {rest : List Oper} {o : Oper} {a : Act} {Q : Exit → Act → World → Prop} (hgd : o.guard = none) (s x : Operand) (t : TypeId)
    (ho : o.op = .call { callee := .builtin .append, args := #[s, x], argTypes := #[t, t] })
    (e : TypeId) (i : TypeInfo) (z : Value) (ht : P.underlying t = some (.slice e)) (hi : P.info? e = some i) (hz : i.zero = some z) (h1s : i.size = 1) (hzs : z.cells.size = 1)
    (v u : Value) (xs ys : List Value) (hs : a.eval s = v) (hx : a.eval x = u) (h : Row w e v xs) (hy : Src w u ys) (h1 : ∀ u ∈ ys, u.oneCell' = true) (h63 : xs.length + ys.length ≤ maxLen) (hbytes : (xs.length + ys.length) * i.bytes ≤ 140737488355328)
    (hK : ∀ v' w', Row w' e v' (xs ++ ys) → Keep (fun k => v.ownBlock = some k) w w' → (v'.ownBlock = v.ownBlock ∨ v'.ownBlock = some w.heap.size) → wpList P ops Q rest (a.put o.dst v') w') :
    wpList P ops Q (o :: rest) a w := by
  refine wpList_plain hgd fun K hKK => ?_
  obtain ⟨v', w', hr, h2, h3, h4⟩ := run_append_src (P := P) w t o.type e i z ht hi hz h1s hzs h hy h1 h63 hbytes
  unfold Oper.wp execOp
  simp only [ho, resolve, invoke, builtin, Sem.run_bind, Sem.run_pure, Result.andThen_ok, List.map_toArray, List.map_cons, List.map_nil, hs, hx, hr]
  exact hKK _ _ (hK v' w' h2 h3 h4)

theorem wp_append_row (w : World) {o : Oper} {a : Act} {K : Act → World → Prop} {Q : Exit → Act → World → Prop} (s x : Operand) (t : TypeId)
    (ho : o.op = .call { callee := .builtin .append, args := #[s, x], argTypes := #[t, t] })
    (e : TypeId) (i : TypeInfo) (z : Value) (ht : P.underlying t = some (.slice e)) (hi : P.info? e = some i) (hz : i.zero = some z) (h1s : i.size = 1) (hzs : z.cells.size = 1)
    (v u : Value) (xs ys : List Value) (hs : a.eval s = v) (hx : a.eval x = u) (h : Row w e v xs) (hy : Src w u ys) (h1 : ∀ u ∈ ys, u.oneCell' = true) (h63 : xs.length + ys.length ≤ maxLen) (hbytes : (xs.length + ys.length) * i.bytes ≤ 140737488355328)
    (hK : ∀ v' w', Row w' e v' (xs ++ ys) → Keep (fun k => v.ownBlock = some k) w w' → (v'.ownBlock = v.ownBlock ∨ v'.ownBlock = some w.heap.size) → K (a.put o.dst v') w') :
    Oper.wp P o a w K Q := by
  obtain ⟨v', w', hr, h2, h3, h4⟩ := run_append_src (P := P) w t o.type e i z ht hi hz h1s hzs h hy h1 h63 hbytes
  unfold Oper.wp execOp
  simp only [ho, resolve, invoke, builtin, Sem.run_bind, Sem.run_pure, Result.andThen_ok, List.map_toArray, List.map_cons, List.map_nil, hs, hx, hr]
  exact hK v' w' h2 h3 h4
/-- At a step of a region that draws its order. -/
theorem step_append_row (w : World) {ops : Array Oper} {o : Oper} {a : Act} {K : Act → World → Prop} {Q : Exit → Act → World → Prop} {E : Prop} (hgd : o.guard = none) (s x : Operand) (t : TypeId)
    (ho : o.op = .call { callee := .builtin .append, args := #[s, x], argTypes := #[t, t] })
    (e : TypeId) (i : TypeInfo) (z : Value) (ht : P.underlying t = some (.slice e)) (hi : P.info? e = some i) (hz : i.zero = some z) (h1s : i.size = 1) (hzs : z.cells.size = 1)
    (v u : Value) (xs ys : List Value) (hs : a.eval s = v) (hx : a.eval x = u) (h : Row w e v xs) (hy : Src w u ys) (h1 : ∀ u ∈ ys, u.oneCell' = true) (h63 : xs.length + ys.length ≤ maxLen) (hbytes : (xs.length + ys.length) * i.bytes ≤ 140737488355328)
    (hK : ∀ v' w', Row w' e v' (xs ++ ys) → Keep (fun k => v.ownBlock = some k) w w' → (v'.ownBlock = v.ownBlock ∨ v'.ownBlock = some w.heap.size) → K (a.put o.dst v') w') :
    if Region.wanted o (yielded ops a.tmps) = true then Oper.wp P o a w K Q else E := by
  have hw : Region.wanted o (yielded ops a.tmps) = true := by simp [Region.wanted, hgd]
  rw [if_pos hw]
  exact wp_append_row w s x t ho e i z ht hi hz h1s hzs v u xs ys hs hx h hy h1 h63 hbytes hK
/-- A slice literal of one element. -/
theorem Row.one (w : World) (e : TypeId) (u : Value) : Row (w.alloc (.cells #[u] e)) e (.slice (some ⟨w.heap.size, 0, none⟩) 1 1) [u] :=
  .inr ⟨w.heap.size, 0, 1, #[u], rfl, heap_alloc_new w _, by simp, by simp [maxLen], by simp, rfl⟩
theorem Row.alloc (h : Row w e v xs) (o : Obj) : Row (w.alloc o) e v xs := h.keep (F := fun _ => False) ⟨rfl, rfl, rfl, by simp, fun k hk _ => Go.heap_alloc_old w _ hk⟩ (fun _ _ h => h)
theorem Row.drew (h : Row w e v xs) : Row w.drew e v xs := h
theorem old_alloc {w : World} {k : Nat} (o : Obj) (h : k < w.heap.size) : (w.alloc o).heap[k]? = w.heap[k]? := Go.heap_alloc_old w _ h
end Go.Proofs.Ytjlkjgoncfdaeaa.MM

namespace Go.Proofs.Ytjlkjgoncfdaeaa.VM
open Go.Maps

/-- Each element tells itself. -/
def raw (v : Value) : Option (DataW Value × List MemPlace) := some (.held v, [])
/-- Block b is a map of at most n entries, which is f. -/
def VMap (P : Program) (K : TypeId) (w : World) (b n : Nat) (f : Lit → Option Value) : Prop :=
  ∃ D : DataW Value, w.ownsMap P K raw b n D ∧ ∀ kl, KeysOf P K kl → ∀ z : DataW Value, D.atKey kl z = (match f kl with | some v => .held v | none => z)
open Classical in
noncomputable def upd (f : Lit → Option Value) (k : Lit) (v : Value) : Lit → Option Value := fun y => if y = k then some v else f y

variable {P : Program} {K E : TypeId} {w w1 : World} {b n : Nat} {f : Lit → Option Value}

theorem VMap.made (w : World) : VMap P K (w.alloc (.map #[] 0)) w.heap.size 0 (fun _ => none) := ⟨.map [], World.ownsMap_made _ _ _ _, fun _ _ _ => rfl⟩
theorem VMap.lt (h : VMap P K w b n f) : b < w.heap.size := by obtain ⟨D, h, _⟩ := h; exact h.lt
theorem VMap.move (h : VMap P K w b n f) (hm : w1.heap[b]? = w.heap[b]?) : VMap P K w1 b n f := by
  obtain ⟨D, ⟨es, cl, h1, h2⟩, h3⟩ := h
  exact ⟨D, ⟨es, cl, hm.trans h1, h2⟩, h3⟩
theorem VMap.more (h : VMap P K w b n f) {m : Nat} (hm : n ≤ m) : VMap P K w b m f := by
  obtain ⟨D, h1, h2⟩ := h
  exact ⟨D, h1.mono hm, h2⟩
theorem VMap.obj (h : VMap P K w b n f) : ∃ es cl, w.heap[b]? = some (.map es cl) := by
  obtain ⟨D, ⟨es, cl, h1, _⟩, _⟩ := h
  exact ⟨es, cl, h1⟩

theorem VMap.look {t : TypeId} (h : VMap P K w b n f) (hK : Keyed P K) (ht : P.underlying t = some (.map K E)) {z : Value} (hz : (zeroValue E).run P w = .ok z w) {key : Value} {kl : Lit} (hkey : keyOf P K key = some kl) :
    (Instr.lookup t (.map (some b)) key false).run P w = .ok ((f kl).getD z) w := by
  obtain ⟨D, hown, hat⟩ := h
  obtain ⟨v, ps, hrun, hv⟩ := hown.lookup hK ht hz (zd := .held z) (zp := []) rfl hkey
  rw [hat kl ⟨key, hkey⟩] at hv
  rw [hrun]
  cases h : f kl with
  | none => rw [h] at hv; injection hv with hv; injection hv with hv _; injection hv with hv; rw [hv]; rfl
  | some u => rw [h] at hv; injection hv with hv; injection hv with hv _; injection hv with hv; rw [hv]; rfl
theorem VMap.look_ok {t : TypeId} (h : VMap P K w b n f) (hK : Keyed P K) (ht : P.underlying t = some (.map K E)) {z : Value} (hz : (zeroValue E).run P w = .ok z w) {key : Value} {kl : Lit} (hkey : keyOf P K key = some kl) :
    (Instr.lookup t (.map (some b)) key true).run P w = .ok (.tuple #[(f kl).getD z, .bool (f kl).isSome]) w := by
  obtain ⟨D, hown, hat⟩ := h
  obtain ⟨v, ps, hrun, hv⟩ := hown.look_ok hK ht hz (zd := .held z) (zp := []) rfl hkey
  have h1 := hat kl ⟨key, hkey⟩
  rw [h1] at hv
  rw [hrun]
  cases h : f kl with
  | none =>
    rw [h] at hv
    injection hv with hv
    injection hv with hv _
    injection hv with hv
    have : Maps.has D kl = false := Maps.has_false_of_atKey (fun zd => by rw [h1 zd, h])
    rw [hv, this]
    rfl
  | some u =>
    rw [h] at hv
    injection hv with hv
    injection hv with hv _
    injection hv with hv
    have : Maps.has D kl = true := Maps.has_true_of_atKey (y := .held u) (fun zd => by rw [h1 zd, h])
    rw [hv, this]
    rfl
theorem VMap.store {t : TypeId} (h : VMap P K w b n f) (hK : Keyed P K) (ht : P.underlying t = some (.map K E)) (hn : n < maxLen) {key val : Value} {kl : Lit} (hkey : keyOf P K key = some kl) :
    ∃ w', (Instr.mapUpdate t (.map (some b)) key val).run P w = .ok () w' ∧ VMap P K w' b (n + 1) (upd f kl val) ∧ w.grownBy w' (some b) := by
  obtain ⟨D, hown, hat⟩ := h
  obtain ⟨w', hrun, h1, h2⟩ := hown.update hK ht hn (d := .held val) (ps := []) hkey rfl
  refine ⟨w', hrun, ⟨_, h1, fun y hy z => ?_⟩, h2⟩
  unfold upd
  by_cases e : y = kl
  · subst e
    rw [if_pos rfl, Maps.atKey_put_same hown.isMap (hK.key hkey)]
  · rw [if_neg e, Maps.atKey_put_other e, hat y hy]

/-- The world behind a store. -/
noncomputable def putW (P : Program) (t : TypeId) (w : World) (b : Nat) (key val : Value) : World :=
  match (Instr.mapUpdate t (.map (some b)) key val).run P w with
  | .ok _ w' => w'
  | _ => w
theorem VMap.put_run {t : TypeId} (h : VMap P K w b n f) (hK : Keyed P K) (ht : P.underlying t = some (.map K E)) (hn : n < maxLen) {key : Value} {kl : Lit} (hkey : keyOf P K key = some kl) (val : Value) :
    (Instr.mapUpdate t (.map (some b)) key val).run P w = .ok () (putW P t w b key val) ∧ VMap P K (putW P t w b key val) b (n + 1) (upd f kl val) ∧ w.grownBy (putW P t w b key val) (some b) := by
  obtain ⟨w', hrun, h1, h2⟩ := h.store hK ht hn hkey (val := val)
  have : putW P t w b key val = w' := by unfold putW; rw [hrun]
  rw [this]
  exact ⟨hrun, h1, h2⟩
/-- What a look-up tells. -/
noncomputable def lookV (P : Program) (t : TypeId) (b : Nat) (key : Value) (w : World) : Value :=
  match (Instr.lookup t (.map (some b)) key false).run P w with
  | .ok v _ => v
  | _ => undef
theorem VMap.look_run {t : TypeId} (h : VMap P K w b n f) (hK : Keyed P K) (ht : P.underlying t = some (.map K E)) {z : Value} (hz : (zeroValue E).run P w = .ok z w) {key : Value} {kl : Lit} (hkey : keyOf P K key = some kl) :
    lookV P t b key w = (f kl).getD z ∧ (Instr.lookup t (.map (some b)) key false).run P w = .ok (lookV P t b key w) w := by
  have h1 := h.look hK ht hz hkey
  have h2 : lookV P t b key w = (f kl).getD z := by unfold lookV; rw [h1]
  exact ⟨h2, by rw [h2]; exact h1⟩
theorem nodup_len {α : Type} {l S : List α} (h : l.Pairwise (· ≠ ·)) (hs : ∀ x ∈ l, x ∈ S) : l.length ≤ S.length := by
  induction l generalizing S with
  | nil => simp
  | cons a l ih =>
    rw [List.pairwise_cons] at h
    obtain ⟨s1, s2, rfl⟩ := List.append_of_mem (hs a (by simp))
    have := ih h.2 (S := s1 ++ s2) (fun x hx => by
      have h1 := hs x (by simp [hx])
      rw [List.mem_append, List.mem_cons] at h1
      rw [List.mem_append]
      rcases h1 with h1 | h1 | h1
      · exact .inl h1
      · exact absurd h1.symm (h.1 x hx)
      · exact .inr h1)
    simp only [List.length_cons, List.length_append] at this ⊢
    omega
/-- A map has no more entries than there are keys that may be in it. -/
theorem VMap.tight (h : VMap P K w b n f) (hK : Keyed P K) (S : List Lit) (hS : ∀ kl, f kl ≠ none → kl ∈ S) : VMap P K w b S.length f := by
  obtain ⟨D, hown, hat⟩ := h
  obtain ⟨l, hl, hpw⟩ := hown.tidy hK
  obtain ⟨es, clock, hb, F, hs, hD⟩ := hown
  rw [hl] at hD
  injection hD with hD
  have hkeys : ∀ p ∈ l, KeysOf P K p.1 := fun p hp => fit_keys F p (mem_sorted.1 (hD ▸ hp))
  refine ⟨D, ⟨es, clock, hb, F, ?_, by rw [hl, hD]⟩, hat⟩
  have e1 : es.size = (l.map (·.1)).length := by rw [List.length_map, hD, length_sorted]; simp
  rw [e1]
  refine nodup_len (List.pairwise_map.2 hpw) (fun x hx => ?_)
  obtain ⟨p, hp, rfl⟩ := List.mem_map.1 hx
  refine hS _ fun hn => ?_
  have h1 := hat p.1 (hkeys p hp)
  have h2 : Maps.has D p.1 = false := Maps.has_false_of_atKey (fun zd => by rw [h1 zd, hn])
  rw [hl, Maps.has_eq] at h2
  have h3 : l.any (fun q => q.1.sameKey p.1) = true := List.any_eq_true.2 ⟨p, hp, WideAt.sameKey_self (by obtain ⟨v, hv⟩ := hkeys p hp; exact hK.key hv)⟩
  rw [h2] at h3
  cases h3

theorem wp_lookup_v (w : World) {ops : Array Oper} {rest : List Oper} {o : Oper} {a : Act} {Q : Exit → Act → World → Prop} (hg : o.guard = none) (m x : Operand) (t : TypeId) (hop : o.op = Op.lookup t m x false)
    (hK : Keyed P K) (ht : P.underlying t = some (.map K E)) (z : Value) (hz : (zeroValue E).run P w = .ok z w) (b n : Nat) (f : Lit → Option Value) (h : VMap P K w b n f) (key : Value) (kl : Lit) (hm : a.eval m = .map (some b)) (hx : a.eval x = key) (hkey : keyOf P K key = some kl)
    (hQ : wpList P ops Q rest (a.put o.dst ((f kl).getD z)) w) : wpList P ops Q (o :: rest) a w := by
  refine wpList_plain hg fun K' hK' => ?_
  have hrun := h.look hK ht hz hkey
  unfold Oper.wp
  simp [execOp, hop, hm, hx, hrun, Result.andThen]
  exact hK' _ _ hQ
theorem wp_lookup_ok_v (w : World) {ops : Array Oper} {rest : List Oper} {o : Oper} {a : Act} {Q : Exit → Act → World → Prop} (hg : o.guard = none) (m x : Operand) (t : TypeId) (hop : o.op = Op.lookup t m x true)
    (hK : Keyed P K) (ht : P.underlying t = some (.map K E)) (z : Value) (hz : (zeroValue E).run P w = .ok z w) (b n : Nat) (f : Lit → Option Value) (h : VMap P K w b n f) (key : Value) (kl : Lit) (hm : a.eval m = .map (some b)) (hx : a.eval x = key) (hkey : keyOf P K key = some kl)
    (hQ : wpList P ops Q rest (a.put o.dst (.tuple #[(f kl).getD z, .bool (f kl).isSome])) w) : wpList P ops Q (o :: rest) a w := by
  refine wpList_plain hg fun K' hK' => ?_
  have hrun := h.look_ok hK ht hz hkey
  unfold Oper.wp
  simp [execOp, hop, hm, hx, hrun, Result.andThen]
  exact hK' _ _ hQ
theorem wp_update_v (w : World) {ops : Array Oper} {rest : List Oper} {o : Oper} {a : Act} {Q : Exit → Act → World → Prop} (hg : o.guard = none) (m x v : Operand) (t : TypeId) (hop : o.op = Op.mapUpdate t m x v)
    (hK : Keyed P K) (ht : P.underlying t = some (.map K E)) (b n : Nat) (f : Lit → Option Value) (h : VMap P K w b n f) (key val : Value) (kl : Lit) (hm : a.eval m = .map (some b)) (hx : a.eval x = key) (hv : a.eval v = val) (hkey : keyOf P K key = some kl) (hn : n < maxLen)
    (hQ : ∀ w', VMap P K w' b (n + 1) (upd f kl val) → w.grownBy w' (some b) → wpList P ops Q rest (a.put o.dst undef) w') : wpList P ops Q (o :: rest) a w := by
  refine wpList_plain hg fun K' hK' => ?_
  obtain ⟨w', hrun, h1, h2⟩ := h.store hK ht hn (val := val) hkey
  unfold Oper.wp
  simp [execOp, hop, hm, hx, hv, hrun, Result.andThen]
  exact hK' _ _ (hQ w' h1 h2)
end Go.Proofs.Ytjlkjgoncfdaeaa.VM

namespace Go.Proofs.Ytjlkjgoncfdaeaa.RM
open Go.RowKit Go.Proofs.YtjlkjgoncfdaeaaW.PrintWords Go.Proofs.YtjlkjgoncfdaeaaW.PrintLast Go.Proofs.YtjlkjgoncfdaeaaW.PrintMore Go.Maps Go.Proofs.Ytjlkjgoncfdaeaa.MM Go.Proofs.Ytjlkjgoncfdaeaa.VM

abbrev lits (l : List Int) : List Value := l.map (Value.int .i64)
abbrev hd (g : Lit → Option Value) (x : Int) : Value := (g (.int .i64 x)).getD (.slice none 0 0)
abbrev at_ (hs : List Value) (i : Nat) : Value := hs.getD i undef
structure RupMem (w : World) (p M : Nat) (vA vU : Value) (hs : List Value) (g : Lit → Option Value) (k : Nat) (b : RB) (F : Nat → Prop) : Prop where
  obj : w.heap[p]? = some (.cells #[vA, .map (some M), vU, .bool b.empty] 64 (0, 0))
  rowA : Row w 31 vA hs
  len : hs.length = b.all.length
  rows : ∀ i, i < b.all.length → Row w 46 (at_ hs i) (lits (b.all.getD i []))
  map : VMap Try.prog 46 w M k g
  by_ : ∀ x, Row w 3 (hd g x) (lits (b.by_ x))
  units : Row w 46 vU (lits b.units)
  fp : F p
  fM : F M
  fA : ∀ h, vA.ownBlock = some h → F h
  fU : ∀ h, vU.ownBlock = some h → F h
  fr : ∀ i, i < b.all.length → ∀ h, (at_ hs i).ownBlock = some h → F h
  fb : ∀ x h, (hd g x).ownBlock = some h → F h
  apr : ∀ i j, i < b.all.length → j < b.all.length → i ≠ j → ∀ h, (at_ hs i).ownBlock = some h → (at_ hs j).ownBlock ≠ some h
  apu : ∀ i, i < b.all.length → ∀ h, (at_ hs i).ownBlock = some h → vU.ownBlock ≠ some h
  apb : ∀ x y, x ≠ y → ∀ h, (hd g x).ownBlock = some h → (hd g y).ownBlock ≠ some h
  old : ∀ j, F j → j < w.heap.size

variable {w w1 w2 : World} {p M : Nat} {vA vU : Value} {hs : List Value} {g : Lit → Option Value} {k : Nat} {b : RB} {F G : Nat → Prop}

theorem RupMem.keep (h : RupMem w p M vA vU hs g k b F) (hk : Keep G w w1) (hn : ∀ j, F j → ¬ G j) : RupMem w1 p M vA vU hs g k b F where
  obj := hk.blk h.obj (hn _ h.fp)
  rowA := h.rowA.keep hk fun j hj => hn _ (h.fA j hj)
  len := h.len
  rows := fun i hi => (h.rows i hi).keep hk fun j hj => hn _ (h.fr i hi j hj)
  map := h.map.move (hk.block M h.map.lt (hn _ h.fM))
  by_ := fun x => (h.by_ x).keep hk fun j hj => hn _ (h.fb x j hj)
  units := h.units.keep hk fun j hj => hn _ (h.fU j hj)
  fp := h.fp
  fM := h.fM
  fA := h.fA
  fU := h.fU
  fr := h.fr
  fb := h.fb
  apr := h.apr
  apu := h.apu
  apb := h.apb
  old := fun j hj => Nat.lt_of_lt_of_le (h.old j hj) hk.size

/-- A row of ints is no other thing of the base. -/
theorem RupMem.byNe (h : RupMem w p M vA vU hs g k b F) {x : Int} {j : Nat} (hj : (hd g x).ownBlock = some j) :
    j ≠ p ∧ j ≠ M ∧ vA.ownBlock ≠ some j ∧ vU.ownBlock ≠ some j ∧ ∀ i, i < b.all.length → (at_ hs i).ownBlock ≠ some j := by
  obtain ⟨cur, hc⟩ := (h.by_ x).typed j hj
  refine ⟨?_, ?_, ?_, ?_, ?_⟩
  · rintro rfl
    have := h.obj
    rw [hc] at this
    simp at this
  · rintro rfl
    obtain ⟨es, cl, hm⟩ := h.map.obj
    rw [hc] at hm
    simp at hm
  · intro e
    obtain ⟨cur', hc'⟩ := h.rowA.typed j e
    rw [hc] at hc'
    simp at hc'
  · intro e
    obtain ⟨cur', hc'⟩ := h.units.typed j e
    rw [hc] at hc'
    simp at hc'
  · intro i hi e
    obtain ⟨cur', hc'⟩ := (h.rows i hi).typed j e
    rw [hc] at hc'
    simp at hc'

theorem hd_upd (g : Lit → Option Value) (x y : Int) (v : Value) : hd (VM.upd g (.int .i64 x) v) y = if y = x then v else hd g y := by
  unfold hd VM.upd
  by_cases e : y = x
  · subst e; simp
  · rw [if_neg (by intro h; injection h with _ h; exact e h), if_neg e]

/-- Behind 'b.by[x] = append(b.by[x], n)' (or another slice of ints that is stored there). -/
theorem RupMem.push (h : RupMem w p M vA vU hs g k b F) (x : Int) (l : List Int) (v1 : Value) {k2 : Nat} (hr1 : Row w1 3 v1 (lits l)) (hk1 : Keep (fun j => (hd g x).ownBlock = some j) w w1)
    (hat : ∀ j, v1.ownBlock = some j → (hd g x).ownBlock = some j ∨ ¬ F j) (hm : VMap Try.prog 46 w2 M k2 (VM.upd g (.int .i64 x) v1)) (hg : w1.grownBy w2 (some M)) :
    RupMem w2 p M vA vU hs (VM.upd g (.int .i64 x) v1) k2 { b with by_ := updI b.by_ x l } (fun j => F j ∨ v1.ownBlock = some j) ∧ Keep F w w2 := by
  have k12 : Keep (fun j => j = M) w1 w2 := Keep.ofGrown hg fun j hj => (Option.some.inj hj).symm
  have hk : Keep (fun j => (hd g x).ownBlock = some j ∨ j = M) w w2 := hk1.trans k12 (fun _ h => .inl h) (fun _ h => .inl (.inr h))
  have nM : ∀ {v : Value} {t : TypeId} {xs : List Value}, Row w t v xs → ∀ j, v.ownBlock = some j → j ≠ M := by
    rintro v t xs hr j hj rfl
    obtain ⟨cur, hc⟩ := hr.typed j hj
    obtain ⟨es, cl, hmm⟩ := h.map.obj
    rw [hc] at hmm
    simp at hmm
  have v1M : ∀ j, v1.ownBlock = some j → j ≠ M := by
    rintro j hj rfl
    rcases hat _ hj with h1 | h1
    · exact (h.byNe h1).2.1 rfl
    · exact h1 h.fM
  constructor
  · constructor
    · refine hk.blk h.obj ?_
      rintro (h1 | h1)
      · exact (h.byNe h1).1 rfl
      · obtain ⟨es, cl, hmm⟩ := h.map.obj
        rw [← h1, h.obj] at hmm
        simp at hmm
    · refine h.rowA.keep hk fun j hj => ?_
      rintro (h1 | h1)
      · exact (h.byNe h1).2.2.1 hj
      · exact nM h.rowA j hj h1
    · exact h.len
    · refine fun i hi => (h.rows i hi).keep hk fun j hj => ?_
      rintro (h1 | h1)
      · exact (h.byNe h1).2.2.2.2 i hi hj
      · exact nM (h.rows i hi) j hj h1
    · exact hm
    · intro y
      rw [hd_upd]
      by_cases e : y = x
      · subst e
        rw [if_pos rfl]
        show Row w2 _ v1 (lits (updI b.by_ y l y))
        unfold updI
        rw [if_pos rfl]
        exact hr1.keep k12 v1M
      · rw [if_neg e]
        show Row w2 _ _ (lits (updI b.by_ x l y))
        unfold updI
        rw [if_neg e]
        refine (h.by_ y).keep hk fun j hj => ?_
        rintro (h1 | h1)
        · exact h.apb x y (Ne.symm e) j h1 hj
        · exact nM (h.by_ y) j hj h1
    · refine h.units.keep hk fun j hj => ?_
      rintro (h1 | h1)
      · exact (h.byNe h1).2.2.2.1 hj
      · exact nM h.units j hj h1
    · exact .inl h.fp
    · exact .inl h.fM
    · exact fun j hj => .inl (h.fA j hj)
    · exact fun j hj => .inl (h.fU j hj)
    · exact fun i hi j hj => .inl (h.fr i hi j hj)
    · intro y j hj
      rw [hd_upd] at hj
      split at hj
      · exact .inr hj
      · exact .inl (h.fb y j hj)
    · exact h.apr
    · exact h.apu
    · intro y z hyz j hj
      rw [hd_upd] at hj ⊢
      split at hj
      · rename_i e
        rw [if_neg (by rw [← e]; exact Ne.symm hyz)]
        rcases hat j hj with h1 | h1
        · exact h.apb x z (by rw [← e]; exact hyz) j h1
        · exact fun h2 => h1 (h.fb z j h2)
      · split
        · rename_i e
          intro h2
          rcases hat j h2 with h1 | h1
          · exact h.apb y x (by rw [← e]; exact hyz) j hj h1
          · exact h1 (h.fb y j hj)
        · exact h.apb y z hyz j hj
    · rintro j (hj | hj)
      · exact Nat.lt_of_lt_of_le (h.old j hj) hk.size
      · exact Nat.lt_of_lt_of_le (hr1.lt j hj) k12.size
  · refine hk.mono ?_
    rintro j (hj | rfl)
    · exact h.fb x j hj
    · exact h.fM

theorem setCell_keep (w : World) (p i : Nat) (u : Value) : Keep (fun j => j = p) w (w.setCell ⟨p, i, none⟩ u) :=
  ⟨rfl, rfl, rfl, by simp [World.setCell], fun k _ hk => Below.heap_setCell w ⟨p, i, none⟩ u k (fun e => hk e)⟩
theorem Row.notP {t : TypeId} {v : Value} {xs : List Value} (h : Row w t v xs) {cs : Array Value} {t' : TypeId} (hp : w.heap[p]? = some (.cells cs t' (0, 0))) (ht : t ≠ t') : ∀ j, v.ownBlock = some j → j ≠ p := by
  rintro j hj rfl
  obtain ⟨cur, hc⟩ := h.typed j hj
  rw [hc] at hp
  simp at hp
  exact ht hp.2
theorem getD_snoc {α : Type} (l : List α) (x d : α) (i : Nat) : (l ++ [x]).getD i d = if i < l.length then l.getD i d else if i = l.length then x else d := by
  simp only [List.getD_eq_getElem?_getD, List.getElem?_append]
  split
  · rfl
  · split
    · rename_i h1 h2
      subst h2
      simp
    · rename_i h1 h2
      rw [List.getElem?_eq_none (by simp; omega)]
      rfl

/-- Behind 'b.all = append(b.all, f)'. -/
theorem RupMem.clause (h : RupMem w p M vA vU hs g k b F) (vf : Value) (l : List Int) (hf : Row w 46 vf (lits l)) (hfF : ∀ j, vf.ownBlock = some j → ¬ F j) (vA1 : Value) (hA : Row w1 31 vA1 (hs ++ [vf]))
    (hk : Keep (fun j => vA.ownBlock = some j) w w1) (_ : ∀ j, vA1.ownBlock = some j → vA.ownBlock = some j ∨ ¬ F j) :
    RupMem (w1.setCell ⟨p, 0, none⟩ vA1) p M vA1 vU (hs ++ [vf]) g k { b with all := b.all ++ [l] } (fun j => F j ∨ vf.ownBlock = some j ∨ vA1.ownBlock = some j) ∧ Keep F w (w1.setCell ⟨p, 0, none⟩ vA1) := by
  have ks := setCell_keep w1 p 0 vA1
  have hpA : ∀ j, vA.ownBlock = some j → j ≠ p := Row.notP h.rowA h.obj (by decide)
  have obj1 : w1.heap[p]? = some (.cells #[vA, .map (some M), vU, .bool b.empty] 64 (0, 0)) := hk.blk h.obj (fun e => hpA p e rfl)
  have hkk : Keep (fun j => vA.ownBlock = some j ∨ j = p) w (w1.setCell ⟨p, 0, none⟩ vA1) := hk.trans ks (fun _ h => .inl h) (fun _ h => .inl (.inr h))
  have nt : ∀ {t : TypeId} {v : Value} {xs : List Value}, Row w t v xs → t ≠ 31 → t ≠ 64 → Row (w1.setCell ⟨p, 0, none⟩ vA1) t v xs := by
    intro t v xs hr h1 h2
    refine hr.keep hkk fun j hj => ?_
    rintro (e | e)
    · obtain ⟨cur, hc⟩ := h.rowA.typed j e
      obtain ⟨cur', hc'⟩ := hr.typed j hj
      rw [hc] at hc'
      simp at hc'
      exact h1 hc'.2.symm
    · exact Row.notP hr h.obj h2 j hj e
  constructor
  · constructor
    · exact blk_set obj1 0 vA1
    · exact hA.keep ks (Row.notP hA obj1 (by decide))
    · rw [List.length_append, List.length_append, h.len]; rfl
    · intro i hi
      have hi' : i < b.all.length + 1 := by simpa using hi
      unfold at_
      rw [getD_snoc, getD_snoc, h.len]
      by_cases e : i < b.all.length
      · rw [if_pos e, if_pos e]
        exact nt (h.rows i e) (by decide) (by decide)
      · rw [if_neg e, if_neg e, if_pos (by omega), if_pos (by omega)]
        exact nt hf (by decide) (by decide)
    · refine h.map.move ?_
      refine hkk.block M h.map.lt ?_
      obtain ⟨es, cl, hm⟩ := h.map.obj
      rintro (e | rfl)
      · obtain ⟨cur, hc⟩ := h.rowA.typed M e
        rw [hc] at hm
        simp at hm
      · rw [h.obj] at hm
        simp at hm
    · exact fun x => nt (h.by_ x) (by decide) (by decide)
    · exact nt h.units (by decide) (by decide)
    · exact .inl h.fp
    · exact .inl h.fM
    · exact fun j hj => .inr (.inr hj)
    · exact fun j hj => .inl (h.fU j hj)
    · intro i hi j hj
      have hi' : i < b.all.length + 1 := by simpa using hi
      unfold at_ at hj
      rw [getD_snoc, h.len] at hj
      by_cases e : i < b.all.length
      · rw [if_pos e] at hj
        exact .inl (h.fr i e j hj)
      · rw [if_neg e, if_pos (by omega)] at hj
        exact .inr (.inl hj)
    · exact fun x j hj => .inl (h.fb x j hj)
    · intro i i2 hi hi2 hne j hj
      have hi' : i < b.all.length + 1 := by simpa using hi
      have hi2' : i2 < b.all.length + 1 := by simpa using hi2
      unfold at_ at hj ⊢
      rw [getD_snoc, h.len] at hj ⊢
      by_cases e : i < b.all.length
      · rw [if_pos e] at hj
        by_cases e2 : i2 < b.all.length
        · rw [if_pos e2]
          exact h.apr i i2 e e2 hne j hj
        · rw [if_neg e2, if_pos (by omega)]
          exact fun h2 => hfF j h2 (h.fr i e j hj)
      · rw [if_neg e, if_pos (by omega)] at hj
        rw [if_pos (by omega)]
        exact fun h2 => hfF j hj (h.fr i2 (by omega) j h2)
    · intro i hi j hj
      have hi' : i < b.all.length + 1 := by simpa using hi
      unfold at_ at hj
      rw [getD_snoc, h.len] at hj
      by_cases e : i < b.all.length
      · rw [if_pos e] at hj
        exact h.apu i e j hj
      · rw [if_neg e, if_pos (by omega)] at hj
        exact fun h2 => hfF j hj (h.fU j h2)
    · exact h.apb
    · rintro j (hj | hj | hj)
      · exact Nat.lt_of_lt_of_le (h.old j hj) hkk.size
      · exact Nat.lt_of_lt_of_le (hf.lt j hj) hkk.size
      · exact Nat.lt_of_lt_of_le (hA.lt j hj) ks.size
  · refine hkk.mono ?_
    rintro j (hj | rfl)
    · exact h.fA j hj
    · exact h.fp

theorem RupMem.mapNe (h : RupMem w p M vA vU hs g k b F) {t : TypeId} {v : Value} {xs : List Value} (hr : Row w t v xs) : ∀ j, v.ownBlock = some j → j ≠ M := by
  rintro j hj rfl
  obtain ⟨cur, hc⟩ := hr.typed j hj
  obtain ⟨es, cl, hmm⟩ := h.map.obj
  rw [hc] at hmm
  simp at hmm
theorem RupMem.pNeM (h : RupMem w p M vA vU hs g k b F) : p ≠ M := by
  rintro rfl
  obtain ⟨es, cl, hmm⟩ := h.map.obj
  rw [h.obj] at hmm
  simp at hmm

/-- Behind 'b.units = append(b.units, x)'. -/
theorem RupMem.unit (h : RupMem w p M vA vU hs g k b F) (l : List Int) (vU1 : Value) (hU : Row w1 46 vU1 (lits l))
    (hk : Keep (fun j => vU.ownBlock = some j) w w1) (hat : ∀ j, vU1.ownBlock = some j → vU.ownBlock = some j ∨ ¬ F j) :
    RupMem (w1.setCell ⟨p, 2, none⟩ vU1) p M vA vU1 hs g k { b with units := l } (fun j => F j ∨ vU1.ownBlock = some j) ∧ Keep F w (w1.setCell ⟨p, 2, none⟩ vU1) := by
  have ks := setCell_keep w1 p 2 vU1
  have hpU : ∀ j, vU.ownBlock = some j → j ≠ p := Row.notP h.units h.obj (by decide)
  have obj1 : w1.heap[p]? = some (.cells #[vA, .map (some M), vU, .bool b.empty] 64 (0, 0)) := hk.blk h.obj (fun e => hpU p e rfl)
  have hkk : Keep (fun j => vU.ownBlock = some j ∨ j = p) w (w1.setCell ⟨p, 2, none⟩ vU1) := hk.trans ks (fun _ h => .inl h) (fun _ h => .inl (.inr h))
  have nt : ∀ {t : TypeId} {v : Value} {xs : List Value}, Row w t v xs → t ≠ 46 → t ≠ 64 → Row (w1.setCell ⟨p, 2, none⟩ vU1) t v xs := by
    intro t v xs hr h1 h2
    refine hr.keep hkk fun j hj => ?_
    rintro (e | e)
    · obtain ⟨cur, hc⟩ := h.units.typed j e
      obtain ⟨cur', hc'⟩ := hr.typed j hj
      rw [hc] at hc'
      simp at hc'
      exact h1 hc'.2.symm
    · exact Row.notP hr h.obj h2 j hj e
  constructor
  · constructor
    · exact blk_set obj1 2 vU1
    · exact nt h.rowA (by decide) (by decide)
    · exact h.len
    · refine fun i hi => (h.rows i hi).keep hkk fun j hj => ?_
      rintro (e | e)
      · exact h.apu i hi j hj e
      · exact Row.notP (h.rows i hi) h.obj (by decide) j hj e
    · refine h.map.move (hkk.block M h.map.lt ?_)
      rintro (e | e)
      · exact h.mapNe h.units M e rfl
      · exact h.pNeM e.symm
    · exact fun x => nt (h.by_ x) (by decide) (by decide)
    · exact hU.keep ks (Row.notP hU obj1 (by decide))
    · exact .inl h.fp
    · exact .inl h.fM
    · exact fun j hj => .inl (h.fA j hj)
    · exact fun j hj => .inr hj
    · exact fun i hi j hj => .inl (h.fr i hi j hj)
    · exact fun x j hj => .inl (h.fb x j hj)
    · exact h.apr
    · intro i hi j hj h2
      rcases hat j h2 with e | e
      · exact h.apu i hi j hj e
      · exact e (h.fr i hi j hj)
    · exact h.apb
    · rintro j (hj | hj)
      · exact Nat.lt_of_lt_of_le (h.old j hj) hkk.size
      · exact Nat.lt_of_lt_of_le (hU.lt j hj) ks.size
  · refine hkk.mono ?_
    rintro j (hj | rfl)
    · exact h.fU j hj
    · exact h.fp

/-- Behind 'b.empty = true'. -/
theorem RupMem.void (h : RupMem w p M vA vU hs g k b F) :
    RupMem (w.setCell ⟨p, 3, none⟩ (.bool true)) p M vA vU hs g k { b with empty := true } F ∧ Keep F w (w.setCell ⟨p, 3, none⟩ (.bool true)) := by
  have ks := setCell_keep w p 3 (.bool true)
  have nt : ∀ {t : TypeId} {v : Value} {xs : List Value}, Row w t v xs → t ≠ 64 → Row (w.setCell ⟨p, 3, none⟩ (.bool true)) t v xs := fun hr h2 => hr.keep ks (Row.notP hr h.obj h2)
  refine ⟨?_, ks.mono fun j e => e ▸ h.fp⟩
  constructor
  · exact blk_set h.obj 3 _
  · exact nt h.rowA (by decide)
  · exact h.len
  · exact fun i hi => nt (h.rows i hi) (by decide)
  · exact h.map.move (ks.block M h.map.lt (fun e => h.pNeM e.symm))
  · exact fun x => nt (h.by_ x) (by decide)
  · exact nt h.units (by decide)
  · exact h.fp
  · exact h.fM
  · exact h.fA
  · exact h.fU
  · exact h.fr
  · exact h.fb
  · exact h.apr
  · exact h.apu
  · exact h.apb
  · exact fun j hj => Nat.lt_of_lt_of_le (h.old j hj) ks.size

/-- Behind a store into a clause's row. -/
theorem RupMem.stored (h : RupMem w p M vA vU hs g k b F) (i : Nat) (hi : i < b.all.length) {gi oi ci : Nat} (hv : at_ hs i = .slice (some ⟨gi, oi, none⟩) (b.all.getD i []).length ci) (j : Nat) (hj : j < (b.all.getD i []).length) (x : Int) :
    RupMem (w.setCell ⟨gi, oi + j, none⟩ (.int .i64 x)) p M vA vU hs g k { b with all := b.all.set i ((b.all.getD i []).set j x) } F ∧ Keep F w (w.setCell ⟨gi, oi + j, none⟩ (.int .i64 x)) := by
  have ks := setCell_keep w gi (oi + j) (.int .i64 x)
  have hb : (at_ hs i).ownBlock = some gi := by rw [hv]; rfl
  have hr := h.rows i hi
  have hp : gi ≠ p := Row.notP hr h.obj (by decide) gi hb
  have hM := h.mapNe hr gi hb
  have nt : ∀ {t : TypeId} {v : Value} {xs : List Value}, Row w t v xs → t ≠ 46 → Row (w.setCell ⟨gi, oi + j, none⟩ (.int .i64 x)) t v xs := by
    intro t v xs hr2 h1
    refine hr2.keep ks fun q hq e => ?_
    subst e
    obtain ⟨cur, hc⟩ := hr.typed q hb
    obtain ⟨cur', hc'⟩ := hr2.typed q hq
    rw [hc] at hc'
    simp at hc'
    exact h1 hc'.2.symm
  refine ⟨?_, ks.mono fun q e => e ▸ h.fr i hi gi hb⟩
  constructor
  · exact ks.blk h.obj (fun e => hp e.symm)
  · exact nt h.rowA (by decide)
  · rw [List.length_set]; exact h.len
  · intro q hq
    rw [List.length_set] at hq
    by_cases e : q = i
    · subst e
      rw [hv] at hr ⊢
      have e1 : (b.all.set q ((b.all.getD q []).set j x)).getD q [] = (b.all.getD q []).set j x := by
        rw [List.getD_eq_getElem?_getD, List.getElem?_set_self hq]
        rfl
      rw [e1]
      have := hr.set j (by simpa using hj) (.int .i64 x)
      rw [show lits ((b.all.getD q []).set j x) = (lits (b.all.getD q [])).set j (.int .i64 x) from List.map_set]
      exact this
    · have e1 : (b.all.set i ((b.all.getD i []).set j x)).getD q [] = b.all.getD q [] := by
        rw [List.getD_eq_getElem?_getD, List.getElem?_set_ne (Ne.symm e), List.getD_eq_getElem?_getD]
      rw [e1]
      exact (h.rows q hq).keep ks fun q2 hq2 e2 => by subst e2; exact h.apr i q hi hq (Ne.symm e) q2 hb hq2
  · exact h.map.move (ks.block M h.map.lt (fun e => hM e.symm))
  · exact fun y => nt (h.by_ y) (by decide)
  · exact h.units.keep ks fun q hq e => by subst e; exact h.apu i hi q hb hq
  · exact h.fp
  · exact h.fM
  · exact h.fA
  · exact h.fU
  · exact fun q hq => h.fr q (by simpa using hq)
  · exact h.fb
  · exact fun q q2 hq hq2 => h.apr q q2 (by simpa using hq) (by simpa using hq2)
  · exact fun q hq => h.apu q (by simpa using hq)
  · exact h.apb
  · exact fun q hq => Nat.lt_of_lt_of_le (h.old q hq) ks.size
end Go.Proofs.Ytjlkjgoncfdaeaa.RM

namespace Go.Proofs.Ytjlkjgoncfdaeaa.RM
open Go.RowKit Go.Proofs.YtjlkjgoncfdaeaaW.PrintWords Go.Proofs.YtjlkjgoncfdaeaaW.PrintLast Go.Proofs.YtjlkjgoncfdaeaaW.PrintMore Go.Maps Go.Proofs.Ytjlkjgoncfdaeaa.MM Go.Proofs.Ytjlkjgoncfdaeaa.VM

theorem hid {P : Prop} (h : P) : Hid P := h
/-- The map of what holds. -/
noncomputable def hf (H : List Int) : Lit → Option Value := fun kl => open Classical in if ∃ x ∈ H, kl = .int .i64 x then some (.int .i64 1) else none
def hv (H : List Int) (x : Int) : Int := if x ∈ H then 1 else 0
theorem hf_get (H : List Int) (x : Int) : (hf H (.int .i64 x)).getD (.int .i64 0) = .int .i64 (hv H x) := by
  unfold hf hv
  by_cases e : x ∈ H
  · rw [if_pos ⟨x, e, rfl⟩, if_pos e]; rfl
  · rw [if_neg (by rintro ⟨y, hy, h⟩; injection h with _ h; exact e (h ▸ hy)), if_neg e]; rfl
theorem hf_cons (H : List Int) (x : Int) : VM.upd (hf H) (.int .i64 x) (.int .i64 1) = hf (x :: H) := by
  funext kl
  unfold VM.upd hf
  by_cases e : kl = .int .i64 x
  · rw [if_pos e, if_pos ⟨x, by simp, e⟩]
  · rw [if_neg e]
    by_cases e2 : ∃ y ∈ H, kl = .int .i64 y
    · obtain ⟨y, hy, h⟩ := e2
      rw [if_pos ⟨y, hy, h⟩, if_pos ⟨y, by simp [hy], h⟩]
    · rw [if_neg e2, if_neg]
      rintro ⟨y, hy, h⟩
      rcases List.mem_cons.1 hy with rfl | hy
      · exact e h
      · exact e2 ⟨y, hy, h⟩
theorem zeroRow (w : World) : (zeroValue 67).run Try.prog w = .ok (.slice none 0 0) w := Try.zeroValue67 w
theorem zeroInt (w : World) : (zeroValue 3).run Try.prog w = .ok (.int .i64 0) w := Try.zeroValue3 w
abbrev keyed : Keyed Try.prog 46 := int_keyed Try.underlying46
abbrev HMap (w : World) (m n : Nat) (H : List Int) : Prop := VMap Try.prog 46 w m n (hf H)

/-- What holds, looked up in a plain region. -/
theorem wp_look_hold (w : World) {ops : Array Oper} {rest : List Oper} {o : Oper} {a : Act} {Q : Exit → Act → World → Prop} (hg : o.guard = none) (m x : Operand) (hop : o.op = Op.lookup 51 m x false)
    (mh n : Nat) (H : List Int) (h : HMap w mh n H) (y c : Int) (hm : a.eval m = .map (some mh)) (hx : a.eval x = .int .i64 y) (hw : (Lit.int .i64 y).wf = true) (hc : hv H y = c)
    (hQ : wpList Try.prog ops Q rest (a.put o.dst (.int .i64 c)) w) : wpList Try.prog ops Q (o :: rest) a w :=
  wp_lookup_v w hg m x _ hop keyed Try.underlying51 _ (zeroInt w) mh n _ h _ _ hm hx (keyOf_int_mk Try.underlying46 hw) (by rw [hf_get, hc]; exact hQ)
/-- A literal's row of clauses, looked up. -/
theorem wp_look_row (w : World) {ops : Array Oper} {rest : List Oper} {o : Oper} {a : Act} {Q : Exit → Act → World → Prop} (hg : o.guard = none) (m x : Operand) (hop : o.op = Op.lookup 62 m x false)
    (M n : Nat) (g : Lit → Option Value) (h : VMap Try.prog 46 w M n g) (y : Int) (v : Value) (hm : a.eval m = .map (some M)) (hx : a.eval x = .int .i64 y) (hw : (Lit.int .i64 y).wf = true) (hc : hd g y = v)
    (hQ : wpList Try.prog ops Q rest (a.put o.dst v) w) : wpList Try.prog ops Q (o :: rest) a w :=
  wp_lookup_v w hg m x _ hop keyed Try.underlying62 _ (zeroRow w) M n _ h _ _ hm hx (keyOf_int_mk Try.underlying46 hw) (by rw [show (g (.int .i64 y)).getD (.slice none 0 0) = v from hc]; exact hQ)

theorem wrap64_lit {x : Int} (h : x ≠ 0 ∧ -1048576 ≤ x ∧ x ≤ 1048576) : wrap64 (-x) = -x := by unfold wrap64; omega
/-- The keys that may be in the maps. -/
def Dom (g : Lit → Option Value) : Prop := ∀ kl, g kl ≠ none → ∃ x : Int, kl = .int .i64 x ∧ -1048576 ≤ x ∧ x ≤ 1048576
def keys : List Lit := (List.range 2097153).map fun (i : Nat) => .int .i64 ((i : Int) - 1048576)
theorem mem_keys {x : Int} (h1 : -1048576 ≤ x) (h2 : x ≤ 1048576) : Lit.int .i64 x ∈ keys := by
  unfold keys
  refine List.mem_map.2 ⟨(x + 1048576).toNat, List.mem_range.2 (by omega), ?_⟩
  rw [show (((x + 1048576).toNat : Nat) : Int) - 1048576 = x from by omega]
theorem len_keys : keys.length = 2097153 := by unfold keys; rw [List.length_map, List.length_range]
theorem Dom.upd {g : Lit → Option Value} (h : Dom g) {x : Int} (h1 : -1048576 ≤ x) (h2 : x ≤ 1048576) (v : Value) : Dom (VM.upd g (.int .i64 x) v) := by
  intro kl hk
  unfold VM.upd at hk
  split at hk
  · rename_i e; exact ⟨x, e, h1, h2⟩
  · exact h kl hk
theorem Dom.hf {H : List Int} (h : ∀ x ∈ H, -1048576 ≤ x ∧ x ≤ 1048576) : Dom (hf H) := by
  intro kl hk
  unfold RM.hf at hk
  split at hk
  · rename_i e
    obtain ⟨x, hx, rfl⟩ := e
    exact ⟨x, rfl, h x hx⟩
  · exact absurd rfl hk
theorem VMap.tight_dom {w : World} {b n : Nat} {g : Lit → Option Value} (h : VMap Try.prog 46 w b n g) (hd : Dom g) : VMap Try.prog 46 w b 2097153 g := by
  rw [← len_keys]
  exact h.tight keyed keys fun kl hk => by
    obtain ⟨x, rfl, h1, h2⟩ := hd kl hk
    exact mem_keys h1 h2

variable {w w1 w2 : World} {p M : Nat} {vA vU : Value} {hs : List Value} {g : Lit → Option Value} {k : Nat} {b : RB} {F G : Nat → Prop}
theorem RupMem.tight (h : RupMem w p M vA vU hs g k b F) (hd : Dom g) : RupMem w p M vA vU hs g 2097153 b F := { h with map := VMap.tight_dom h.map hd }

/-- Behind two stores into a clause's row. -/
theorem RupMem.stored2 (h : RupMem w p M vA vU hs g k b F) (n : Nat) (hn : n < b.all.length) {gi oi ci : Nat} {c : List Int} (hc : b.all.getD n [] = c) (hv : at_ hs n = .slice (some ⟨gi, oi, none⟩) c.length ci) (i j : Nat) (hi : i < c.length) (hj : j < c.length) (x y : Int) :
    RupMem ((w.setCell ⟨gi, oi + i, none⟩ (.int .i64 x)).setCell ⟨gi, oi + j, none⟩ (.int .i64 y)) p M vA vU hs g k { b with all := b.all.set n ((c.set i x).set j y) } F ∧
    Keep F w ((w.setCell ⟨gi, oi + i, none⟩ (.int .i64 x)).setCell ⟨gi, oi + j, none⟩ (.int .i64 y)) := by
  subst hc
  have h1 := h.stored n hn hv i hi x
  have e : ({ b with all := b.all.set n ((b.all.getD n []).set i x) } : RB).all.getD n [] = (b.all.getD n []).set i x := by
    show (b.all.set n ((b.all.getD n []).set i x)).getD n [] = _
    rw [List.getD_eq_getElem?_getD, List.getElem?_set_self hn]
    rfl
  have h2 := h1.1.stored n (by simpa using hn) (gi := gi) (oi := oi) (ci := ci) (by rw [e, List.length_set]; exact hv) j (by rw [e, List.length_set]; exact hj) y
  rw [e] at h2
  simp only [List.set_set] at h2
  exact ⟨h2.1, h1.2.trans h2.2 (fun _ h => h) (fun _ h => .inl h)⟩

/-- The clause at a place: where its row lies. -/
theorem RupMem.at (h : RupMem w p M vA vU hs g k b F) (n : Nat) (hn : n < b.all.length) {c : List Int} (hc : b.all.getD n [] = c) (h0 : 0 < c.length) :
    ∃ ga oa cA gi oi ci, vA = .slice (some ⟨ga, oa, none⟩) b.all.length cA ∧ w.heap[p]? = some (.cells #[vA, .map (some M), vU, .bool b.empty] 64 (0, 0)) ∧ w.cell? ⟨ga, oa + n, none⟩ = some (at_ hs n) ∧ at_ hs n = .slice (some ⟨gi, oi, none⟩) c.length ci ∧
      (∀ i, i < c.length → w.cell? ⟨gi, oi + i, none⟩ = some (.int .i64 (c.getD i 0))) ∧ (∀ o, w.frozen? ⟨gi, o, none⟩ = false) ∧ gi < w.heap.size ∧ gi ≠ p ∧ F gi := by
  subst hc
  have hl := h.len
  obtain ⟨ga, oa, cA, e1, h1, h2, h3, h4, _⟩ := h.rowA.cells (by omega)
  have hr := h.rows n hn
  obtain ⟨gi, oi, ci, e2, h5, h6, h7, h8, h9⟩ := hr.cells (by simpa using h0)
  refine ⟨ga, oa, cA, gi, oi, ci, by rw [e1, hl], h.obj, ?_, by rw [e2]; simp, fun i hi => ?_, h9, h7, ?_, ?_⟩
  · rw [h4 n (by omega)]
    unfold at_
    rw [List.getD_eq_getElem?_getD, List.getElem?_eq_getElem (by omega)]
    rfl
  · rw [h8 i (by simpa using hi), List.getElem?_map]
    rw [show (b.all.getD n [])[i]? = some ((b.all.getD n []).getD i 0) from by rw [List.getD_eq_getElem?_getD (l := b.all.getD n []), List.getElem?_eq_getElem hi]; rfl]
    rfl
  · exact Row.notP hr h.obj (by decide) gi (by rw [e2]; rfl)
  · exact h.fr n hn gi (by rw [e2]; rfl)

theorem Inv.short {all : List (List Int)} {by_ : Int → List Int} (h : Inv all by_) (x : Int) : (by_ x).length ≤ all.length := by
  have := VM.nodup_len (l := by_ x) (S := (List.range all.length).map fun (i : Nat) => (i : Int)) (h.once x) (fun i hi => by
    obtain ⟨n, rfl, hn, _⟩ := h.watch x i hi
    exact List.mem_map.2 ⟨n, List.mem_range.2 hn, rfl⟩)
  simpa using this
theorem info3 : (Try.prog.info? 3).map (fun i => (i.zero, i.size, i.bytes)) = some (some (.int .i64 0), 1, 8) := by kernel_rfl
noncomputable abbrev putB (M : Nat) (x : Int) (v : Value) (w : World) : World := putW Try.prog 62 w M (.int .i64 x) v
/-- Appending to a row of ints, at a step of a region that draws its order. -/
theorem step_int (w : World) {ops : Array Oper} {o : Oper} {a : Act} {K : Act → World → Prop} {Q : Exit → Act → World → Prop} {E : Prop} (hgd : o.guard = none) {N : Option Tmp} (hN : o.dst = N) (s x : Operand)
    (ho : o.op = .call { callee := .builtin .append, args := #[s, x], argTypes := #[67, 67] })
    (v u : Value) (xs ys : List Value) (hs : a.eval s = v) (hx : a.eval x = u) (h : Row w 3 v xs) (hy : Row w 3 u ys) (h1 : ∀ u ∈ ys, u.oneCell' = true) (hl : xs.length + ys.length < 4611686018427)
    (hK : ∀ v' w', Row w' 3 v' (xs ++ ys) → Keep (fun k => v.ownBlock = some k) w w' → (v'.ownBlock = v.ownBlock ∨ v'.ownBlock = some w.heap.size) → K (a.put N v') w') :
    if Region.wanted o (yielded ops a.tmps) = true then Oper.wp Try.prog o a w K Q else E := by
  subst hN
  obtain ⟨i0, hi0, hz0, hz1, hz2⟩ := info_parts info3
  exact step_append_row w hgd s x _ ho _ i0 _ Try.underlying67 hi0 hz0 hz1 rfl v u xs ys hs hx h hy.src h1 (by simp [maxLen]; omega) (by rw [hz2]; omega) hK

theorem info46 : (Try.prog.info? 46).map (fun i => (i.zero, i.size, i.bytes)) = some (some (.int .i64 0), 1, 8) := by kernel_rfl
/-- .. to a row of literals. -/
theorem step_lit (w : World) {ops : Array Oper} {o : Oper} {a : Act} {K : Act → World → Prop} {Q : Exit → Act → World → Prop} {E : Prop} (hgd : o.guard = none) {N : Option Tmp} (hN : o.dst = N) (s x : Operand)
    (ho : o.op = .call { callee := .builtin .append, args := #[s, x], argTypes := #[31, 31] })
    (v u : Value) (xs ys : List Value) (hs : a.eval s = v) (hx : a.eval x = u) (h : Row w 46 v xs) (hy : Row w 46 u ys) (h1 : ∀ u ∈ ys, u.oneCell' = true) (hl : xs.length + ys.length < 4611686018427)
    (hK : ∀ v' w', Row w' 46 v' (xs ++ ys) → Keep (fun k => v.ownBlock = some k) w w' → (v'.ownBlock = v.ownBlock ∨ v'.ownBlock = some w.heap.size) → K (a.put N v') w') :
    if Region.wanted o (yielded ops a.tmps) = true then Oper.wp Try.prog o a w K Q else E := by
  subst hN
  obtain ⟨i0, hi0, hz0, hz1, hz2⟩ := info_parts info46
  exact step_append_row w hgd s x _ ho _ i0 _ Try.underlying31 hi0 hz0 hz1 rfl v u xs ys hs hx h hy.src h1 (by simp [maxLen]; omega) (by rw [hz2]; omega) hK


/-- Appending to a row of ints, in a plain region. -/
theorem wp_app_int (w : World) {ops : Array Oper} {rest : List Oper} {o : Oper} {a : Act} {Q : Exit → Act → World → Prop} (hgd : o.guard = none) (s x : Operand)
    (ho : o.op = .call { callee := .builtin .append, args := #[s, x], argTypes := #[67, 67] })
    (v u : Value) (xs ys : List Value) (hs : a.eval s = v) (hx : a.eval x = u) (h : Row w 3 v xs) (hy : Row w 3 u ys) (h1 : ∀ u ∈ ys, u.oneCell' = true) (hl : xs.length + ys.length < 4611686018427)
    (hK : ∀ v' w', Row w' 3 v' (xs ++ ys) → Keep (fun k => v.ownBlock = some k) w w' → (v'.ownBlock = v.ownBlock ∨ v'.ownBlock = some w.heap.size) → wpList Try.prog ops Q rest (a.put o.dst v') w') :
    wpList Try.prog ops Q (o :: rest) a w := by
  obtain ⟨i0, hi0, hz0, hz1, hz2⟩ := info_parts info3
  exact wpList_append_row hgd s x _ ho _ i0 _ Try.underlying67 hi0 hz0 hz1 rfl v u xs ys hs hx h hy.src h1 (by simp [maxLen]; omega) (by rw [hz2]; omega) hK
/-- .. to a row of literals. -/
theorem wp_app_lit (w : World) {ops : Array Oper} {rest : List Oper} {o : Oper} {a : Act} {Q : Exit → Act → World → Prop} (hgd : o.guard = none) (s x : Operand)
    (ho : o.op = .call { callee := .builtin .append, args := #[s, x], argTypes := #[31, 31] })
    (v u : Value) (xs ys : List Value) (hs : a.eval s = v) (hx : a.eval x = u) (h : Row w 46 v xs) (hy : Row w 46 u ys) (h1 : ∀ u ∈ ys, u.oneCell' = true) (hl : xs.length + ys.length < 4611686018427)
    (hK : ∀ v' w', Row w' 46 v' (xs ++ ys) → Keep (fun k => v.ownBlock = some k) w w' → (v'.ownBlock = v.ownBlock ∨ v'.ownBlock = some w.heap.size) → wpList Try.prog ops Q rest (a.put o.dst v') w') :
    wpList Try.prog ops Q (o :: rest) a w := by
  obtain ⟨i0, hi0, hz0, hz1, hz2⟩ := info_parts info46
  exact wpList_append_row hgd s x _ ho _ i0 _ Try.underlying31 hi0 hz0 hz1 rfl v u xs ys hs hx h hy.src h1 (by simp [maxLen]; omega) (by rw [hz2]; omega) hK
/-- .. what is appended is only read. -/
theorem wp_app_src (w : World) {ops : Array Oper} {rest : List Oper} {o : Oper} {a : Act} {Q : Exit → Act → World → Prop} (hgd : o.guard = none) (s x : Operand)
    (ho : o.op = .call { callee := .builtin .append, args := #[s, x], argTypes := #[31, 31] })
    (v u : Value) (xs ys : List Value) (hs : a.eval s = v) (hx : a.eval x = u) (h : Row w 46 v xs) (hy : Src w u ys) (h1 : ∀ u ∈ ys, u.oneCell' = true) (hl : xs.length + ys.length < 4611686018427)
    (hK : ∀ v' w', Row w' 46 v' (xs ++ ys) → Keep (fun k => v.ownBlock = some k) w w' → (v'.ownBlock = v.ownBlock ∨ v'.ownBlock = some w.heap.size) → wpList Try.prog ops Q rest (a.put o.dst v') w') :
    wpList Try.prog ops Q (o :: rest) a w := by
  obtain ⟨i0, hi0, hz0, hz1, hz2⟩ := info_parts info46
  exact wpList_append_row hgd s x _ ho _ i0 _ Try.underlying31 hi0 hz0 hz1 rfl v u xs ys hs hx h hy h1 (by simp [maxLen]; omega) (by rw [hz2]; omega) hK
theorem info31 : (Try.prog.info? 31).map (fun i => (i.zero, i.size, i.bytes)) = some (some (.slice none 0 0), 1, 24) := by kernel_rfl
/-- .. to a row of clauses. -/
theorem wp_app_row (w : World) {ops : Array Oper} {rest : List Oper} {o : Oper} {a : Act} {Q : Exit → Act → World → Prop} (hgd : o.guard = none) (s x : Operand)
    (ho : o.op = .call { callee := .builtin .append, args := #[s, x], argTypes := #[22, 22] })
    (v u : Value) (xs ys : List Value) (hs : a.eval s = v) (hx : a.eval x = u) (h : Row w 31 v xs) (hy : Row w 31 u ys) (h1 : ∀ u ∈ ys, u.oneCell' = true) (hl : xs.length + ys.length < 4611686018427)
    (hK : ∀ v' w', Row w' 31 v' (xs ++ ys) → Keep (fun k => v.ownBlock = some k) w w' → (v'.ownBlock = v.ownBlock ∨ v'.ownBlock = some w.heap.size) → wpList Try.prog ops Q rest (a.put o.dst v') w') :
    wpList Try.prog ops Q (o :: rest) a w := by
  obtain ⟨i0, hi0, hz0, hz1, hz2⟩ := info_parts info31
  exact wpList_append_row hgd s x _ ho _ i0 _ Try.underlying22 hi0 hz0 hz1 rfl v u xs ys hs hx h hy.src h1 (by simp [maxLen]; omega) (by rw [hz2]; omega) hK
/-- The walk stands still ahead of an append. -/
theorem stop_app {P : Program} (w : World) {ops : Array Oper} {rest : List Oper} {o : Oper} {a : Act} {Q : Exit → Act → World → Prop} (s x : Operand) (t : TypeId)
    (_ : o.op = .call { callee := .builtin .append, args := #[s, x], argTypes := #[t, t] }) (h : Hid (wpList P ops Q (o :: rest) a w)) : wpList P ops Q (o :: rest) a w := h
/-- A store into a map whose run is known. -/
theorem wp_update_eq {P : Program} (w w2 : World) {ops : Array Oper} {rest : List Oper} {o : Oper} {a : Act} {Q : Exit → Act → World → Prop} (hg : o.guard = none) (m x v : Operand) (t : TypeId) (hop : o.op = Op.mapUpdate t m x v)
    (hm key val : Value) (h1 : a.eval m = hm) (h2 : a.eval x = key) (h3 : a.eval v = val) (hrun : (Instr.mapUpdate t hm key val).run P w = .ok () w2)
    (hQ : wpList P ops Q rest (a.put o.dst undef) w2) : wpList P ops Q (o :: rest) a w := by
  refine wpList_plain hg fun K' hK' => ?_
  unfold Oper.wp
  simp [execOp, hop, h1, h2, h3, hrun, Result.andThen]
  exact hK' _ _ hQ
end Go.Proofs.Ytjlkjgoncfdaeaa.RM

namespace Go.Proofs.Ytjlkjgoncfdaeaa.RM
open Go.RowKit Go.Proofs.YtjlkjgoncfdaeaaW.PrintWords Go.Proofs.YtjlkjgoncfdaeaaW.PrintLast Go.Proofs.YtjlkjgoncfdaeaaW.PrintMore Go.Maps Go.Proofs.Ytjlkjgoncfdaeaa.MM Go.Proofs.Ytjlkjgoncfdaeaa.VM

theorem Row.apart {w : World} {t t' : TypeId} {v v' : Value} {xs ys : List Value} (h : Row w t v xs) (h' : Row w t' v' ys) (hne : t ≠ t') : ∀ j, v.ownBlock = some j → v'.ownBlock ≠ some j := by
  intro j hj hj'
  obtain ⟨cur, hc⟩ := h.typed j hj
  obtain ⟨cur', hc'⟩ := h'.typed j hj'
  rw [hc] at hc'
  simp at hc'
  exact hne hc'.2

/-- The memory of a fall under way: the base with the state's clauses and rows; two rows of the call's own. -/
structure FallMem (w : World) (p M : Nat) (vA vU : Value) (hs : List Value) (g0 : Lit → Option Value) (b : RB) (F0 : Nat → Prop) (l : Int) (s : FS) (v6 v8 : Value) (wr : World) (g : Lit → Option Value) (F : Nat → Prop) : Prop where
  mem : RupMem wr p M vA vU hs g 2097153 { b with all := s.all, by_ := s.by_ } F
  dom : Dom g
  hd : RM.hd g l = RM.hd g0 l
  stay : Row wr 3 v8 (lits s.stay)
  come : Row wr 46 v6 (lits s.come)
  far8 : ∀ j, v8.ownBlock = some j → ¬ F j ∧ w.heap.size ≤ j
  far6 : ∀ j, v6.ownBlock = some j → ¬ F j ∧ w.heap.size ≤ j
  keep : Keep F0 w wr
  more : ∀ j, F j → F0 j ∨ w.heap.size ≤ j

variable {w : World} {p M : Nat} {vA vU : Value} {hs : List Value} {g0 : Lit → Option Value} {b : RB} {F0 : Nat → Prop} {l : Int} {s : FS} {v6 v8 : Value} {wr : World} {g : Lit → Option Value} {F : Nat → Prop}

/-- Behind stores into the base's own blocks. -/
theorem FallMem.turn (h : FallMem w p M vA vU hs g0 b F0 l s v6 v8 wr g F) {W : World} {all' : List (List Int)} (hk : Keep F wr W) (hm : RupMem W p M vA vU hs g 2097153 { b with all := all', by_ := s.by_ } F) :
    FallMem w p M vA vU hs g0 b F0 l { s with all := all' } v6 v8 W g F where
  mem := hm
  dom := h.dom
  hd := h.hd
  stay := h.stay.keep hk fun j hj => (h.far8 j hj).1
  come := h.come.keep hk fun j hj => (h.far6 j hj).1
  far8 := h.far8
  far6 := h.far6
  keep := h.keep.trans hk (fun _ h => h) h.more
  more := h.more
theorem kept_new {w : World} (o : Obj) (G : Nat → Prop) : Keep G w (w.alloc o) := ⟨rfl, rfl, rfl, by simp, fun q hq _ => old_alloc _ hq⟩
theorem kept_drew (w : World) (G : Nat → Prop) : Keep G w w.drew := ⟨rfl, rfl, rfl, Nat.le_refl _, fun _ _ _ => rfl⟩
theorem kept_rfl {w w' : World} (h : w'.heap = w.heap) (h1 : w'.os = w.os) (h2 : w'.tape = w.tape) (h3 : w'.output = w.output) (G : Nat → Prop) : Keep G w w' := ⟨h1, h2, h3, by rw [h]; exact Nat.le_refl _, fun _ _ _ => by rw [h]⟩

/-- Behind 'stay = append(stay, ..)'. -/
theorem FallMem.stayed (h : FallMem w p M vA vU hs g0 b F0 l s v6 v8 wr g F) {w1 w3 : World} {v8' : Value} (l' : List Int) (hr : Row w3 3 v8' (lits l')) (h1 : Keep (fun _ => False) wr w1) (hk : Keep (fun j => v8.ownBlock = some j) w1 w3)
    (hat : v8'.ownBlock = v8.ownBlock ∨ v8'.ownBlock = some w1.heap.size) : FallMem w p M vA vU hs g0 b F0 l { s with stay := l' } v6 v8' w3 g F := by
  have hk' : Keep (fun j => v8.ownBlock = some j) wr w3 := h1.trans hk (fun _ h => h.elim) (fun _ h => .inl h)
  exact {
    mem := h.mem.keep hk' fun j hj h8 => (h.far8 j h8).1 hj
    dom := h.dom
    hd := h.hd
    stay := hr
    come := h.come.keep hk' fun j hj h8 => Row.apart h.come h.stay (by decide) j hj h8
    far8 := fun j hj => by
      rcases hat with e | e
      · exact h.far8 j (by rw [← e]; exact hj)
      · have e2 : j = w1.heap.size := by rw [hj] at e; injection e
        have := h1.size
        have := h.keep.size
        exact ⟨fun hF => by have := h.mem.old j hF; omega, by omega⟩
    far6 := h.far6
    keep := h.keep.trans hk' (fun _ h => h) (fun j hj => .inr (h.far8 j hj).2)
    more := h.more }
/-- Behind 'come = append(come, ..)'. -/
theorem FallMem.came (h : FallMem w p M vA vU hs g0 b F0 l s v6 v8 wr g F) {w1 w3 : World} {v6' : Value} (l' : List Int) (hr : Row w3 46 v6' (lits l')) (h1 : Keep (fun _ => False) wr w1) (hk : Keep (fun j => v6.ownBlock = some j) w1 w3)
    (hat : v6'.ownBlock = v6.ownBlock ∨ v6'.ownBlock = some w1.heap.size) : FallMem w p M vA vU hs g0 b F0 l { s with come := l' } v6' v8 w3 g F := by
  have hk' : Keep (fun j => v6.ownBlock = some j) wr w3 := h1.trans hk (fun _ h => h.elim) (fun _ h => .inl h)
  exact {
    mem := h.mem.keep hk' fun j hj h6 => (h.far6 j h6).1 hj
    dom := h.dom
    hd := h.hd
    stay := h.stay.keep hk' fun j hj h6 => Row.apart h.stay h.come (by decide) j hj h6
    come := hr
    far8 := h.far8
    far6 := fun j hj => by
      rcases hat with e | e
      · exact h.far6 j (by rw [← e]; exact hj)
      · have e2 : j = w1.heap.size := by rw [hj] at e; injection e
        have := h1.size
        have := h.keep.size
        exact ⟨fun hF => by have := h.mem.old j hF; omega, by omega⟩
    keep := h.keep.trans hk' (fun _ h => h) (fun j hj => .inr (h.far6 j hj).2)
    more := h.more }
/-- Behind 'b.by[z] = append(b.by[z], n)', z another literal. -/
theorem FallMem.pushed (h : FallMem w p M vA vU hs g0 b F0 l s v6 v8 wr g F) {z : Int} (hz : z ≠ l) (hz1 : -1048576 ≤ z) (hz2 : z ≤ 1048576) (l' : List Int) {w1 w2 w3 : World} {v1 : Value} {k2 : Nat} (h1 : Keep (fun _ => False) wr w1) (hr : Row w2 3 v1 (lits l'))
    (hk : Keep (fun j => (RM.hd g z).ownBlock = some j) w1 w2) (hat : v1.ownBlock = (RM.hd g z).ownBlock ∨ v1.ownBlock = some w1.heap.size) (hm : VMap Try.prog 46 w3 M k2 (VM.upd g (.int .i64 z) v1)) (hg : w2.grownBy w3 (some M)) :
    FallMem w p M vA vU hs g0 b F0 l { s with by_ := updI s.by_ z l' } v6 v8 w3 (VM.upd g (.int .i64 z) v1) (fun j => F j ∨ v1.ownBlock = some j) := by
  have hk' : Keep (fun j => (RM.hd g z).ownBlock = some j) wr w2 := h1.trans hk (fun _ h => h.elim) (fun _ h => .inl h)
  have hatF : ∀ j, v1.ownBlock = some j → (RM.hd g z).ownBlock = some j ∨ ¬ F j := by
    intro j hj
    rcases hat with e | e
    · exact .inl (by rw [← e]; exact hj)
    · have e2 : j = w1.heap.size := by rw [hj] at e; injection e
      have := h1.size
      exact .inr fun hF => by have := h.mem.old j hF; omega
  have hnew : ∀ j, v1.ownBlock = some j → F j ∨ j = w1.heap.size := by
    intro j hj
    rcases hat with e | e
    · exact .inl (h.mem.fb z j (by rw [← e]; exact hj))
    · exact .inr (by rw [hj] at e; injection e)
  have hp := h.mem.push z l' v1 hr hk' hatF hm hg
  have hd' := h.dom.upd hz1 hz2 v1
  have hs1 := h1.size
  have hs0 := h.keep.size
  have hf1 : ∀ {v : Value} {t : TypeId} {xs : List Value}, Row wr t v xs → (∀ j, v.ownBlock = some j → ¬ F j ∧ w.heap.size ≤ j) → ∀ j, v.ownBlock = some j → ¬ (F j ∨ v1.ownBlock = some j) ∧ w.heap.size ≤ j := by
    intro v t xs hrow hf j hj
    refine ⟨?_, (hf j hj).2⟩
    rintro (h2 | h2)
    · exact (hf j hj).1 h2
    · rcases hnew j h2 with h3 | h3
      · exact (hf j hj).1 h3
      · have := hrow.lt j hj; omega
  exact {
    mem := hp.1.tight hd'
    dom := hd'
    hd := by rw [hd_upd, if_neg (Ne.symm hz)]; exact h.hd
    stay := h.stay.keep hp.2 fun j hj => (h.far8 j hj).1
    come := h.come.keep hp.2 fun j hj => (h.far6 j hj).1
    far8 := hf1 h.stay h.far8
    far6 := hf1 h.come h.far6
    keep := h.keep.trans hp.2 (fun _ h => h) h.more
    more := fun j hj => by
      rcases hj with h2 | h2
      · exact h.more j h2
      · rcases hnew j h2 with h3 | h3
        · exact h.more j h3
        · exact .inr (by omega) }

/-- The end: 'b.by[l] = stay'. -/
theorem FallMem.done (h : FallMem w p M vA vU hs g0 b F0 l s v6 v8 wr g F) (h1 : -1048576 ≤ l) (h2 : l ≤ 1048576) :
    ∃ w2, (Instr.mapUpdate 62 (.map (some M)) (.int .i64 l) v8).run Try.prog wr = .ok () w2 ∧
      ∃ g' F', RupMem w2 p M vA vU hs g' 2097153 { b with all := s.all, by_ := updI s.by_ l s.stay } F' ∧ Dom g' ∧ Row w2 46 v6 (lits s.come) ∧ (∀ j, v6.ownBlock = some j → ¬ F' j ∧ w.heap.size ≤ j) ∧ Keep F0 w w2 ∧ (∀ j, F' j → F0 j ∨ w.heap.size ≤ j) := by
  have hp := h.mem.map.put_run keyed Try.underlying62 (by simp [maxLen]) (keyOf_int_mk Try.underlying46 (WalkArith.wf_i64 (n := l) (by omega))) v8
  have hpu := h.mem.push (w1 := wr) l s.stay v8 h.stay (Keep.refl _ _) (fun j hj => .inr (h.far8 j hj).1) hp.2.1 hp.2.2
  have hd' := h.dom.upd h1 h2 v8
  refine ⟨_, hp.1, _, _, hpu.1.tight hd', hd', h.come.keep hpu.2 fun j hj => (h.far6 j hj).1, ?_, h.keep.trans hpu.2 (fun _ h => h) h.more, ?_⟩
  · intro j hj
    refine ⟨?_, (h.far6 j hj).2⟩
    rintro (h3 | h3)
    · exact (h.far6 j hj).1 h3
    · exact Row.apart h.come h.stay (by decide) j hj h3
  · rintro j (h3 | h3)
    · exact h.more j h3
    · exact .inr (h.far8 j h3).2

/-! ### A step, told -/
theorem fstep_held {H : List Int} {n : Nat} {o : Int} {r : List Int} (h : turnC l (nth s.all n) = o :: l :: r) (ho : o ∈ H) : fstep l H s n = ({ s with all := s.all.set n (o :: l :: r), stay := s.stay ++ [(n : Int)] }, true) := by
  unfold fstep
  rw [show s.all.getD n [] = nth s.all n from rfl, h]
  simp only [List.getD_cons_zero]
  rw [if_pos ho]
theorem fstep_moved {H : List Int} {n : Nat} {o : Int} {r : List Int} (h : turnC l (nth s.all n) = o :: l :: r) (ho : o ∉ H) {i : Nat} (hf : findC H r 2 = some (i + 2)) :
    fstep l H s n = ({ s with all := s.all.set n (o :: (r.getD i 0) :: r.set i l), by_ := updI s.by_ (r.getD i 0) (s.by_ (r.getD i 0) ++ [(n : Int)]) }, true) := by
  unfold fstep
  rw [show s.all.getD n [] = nth s.all n from rfl, h]
  simp only [List.getD_cons_zero, List.drop_succ_cons, List.drop_zero]
  rw [if_neg ho, hf]
  simp [moveC]
theorem fstep_bad {H : List Int} {n : Nat} {o : Int} {r : List Int} (h : turnC l (nth s.all n) = o :: l :: r) (ho : o ∉ H) (hf : findC H r 2 = none) (hno : -o ∈ H) : fstep l H s n = ({ s with all := s.all.set n (o :: l :: r), stay := s.stay ++ [(n : Int)] }, false) := by
  unfold fstep
  rw [show s.all.getD n [] = nth s.all n from rfl, h]
  simp only [List.getD_cons_zero, List.drop_succ_cons, List.drop_zero]
  rw [if_neg ho, hf]
  simp only []
  rw [if_pos hno]
theorem fstep_come {H : List Int} {n : Nat} {o : Int} {r : List Int} (h : turnC l (nth s.all n) = o :: l :: r) (ho : o ∉ H) (hf : findC H r 2 = none) (hno : -o ∉ H) :
    fstep l H s n = ({ s with all := s.all.set n (o :: l :: r), stay := s.stay ++ [(n : Int)], come := s.come ++ [o] }, true) := by
  unfold fstep
  rw [show s.all.getD n [] = nth s.all n from rfl, h]
  simp only [List.getD_cons_zero, List.drop_succ_cons, List.drop_zero]
  rw [if_neg ho, hf]
  simp only []
  rw [if_neg hno]

/-- What stands at the head of the loop over a literal's row. -/
structure Falling (w : World) (p M : Nat) (vA vU : Value) (hs : List Value) (g0 : Lit → Option Value) (b : RB) (F0 : Nat → Prop) (l : Int) (H : List Int) (k : Nat) (s : FS) (v6 v8 : Value) (wr : World) (g : Lit → Option Value) (F : Nat → Prop) : Prop where
  fm : FallMem w p M vA vU hs g0 b F0 l s v6 v8 wr g F
  inv : Inv s.all (mid s l ((b.by_ l).drop k))
  rest : falls l H ((b.by_ l).drop k) s = falls l H (b.by_ l) ⟨b.all, b.by_, [], []⟩
  here : s.by_ l = b.by_ l
  len : s.all.length = b.all.length
  shortS : s.stay.length ≤ k
  shortC : s.come.length ≤ k

theorem Falling.next {H : List Int} {k n : Nat} (R : Falling w p M vA vU hs g0 b F0 l H k s v6 v8 wr g F) (hd : (b.by_ l).drop k = (n : Int) :: (b.by_ l).drop (k + 1)) {s' : FS} (hst : fstep l H s n = (s', true))
    {v6' v8' : Value} {W : World} {g' : Lit → Option Value} {F' : Nat → Prop} (fm : FallMem w p M vA vU hs g0 b F0 l s' v6' v8' W g' F') (here : s'.by_ l = b.by_ l) (hS : s'.stay.length ≤ s.stay.length + 1) (hC : s'.come.length ≤ s.come.length + 1) :
    Falling w p M vA vU hs g0 b F0 l H (k + 1) s' v6' v8' W g' F' := by
  have hi := R.inv
  rw [hd] at hi
  have hk := fstep_kept (H := H) hi
  rw [hst] at hk
  refine ⟨fm, hk.inv, ?_, here, hk.len.trans R.len, ?_, ?_⟩
  · rw [← R.rest, hd]
    show _ = falls l H ((n : Int) :: (b.by_ l).drop (k + 1)) s
    rw [falls, Int.toNat_natCast, hst]
  · have := R.shortS; omega
  · have := R.shortC; omega
/-- At the end of the row. -/
theorem Falling.over {H : List Int} {k : Nat} (R : Falling w p M vA vU hs g0 b F0 l H k s v6 v8 wr g F) (hk : (b.by_ l).length ≤ k) : falls l H (b.by_ l) ⟨b.all, b.by_, [], []⟩ = (s, true) := by
  rw [← R.rest, List.drop_eq_nil_of_le hk]
  rfl
theorem Falling.broken {H : List Int} {k n : Nat} (R : Falling w p M vA vU hs g0 b F0 l H k s v6 v8 wr g F) (hd : (b.by_ l).drop k = (n : Int) :: (b.by_ l).drop (k + 1)) {s' : FS} (hst : fstep l H s n = (s', false)) :
    falls l H (b.by_ l) ⟨b.all, b.by_, [], []⟩ = ({ s' with stay := s'.stay ++ (b.by_ l).drop (k + 1) }, false) := by
  rw [← R.rest, hd, falls, Int.toNat_natCast, hst]

theorem set_self {all : List (List Int)} {n : Nat} {c : List Int} (hn : n < all.length) (h : nth all n = c) : all.set n c = all := by
  subst h
  refine List.ext_getElem (by simp) fun i h1 h2 => ?_
  rw [List.getElem_set]
  split
  · rename_i e; subst e; simp [nth, List.getD_eq_getElem?_getD, hn]
  · rfl
/-- What a round reads ahead of all else. -/
theorem Falling.at {H : List Int} {k : Nat} (R : Falling w p M vA vU hs g0 b F0 l H k s v6 v8 wr g F) {Ar : Option Addr} {nr cr : Nat} (hv : RM.hd g0 l = .slice Ar nr cr) (hnr : nr = (b.by_ l).length) (hk : k < nr) :
    ∃ (n gr orr ga oa cA gi oi ci : Nat) (o : Int) (r : List Int), Ar = some ⟨gr, orr, none⟩ ∧ wr.cell? ⟨gr, orr + k, none⟩ = some (.int .i64 n) ∧ n < b.all.length ∧ (b.by_ l).drop k = (n : Int) :: (b.by_ l).drop (k + 1) ∧
      vA = .slice (some ⟨ga, oa, none⟩) b.all.length cA ∧ wr.cell? ⟨p, 0, none⟩ = some (.slice (some ⟨ga, oa, none⟩) b.all.length cA) ∧ wr.cell? ⟨p, 1, none⟩ = some (.map (some M)) ∧
      wr.cell? ⟨ga, oa + n, none⟩ = some (.slice (some ⟨gi, oi, none⟩) (r.length + 2) ci) ∧ at_ hs n = .slice (some ⟨gi, oi, none⟩) (r.length + 2) ci ∧
      (nth s.all n = o :: l :: r ∨ nth s.all n = l :: o :: r) ∧ o ≠ l ∧ l ∉ r ∧ turnC l (nth s.all n) = o :: l :: r ∧ n < s.all.length ∧
      wr.cell? ⟨gi, oi, none⟩ = some (.int .i64 (fst_ (nth s.all n))) ∧ wr.cell? ⟨gi, oi + 1, none⟩ = some (.int .i64 (snd_ (nth s.all n))) ∧
      wr.frozen? ⟨gi, oi, none⟩ = false ∧ wr.frozen? ⟨gi, oi + 1, none⟩ = false ∧ Bd o ∧ (∀ z ∈ r, Bd z) ∧ r.length + 2 ≤ maxLen := by
  have hk' : k < (b.by_ l).length := by omega
  have hdrop : (b.by_ l).drop k = (b.by_ l)[k] :: (b.by_ l).drop (k + 1) := List.drop_eq_getElem_cons hk'
  have hinv := R.inv
  rw [hdrop] at hinv
  obtain ⟨n, hn, hnl, _⟩ := hinv.watch l (b.by_ l)[k] (by unfold mid updI; rw [if_pos rfl]; exact List.mem_append_right _ List.mem_cons_self)
  rw [hn] at hinv hdrop
  have hlk := looked hinv
  obtain ⟨hn2, o, r, htn, hc, hne, hlr, _⟩ := hlk
  have hlen : (nth s.all n).length = r.length + 2 := by rcases hc with e | e <;> rw [e] <;> simp
  have hrow := R.fm.mem.by_ l
  rw [R.fm.hd, hv] at hrow
  rw [show ({ b with all := s.all, by_ := s.by_ } : RB).by_ l = b.by_ l from R.here] at hrow
  obtain ⟨gr, orr, cr', e1, _, _, _, hcells, _⟩ := hrow.cells (by simp; omega)
  injection e1 with e1 _ _
  obtain ⟨ga, oa, cA, gi, oi, ci, a1, a2, a3, a4, a5, a6, a7, a8, a9⟩ := R.fm.mem.at n hn2 (c := nth s.all n) rfl (by omega)
  rw [hlen] at a4
  rw [show ({ b with all := s.all, by_ := s.by_ } : RB).all.length = b.all.length from R.len] at a1
  have hbd := hinv.bd n hn2
  refine ⟨n, gr, orr, ga, oa, cA, gi, oi, ci, o, r, e1, ?_, by rw [← R.len]; exact hn2, hdrop, a1, ?_, ?_, ?_, a4, hc, hne, hlr, htn, hn2, ?_, ?_, a6 _, a6 _, ?_, ?_, ?_⟩
  · have := hcells k (by simpa using hk')
    rw [this, List.getElem?_map, List.getElem?_eq_getElem hk', hn]
    rfl
  · rw [← a1]; exact (blk_cell a2 0)
  · exact (blk_cell a2 1)
  · rw [a3, a4]
  · exact a5 0 (by omega)
  · exact a5 1 (by omega)
  · exact hbd o (by rcases hc with e | e <;> rw [e] <;> simp)
  · intro z hz
    exact hbd z (by rcases hc with e | e <;> rw [e] <;> simp [hz])
  · obtain ⟨A, c, hv2, h1, h2⟩ := (R.fm.mem.rows n hn2).shape
    rw [show (lits (({ b with all := s.all, by_ := s.by_ } : RB).all.getD n [])).length = r.length + 2 from by rw [List.length_map]; exact hlen] at h1
    omega
/-- The cells of a clause whose place is known. -/
theorem RupMem.cellsOf {k : Nat} (h : RupMem wr p M vA vU hs g k b F) {n : Nat} (hn : n < b.all.length) {c : List Int} (hc : b.all.getD n [] = c) {gi oi ci : Nat} (hv : at_ hs n = .slice (some ⟨gi, oi, none⟩) c.length ci) (h0 : 0 < c.length) :
    (∀ i, i < c.length → wr.cell? ⟨gi, oi + i, none⟩ = some (.int .i64 (c.getD i 0))) ∧ ∀ o, wr.frozen? ⟨gi, o, none⟩ = false := by
  obtain ⟨ga, oa, cA, gi', oi', ci', a1, a2, a3, a4, a5, a6, a7, a8, a9⟩ := h.at n hn hc h0
  rw [hv] at a4
  injection a4 with a4 _ _
  injection a4 with a4
  injection a4 with e1 e2 _
  subst e1 e2
  exact ⟨a5, a6⟩
/-- Two literals of a clause change places. -/
theorem FallMem.swapped (h : FallMem w p M vA vU hs g0 b F0 l s v6 v8 wr g F) {n : Nat} (hn : n < s.all.length) {c : List Int} (hc : nth s.all n = c) {gi oi ci : Nat} (hv : at_ hs n = .slice (some ⟨gi, oi, none⟩) c.length ci) (i j : Nat) (hi : i < c.length) (hj : j < c.length) (x y : Int) {W : World} (hW : Keep (fun _ => False) wr W) :
    FallMem w p M vA vU hs g0 b F0 l { s with all := s.all.set n ((c.set i x).set j y) } v6 v8 ((W.setCell ⟨gi, oi + i, none⟩ (.int .i64 x)).setCell ⟨gi, oi + j, none⟩ (.int .i64 y)) g F := by
  have h1 := (h.mem.keep hW (fun _ _ h => h)).stored2 n hn hc hv i j hi hj x y
  exact h.turn (hW.trans h1.2 (fun _ h => h.elim) (fun _ h => .inl h)) h1.1
theorem FallMem.cutRow (h : FallMem w p M vA vU hs g0 b F0 l s v6 v8 wr g F) {gr orr nr cr : Nat} (hv : RM.hd g0 l = .slice (some ⟨gr, orr, none⟩) nr cr) (hnr : nr = (b.by_ l).length) (here : s.by_ l = b.by_ l) (k : Nat) (hk : k ≤ nr) :
    Row wr 3 (.slice (some ⟨gr, if cr = k then orr else orr + k, none⟩) (nr - k) (cr - k)) (lits ((b.by_ l).drop k)) := by
  have hr := h.mem.by_ l
  rw [h.hd, hv] at hr
  rw [show ({ b with all := s.all, by_ := s.by_ } : RB).by_ l = b.by_ l from here] at hr
  have e : nr = (lits (b.by_ l)).length := by simp [hnr]
  rw [e] at hr
  have := hr.cut k (by omega)
  rw [← e] at this
  rw [show lits ((b.by_ l).drop k) = (lits (b.by_ l)).drop k from by simp [lits, List.map_drop]]
  by_cases e2 : cr = k
  · rw [if_pos e2] at this ⊢; exact this
  · rw [if_neg e2] at this ⊢
    simp only [Option.map_some, Addr.add, Nat.mul_one] at this
    by_cases e3 : k = 0
    · subst e3; exact this
    · rw [if_neg e3] at this; exact this
theorem lits_one (l : List Int) : ∀ u ∈ lits l, u.oneCell' = true := by
  intro u hu
  obtain ⟨x, _, rfl⟩ := List.mem_map.1 hu
  rfl
theorem FallMem.same (h : FallMem w p M vA vU hs g0 b F0 l s v6 v8 wr g F) {n : Nat} (hn : n < s.all.length) {c : List Int} (hc : nth s.all n = c) : FallMem w p M vA vU hs g0 b F0 l { s with all := s.all.set n c } v6 v8 wr g F := by
  rw [set_self hn hc]; exact h
end Go.Proofs.Ytjlkjgoncfdaeaa.RM
