/- Slices in memory, at any place of their rows: what is read, stored, appended, cut. Over any program. An object in memory: a struct whose first cells are slices, each with a row of its own; what stores leave. Over any program. -/
import Derived.WalkKit
import Derived.Maps.AppendAt
import Derived.Test.YtpopohkbffhckaaDoorWWords
namespace Go.Proofs.YtpopohkbffhckaaDoor.MM
open Go.RowKit Go.Proofs.YtpopohkbffhckaaDoorW.PrintWords

/-- The slice v shows xs: elements of one cell each, in a row of type e. -/
def Row (w : World) (e : TypeId) (v : Value) (xs : List Value) : Prop :=
 (v = .slice none 0 0 ∧ xs = []) ∨
 ∃ g off cap cur, v = .slice (some ⟨g, off, none⟩) xs.length cap ∧ w.heap[g]? = some (.cells cur e (0, 0)) ∧ xs.length ≤ cap ∧ cap ≤ maxLen ∧ off + cap ≤ cur.size ∧ (cur.toList.drop off).take xs.length = xs

/-- All blocks but those in F are as they were. -/
structure Keep (F : Nat → Prop) (w w' : World) : Prop where
 os : w'.os = w.os
 tape : w'.tape = w.tape
 output : w'.output = w.output
 size : w.heap.size ≤ w'.heap.size
 block : ∀ k, k < w.heap.size → ¬ F k → w'.heap[k]? = w.heap[k]?

theorem Keep.refl (F : Nat → Prop) (w : World) : Keep F w w := ⟨rfl, rfl, rfl, Nat.le_refl _, fun _ _ _ => rfl⟩
theorem Keep.trans {F G H : Nat → Prop} {a b c : World} (h : Keep F a b) (k : Keep G b c) (hF : ∀ x, F x → H x) (hG : ∀ x, G x → H x ∨ a.heap.size ≤ x) : Keep H a c :=
 ⟨k.os.trans h.os, k.tape.trans h.tape, k.output.trans h.output, Nat.le_trans h.size k.size, fun i hi hn => (k.block i (Nat.lt_of_lt_of_le hi h.size) (fun hg => by rcases hG i hg with h1 | h1; exact hn h1; omega)).trans (h.block i hi (fun hf => hn (hF i hf)))⟩
theorem Keep.mono {F G : Nat → Prop} {a b : World} (h : Keep F a b) (hF : ∀ x, F x → G x) : Keep G a b := ⟨h.os, h.tape, h.output, h.size, fun i hi hn => h.block i hi (fun hf => hn (hF i hf))⟩
theorem Keep.below {F : Nat → Prop} {a b : World} {B : Nat} (h : Keep F a b) (hF : ∀ x, F x → B ≤ x) (hB : B ≤ a.heap.size) : Below B a b := ⟨h.os, h.tape, h.output, h.size, fun k hk => h.block k (by omega) (fun hf => by have := hF k hf; omega)⟩
theorem Keep.ofBelow {F : Nat → Prop} {a b : World} (h : Below a.heap.size a b) : Keep F a b := ⟨h.os, h.tape, h.output, h.size, fun k hk _ => h.block k hk⟩
theorem Keep.ofGrown {F : Nat → Prop} {a b : World} {r : Option Nat} (h : a.grownBy b r) (hF : ∀ k, r = some k → F k) : Keep F a b := ⟨h.os, h.tape, h.output, h.size, fun k hk hn => h.block k hk (fun e => hn (hF k e.symm))⟩
theorem Keep.blk {F : Nat → Prop} {a b : World} (h : Keep F a b) {k : Nat} {o : Obj} (ho : a.heap[k]? = some o) (hn : ¬ F k) : b.heap[k]? = some o := (h.block k (blk_lt ho) hn).trans ho

variable {w w1 : World} {e : TypeId} {v : Value} {xs : List Value}

theorem Row.nil (w : World) (e : TypeId) : Row w e (.slice none 0 0) [] := .inl ⟨rfl, rfl⟩
theorem Row.move (h : Row w e v xs) (hb : ∀ g, v.ownBlock = some g → w1.heap[g]? = w.heap[g]?) : Row w1 e v xs := by
 rcases h with ⟨rfl, rfl⟩ | ⟨g, off, cap, cur, rfl, hg, h1, h2, h3, h4⟩
 ·
  exact .nil _ _
 ·
  exact .inr ⟨g, off, cap, cur, rfl, (hb g rfl).trans hg, h1, h2, h3, h4⟩
theorem Row.lt (h : Row w e v xs) : ∀ g, v.ownBlock = some g → g < w.heap.size := by
 rcases h with ⟨rfl, rfl⟩ | ⟨g, off, cap, cur, rfl, hg, _⟩
 ·
  intro g hg; cases hg
 ·
  intro g' hg'
  cases hg'
  exact blk_lt hg
theorem Row.keep {F : Nat → Prop} (h : Row w e v xs) (hk : Keep F w w1) (hn : ∀ g, v.ownBlock = some g → ¬ F g) : Row w1 e v xs := h.move fun g hg => hk.block g (h.lt g hg) (hn g hg)
theorem Row.shape (h : Row w e v xs) : ∃ A c, v = .slice A xs.length c ∧ xs.length ≤ c ∧ c ≤ maxLen := by
 rcases h with ⟨rfl, rfl⟩ | ⟨g, off, cap, cur, rfl, _, h1, h2, _⟩
 ·
  exact ⟨none, 0, rfl, Nat.le_refl _, by simp [maxLen]⟩
 ·
  exact ⟨_, _, rfl, h1, h2⟩
theorem Row.typed (h : Row w e v xs) : ∀ g, v.ownBlock = some g → ∃ cur, w.heap[g]? = some (.cells cur e (0, 0)) := by
 rcases h with ⟨rfl, rfl⟩ | ⟨g, off, cap, cur, rfl, hg, _⟩
 ·
  intro g hg; cases hg
 ·
  intro g' hg'
  cases hg'
  exact ⟨cur, hg⟩
theorem Row.ofOwns {base n : Nat} (h : w.ownsRow base e 1 v n xs) : Row w e v xs ∧ n = xs.length ∧ ∀ g, v.ownBlock = some g → base ≤ g := by
 obtain ⟨h0, h⟩ := h
 have hn : n = xs.length := by omega
 subst hn
 rcases h with ⟨rfl, h1⟩ | ⟨g, cap, cur, rfl, hb, hg, h1, h2, h3, h4⟩
 ·
  have : xs = [] := List.eq_nil_of_length_eq_zero h1
  subst this
  exact ⟨.nil _ _, rfl, by intro g hg; cases hg⟩
 ·
  exact ⟨.inr ⟨g, 0, cap, cur, rfl, hg, h1, h2, by omega, by simpa using h4⟩, rfl, by intro g' hg'; cases hg'; exact hb⟩
/-- Where the slice lies, and its cells. -/
theorem Row.cells (h : Row w e v xs) (h0 : 0 < xs.length) : ∃ g off cap, v = .slice (some ⟨g, off, none⟩) xs.length cap ∧ xs.length ≤ cap ∧ cap ≤ maxLen ∧ g < w.heap.size ∧ (∀ i, i < xs.length → w.cell? ⟨g, off + i, none⟩ = xs[i]?) ∧ ∀ o, w.frozen? ⟨g, o, none⟩ = false := by
 rcases h with ⟨rfl, rfl⟩ | ⟨g, off, cap, cur, rfl, hg, h1, h2, h3, h4⟩
 ·
  simp at h0
 ·
  refine ⟨g, off, cap, rfl, h1, h2, blk_lt hg, fun i hi => ?_, fun o => blk_frozen hg o⟩
  rw [blk_cell hg]
  have : xs[i]? = ((cur.toList.drop off).take xs.length)[i]? := by rw [h4]
  rw [this, List.getElem?_take, if_pos hi, List.getElem?_drop, Array.getElem?_toList]
theorem Row.set {g off n cap : Nat} (h : Row w e (.slice (some ⟨g, off, none⟩) n cap) xs) (i : Nat) (hi : i < xs.length) (u : Value) : Row (w.setCell ⟨g, off + i, none⟩ u) e (.slice (some ⟨g, off, none⟩) n cap) (xs.set i u) := by
 rcases h with ⟨hv, rfl⟩ | ⟨g', off', cap', cur, hv, hg, h1, h2, h3, h4⟩
 ·
  simp at hi
 ·
  injection hv with a1 a2 a3
  injection a1 with a1
  injection a1 with b1 b2 _
  subst b1 b2 a2 a3
  refine .inr ⟨g, off, cap, cur.setIfInBounds (off + i) u, by simp, blk_set hg _ _, by simpa using h1, h2, by simpa using h3, ?_⟩
  rw [List.length_set, Array.toList_setIfInBounds]
  apply List.ext_getElem?
  intro j
  rw [List.getElem?_take, List.getElem?_drop, List.getElem?_set, List.getElem?_set]
  have key : ∀ j, j < xs.length → xs[j]? = cur.toList[off + j]? := by
   intro j hj
   have : xs[j]? = ((cur.toList.drop off).take xs.length)[j]? := by rw [h4]
   rw [this, List.getElem?_take, if_pos hj, List.getElem?_drop]
  have hlen : xs.length ≤ cur.size := by omega
  by_cases hj : j < xs.length
  ·
   rw [if_pos hj]
   by_cases e1 : i = j
   ·
    subst e1
    rw [if_pos rfl, if_pos rfl, if_pos hi, if_pos (by simp; omega)]
   ·
    rw [if_neg (by omega), if_neg e1, key j hj]
  ·
   rw [if_neg hj, if_neg (by omega), List.getElem?_eq_none (by omega)]
/-- A slice cut from a place on. -/
theorem Row.cut {A : Option Addr} {c : Nat} (h : Row w e (.slice A xs.length c) xs) (i : Nat) (hi : i ≤ xs.length) : Row w e (.slice (if c = i then A else A.map (·.add (i * 1))) (xs.length - i) (c - i)) (xs.drop i) := by
 rcases h with ⟨hv, rfl⟩ | ⟨g, off, cap, cur, hv, hg, h1, h2, h3, h4⟩
 ·
  injection hv with a1 a2 a3
  subst a1 a3
  simp at hi
  subst hi
  exact .inl ⟨by simp, by simp⟩
 ·
  injection hv with a1 _ a3
  subst a1 a3
  have hd : (cur.toList.drop (off + i)).take (xs.length - i) = xs.drop i := by
   have : xs.drop i = ((cur.toList.drop off).take xs.length).drop i := by rw [h4]
   rw [this, List.drop_take, List.drop_drop]
  by_cases hc : c = i
  ·
   have : xs.length = i := by omega
   refine .inr ⟨g, off, c - i, cur, by simp [hc], hg, by simp; omega, by omega, by omega, ?_⟩
   rw [List.length_drop, show xs.length - i = 0 by omega, List.take_zero, List.drop_eq_nil_of_le (by omega)]
  ·
   refine .inr ⟨g, off + i, c - i, cur, by simp [hc, Addr.add], hg, by simp; omega, by omega, by omega, ?_⟩
   rw [List.length_drop]
   exact hd

theorem shown {cur : Array Value} {off j : Nat} {xs : List Value} {u : Value} (h : (cur.toList.drop off).take xs.length = xs) (hj : xs[j]? = some u) : cur[off + j]? = some u := by
 have hl : j < xs.length := (List.getElem?_eq_some_iff.1 hj).1
 have : xs[j]? = ((cur.toList.drop off).take xs.length)[j]? := by rw [h]
 rw [this, List.getElem?_take, if_pos hl, List.getElem?_drop, Array.getElem?_toList] at hj
 exact hj
variable {P : Program}

theorem run_append_at (w : World) (t ty e : TypeId) (i : TypeInfo) (ht : P.underlying t = some (.slice e)) (hi : P.info? e = some i) (h1s : i.size = 1)
 (g off sLen sCap : Nat) (cur : Array Value) (hg : w.heap[g]? = some (.cells cur e (0, 0)))
 (a : Addr) (m c : Nat) (news : List Value) (hl : news.length = m) (hnews : ∀ j u, news[j]? = some u → w.cell? (a.add j) = some u) (h1 : ∀ u ∈ news, u.oneCell' = true)
 (hroom : sLen + m ≤ sCap) (hfit : off + sLen + news.length ≤ cur.size) :
 (Builtin.append_ #[t, t] ty #[.slice (some ⟨g, off, none⟩) sLen sCap, .slice (some a) m c]).run P w =
  .ok (.slice (some ⟨g, off, none⟩) (sLen + m) sCap) (w.setRow g (cur.toList.take (off + sLen) ++ news ++ cur.toList.drop (off + sLen + news.length)).toArray) := by
 have hf := run_firstCells_some (P := P) w i.size m a m c news (by rw [h1s]; omega) hnews
 rw [h1s] at hf
 have hst := run_storeCells_at P g (off + sLen) e news 0 cur w hg (by simpa using hfit) h1
 simp only [Nat.add_zero] at hst
 simp [Builtin.append_, run_underlying ht, sizeOf, typeInfo, hi, Builtin.lenOf, hroom, hf, Addr.add_lit, hst, h1s]

/-- What an append reads. -/
def Src (w : World) (x : Value) (ys : List Value) : Prop := (∃ c, x = .slice none 0 c ∧ ys = []) ∨ ∃ a c, x = .slice (some a) ys.length c ∧ ∀ j u, ys[j]? = some u → w.cell? (a.add j) = some u
theorem Row.src (h : Row w e v xs) : Src w v xs := by
 rcases h with ⟨rfl, rfl⟩ | ⟨gx, ox, cx, curx, rfl, hgx, hx1, hx2, hx3, hx4⟩
 ·
  exact .inl ⟨0, rfl, rfl⟩
 ·
  refine .inr ⟨_, _, rfl, fun j u hj => ?_⟩
  rw [Addr.add_lit, blk_cell hgx]
  exact shown hx4 hj

theorem run_append_src (w : World) (t ty e : TypeId) (i : TypeInfo) (z : Value) (ht : P.underlying t = some (.slice e)) (hi : P.info? e = some i) (hz : i.zero = some z) (h1s : i.size = 1) (hzs : z.cells.size = 1)
 {v x : Value} {xs ys : List Value} (h : Row w e v xs) (hx : Src w x ys) (h1 : ∀ u ∈ ys, u.oneCell' = true) (h63 : xs.length + ys.length ≤ maxLen) (hbytes : (xs.length + ys.length) * i.bytes ≤ 140737488355328) :
 ∃ v' w', (Builtin.append_ #[t, t] ty #[v, x]).run P w = .ok v' w' ∧ Row w' e v' (xs ++ ys) ∧ Keep (fun k => v.ownBlock = some k) w w' ∧ (v'.ownBlock = v.ownBlock ∨ v'.ownBlock = some w.heap.size) := by
 have hsmall : xs.length + ys.length ≤ 9223372036854775807 := by simp only [maxLen] at h63; omega
 rcases hx with ⟨c0, rfl, rfl⟩ | ⟨ax, cx, rfl, hnews⟩
 ·
  refine ⟨v, w, ?_, by simpa using h, Keep.refl _ _, .inl rfl⟩
  rcases h with ⟨rfl, rfl⟩ | ⟨g, off, cap, cur, rfl, hg, h2, h3, h4, h5⟩
  ·
   simp [Builtin.append_, run_underlying ht, sizeOf, typeInfo, hi, Builtin.lenOf, Builtin.firstCells]
  ·
   simp [Builtin.append_, run_underlying ht, sizeOf, typeInfo, hi, Builtin.lenOf, Builtin.firstCells, h2, storeCells]
 ·
  have grown : ∀ (old : Nat), old < xs.length + ys.length →
   Row (w.drew.alloc (.cells (xs.toArray ++ ys.toArray ++ Builtin.zeroCells z.cells (grownCap w (xs.length + ys.length) old e - (xs.length + ys.length))) e)) e
    (.slice (some ⟨w.heap.size, 0, none⟩) (xs.length + ys.length) (grownCap w (xs.length + ys.length) old e)) (xs ++ ys) := by
   intro old ho
   have hge := grownCap_ge w (xs.length + ys.length) old e
   have hcm : grownCap w (xs.length + ys.length) old e ≤ maxLen := grownCap_le_maxLen w (xs.length + ys.length) old e h63
   refine .inr ⟨w.heap.size, 0, _, _, by rw [List.length_append], heap_alloc_new w.drew _, by rw [List.length_append]; exact hge, hcm, ?_, ?_⟩
   ·
    simp only [Array.size_append, List.size_toArray, size_zeroCells, hzs]
    omega
   ·
    rw [List.drop_zero]
    simp only [Array.toList_append, List.append_assoc]
    rw [← List.append_assoc]
    exact List.take_left
  have kept : ∀ (F : Nat → Prop) (o : Obj), Keep F w (w.drew.alloc o) := fun F o => ⟨rfl, rfl, rfl, by simp, fun k hk _ => Go.heap_alloc_old w.drew _ hk⟩
  rcases h with ⟨rfl, rfl⟩ | ⟨g, off, cap, cur, rfl, hg, h2, h3, h4, h5⟩
  ·
   by_cases hm : ys.length = 0
   ·
    have : ys = [] := List.eq_nil_of_length_eq_zero hm
    subst this
    refine ⟨.slice none 0 0, w, ?_, .nil _ _, Keep.refl _ _, .inl rfl⟩
    simp [Builtin.append_, run_underlying ht, sizeOf, typeInfo, hi, Builtin.lenOf, Builtin.firstCells, loadCells, loadCellsFrom]
   ·
    have hr := run_append_nil (P := P) w t ty e i z ht hi hz ax ys.length cx ys (by rw [h1s]; omega) hnews (by omega) (by simp at hsmall; omega) (by simp at hbytes; omega)
    have hgr := grown 0 (by simp; omega)
    simp only [List.length_nil, Nat.zero_add, List.nil_append, Array.empty_append] at hgr ⊢
    exact ⟨_, _, hr, hgr, kept _ _, .inr rfl⟩
  ·
   by_cases hroom : xs.length + ys.length ≤ cap
   ·
    have hfit : off + xs.length + ys.length ≤ cur.size := by omega
    have hr := run_append_at (P := P) w t ty e i ht hi h1s g off xs.length cap cur hg ax ys.length cx ys rfl hnews h1 hroom hfit
    refine ⟨_, _, hr, .inr ⟨g, off, cap, _, by rw [List.length_append], setRow_heap w g cur _ e _ hg, by rw [List.length_append]; exact hroom, h3, ?_, ?_⟩, ⟨rfl, rfl, rfl, by simp, fun k _ hk => setRow_other w g k _ (fun e => hk (by simp [Value.ownBlock, e]))⟩, .inl rfl⟩
    ·
     simp only [List.size_toArray, List.length_append, List.length_take, List.length_drop, Array.length_toList]
     omega
    ·
     rw [List.length_append]
     show (List.drop off (cur.toList.take (off + xs.length) ++ ys ++ cur.toList.drop (off + xs.length + ys.length))).take (xs.length + ys.length) = xs ++ ys
     have e1 : (cur.toList.take (off + xs.length)).drop off = xs := by
      rw [List.drop_take, show off + xs.length - off = xs.length by omega]
      exact h5
     rw [List.append_assoc, List.drop_append_of_le_length (by simp; omega), e1, ← List.append_assoc, ← List.length_append]
     exact List.take_left
   ·
    have holds : ∀ j u, xs[j]? = some u → w.cell? ((⟨g, off, none⟩ : Addr).add j) = some u := by
     intro j u hj
     rw [Addr.add_lit, blk_cell hg]
     exact shown h5 hj
    have hr := run_append_grow (P := P) w t ty e i z ht hi hz ⟨g, off, none⟩ xs.length cap xs (by rw [h1s]; omega) holds ax ys.length cx ys (by rw [h1s]; omega) hnews (by omega) (by omega) (growslice_fits (by omega) hbytes)
    exact ⟨_, _, hr, grown cap (by omega), kept _ _, .inr rfl⟩

theorem wpList_append_row {ops : Array Oper} {rest : List Oper} {o : Oper} {a : Act} {Q : Exit → Act → World → Prop} (hgd : o.guard = none) (s x : Operand) (t : TypeId)
 (ho : o.op = .call { callee := .builtin .append, args := #[s, x], argTypes := #[t, t] })
 (e : TypeId) (i : TypeInfo) (z : Value) (ht : P.underlying t = some (.slice e)) (hi : P.info? e = some i) (hz : i.zero = some z) (h1s : i.size = 1) (hzs : z.cells.size = 1)
 (v u : Value) (xs ys : List Value) (hs : a.eval s = v) (hx : a.eval x = u) (h : Row w e v xs) (hy : Src w u ys) (h1 : ∀ u ∈ ys, u.oneCell' = true) (h63 : xs.length + ys.length ≤ maxLen) (hbytes : (xs.length + ys.length) * i.bytes ≤ 140737488355328)
 (hK : ∀ v' w', Row w' e v' (xs ++ ys) → Keep (fun k => v.ownBlock = some k) w w' → (v'.ownBlock = v.ownBlock ∨ v'.ownBlock = some w.heap.size) → wpList P ops Q rest (a.put o.dst v') w') :
 wpList P ops Q (o :: rest) a w := by
 refine wpList_plain hgd fun K hKK => ?_
 obtain ⟨v', w', hr, h2, h3, h4⟩ := run_append_src (P := P) w t o.type e i z ht hi hz h1s hzs h hy h1 h63 hbytes
 unfold Oper.wp execOp
 simp only [ho, resolve, invoke, builtin, Sem.run_bind, Sem.run_pure, Result.andThen_ok, List.map_toArray, List.map_cons, List.map_nil, hs, hx, hr]
 exact hKK _ _ (hK v' w' h2 h3 h4)

theorem wp_append_row (w : World) {o : Oper} {a : Act} {K : Act → World → Prop} {Q : Exit → Act → World → Prop} (s x : Operand) (t : TypeId)
 (ho : o.op = .call { callee := .builtin .append, args := #[s, x], argTypes := #[t, t] })
 (e : TypeId) (i : TypeInfo) (z : Value) (ht : P.underlying t = some (.slice e)) (hi : P.info? e = some i) (hz : i.zero = some z) (h1s : i.size = 1) (hzs : z.cells.size = 1)
 (v u : Value) (xs ys : List Value) (hs : a.eval s = v) (hx : a.eval x = u) (h : Row w e v xs) (hy : Src w u ys) (h1 : ∀ u ∈ ys, u.oneCell' = true) (h63 : xs.length + ys.length ≤ maxLen) (hbytes : (xs.length + ys.length) * i.bytes ≤ 140737488355328)
 (hK : ∀ v' w', Row w' e v' (xs ++ ys) → Keep (fun k => v.ownBlock = some k) w w' → (v'.ownBlock = v.ownBlock ∨ v'.ownBlock = some w.heap.size) → K (a.put o.dst v') w') :
 Oper.wp P o a w K Q := by
 obtain ⟨v', w', hr, h2, h3, h4⟩ := run_append_src (P := P) w t o.type e i z ht hi hz h1s hzs h hy h1 h63 hbytes
 unfold Oper.wp execOp
 simp only [ho, resolve, invoke, builtin, Sem.run_bind, Sem.run_pure, Result.andThen_ok, List.map_toArray, List.map_cons, List.map_nil, hs, hx, hr]
 exact hK v' w' h2 h3 h4
/-- At a step of a region that draws its order. -/
theorem step_append_row (w : World) {ops : Array Oper} {o : Oper} {a : Act} {K : Act → World → Prop} {Q : Exit → Act → World → Prop} {E : Prop} (hgd : o.guard = none) (s x : Operand) (t : TypeId)
 (ho : o.op = .call { callee := .builtin .append, args := #[s, x], argTypes := #[t, t] })
 (e : TypeId) (i : TypeInfo) (z : Value) (ht : P.underlying t = some (.slice e)) (hi : P.info? e = some i) (hz : i.zero = some z) (h1s : i.size = 1) (hzs : z.cells.size = 1)
 (v u : Value) (xs ys : List Value) (hs : a.eval s = v) (hx : a.eval x = u) (h : Row w e v xs) (hy : Src w u ys) (h1 : ∀ u ∈ ys, u.oneCell' = true) (h63 : xs.length + ys.length ≤ maxLen) (hbytes : (xs.length + ys.length) * i.bytes ≤ 140737488355328)
 (hK : ∀ v' w', Row w' e v' (xs ++ ys) → Keep (fun k => v.ownBlock = some k) w w' → (v'.ownBlock = v.ownBlock ∨ v'.ownBlock = some w.heap.size) → K (a.put o.dst v') w') :
 if Region.wanted o (yielded ops a.tmps) = true then Oper.wp P o a w K Q else E := by
 have hw : Region.wanted o (yielded ops a.tmps) = true := by simp [Region.wanted, hgd]
 rw [if_pos hw]
 exact wp_append_row w s x t ho e i z ht hi hz h1s hzs v u xs ys hs hx h hy h1 h63 hbytes hK
/-- A slice literal of one element. -/
theorem Row.one (w : World) (e : TypeId) (u : Value) : Row (w.alloc (.cells #[u] e)) e (.slice (some ⟨w.heap.size, 0, none⟩) 1 1) [u] :=
 .inr ⟨w.heap.size, 0, 1, #[u], rfl, heap_alloc_new w _, by simp, by simp [maxLen], by simp, rfl⟩
theorem Row.alloc (h : Row w e v xs) (o : Obj) : Row (w.alloc o) e v xs := h.keep (F := fun _ => False) ⟨rfl, rfl, rfl, by simp, fun k hk _ => Go.heap_alloc_old w _ hk⟩ (fun _ _ h => h)
theorem Row.drew (h : Row w e v xs) : Row w.drew e v xs := h
theorem old_alloc {w : World} {k : Nat} (o : Obj) (h : k < w.heap.size) : (w.alloc o).heap[k]? = w.heap[k]? := Go.heap_alloc_old w _ h
end Go.Proofs.YtpopohkbffhckaaDoor.MM

namespace Go.Proofs.YtpopohkbffhckaaDoor.MM
open Go.RowKit Go.Proofs.YtpopohkbffhckaaDoorW.PrintWords
set_option linter.unusedVariables false

theorem hid {P : Prop} (h : P) : Hid P := h
abbrev lits (l : List Int) : List Value := l.map (Value.int .i64)
abbrev nats (l : List Nat) : List Value := l.map fun (n : Nat) => Value.int .i64 (n : Int)
abbrev at_ (hs : List Value) (i : Nat) : Value := hs.getD i undef
/-- The object at block t: cells cs; the first of them are slices that show the rows rs (type, elements); all of it lies in F. -/
structure Ob (ts : TypeId) (w : World) (t : Nat) (cs : List Value) (rs : List (TypeId × List Value)) (F : Nat → Prop) : Prop where
 blk : w.heap[t]? = some (.cells cs.toArray ts (0, 0))
 rows : ∀ i r, rs[i]? = some r → Row w r.1 (at_ cs i) r.2
 len : rs.length ≤ cs.length
 fp : F t
 fr : ∀ i r, rs[i]? = some r → ∀ j, (at_ cs i).ownBlock = some j → F j ∧ j ≠ t
 ap : ∀ i j ri rj, rs[i]? = some ri → rs[j]? = some rj → i ≠ j → ∀ g, (at_ cs i).ownBlock = some g → (at_ cs j).ownBlock ≠ some g
 old : ∀ j, F j → j < w.heap.size

variable {ts : TypeId} {w w1 w2 : World} {t : Nat} {cs : List Value} {rs : List (TypeId × List Value)} {F G : Nat → Prop}

theorem Ob.keep (h : Ob ts w t cs rs F) (hk : Keep G w w1) (hn : ∀ j, F j → ¬ G j) : Ob ts w1 t cs rs F where
 blk := hk.blk h.blk (hn _ h.fp)
 rows := fun i r hr => (h.rows i r hr).keep hk fun j hj => hn _ (h.fr i r hr j hj).1
 len := h.len
 fp := h.fp
 fr := h.fr
 ap := h.ap
 old := fun j hj => Nat.lt_of_lt_of_le (h.old j hj) hk.size
theorem Ob.drew (h : Ob ts w t cs rs F) : Ob ts w.drew t cs rs F := ⟨h.blk, h.rows, h.len, h.fp, h.fr, h.ap, h.old⟩
theorem Ob.below (h : Ob ts w t cs rs F) (hb : Below w.heap.size w w1) : Ob ts w1 t cs rs F :=
 h.keep (Keep.ofBelow (F := fun _ => False) hb) (fun _ _ h => h)
theorem Ob.cell (h : Ob ts w t cs rs F) (i : Nat) (v : Value) (hv : cs[i]? = some v) : w.cell? ⟨t, i, none⟩ = some v := by
 rw [blk_cell h.blk]
 simpa using hv
theorem Ob.frozen (h : Ob ts w t cs rs F) (i : Nat) : w.frozen? ⟨t, i, none⟩ = false := blk_frozen h.blk i
theorem Ob.row (h : Ob ts w t cs rs F) (i : Nat) (e : TypeId) (xs : List Value) (v : Value) (hr : rs[i]? = some (e, xs)) (hv : cs[i]? = some v) : Row w e v xs := by
 have := h.rows i _ hr
 rwa [show at_ cs i = v from by simp [at_, List.getD_eq_getElem?_getD, hv]] at this

theorem setCell_keep (w : World) (p i : Nat) (u : Value) : Keep (fun j => j = p) w (w.setCell ⟨p, i, none⟩ u) :=
 ⟨rfl, rfl, rfl, by simp [World.setCell], fun k _ hk => Below.heap_setCell w ⟨p, i, none⟩ u k (fun e => hk e)⟩
theorem at_set {cs : List Value} {i j : Nat} {v : Value} (hi : i < cs.length) : at_ (cs.set i v) j = if i = j then v else at_ cs j := by
 unfold at_
 rw [List.getD_eq_getElem?_getD, List.getD_eq_getElem?_getD, List.getElem?_set]
 split
 ·
  rename_i e
  subst e
  try rw [if_pos hi]
  rfl
 ·
  rfl

/-- The front of a slice. -/
theorem Row.front {w : World} {e : TypeId} {A : Option Addr} {n c : Nat} {xs : List Value} (h : Row w e (.slice A n c) xs) (k : Nat) (hk : k ≤ xs.length) : Row w e (.slice A k c) (xs.take k) := by
 rcases h with ⟨hv, rfl⟩ | ⟨g, off, cap, cur, hv, hg, h1, h2, h3, h4⟩
 ·
  injection hv with a1 a2 a3
  subst a1 a3
  obtain rfl : k = 0 := by simpa using hk
  exact .inl ⟨rfl, rfl⟩
 ·
  injection hv with a1 _ a3
  subst a1 a3
  have hl : (xs.take k).length = k := by rw [List.length_take]; omega
  refine .inr ⟨g, off, c, cur, by rw [hl], hg, by omega, h2, h3, ?_⟩
  rw [hl]
  have : xs.take k = ((cur.toList.drop off).take xs.length).take k := by rw [h4]
  rw [this, List.take_take, Nat.min_eq_left hk]
/-- .. and no room behind it. -/
theorem Row.trim {w : World} {e : TypeId} {A : Option Addr} {n c : Nat} {xs : List Value} (h : Row w e (.slice A n c) xs) (k : Nat) (hk : k ≤ xs.length) : Row w e (.slice A k k) (xs.take k) := by
 rcases h.front k hk with ⟨hv, h0⟩ | ⟨g, off, cap, cur, hv, hg, h1, h2, h3, h4⟩
 ·
  injection hv with a1 a2 a3
  subst a1 a2
  exact .inl ⟨rfl, h0⟩
 ·
  injection hv with a1 a2 a3
  subst a1
  exact .inr ⟨g, off, k, cur, by rw [← a2], hg, by omega, by omega, by omega, h4⟩
/-- A slice of it that has turned is stored. -/
theorem Ob.turn (h : Ob ts w t cs rs F) (i : Nat) (e e' : TypeId) (xs xs' : List Value) (v v' : Value) (hr : rs[i]? = some (e, xs)) (hv : cs[i]? = some v)
 (hk : Keep (fun k => v.ownBlock = some k) w w1) (hrow : Row w1 e' v' xs') (hat : v'.ownBlock = none ∨ v'.ownBlock = v.ownBlock ∨ ∃ b, v'.ownBlock = some b ∧ w.heap.size ≤ b) :
 Ob ts (w1.setCell ⟨t, i, none⟩ v') t (cs.set i v') (rs.set i (e', xs')) (fun j => F j ∨ w.heap.size ≤ j ∧ j < w1.heap.size) ∧ Keep F w (w1.setCell ⟨t, i, none⟩ v') := by
 have ks := setCell_keep w1 t i v'
 have hvi : at_ cs i = v := by simp [at_, List.getD_eq_getElem?_getD, hv]
 have hil : i < cs.length := (List.getElem?_eq_some_iff.1 hv).1
 have hirl : i < rs.length := (List.getElem?_eq_some_iff.1 hr).1
 have hfv : ∀ j, v.ownBlock = some j → F j ∧ j ≠ t := fun j hj => h.fr i _ hr j (by rw [hvi]; exact hj)
 have hb1 : w1.heap[t]? = some (.cells cs.toArray ts (0, 0)) := hk.blk h.blk fun e => (hfv t e).2 rfl
 have htl := blk_lt h.blk
 have hv' : ∀ j, v'.ownBlock = some j → j ≠ t ∧ j < w1.heap.size ∧ (F j ∨ w.heap.size ≤ j) := by
  intro j hj
  refine ⟨?_, hrow.lt j hj, ?_⟩
  ·
   rcases hat with e | e | ⟨b, e, hb⟩
   ·
    rw [e] at hj; cases hj
   ·
    exact (hfv j (e ▸ hj)).2
   ·
    rw [e] at hj; cases hj; omega
  ·
   rcases hat with e | e | ⟨b, e, hb⟩
   ·
    rw [e] at hj; cases hj
   ·
    exact .inl (hfv j (e ▸ hj)).1
   ·
    rw [e] at hj; cases hj; exact .inr hb
 have hap' : ∀ m r, rs[m]? = some r → m ≠ i → ∀ g, (at_ cs m).ownBlock = some g → v'.ownBlock ≠ some g := by
  intro m r hm hmi g hg hg'
  rcases hat with e | e | ⟨b, e, hb⟩
  ·
   rw [e] at hg'; cases hg'
  ·
   exact h.ap m i _ _ hm hr hmi g hg (by rw [hvi, ← e]; exact hg')
  ·
   rw [e] at hg'
   cases hg'
   have := h.old _ (h.fr m r hm _ hg).1
   omega
 refine ⟨⟨?_, fun m r hm => ?_, by simpa using h.len, .inl h.fp, fun m r hm j hj => ?_, fun m n rm rn hm hn hmn g hg => ?_, fun j hj => ?_⟩, ?_⟩
 ·
  rw [blk_set hb1]
  simp
 ·
  rw [List.getElem?_set] at hm
  rw [at_set hil]
  split at hm
  ·
   rename_i e1
   try rw [if_pos hirl] at hm
   cases hm
   rw [if_pos e1]
   exact hrow.keep ks fun j hj => (hv' j hj).1
  ·
   rename_i e1
   rw [if_neg e1]
   exact ((h.rows m r hm).keep hk fun j hj e2 => h.ap m i _ _ hm hr (fun e3 => e1 e3.symm) j hj (by rw [hvi]; exact e2)).keep ks fun j hj => (h.fr m r hm j hj).2
 ·
  rw [List.getElem?_set] at hm
  rw [at_set hil] at hj
  split at hm
  ·
   rename_i e1
   rw [if_pos e1] at hj
   obtain ⟨a1, a2, a3⟩ := hv' j hj
   exact ⟨a3.imp id fun a => ⟨a, a2⟩, a1⟩
  ·
   rename_i e1
   rw [if_neg e1] at hj
   exact ⟨.inl (h.fr m r hm j hj).1, (h.fr m r hm j hj).2⟩
 ·
  rw [List.getElem?_set] at hm hn
  rw [at_set hil] at hg ⊢
  by_cases e1 : i = m
  ·
   rw [if_pos e1] at hg
   by_cases e2 : i = n
   ·
    exact absurd (e1.symm.trans e2) hmn
   ·
    rw [if_neg e2] at hn ⊢
    intro hg'
    exact hap' n rn hn (fun e3 => e2 e3.symm) g hg' hg
  ·
   rw [if_neg e1] at hg hm
   by_cases e2 : i = n
   ·
    rw [if_pos e2]
    exact hap' m rm hm (fun e3 => e1 e3.symm) g hg
   ·
    rw [if_neg e2] at hn ⊢
    exact h.ap m n _ _ hm hn hmn g hg
 ·
  rcases hj with hj | ⟨_, hj⟩
  ·
   exact Nat.lt_of_lt_of_le (h.old j hj) (Nat.le_trans hk.size ks.size)
  ·
   exact Nat.lt_of_lt_of_le hj ks.size
 ·
  exact hk.trans ks (fun j hj => (hfv j hj).1) fun j hj => .inl (by rw [hj]; exact h.fp)
/-- An element of a row of it is stored. -/
theorem Ob.put (h : Ob ts w t cs rs F) (i : Nat) (e : TypeId) (xs : List Value) (g off n cap : Nat) (hr : rs[i]? = some (e, xs)) (hv : cs[i]? = some (.slice (some ⟨g, off, none⟩) n cap)) (j : Nat) (hj : j < xs.length) (u : Value) :
 Ob ts (w.setCell ⟨g, off + j, none⟩ u) t cs (rs.set i (e, xs.set j u)) F ∧ Keep F w (w.setCell ⟨g, off + j, none⟩ u) := by
 have ks := setCell_keep w g (off + j) u
 have hvi : at_ cs i = .slice (some ⟨g, off, none⟩) n cap := by simp [at_, List.getD_eq_getElem?_getD, hv]
 have hirl : i < rs.length := (List.getElem?_eq_some_iff.1 hr).1
 have hg : F g ∧ g ≠ t := h.fr i _ hr g (by rw [hvi]; rfl)
 refine ⟨⟨?_, fun m r hm => ?_, by simpa using h.len, h.fp, fun m r hm k hk => ?_, fun m n' rm rn hm hn hmn k hk => ?_, fun k hk => Nat.lt_of_lt_of_le (h.old k hk) ks.size⟩, ks.mono fun k hk => by rw [hk]; exact hg.1⟩
 ·
  exact ks.blk h.blk fun e1 => hg.2 e1.symm
 ·
  rw [List.getElem?_set] at hm
  split at hm
  ·
   rename_i e1
   try rw [if_pos hirl] at hm
   cases hm
   subst e1
   have := h.rows i _ hr
   rw [hvi] at this ⊢
   exact this.set j hj u
  ·
   rename_i e1
   exact (h.rows m r hm).keep ks fun k hk e2 => h.ap m i _ _ hm hr (fun e3 => e1 e3.symm) k hk (by rw [hvi, e2]; rfl)
 ·
  rw [List.getElem?_set] at hm
  split at hm
  ·
   rename_i e1
   subst e1
   exact h.fr i _ hr k hk
  ·
   exact h.fr m r hm k hk
 ·
  rw [List.getElem?_set] at hm hn
  have a1 : ∃ r, rs[m]? = some r := by
   split at hm
   ·
    rename_i e1; subst e1; exact ⟨_, hr⟩
   ·
    exact ⟨_, hm⟩
  have a2 : ∃ r, rs[n']? = some r := by
   split at hn
   ·
    rename_i e1; subst e1; exact ⟨_, hr⟩
   ·
    exact ⟨_, hn⟩
  obtain ⟨r1, a1⟩ := a1
  obtain ⟨r2, a2⟩ := a2
  exact h.ap m n' _ _ a1 a2 hmn k hk
/-- A cell of it behind its slices is stored. -/
theorem Ob.other (h : Ob ts w t cs rs F) (i : Nat) (hi : rs.length ≤ i) (hil : i < cs.length) (u : Value) :
 Ob ts (w.setCell ⟨t, i, none⟩ u) t (cs.set i u) rs F ∧ Keep F w (w.setCell ⟨t, i, none⟩ u) := by
 have ks := setCell_keep w t i u
 have hat : ∀ m r, rs[m]? = some r → at_ (cs.set i u) m = at_ cs m := by
  intro m r hm
  rw [at_set hil, if_neg]
  have := (List.getElem?_eq_some_iff.1 hm).1
  omega
 refine ⟨⟨?_, fun m r hm => ?_, by simpa using h.len, h.fp, fun m r hm k hk => ?_, fun m n rm rn hm hn hmn k hk => ?_, fun k hk => Nat.lt_of_lt_of_le (h.old k hk) ks.size⟩, ks.mono fun k hk => by rw [hk]; exact h.fp⟩
 ·
  rw [blk_set h.blk]
  simp
 ·
  rw [hat m r hm]
  exact (h.rows m r hm).keep ks fun k hk => (h.fr m r hm k hk).2
 ·
  rw [hat m r hm] at hk
  exact h.fr m r hm k hk
 ·
  rw [hat m rm hm] at hk
  rw [hat n rn hn]
  exact h.ap m n _ _ hm hn hmn k hk
/-- More may be said to be its own. -/
theorem Ob.more (h : Ob ts w t cs rs F) (hF : ∀ j, F j → G j) (ho : ∀ j, G j → j < w.heap.size) : Ob ts w t cs rs G where
 blk := h.blk
 rows := h.rows
 len := h.len
 fp := hF _ h.fp
 fr := fun i r hr j hj => ⟨hF _ (h.fr i r hr j hj).1, (h.fr i r hr j hj).2⟩
 ap := h.ap
 old := ho
/-- A new one, of no rows. -/
theorem Ob.made (w : World) (ts : TypeId) (cs : List Value) (rs : List (TypeId × List Value)) (hl : rs.length ≤ cs.length) (hr : ∀ i r, rs[i]? = some r → r.2 = [] ∧ at_ cs i = .slice none 0 0) :
 Ob ts (w.alloc (.cells cs.toArray ts)) w.heap.size cs rs (fun j => j = w.heap.size) where
 blk := heap_alloc_new w _
 rows := fun i r h => by
  obtain ⟨h1, h2⟩ := hr i r h
  rw [h1, h2]
  exact .nil _ _
 len := hl
 fp := rfl
 fr := fun i r h j hj => by
  rw [(hr i r h).2] at hj
  cases hj
 ap := fun i j ri rj h1 h2 _ g hg => by
  rw [(hr i ri h1).2] at hg
  cases hg
 old := fun j hj => by
  subst hj
  simp
end Go.Proofs.YtpopohkbffhckaaDoor.MM
