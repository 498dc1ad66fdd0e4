/- The law TermsOnce: from one of its calls to the next one, in memory. -/
import Derived.Test.YtmgbodmpjholiaaOnceT
namespace Go.Proofs.Ytmgbodmpjholiaa.BT
open Go.RowKit Go.Maps Go.Shelf Go.Lib Go.Proofs.YtmgbodmpjholiaaW.PrintWords Go.Proofs.YtmgbodmpjholiaaW.PrintLast Go.Proofs.YtmgbodmpjholiaaW.PrintMore Go.Proofs.Ytmgbodmpjholiaa.MM Go.Proofs.Ytmgbodmpjholiaa.KM Go.Proofs.Ytmgbodmpjholiaa.TM Go.Proofs.Ytmgbodmpjholiaa.RT Go.Proofs.Ytmgbodmpjholiaa.TW
set_option linter.unusedVariables false

variable {sd sd2 sd3 : Side} {w0 w w1 : World} {s u : Nat} {S S2 : List NodeM} {q : Nat}
theorem below_set {B : Nat} {w W : World} (h : Below B w W) {p : Nat} (hp : B ≤ p) (i : Nat) (v : Value) : Below B w (W.setCell ⟨p, i, none⟩ v) :=
  ⟨h.os, h.tape, h.output, by simpa [World.setCell] using h.size, fun k hk => (Below.heap_setCell W ⟨p, i, none⟩ v k (fun (e : k = p) => by omega)).trans (h.block k hk)⟩
theorem told_start {o : OpM} {wr W : World} (h : TwoAt sd w wr s u S S q) (hb : Below wr.heap.size wr W) (hW : W.heap[wr.heap.size]? = some (.cells (opCells (half S o) (.slice none 0 0)).toArray 45 (0, 0))) :
    ToldAt sd w s u S q o wr.heap.size 0 (.slice none 0 0) W :=
  ⟨((h.beside hb (sd2 := Side.obj wr.heap.size (.cells (opCells (half S o) (.slice none 0 0)).toArray 45 (0, 0))) hW (fun j hj => Nat.le_of_eq (hj : j = wr.heap.size).symm)).beside (Below.refl _ _) (sd2 := Side.row 26 (.slice none 0 0) (lits (nearL S o (o.L.take 0)))) (.nil _ _) (fun j hj => by cases hj)).conv (fun h => ⟨⟨h.1.1, h.2⟩, h.1.2⟩) (fun j hj => by
      rcases hj with (hj | hj) | hj
      · exact .inl (.inl hj)
      · exact .inr hj
      · exact .inl (.inr hj)), sd.lt _ h.side, h.bel.size, (fun g hg => by cases hg), Nat.zero_le _⟩
/-- The call of which all is told: the side at its end. -/
abbrev sideTold (sd : Side) (b : Nat) (o : OpM) (vl : Value) : Side := (sd.and (Side.row 26 vl (lits o.L))).and (Side.obj b (.cells (opCells o vl).toArray 45 (0, 0)))
theorem ToldAt.done {o : OpM} {b k : Nat} {vl : Value} {wr : World} (h : ToldAt sd w s u S q o b k vl wr) (hk : k = o.L.length) : TwoAt (sideTold sd b (toldO S o) vl) w (wr.setCell ⟨b, 8, none⟩ (.bool false)) s u S S q := by
  have h2 := h.two
  rw [List.take_of_length_le (Nat.le_of_eq hk.symm)] at h2
  have hbx := h.box
  exact h2.turn (sd3 := Side.obj b (.cells (opCells (toldO S o) vl).toArray 45 (0, 0))) (setCell_keep wr b 8 (.bool false)) (fun j hj e => by
    have h2 : j = b := e
    rcases hj with hj | hj
    · have := h.sdb j hj
      omega
    · have := h.fresh j hj
      omega) (fun j hj => by have h2 : j = b := hj; have := h.base; omega) ((blk_set hbx 8 _).trans (by simp [toldO, half])) (fun j hj => .inl hj)
abbrev sideOnce (vx vc : Value) (T : List (OpM × Int)) (A : Nat → Prop) : Side := (Side.row 26 vx (lits (T.map (·.2)))).and (sideOps vc (T.map (·.1)) A)
theorem OnceAt.skip {i b : Nat} {T : List (OpM × Int)} {vx vc vl : Value} {A : Nat → Prop} {wr w4 : World} {o o' : OpM} (h : OnceAt w s u i S T vx vc wr) (h4 : TwoAt (sideTold (sideOnce vx vc T A) b o' vl) w w4 s u (madeM S o).2.2 (madeM S o).2.2 (6000 + 2000 * (i + 1)))
    (dx : ∀ j, vx.ownBlock = some j → ¬ (sideOps vc (T.map (·.1)) A).D j) (bo : ∀ j, (sideOps vc (T.map (·.1)) A).D j → w.heap.size ≤ j) (bx : ∀ j, vx.ownBlock = some j → w.heap.size ≤ j) : OnceAt w s u (i + 1) (madeM S o).2.2 T vx vc w4 :=
  ⟨⟨A, h4.drop.drop, dx, bx, bo⟩, h.good.made o, fun p hp => (h.told p hp).more o, h.wf, Nat.le_succ_of_le h.len⟩
theorem OnceAt.push {i b : Nat} {T : List (OpM × Int)} {vx vc vl v2 v3 : Value} {A : Nat → Prop} {vs : List Value} {wr w4 w5 w6 w7 w8 : World} {o : OpM} (h : OnceAt w s u i S T vx vc wr) (h4 : TwoAt (sideTold (sideOnce vx vc T A) b o vl) w w4 s u (madeM S o).2.2 (madeM S o).2.2 (6000 + 2000 * (i + 1)))
    (dx : ∀ j, vx.ownBlock = some j → ¬ (sideOps vc (T.map (·.1)) A).D j) (bo : ∀ j, (sideOps vc (T.map (·.1)) A).D j → w.heap.size ≤ j) (bx : ∀ j, vx.ownBlock = some j → w.heap.size ≤ j)
    (sdb : ∀ j, (sideOnce vx vc T A).D j → j < b) (base : w.heap.size ≤ b) (fresh : ∀ g, vl.ownBlock = some g → b < g) (hm : o.m = false) (hw : WfO o) (he : (madeM S o).2.1 = 0)
    (hb5 : Below w4.heap.size w4 w5) (hr6 : Row w6 26 v2 (lits (T.map (·.2)) ++ [Value.int .i64 (madeM S o).1])) (hk6 : Keep (fun g => vx.ownBlock = some g) w5 w6) (hat6 : ∀ g, v2.ownBlock = some g → vx.ownBlock = some g ∨ w5.heap.size ≤ g)
    (hb7 : Below w6.heap.size w6 w7) (a1 : vs.length = T.length) (a3 : ∀ (i : Nat) (m : OpM) (z : Value), (T.map (·.1))[i]? = some m → vs[i]? = some z → Row w4 26 z (lits m.L) ∧ ∀ g, z.ownBlock = some g → A g)
    (hown : w8.ownsRow 0 45 9 v3 (T.length + 1) (flatO (T.map (·.1)) vs ++ opCells o vl)) (hk8 : Keep (fun g => vc.ownBlock = some g) w7 w8) (hat8 : ∀ g, v3.ownBlock = some g → vc.ownBlock = some g ∨ w7.heap.size ≤ g) :
    OnceAt w s u (i + 1) (madeM S o).2.2 (T ++ [(o, (madeM S o).1)]) v2 v3 w8 := by
  have hlx : ∀ g, vx.ownBlock = some g → g < b := fun g hg => sdb g (.inl hg)
  have hlo : ∀ g, (sideOps vc (T.map (·.1)) A).D g → g < b := fun g hg => sdb g (.inr hg)
  have hb4 : b < w4.heap.size := blk_lt h4.side.2
  have hl4 : ∀ g, vl.ownBlock = some g → g < w4.heap.size := fun g hg => h4.side.1.2.lt g hg
  -- the term is put behind x
  have t4 : TwoAt (((sideOps vc (T.map (·.1)) A).and (Side.row 26 vl (lits o.L))).and (Side.row 26 vx (lits (T.map (·.2))))) w w4 s u (madeM S o).2.2 (madeM S o).2.2 (6000 + 2000 * (i + 1)) :=
    h4.drop.conv (fun h => ⟨⟨h.1.2, h.2⟩, h.1.1⟩) (fun j hj => by
      rcases hj with (hj | hj) | hj
      · exact .inl (.inr hj)
      · exact .inr hj
      · exact .inl (.inl hj))
  have t6 := (t4.below hb5).turn (sd3 := Side.row 26 v2 (lits (T.map (·.2)) ++ [Value.int .i64 (madeM S o).1])) hk6 (fun j hj e => by
    rcases hj with hj | hj
    · exact dx j e hj
    · have h1 := hlx j e
      have h2 := fresh j hj
      omega) (fun j hj => bx j hj) hr6 (fun j hj => hat6 j hj)
  have t7 := t6.below hb7
  have t7' : TwoAt ((Side.row 26 v2 (lits (T.map (·.2)) ++ [Value.int .i64 (madeM S o).1])).and ((sideOps vc (T.map (·.1)) A).and (Side.row 26 vl (lits o.L)))) w w7 s u (madeM S o).2.2 (madeM S o).2.2 (6000 + 2000 * (i + 1)) :=
    t7.conv (fun h => ⟨h.2, h.1⟩) (fun j hj => hj.elim .inr .inl)
  have z5 := hb5.size
  have z6 := hk6.size
  have z7 := hb7.size
  have hA : ∀ g, A g → g < b := fun g hg => hlo g (.inr hg)
  have hvc : ∀ g, vc.ownBlock = some g → g < b := fun g hg => hlo g (.inl hg)
  have hOp : Opers w7 vc (T.map (·.1)) A := t7.side.1.1
  have hpush : Opers w8 v3 ((T ++ [(o, (madeM S o).1)]).map (·.1)) (fun g => A g ∨ vl.ownBlock = some g) := by
    rw [List.map_append]
    refine hOp.push hk8 vs (by rw [a1, List.length_map]) (fun k m z hm hz => ?_) (by rw [List.length_map]; exact hown) (fun g hg => hat8 g hg) t7.side.1.2 (fun g hg e => ?_)
    · obtain ⟨y1, y2⟩ := a3 k m z hm hz
      exact ⟨Row.bel ((Row.bel y1 hb5).keep hk6 fun g hg e => dx g e (.inr (y2 g hg))) hb7, y2⟩
    · have h1 := fresh g hg
      have h2 := hvc g e
      omega
  have t8 := t7'.turn (sd3 := sideOps v3 ((T ++ [(o, (madeM S o).1)]).map fun (x : OpM × Int) => x.1) (fun g => A g ∨ vl.ownBlock = some g)) (hk8.mono fun j hj => .inl (.inl hj)) (fun j hj e => by
    rcases hat6 j hj with h1 | h1
    · rcases e with e | e
      · exact dx j h1 e
      · have h2 := hlx j h1
        have h3 := fresh j e
        omega
    · rcases e with e | e
      · have := hlo j e
        omega
      · have := hl4 j e
        omega) (fun j hj => by
    rcases hj with hj | hj
    · exact bo j hj
    · have := fresh j hj
      omega) hpush (fun j hj => by
    rcases hj with hj | hj | hj
    · exact (hat8 j hj).imp (fun h => .inl (.inl h)) id
    · exact .inl (.inl (.inr hj))
    · exact .inl (.inr hj))
  have e2 : lits ((T ++ [(o, (madeM S o).1)]).map (·.2)) = lits (T.map (·.2)) ++ [Value.int .i64 (madeM S o).1] := by simp [lits]
  refine ⟨⟨fun g => A g ∨ vl.ownBlock = some g, by rw [e2]; exact t8, fun j hj e => ?_, fun j hj => ?_, fun j hj => ?_⟩, h.good.made o, fun p hp => ?_, fun p hp => ?_, ?_⟩
  · have hj6 := hr6.lt j hj
    rcases hat6 j hj with h1 | h1
    · have h2 := hlx j h1
      rcases e with e | e | e
      · rcases hat8 j e with e | e
        · exact dx j h1 (.inl e)
        · omega
      · exact dx j h1 (.inr e)
      · have h3 := fresh j e
        omega
    · rcases e with e | e | e
      · rcases hat8 j e with e | e
        · have := hvc j e
          omega
        · omega
      · have := hA j e
        omega
      · have := hl4 j e
        omega
  · rcases hat6 j hj with h1 | h1
    · exact bx j h1
    · omega
  · rcases hj with hj | hj | hj
    · rcases hat8 j hj with e | e
      · exact bo j (.inl e)
      · omega
    · exact bo j (.inr hj)
    · have := fresh j hj
      omega
  · rcases List.mem_append.1 hp with hp | hp
    · exact (h.told p hp).more o
    · rw [List.mem_singleton.1 hp]
      exact Told.made hm he
  · rcases List.mem_append.1 hp with hp | hp
    · exact h.wf p hp
    · rw [List.mem_singleton.1 hp]
      exact hw
  · rw [List.length_append, List.length_singleton]
    exact Nat.succ_le_succ h.len
theorem infoO : (Try.prog.info? 45).map (fun i => (i.zero, i.size, i.bytes)) = some (some (.agg #[.int .i64 0, .int .i64 0, .int .i64 0, .int .i64 0, .slice none 0 0, .int .i64 0, .int .i64 0, .int .i64 0, .bool false]), 9, 88) := by kernel_rfl
/-- An append of a call. -/
theorem wp_app_op (w : World) {ops : Array Oper} {rest : List Oper} {o : Oper} {a : Act} {Q : Exit → Act → World → Prop} (hgd : o.guard = none) (s x : Operand)
    (ho : o.op = .call { callee := .builtin .append, args := #[s, x], argTypes := #[39, 39] })
    (v : Value) (n : Nat) (xs : List Value) (p : Nat) (news : List Value) (hs : a.eval s = v) (hx : a.eval x = .slice (some ⟨p, 0, none⟩) 1 1) (hown : w.ownsRow 0 45 9 v n xs) (hl : news.length = 9) (hnews : ∀ j u, news[j]? = some u → w.cell? ⟨p, j, none⟩ = some u) (h1 : ∀ u ∈ news, u.oneCell' = true) (hn : n ≤ 20000)
    (hK : ∀ v' w', w'.ownsRow 0 45 9 v' (n + 1) (xs ++ news) → w.grownBy w' v.ownBlock → (∀ g, v'.ownBlock = some g → v.ownBlock = some g ∨ w.heap.size ≤ g) → wpList Try.prog ops Q rest (a.put o.dst v') w') :
    wpList Try.prog ops Q (o :: rest) a w := by
  refine wpList_plain hgd fun K hKK => ?_
  obtain ⟨i0, hi0, hz0, hz1, hz2⟩ := info_parts infoO
  obtain ⟨v', w', hr, h2, h3, h4⟩ := app_many 0 _ o.type _ i0 _ 9 88 Try.underlying39 hi0 hz0 hz1 hz2 rfl (by omega) v n xs hown ⟨p, 0, none⟩ 1 1 news (by omega) (fun j u hj => by rw [Addr.add_lit, Nat.zero_add]; exact hnews j u hj) h1 (by simp [maxLen]; omega) (by omega) (Nat.zero_le _)
  unfold Oper.wp execOp
  simp only [ho, resolve, invoke, builtin, Sem.run_bind, Sem.run_pure, Result.andThen_ok, List.map_toArray, List.map_cons, List.map_nil, hs, hx, hr]
  exact hKK _ _ (hK v' w' h2 h3 h4)
/-- Nodes beside. -/
def sideNs (v : Value) (l : List NodeM) (A : Nat → Prop) : Side := ⟨fun w => Nodes w v l A, fun j => v.ownBlock = some j ∨ A j, fun hk hd h => h.keep hk (fun g hg => hd g (.inl hg)) (fun g hg => hd g (.inr hg)), fun w h j hj => hj.elim (h.lt j) (h.old j)⟩
structure AllAt (w : World) (s u : Nat) (S : List NodeM) (q i : Nat) (va : Value) (wr : World) : Prop where
  two : ∃ A, TwoAt (sideNs va (S.take i) A) w wr s u S S q ∧ ∀ j, (sideNs va (S.take i) A).D j → w.heap.size ≤ j
theorem AllAt.start {wr : World} (h : TwoAt Side.nothing w wr s u S S q) : AllAt w s u S q 0 (.slice none 0 0) wr :=
  ⟨fun _ => False, (h.beside (Below.refl _ _) (sd2 := sideNs (.slice none 0 0) (S.take 0) (fun _ => False)) ⟨⟨[], rfl, World.ownsRow_nil _ _ _ _, fun i n x h => by simp at h⟩, fun _ _ h => h, fun _ h => h.elim⟩ (fun j hj => hj.elim (fun e => by cases e) fun h => h.elim)).conv (fun h => h.2) (fun j hj => .inr hj), fun j hj => hj.elim (fun e => by cases e) fun h => h.elim⟩
abbrev sideAll (va : Value) (S : List NodeM) (i : Nat) (A : Nat → Prop) (p : Nat) (n : NodeM) (x : Value) : Side := (sideNs va (S.take i) A).and ((Side.obj p (.cells (head n x).toArray 54 (0, 0))).and (Side.row 26 x (lits n.args)))
theorem AllAt.step {i p : Nat} {n : NodeM} {x va v' : Value} {vs : List Value} {w4 w5 w6 : World} {A : Nat → Prop} (h3 : TwoAt (sideAll va S i A p n x) w w4 s u S S q) (h4 : ∀ j, (sideNs va (S.take i) A).D j → w.heap.size ≤ j) (hD : ∀ j, (sideNs va (S.take i) A).D j → j < p) (hxf : ∀ g, x.ownBlock = some g → w.heap.size ≤ g) (hxn : ∀ g, x.ownBlock = some g → va.ownBlock ≠ some g) (hn : S[i]? = some n)
    (h1 : Below w4.heap.size w4 w5) (a1 : vs.length = i) (a3 : ∀ (k : Nat) (m : NodeM) (z : Value), (S.take i)[k]? = some m → vs[k]? = some z → Row w4 26 z (lits m.args) ∧ ∀ g, z.ownBlock = some g → A g)
    (hown : w6.ownsRow 0 54 5 v' (i + 1) (flat (S.take i) vs ++ head n x)) (hk2 : Keep (fun j => va.ownBlock = some j) w5 w6) (hat : ∀ g, v'.ownBlock = some g → va.ownBlock = some g ∨ w5.heap.size ≤ g) : AllAt w s u S q (i + 1) v' w6 := by
  have hil : i < S.length := (List.getElem?_eq_some_iff.1 hn).1
  have hlen : (S.take i).length = i := by rw [List.length_take]; omega
  have htk : S.take (i + 1) = S.take i ++ [n] := by rw [List.take_add_one, hn]; rfl
  have t5 : TwoAt (Side.nothing.and ((sideNs va (S.take i) A).and (Side.row 26 x (lits n.args)))) w w5 s u S S q := (h3.below h1).conv (fun h => ⟨trivial, h.1, h.2.2⟩) (fun j hj => by
    rcases hj with hj | hj | hj
    · exact hj.elim
    · exact .inl hj
    · exact .inr (.inr hj))
  have hN : Nodes w5 va (S.take i) A := t5.side.2.1
  have hpush := hN.push hk2 vs (by rw [a1, hlen]) (fun k m z hm hz => ⟨Row.bel (a3 k m z hm hz).1 h1, (a3 k m z hm hz).2⟩) (by rw [hlen]; exact hown) hat t5.side.2.2 hxn
  rw [← htk] at hpush
  have t6 := t5.turn (sd3 := sideNs v' (S.take (i + 1)) (fun g => A g ∨ x.ownBlock = some g)) (hk2.mono fun j hj => .inl (.inl hj)) (fun j hj => hj.elim) (fun j hj => hj.elim (h4 j) (hxf j)) hpush (fun j hj => by
    rcases hj with hj | hj | hj
    · exact (hat j hj).imp (fun h => .inl (.inl h)) id
    · exact .inl (.inl (.inr hj))
    · exact .inl (.inr hj))
  refine ⟨fun g => A g ∨ x.ownBlock = some g, t6.conv (fun h => h.2) (fun j hj => .inr hj), fun j hj => ?_⟩
  rcases hj with hj | hj | hj
  · rcases hat j hj with e | e
    · exact h4 j (.inl e)
    · exact Nat.le_trans t5.bel.size e
  · exact h4 j (.inr hj)
  · exact hxf j hj
/-- An append of a node. -/
theorem wp_app_nd (w : World) {ops : Array Oper} {rest : List Oper} {o : Oper} {a : Act} {Q : Exit → Act → World → Prop} (hgd : o.guard = none) (s x : Operand)
    (ho : o.op = .call { callee := .builtin .append, args := #[s, x], argTypes := #[46, 46] })
    (v : Value) (n : Nat) (xs : List Value) (p : Nat) (news : List Value) (hs : a.eval s = v) (hx : a.eval x = .slice (some ⟨p, 0, none⟩) 1 1) (hown : w.ownsRow 0 54 5 v n xs) (hl : news.length = 5) (hnews : ∀ j u, news[j]? = some u → w.cell? ⟨p, j, none⟩ = some u) (h1 : ∀ u ∈ news, u.oneCell' = true) (hn : n ≤ 20000)
    (hK : ∀ v' w', w'.ownsRow 0 54 5 v' (n + 1) (xs ++ news) → w.grownBy w' v.ownBlock → (∀ g, v'.ownBlock = some g → v.ownBlock = some g ∨ w.heap.size ≤ g) → wpList Try.prog ops Q rest (a.put o.dst v') w') :
    wpList Try.prog ops Q (o :: rest) a w := by
  refine wpList_plain hgd fun K hKK => ?_
  obtain ⟨v', w', hr, h2, h3, h4⟩ := app_nodes o.type v n xs hown ⟨p, 0, none⟩ 1 1 news (by omega) (fun j u hj => by rw [Addr.add_lit, Nat.zero_add]; exact hnews j u hj) h1 (by omega)
  unfold Oper.wp execOp
  simp only [ho, resolve, invoke, builtin, Sem.run_bind, Sem.run_pure, Result.andThen_ok, List.map_toArray, List.map_cons, List.map_nil, hs, hx, hr]
  exact hKK _ _ (hK v' w' h2 h3 h4)
theorem opers_nil (w : World) : Opers w (.slice none 0 0) [] (fun _ => False) := ⟨⟨[], rfl, World.ownsRow_nil _ _ _ _, fun i n x h => by simp at h⟩, fun _ _ h => h, fun _ h => h.elim⟩
theorem OnceAt.start {wr : World} (h : TwoAt Side.nothing w wr s u newM newM 6000) : OnceAt w s u 0 newM [] (.slice none 0 0) (.slice none 0 0) wr :=
  ⟨⟨fun _ => False, And.intro ((h.beside (Below.refl _ _) (sd2 := sideOnce (.slice none 0 0) (.slice none 0 0) [] (fun _ => False)) ⟨.nil _ _, opers_nil _⟩ (fun j hj => by rcases hj with hj | hj | hj; cases hj; cases hj; exact hj.elim)).conv (fun h => h.2) (fun j hj => .inr hj)) (And.intro (fun j hj => by cases hj) (And.intro (fun j hj => by cases hj) (fun j hj => by rcases hj with hj | hj; cases hj; exact hj.elim)))⟩, TM.Good.new, fun p hp => by simp at hp, fun p hp => by simp at hp, Nat.zero_le _⟩
end Go.Proofs.Ytmgbodmpjholiaa.BT
