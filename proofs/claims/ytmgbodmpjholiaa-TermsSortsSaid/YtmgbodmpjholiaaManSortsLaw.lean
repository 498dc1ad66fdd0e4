/- Walk of the law TermsSorts (printed by wip/tools/sorts.py). -/
import Derived.Test.YtmgbodmpjholiaaOpsT
import Derived.Test.YtmgbodmpjholiaaTermPG
import Derived.Deep.Cut
import Derived.Deep.CutRange
namespace Go.Proofs.Ytmgbodmpjholiaa.Hk
open Go.RowKit Go.Maps Go.Shelf Go.Lib Go.Proofs.YtmgbodmpjholiaaW.PrintWords Go.Proofs.YtmgbodmpjholiaaW.PrintLast Go.Proofs.YtmgbodmpjholiaaW.PrintMore Go.Proofs.Ytmgbodmpjholiaa.MM Go.Proofs.Ytmgbodmpjholiaa.KM Go.Proofs.Ytmgbodmpjholiaa.TM Go.Proofs.Ytmgbodmpjholiaa.RT Go.Proofs.Ytmgbodmpjholiaa.TW Go.Proofs.Ytmgbodmpjholiaa.BT
attribute [local go_sem ↓] Go.wp_at_zero Go.wp_at_succ
set_option linter.unusedSimpArgs false
set_option linter.unusedVariables false

/-- Nodes beside. -/
def sideNodes (v : Value) (l : List NodeM) (A : Nat → Prop) : Side := ⟨fun w => Nodes w v l A, fun j => v.ownBlock = some j ∨ A j, fun hk hd h => h.keep hk (fun g hg => hd g (.inl hg)) (fun g hg => hd g (.inr hg)), fun w h j hj => hj.elim (h.lt j) (h.old j)⟩
/-- The calls so far. -/
structure CallsAt (w : World) (s u i : Nat) (S : List NodeM) (wr : World) : Prop where
  two : TwoAt Side.nothing w wr s u S S (6000 + 2000 * i)
  good : TM.Good S
abbrev sideN (p : Nat) (n : NodeM) (x : Value) : Side := Side.nothing.and ((Side.obj p (.cells (head n x).toArray 54 (0, 0))).and (Side.row 26 x (lits n.args)))
def argN (S : List NodeM) (xs : List Int) : List NodeM := xs.map (nodeM S)
structure ArgsAt (w : World) (s u : Nat) (S : List NodeM) (q p B : Nat) (n : NodeM) (x : Value) (k : Nat) (va : Value) (wr : World) : Prop where
  two : ∃ A, TwoAt ((sideN p n x).and (sideNodes va (argN S (n.args.take k)) A)) w wr s u S S q ∧ ∀ j, (sideNodes va (argN S (n.args.take k)) A).D j → B ≤ j
  base : w.heap.size ≤ B
  bw : B ≤ wr.heap.size
  low : ∀ j, (sideN p n x).D j → j < B
  kl : k ≤ n.args.length
theorem argN_len (S : List NodeM) (xs : List Int) : (argN S xs).length = xs.length := by simp [argN]
theorem argN_snoc (S : List NodeM) (l : List Int) (k : Nat) (h : k < l.length) : argN S (l.take (k + 1)) = argN S (l.take k) ++ [nodeM S (l.getD k 0)] := by
  rw [take_snoc _ _ h]
  simp [argN]
theorem argN_get (S : List NodeM) (l : List Int) (k : Nat) (h : k < l.length) : (argN S l)[k]? = some (nodeM S (l.getD k 0)) := by
  simp [argN, h]
theorem ArgsAt.step {w : World} {s u : Nat} {S : List NodeM} {q p B : Nat} {n : NodeM} {x y : Value} {k : Nat} {va v' : Value} {wr w1 w2 : World} {A : Nat → Prop} {vs : List Value} (h : ArgsAt w s u S q p B n x k va wr) (h3 : TwoAt ((sideN p n x).and (sideNodes va (argN S (n.args.take k)) A)) w wr s u S S q) (h4 : ∀ j, (sideNodes va (argN S (n.args.take k)) A).D j → B ≤ j)
    (hk : k < n.args.length) (h1 : Below wr.heap.size wr w1) (hy : Row w1 26 y (lits (nodeM S (n.args.getD k 0)).args)) (hyf : ∀ g, y.ownBlock = some g → wr.heap.size ≤ g)
    (a1 : vs.length = k) (a3 : ∀ (i : Nat) (m : NodeM) (z : Value), (argN S (n.args.take k))[i]? = some m → vs[i]? = some z → Row wr 26 z (lits m.args) ∧ ∀ g, z.ownBlock = some g → A g)
    (hown : w2.ownsRow 0 54 5 v' (k + 1) (flat (argN S (n.args.take k)) vs ++ head (nodeM S (n.args.getD k 0)) y)) (hk2 : Keep (fun j => va.ownBlock = some j) w1 w2) (hat : ∀ g, v'.ownBlock = some g → va.ownBlock = some g ∨ w1.heap.size ≤ g) :
    ArgsAt w s u S q p B n x (k + 1) v' w2 := by
  have hlen : (argN S (n.args.take k)).length = k := by rw [argN_len, List.length_take]; omega
  have hN0 : Nodes wr va (argN S (n.args.take k)) A := h3.side.2
  have hN1 := hN0.below h1
  have hva := hN0.lt
  have hvy : ∀ g, y.ownBlock = some g → va.ownBlock ≠ some g := fun g hg e => by
    have := hyf g hg
    have := hva g e
    omega
  have hNN := hN1.push hk2 vs (by rw [a1, hlen]) (fun i m z hm hz => ⟨Row.bel (a3 i m z hm hz).1 h1, (a3 i m z hm hz).2⟩) (by rw [hlen]; exact hown) hat hy hvy
  have D : ∀ j, (v'.ownBlock = some j ∨ (A j ∨ y.ownBlock = some j)) → (sideNodes va (argN S (n.args.take k)) A).D j ∨ wr.heap.size ≤ j := fun j hj => by
    rcases hj with e | e | e
    · rcases hat j e with e1 | e1
      · exact .inl (.inl e1)
      · exact .inr (Nat.le_trans h1.size e1)
    · exact .inl (.inr e)
    · exact .inr (hyf j e)
  refine ⟨⟨_, h3.turn (sd3 := sideNodes v' (argN S (n.args.take (k + 1))) (fun g => A g ∨ y.ownBlock = some g)) (((Keep.ofBelow (F := fun j => va.ownBlock = some j) h1).trans hk2 (fun _ h => h) (fun _ h => .inl h)).mono fun j hj => .inl hj) (fun j hj e => by have := h.low j hj; have := h4 j e; omega) (fun j hj => Nat.le_trans h.base (h4 j hj)) (by rw [argN_snoc S _ k hk]; exact hNN) (fun j hj => D j hj), fun j hj => (D j hj).elim (h4 j) fun e => Nat.le_trans h.bw e⟩, h.base, Nat.le_trans h.bw (Nat.le_trans h1.size hk2.size), h.low, hk⟩
theorem wp_app_node (w : World) {ops : Array Oper} {rest : List Oper} {o : Oper} {a : Act} {Q : Exit → Act → World → Prop} (hgd : o.guard = none) (s x : Operand)
    (ho : o.op = .call { callee := .builtin .append, args := #[s, x], argTypes := #[46, 46] })
    (v : Value) (n : Nat) (xs : List Value) (p : Nat) (news : List Value) (hs : a.eval s = v) (hx : a.eval x = .slice (some ⟨p, 0, none⟩) 1 1) (hown : w.ownsRow 0 54 5 v n xs) (hl : news.length = 5) (hnews : ∀ j u, news[j]? = some u → w.cell? ⟨p, j, none⟩ = some u) (h1 : ∀ u ∈ news, u.oneCell' = true) (hn : n ≤ 20000)
    (hK : ∀ v' w', w'.ownsRow 0 54 5 v' (n + 1) (xs ++ news) → w.grownBy w' v.ownBlock → (∀ g, v'.ownBlock = some g → v.ownBlock = some g ∨ w.heap.size ≤ g) → wpList Try.prog ops Q rest (a.put o.dst v') w') :
    wpList Try.prog ops Q (o :: rest) a w := by
  refine wpList_plain hgd fun K hKK => ?_
  obtain ⟨v', w', hr, h2, h3, h4⟩ := app_nodes o.type v n xs hown ⟨p, 0, none⟩ 1 1 news (by omega) (fun j u hj => by rw [Addr.add_lit, Nat.zero_add]; exact hnews j u hj) h1 (by omega)
  unfold Oper.wp execOp
  simp only [ho, resolve, invoke, builtin, Sem.run_bind, Sem.run_pure, Result.andThen_ok, List.map_toArray, List.map_cons, List.map_nil, hs, hx, hr]
  exact hKK _ _ (hK v' w' h2 h3 h4)
set_option maxRecDepth 100000 in
set_option maxHeartbeats 25600000 in
theorem sorts_main (w : World) (A : Option Addr) (c : Nat) (xs : List S45) (h0 : Kd.C k45 w A xs.length xs) (ht : tameB xs 100 = true) (hb : ∀ x ∈ xs, x.f4.length ≤ 17592186043904) (hw : ∀ x ∈ xs, WfO (opOf x)) :
    Calls Try.prog 6 #[.slice A xs.length c] w fun e w' => e = .returned (.bool true) ∧ Below w.heap.size w w' := by
  obtain ⟨N, hN⟩ : ∃ N, N = xs.length := ⟨_, rfl⟩
  have HC := hid h0
  have HN := hid hN
  have hNb : N ≤ 100 := by
    unfold tameB at ht
    simp at ht
    omega
  have HTAME := hid (tame_calls w A c xs 100 h0 (by omega) hb)
  rw [ht, ← hN] at HTAME
  have HNEW := hid (New_at w)
  have HW := hid hw
  rw [← hN]
  clear h0 hN ht hb hw
  go_enter Try.func6, Try.ntmps6
  go_wp2_with fail
  refine HTAME.out.mono ?_
  rintro e w1 ⟨rfl, hb1⟩
  have HB1 := hid hb1
  have HNEW1 := hid (New_at w1)
  clear hb1 HTAME HNEW
  go_wp2_with fail
  refine HNEW1.out.mono ?_
  rintro e w2 ⟨s, rfl, h2⟩
  have HS2 := hid (two_start h2)
  clear h2 HNEW1
  go_wp2_with fail
  refine HS2.out.mono ?_
  rintro e w3 ⟨u, rfl, h3⟩
  have T3 := hid (show TwoAt Side.nothing w w3 s u newM newM 6000 from ⟨TM.bel HB1.out h3.bel, (by
    obtain ⟨F, G, a1, a2, a3, a4⟩ := h3.st
    exact ⟨F, G, a1, a2, fun j hj => ⟨Nat.le_trans HB1.out.size (a3 j hj).1, (a3 j hj).2⟩, fun j hj => ⟨Nat.le_trans HB1.out.size (a4 j hj).1, (a4 j hj).2⟩⟩), trivial⟩)
  clear h3 HS2
  go_wp2_with fail
  go_loopg [5] N (fun left v5 wr => ∃ (i : Nat) (S : List NodeM), left + i = N ∧ v5 = .int .i64 (i : Int) ∧ Hid (CallsAt w s u i S wr))
  case atStart => exact ⟨0, newM, by omega, rfl, hid ⟨T3.out, TM.Good.new⟩⟩
  case round =>
    obtain ⟨i, S, hi, rfl, U⟩ := hrel
    clear T3
    by_cases hiN : i < N
    · have hiI : (i : Int) < (N : Int) := by omega
      cases gk with
      | zero => omega
      | succ left =>
      have hil : i < xs.length := by rw [← HN.out]; exact hiN
      obtain ⟨b, off, A4, c4, rfl, c0, c1, c2, c3, c4', c5, c6, c7, c8, hrd⟩ := ops_cells (C_bel HC.out U.out.two.bel) i hil hil
      have HMADE := hid (made_calls Side.nothing w wr s u S _ (opOf xs[i]) (.slice A4 (opOf xs[i]).L.length c4) U.out.two hrd (HW.out xs[i] (List.getElem_mem hil)) (by omega))
      have HGOOD := hid (U.out.good.made (opOf xs[i]))
      generalize opOf xs[i] = o at c0 c1 c2 c3 c4' c5 c6 c7 c8 HMADE HGOOD
      obtain ⟨LL, hLL⟩ : ∃ LL, LL = o.L.length := ⟨_, rfl⟩
      rw [← hLL] at c4' HMADE
      clear hrd hLL hil hiN
      go_wp2_with fail
      refine HMADE.out.mono ?_
      rintro e w4 ⟨rfl, h4⟩
      have T4 := hid h4
      clear h4 HMADE
      go_wp2_with fail
      go_roundg left
      case measure => omega
      case rel => exact ⟨i + 1, _, by omega, by go_num, hid ⟨T4.out.more (by omega), HGOOD.out⟩⟩
    · obtain rfl : i = N := by omega
      have HGOOD := hid U.out.good
      have TW := hid U.out.two
      have hq : 6000 + 2000 * i ≤ 206000 := by omega
      have hSb : (S.length : Int) ≤ 20000 := by have := TW.out.wf.high; omega
      clear hiN U
      generalize 6000 + 2000 * i = q at TW hq
      obtain ⟨M, hM⟩ : ∃ M, M = S.length := ⟨_, rfl⟩
      have HM := hid hM
      rw [← hM] at hSb
      clear hM
      go_wp2_with fail
      go_loopg [9] M (fun left v9 wr => ∃ i : Nat, left + i = M ∧ v9 = .int .i64 (i : Int) ∧ Hid (TwoAt Side.nothing w wr s u S S q))
      case atStart => exact ⟨0, by omega, rfl, TW⟩
      case round =>
        obtain ⟨i, hi, rfl, V⟩ := hrel
        clear TW
        have HLEN := hid (V.out.readS (P := fun e _ => e = .returned (.int .i64 M)) fun F h => by rw [HM.out]; exact Len_calls wr s S q F h)
        go_wp2_with fail
        refine HLEN.out.mono ?_
        rintro e w5 ⟨rfl, hb5, h5⟩
        have T5 := hid h5
        clear hb5 h5 HLEN V
        by_cases hiM : i < M
        · have hiI : (i : Int) < (M : Int) := by omega
          cases gk with
          | zero => omega
          | succ left2 =>
          have hhas : hasM S (i : Int) = true := has_of (by rw [← HM.out]; exact hiM)
          have HNODE := hid (T5.out.readS (P := ShowN w5 (nodeE S (i : Int)) (hasE S (i : Int))) fun F h => (Node_calls w5 s S q F (i : Int) h).mono fun e w' hh => ⟨hh, (by obtain ⟨x, _, _, _, hb⟩ := hh; exact hb)⟩)
          rw [show nodeE S (i : Int) = nodeM S (i : Int) from if_pos hhas, show hasE S (i : Int) = 0 from if_pos hhas] at HNODE
          have HOK := hid (HGOOD.out.ok i _ (by have := nodes_get hhas; rwa [Int.toNat_natCast] at this))
          have HWN := hid (T5.out.wf.has hhas)
          obtain ⟨nd, hnd⟩ : ∃ nd, nd = nodeM S (i : Int) := ⟨_, rfl⟩
          rw [← hnd] at HNODE HOK HWN
          obtain ⟨no, nf, nn, ns, args⟩ := nd
          obtain ⟨K, hK⟩ : ∃ K, K = args.length := ⟨_, rfl⟩
          have HK := hid hK
          have hKb : K ≤ 2000 := by have := HWN.out.len; rw [hK]; exact this
          clear hnd hK hhas hiM
          go_wp2_with fail
          refine HNODE.out.mono ?_
          rintro e w6 ⟨⟨x, rfl, hrx, hfx, hb6⟩, _, h6⟩
          obtain ⟨ax, cx, rfl, _⟩ := hrx.shape
          rw [show (lits args).length = K from by simp [HK.out]] at hrx hfx
          rw [show (lits (NodeM.mk no nf nn ns args).args).length = K from by simp [HK.out]]
          have T6 := hid h6
          have HRX := hid hrx
          have HFX := hid hfx
          have HB6 := hid hb6
          clear hrx hfx hb6 h6 HNODE
          have hbw7 : Below w5.heap.size w5 (w6.alloc (.cells #[.int .u8 no, .int .i64 nf, .int .i64 nn, .int .i64 ns, .slice ax K cx] 54)) := HB6.out.alloc HB6.out.size _
          have A7 := hid (show ArgsAt w s u S q w6.heap.size (w6.heap.size + 1) ⟨no, nf, nn, ns, args⟩ (.slice ax K cx) 0 (.slice none 0 0) _ from
            ⟨⟨fun _ => False, (T5.out.beside hbw7 (sd2 := (Side.obj w6.heap.size (.cells (head ⟨no, nf, nn, ns, args⟩ (.slice ax K cx)).toArray 54 (0, 0))).and (Side.row 26 (.slice ax K cx) (lits args))) ⟨heap_alloc_new w6 _, HRX.out.alloc _⟩ (fun j hj => hj.elim (fun e => by rw [show j = w6.heap.size from e]; exact HB6.out.size) (fun e => HFX.out j e))).beside (Below.refl _ _) (sd2 := sideNodes (.slice none 0 0) (argN S (args.take 0)) (fun _ => False)) ⟨⟨[], rfl, World.ownsRow_nil _ _ _ _, fun i n x h => by simp [argN] at h⟩, fun _ _ h => h, fun _ h => h.elim⟩ (fun j hj => hj.elim (fun e => by cases e) fun h => h.elim), fun j hj => hj.elim (fun e => by cases e) fun h => h.elim⟩,
              by have := T5.out.bel.size; have := HB6.out.size; omega, by simp, fun j hj => by
                rcases hj with hj | hj | hj
                · exact hj.elim
                · have : j = w6.heap.size := hj
                  omega
                · have := HRX.out.lt j hj
                  omega, by omega⟩)
          clear hbw7
          go_wp2_with fail
          go_loopg [12, 13] K (fun left v12 v13 wr => ∃ (k : Nat) (Aa : Option Addr) (ca : Nat), left + k = K ∧ v12 = .slice Aa k ca ∧ v13 = .int .i64 (k : Int) ∧ Hid (ArgsAt w s u S q w6.heap.size (w6.heap.size + 1) ⟨no, nf, nn, ns, args⟩ (.slice ax K cx) k (.slice Aa k ca) wr))
          case atStart => exact ⟨0, none, 0, by omega, rfl, rfl, A7⟩
          case round =>
            obtain ⟨k, Aa, ca, hk, rfl, rfl, G⟩ := hrel
            clear A7
            obtain ⟨Ag, g3, g4⟩ := G.out.two
            have hbox : wr.heap[w6.heap.size]? = some (.cells #[.int .u8 no, .int .i64 nf, .int .i64 nn, .int .i64 ns, .slice ax K cx] 54 (0, 0)) := g3.side.1.2.1
            have p4 : wr.cell? ⟨w6.heap.size, 4, none⟩ = some (.slice ax K cx) := (blk_cell hbox 4).trans rfl
            by_cases hkK : k < K
            · have hkI : (k : Int) < (K : Int) := by omega
              have hkl : k < args.length := by rw [← HK.out]; exact hkK
              cases gk with
              | zero => omega
              | succ left =>
              obtain ⟨gx, ox, cpx, hv, _, _, _, hcx, _⟩ := (show Row wr 26 (.slice ax K cx) (lits args) from g3.side.1.2.2).cells (by simp; omega)
              injection hv with z1 z2 z3
              subst z1 z3
              have hyc := (hcx k (by simpa using hkl)).trans (lits_get _ _ hkl)
              obtain ⟨y, hy⟩ : ∃ y, y = args.getD k 0 := ⟨_, rfl⟩
              have hyh : hasM S y = true := by rw [hy]; exact HOK.out.has (args.getD k 0) (show args.getD k 0 ∈ args from TM.getD_in hkl)
              have HND := hid ((g3.drop.drop).readS (P := ShowN wr (nodeE S y) (hasE S y)) fun F h => (Node_calls wr s S q F y h).mono fun e w' hh => ⟨hh, (by obtain ⟨x, _, _, _, hb⟩ := hh; exact hb)⟩)
              rw [show nodeE S y = nodeM S y from if_pos hyh, show hasE S y = 0 from if_pos hyh] at HND
              rw [← hy] at hyc
              have HY := hid hy
              obtain ⟨vs, a1, a2, a3⟩ := (show Nodes wr (.slice Aa k ca) (argN S (args.take k)) Ag from g3.side.2).own
              have hlen : (argN S (args.take k)).length = k := by rw [argN_len, List.length_take]; omega
              rw [hlen] at a1 a2
              have HOWN := hid (And.intro a1 (And.intro a2 a3))
              have HG3 := hid g3
              have HG4 := hid g4
              have HKL := hid hkl
              obtain ⟨md, hmd⟩ : ∃ md, md = nodeM S y := ⟨_, rfl⟩
              rw [← hmd] at HND
              obtain ⟨mo, mf, mn, ms, margs⟩ := md
              have HMD := hid hmd
              clear hcx z2 hy hyh a1 a2 a3 hlen g3 g4 hkl hmd hbox
              go_wp2_with fail
              refine HND.out.mono ?_
              rintro e w8 ⟨⟨y1, rfl, hry, hfy, hb8⟩, _, h8⟩
              obtain ⟨ay, cy, rfl, _⟩ := hry.shape
              obtain ⟨KY, hKY⟩ : ∃ KY, KY = (lits (NodeM.mk mo mf mn ms margs).args).length := ⟨_, rfl⟩
              rw [← hKY] at hry hfy ⊢
              have HRY := hid hry
              have HFY := hid hfy
              have HB8 := hid hb8
              clear hry hfy hb8 h8 HND hKY
              go_wp2_with (at_builtin; go_loud (refine wp_app_node _ rfl _ _ rfl (.slice Aa k ca) k (flat (argN S (args.take k)) vs) (w8.heap.size + 1) (head ⟨mo, mf, mn, ms, margs⟩ (.slice ay KY cy)) (by rfl) (by rfl) (TM.own_move HOWN.out.2.1 (fun g hg => (old_alloc _ (by simp; have := (HOWN.out.2.1.lt g hg).2; have := HB8.out.size; omega)).trans ((old_alloc _ (Nat.lt_of_lt_of_le (HOWN.out.2.1.lt g hg).2 HB8.out.size)).trans (HB8.out.block g (HOWN.out.2.1.lt g hg).2)))) rfl (fun j u hj => (blk_cell (show ((w8.alloc (.cells (head ⟨mo, mf, mn, ms, margs⟩ (.slice ay KY cy)).toArray 54)).alloc (.cells (head ⟨mo, mf, mn, ms, margs⟩ (.slice ay KY cy)).toArray 54)).heap[w8.heap.size + 1]? = _ from by have := heap_alloc_new (w8.alloc (.cells (head ⟨mo, mf, mn, ms, margs⟩ (.slice ay KY cy)).toArray 54)) (.cells (head ⟨mo, mf, mn, ms, margs⟩ (.slice ay KY cy)).toArray 54); simpa using this) j).trans (by simpa using hj)) (by simp [Value.oneCell']) (by omega) ?_; intro v2 w9 ho9 hg9 hat9; obtain ⟨a9, c9, rfl⟩ := own_shape ho9; have HO9 := hid ho9; have HGR9 := hid hg9; have HAT9 := hid hat9; clear ho9 hg9 hat9))
              have hbd : Below wr.heap.size wr ((w8.alloc (.cells #[.int .u8 mo, .int .i64 mf, .int .i64 mn, .int .i64 ms, .slice ay KY cy] 54)).alloc (.cells #[.int .u8 mo, .int .i64 mf, .int .i64 mn, .int .i64 ms, .slice ay KY cy] 54)) := (HB8.out.alloc HB8.out.size _).alloc (by simp; have := HB8.out.size; omega) _
              have hmd : nodeM S (args.getD k 0) = ⟨mo, mf, mn, ms, margs⟩ := by rw [← HY.out, ← HMD.out]
              have NX := hid (G.out.step HG3.out HG4.out HKL.out hbd (by rw [hmd]; exact (HRY.out.alloc _).alloc _) HFY.out HOWN.out.1 HOWN.out.2.2 (by rw [hmd]; exact HO9.out) (Keep.ofGrown HGR9.out fun j hj => hj) HAT9.out)
              clear hbd hmd
              go_roundg left
              case measure => omega
              case rel => exact ⟨k + 1, a9, c9, by omega, rfl, by go_num, NX⟩
            · obtain rfl : k = K := by have := G.out.kl; have h1 : K = args.length := HK.out; have h2 : k ≤ args.length := this; omega
              obtain ⟨sdA, hsdA⟩ : ∃ sdA, sdA = (sideN w6.heap.size ⟨no, nf, nn, ns, args⟩ (.slice ax k cx)).and (sideNodes (.slice Aa k ca) (argN S args) Ag) := ⟨_, rfl⟩
              have g3' := g3
              have htk : args.take k = args := List.take_of_length_le (by have h1 : k = args.length := HK.out; omega)
              have g5 : TwoAt sdA w wr s u S S q := by rw [hsdA]; have h9 := g3; rw [show (NodeM.mk no nf nn ns args).args.take k = args from htk] at h9; exact h9
              have HSDA := hid hsdA
              have G5 := hid g5
              clear g3 g3' g4 g5 htk hsdA hbox G hkK hk
              go_wp2_with fail
              go_loopg [16] k (fun left v16 wr => ∃ j : Nat, left + j = k ∧ v16 = .int .i64 (j : Int) ∧ Hid (TwoAt sdA w wr s u S S q))
              case atStart => exact ⟨0, by omega, rfl, G5⟩
              case round =>
                obtain ⟨j, hj, rfl, X⟩ := hrel
                clear G5 p4
                have hsd := X.out.side
                rw [HSDA.out] at hsd
                have hbx : wr.heap[w6.heap.size]? = some (.cells #[.int .u8 no, .int .i64 nf, .int .i64 nn, .int .i64 ns, .slice ax k cx] 54 (0, 0)) := hsd.1.2.1
                have hNd : Nodes wr (.slice Aa k ca) (argN S args) Ag := hsd.2
                have hRw : Row wr 26 (.slice ax k cx) (lits args) := hsd.1.2.2
                have p0 : wr.cell? ⟨w6.heap.size, 0, none⟩ = some (.int .u8 no) := (blk_cell hbx 0).trans rfl
                have p3 : wr.cell? ⟨w6.heap.size, 3, none⟩ = some (.int .i64 ns) := (blk_cell hbx 3).trans rfl
                have p4 : wr.cell? ⟨w6.heap.size, 4, none⟩ = some (.slice ax k cx) := (blk_cell hbx 4).trans rfl
                clear hsd hbx
                have hno := HOK.out.op
                have hno1 : 1 ≤ no := hno.1
                have hno2 : no ≤ 11 := hno.2
                clear hno
                by_cases hjk : j < k
                · have hjI : (j : Int) < (k : Int) := by omega
                  have hjl : j < args.length := by have h1 : k = args.length := HK.out; omega
                  cases gk with
                  | zero => omega
                  | succ left =>
                  obtain ⟨ga, cpa, z, hv, _, hca, _, _⟩ := hNd.cells (argN_get S args j hjl)
                  obtain ⟨ga0, cpa0, z0, hv0, _, hca0, _, _⟩ := hNd.cells (argN_get S args 0 (by omega))
                  injection hv with y1 y2 y3
                  subst y1 y3
                  injection hv0 with y4 y5 y6
                  have hgg : ga0 = ga := by injection y4 with y4; injection y4 with y4 _ _; exact y4.symm
                  subst hgg
                  obtain ⟨gx, ox, cpx, hv1, _, _, _, hcx, _⟩ := hRw.cells (by simp; omega)
                  injection hv1 with y7 y8 y9
                  subst y7 y9
                  have hyc := (hcx j (by simpa using hjl)).trans (lits_get _ _ hjl)
                  obtain ⟨y, hy⟩ : ∃ y, y = args.getD j 0 := ⟨_, rfl⟩
                  rw [← hy] at hyc
                  have m0 := hca 0 _ rfl
                  have m3 := hca 3 _ rfl
                  have m03 := hca0 3 _ rfl
                  rw [← hy] at m0 m3
                  simp only [Nat.zero_mul, Nat.zero_add, Nat.add_zero] at m03 m0
                  obtain ⟨mo, hmo⟩ : ∃ mo, mo = (nodeM S y).op := ⟨_, rfl⟩
                  obtain ⟨ms, hms⟩ : ∃ ms, ms = (nodeM S y).sort := ⟨_, rfl⟩
                  obtain ⟨ms0, hms0⟩ : ∃ ms, ms = (nodeM S (args.getD 0 0)).sort := ⟨_, rfl⟩
                  rw [← hmo] at m0
                  rw [← hms] at m3
                  rw [← hms0] at m03
                  have HMO := hid hmo
                  have HMS := hid (show ms = sortM S y from hms)
                  have HMS0 := hid (show ms0 = sortM S (args.getD 0 0) from hms0)
                  have HY := hid hy
                  have HYM := hid (show y ∈ (NodeM.mk no nf nn ns args).args from by rw [hy]; exact TM.getD_in hjl)
                  have HJL := hid hjl
                  clear y2 y4 y5 y6 y8 hcx hca hca0 hy hmo hms hms0 hNd hRw hjl hjk
                  obtain ⟨bb, hbb⟩ : ∃ bb : Bool, bb = (mo != 3 && mo != 4) := ⟨_, rfl⟩
                  have HBB := hid hbb
                  go_upto_region 28 with fail
                  go_cut [17] from 81 to 182 (fun s17 wx => s17 = .bool bb ∧ wx = wr)
                  case first =>
                    clear hbb
                    by_cases mo3 : mo = 3
                    · have hf := hid (show bb = false by rw [HBB.out, mo3]; rfl)
                      subst mo3
                      go_wp2_with fail
                      go_meet
                      case rel => exact ⟨by rw [hf.out], rfl⟩
                    · by_cases mo4 : mo = 4
                      · have hf := hid (show bb = false by rw [HBB.out, mo4]; rfl)
                        subst mo4
                        go_wp2_with fail
                        go_meet
                        case rel => exact ⟨by rw [hf.out], rfl⟩
                      · have hf := hid (show bb = true by rw [HBB.out]; simp [mo3, mo4])
                        have b3 : (mo != 3) = true := by simpa using mo3
                        have b4 : (mo != 4) = true := by simpa using mo4
                        clear mo3 mo4
                        go_wp2_with fail
                        go_meet
                        case rel => exact ⟨by rw [hf.out], rfl⟩
                  case rest =>
                    obtain ⟨rfl, rfl⟩ := hcut
                    clear hbb
                    by_cases hop1 : no = 1
                    · as_aux_lemma =>
                        have hop := hop1
                        clear hop1
                        clear hno1 hno2
                        rw [hop] at p0
                        clear hop
                        go_wp2_with fail
                        go_roundg left
                        case measure => omega
                        case rel => exact ⟨j + 1, by omega, by go_num, X⟩
                    · have hskip : True := trivial
                      by_cases hop2 : no = 2
                      · as_aux_lemma =>
                          have hop := hop2
                          clear hop2
                          clear hno1 hno2
                          rw [hop] at p0
                          clear hop
                          go_wp2_with fail
                          go_roundg left
                          case measure => omega
                          case rel => exact ⟨j + 1, by omega, by go_num, X⟩
                      · have hskip : True := trivial
                        by_cases hop3 : no = 3
                        · as_aux_lemma =>
                            have hop := hop3
                            clear hop3
                            clear hno1 hno2
                            rw [hop] at p0
                            clear hop
                            go_wp2_with fail
                            go_roundg left
                            case measure => omega
                            case rel => exact ⟨j + 1, by omega, by go_num, X⟩
                        · have hskip : True := trivial
                          by_cases hop4 : no = 4
                          · as_aux_lemma =>
                              have hop := hop4
                              clear hop4
                              clear hno1 hno2
                              have h0 := (HOK.out.plus hop).2 y HYM.out
                              have h1 : ms = 1 := by rw [HMS.out]; exact h0.1
                              have hbt : bb = true := by rw [HBB.out, HMO.out]; have h2 := h0.2.1; have h3 := h0.2.2; simp [h2, h3]
                              subst h1
                              rw [hop] at p0
                              clear hop h0
                              go_wp2_with fail
                              go_roundg left
                              case measure => omega
                              case rel => exact ⟨j + 1, by omega, by go_num, X⟩
                          · have hskip : True := trivial
                            by_cases hop5 : no = 5
                            · as_aux_lemma =>
                                have hop := hop5
                                clear hop5
                                clear hno1 hno2
                                rw [hop] at p0
                                clear hop
                                go_wp2_with fail
                                go_roundg left
                                case measure => omega
                                case rel => exact ⟨j + 1, by omega, by go_num, X⟩
                            · have hskip : True := trivial
                              by_cases hop6 : no = 6
                              · as_aux_lemma =>
                                  have hop := hop6
                                  clear hop6
                                  clear hno1 hno2
                                  rw [show no = 6 from hop] at p0
                                  by_cases hj0 : j = 0
                                  · have h0 : ms = 0 := by rw [HMS.out, HY.out, hj0]; exact (HOK.out.ite hop).2.1
                                    have ej : ((j : Int) == 0) = true := by simp; omega
                                    have ej2 : ¬ (j : Int) > 0 := by omega
                                    have ej3 : ¬ 0 < j := by omega
                                    subst h0
                                    clear hj0
                                    clear hop
                                    go_wp2_with fail
                                    go_quiet (fail)
                                    go_wp2_with fail
                                    go_roundg left
                                    case measure => omega
                                    case rel => exact ⟨j + 1, by omega, by go_num, hid (X.out.below (pw_below_drewN (Below.refl _ _) _))⟩
                                  · have h0 : (ms != ns) = false := by
                                      have h1 := (HOK.out.ite hop).2.2 j (by omega) HJL.out
                                      have h2 : sortM S (args.getD j 0) = ns := h1
                                      rw [← HY.out, ← HMS.out] at h2
                                      simpa using h2
                                    have ej : ((j : Int) == 0) = false := by simp; omega
                                    have ej2 : (j : Int) > 0 := by omega
                                    have ej3 : 0 < j := by omega
                                    clear hj0
                                    clear hop
                                    go_wp2_with fail
                                    go_quiet (fail)
                                    go_wp2_with fail
                                    go_roundg left
                                    case measure => omega
                                    case rel => exact ⟨j + 1, by omega, by go_num, hid (X.out.below (pw_below_drewN (Below.refl _ _) _))⟩
                              · have hskip : True := trivial
                                by_cases hop7 : no = 7
                                · as_aux_lemma =>
                                    have hop := hop7
                                    clear hop7
                                    clear hno1 hno2
                                    have h0 : (ms != ms0) = false := by have h1 := (HOK.out.eq hop).2 y HYM.out; have h2 : sortM S y = sortM S (args.getD 0 0) := h1; rw [← HMS.out, ← HMS0.out] at h2; simpa using h2
                                    rw [hop] at p0
                                    clear hop
                                    go_wp2_with fail
                                    go_quiet (fail)
                                    go_wp2_with fail
                                    go_roundg left
                                    case measure => omega
                                    case rel => exact ⟨j + 1, by omega, by go_num, hid (X.out.below (pw_below_drewN (Below.refl _ _) _))⟩
                                · have hskip : True := trivial
                                  by_cases hop8 : no = 8
                                  · as_aux_lemma =>
                                      have hop := hop8
                                      clear hop8
                                      clear hno1 hno2
                                      have h0 := (HOK.out.le hop).2 y HYM.out
                                      have h1 : ms = 1 := by rw [HMS.out]; exact h0.1
                                      subst h1
                                      rw [hop] at p0
                                      clear hop
                                      cases hbt : bb with
                                      | true =>
                                        clear h0
                                        go_wp2_with fail
                                        go_roundg left
                                        case measure => omega
                                        case rel => exact ⟨j + 1, by omega, by go_num, X⟩
                                      | false =>
                                        have hy2 : y = 2 := by
                                          rcases h0.2 with h1 | h1
                                          · have h2 := HBB.out
                                            rw [hbt, HMO.out] at h2
                                            simp [h1.1, h1.2] at h2
                                          · exact h1
                                        have e2 : (y != 2) = false := by simpa using hy2
                                        clear h0 hy2
                                        go_wp2_with fail
                                        go_roundg left
                                        case measure => omega
                                        case rel => exact ⟨j + 1, by omega, by go_num, X⟩
                                  · have hskip : True := trivial
                                    by_cases hop9 : no = 9
                                    · as_aux_lemma =>
                                        have hop := hop9
                                        clear hop9
                                        clear hno1 hno2
                                        have h0 : ms = 0 := by rw [HMS.out]; exact HOK.out.bool (by show no = 9 ∨ no = 10 ∨ no = 11; omega) y HYM.out
                                        subst h0
                                        rw [hop] at p0
                                        clear hop
                                        go_wp2_with fail
                                        go_roundg left
                                        case measure => omega
                                        case rel => exact ⟨j + 1, by omega, by go_num, X⟩
                                    · have hskip : True := trivial
                                      by_cases hop10 : no = 10
                                      · as_aux_lemma =>
                                          have hop := hop10
                                          clear hop10
                                          clear hno1 hno2
                                          have h0 : ms = 0 := by rw [HMS.out]; exact HOK.out.bool (by show no = 9 ∨ no = 10 ∨ no = 11; omega) y HYM.out
                                          subst h0
                                          rw [hop] at p0
                                          clear hop
                                          go_wp2_with fail
                                          go_roundg left
                                          case measure => omega
                                          case rel => exact ⟨j + 1, by omega, by go_num, X⟩
                                      · have hskip : True := trivial
                                        by_cases hop11 : no = 11
                                        · as_aux_lemma =>
                                            have hop := hop11
                                            clear hop11
                                            clear hno1 hno2
                                            have h0 : ms = 0 := by rw [HMS.out]; exact HOK.out.bool (by show no = 9 ∨ no = 10 ∨ no = 11; omega) y HYM.out
                                            subst h0
                                            rw [hop] at p0
                                            clear hop
                                            go_wp2_with fail
                                            go_roundg left
                                            case measure => omega
                                            case rel => exact ⟨j + 1, by omega, by go_num, X⟩
                                        · have hskip : True := trivial
                                          exact absurd hno2 (by omega)
                · have HE := hid (show j = k by omega)
                  have HTX := hid (show TwoAt Side.nothing w wr s u S S q from by
                    have h9 := X.out
                    rw [HSDA.out] at h9
                    exact h9.drop.drop)
                  have hge : ¬ (j : Int) < (k : Int) := by omega
                  have hKI : k = args.length := HK.out
                  have HKI := hid hKI
                  clear hjk hKI hNd hRw
                  by_cases hop1 : no = 1
                  · as_aux_lemma =>
                      have hop := hop1
                      clear hop1
                      clear hno1 hno2
                      have HOP := hid hop
                      rw [hop] at p0
                      clear hop
                      go_wp2_with fail
                      go_roundg left2
                      case measure => omega
                      case rel => exact ⟨i + 1, by omega, by go_num, HTX⟩
                  · have hskip : True := trivial
                    by_cases hop2 : no = 2
                    · as_aux_lemma =>
                        have hop := hop2
                        clear hop2
                        clear hno1 hno2
                        have HOP := hid hop
                        rw [hop] at p0
                        clear hop
                        go_wp2_with fail
                        go_roundg left2
                        case measure => omega
                        case rel => exact ⟨i + 1, by omega, by go_num, HTX⟩
                    · have hskip : True := trivial
                      by_cases hop3 : no = 3
                      · as_aux_lemma =>
                          have hop := hop3
                          clear hop3
                          clear hno1 hno2
                          have HOP := hid hop
                          rw [hop] at p0
                          clear hop
                          go_wp2_with fail
                          go_roundg left2
                          case measure => omega
                          case rel => exact ⟨i + 1, by omega, by go_num, HTX⟩
                      · have hskip : True := trivial
                        by_cases hop4 : no = 4
                        · as_aux_lemma =>
                            have hop := hop4
                            clear hop4
                            clear hno1 hno2
                            have HOP := hid hop
                            rw [hop] at p0
                            clear hop
                            go_wp2_with fail
                            go_roundg left2
                            case measure => omega
                            case rel => exact ⟨i + 1, by omega, by go_num, HTX⟩
                        · have hskip : True := trivial
                          by_cases hop5 : no = 5
                          · as_aux_lemma =>
                              have hop := hop5
                              clear hop5
                              clear hno1 hno2
                              have HOP := hid hop
                              rw [hop] at p0
                              clear hop
                              go_wp2_with fail
                              go_roundg left2
                              case measure => omega
                              case rel => exact ⟨i + 1, by omega, by go_num, HTX⟩
                          · have hskip : True := trivial
                            by_cases hop6 : no = 6
                            · as_aux_lemma =>
                                have hop := hop6
                                clear hop6
                                clear hno1 hno2
                                have HOP := hid hop
                                rw [hop] at p0
                                have eK : ((k : Int) != 3) = false := by have h1 := (HOK.out.ite hop).1; have h2 : args.length = 3 := h1; have := HKI.out; simp; omega
                                clear hop
                                go_wp2_with fail
                                go_roundg left2
                                case measure => omega
                                case rel => exact ⟨i + 1, by omega, by go_num, HTX⟩
                            · have hskip : True := trivial
                              by_cases hop7 : no = 7
                              · as_aux_lemma =>
                                  have hop := hop7
                                  clear hop7
                                  clear hno1 hno2
                                  have HOP := hid hop
                                  rw [hop] at p0
                                  have eK : ((k : Int) != 2) = false := by have h1 := (HOK.out.eq hop).1; have h2 : args.length = 2 := h1; have := HKI.out; simp; omega
                                  have h0 : (ns != 0) = false := by have h1 : ns = 0 := HOK.out.sort0 (by show no = 7 ∨ no = 8 ∨ 9 ≤ no; omega); simpa using h1
                                  clear hop
                                  go_wp2_with fail
                                  go_roundg left2
                                  case measure => omega
                                  case rel => exact ⟨i + 1, by omega, by go_num, HTX⟩
                              · have hskip : True := trivial
                                by_cases hop8 : no = 8
                                · as_aux_lemma =>
                                    have hop := hop8
                                    clear hop8
                                    clear hno1 hno2
                                    have HOP := hid hop
                                    rw [hop] at p0
                                    have eK : ((k : Int) != 2) = false := by have h1 := (HOK.out.le hop).1; have h2 : args.length = 2 := h1; have := HKI.out; simp; omega
                                    have h0 : (ns != 0) = false := by have h1 : ns = 0 := HOK.out.sort0 (by show no = 7 ∨ no = 8 ∨ 9 ≤ no; omega); simpa using h1
                                    clear hop
                                    go_wp2_with fail
                                    go_roundg left2
                                    case measure => omega
                                    case rel => exact ⟨i + 1, by omega, by go_num, HTX⟩
                                · have hskip : True := trivial
                                  by_cases hop9 : no = 9
                                  · as_aux_lemma =>
                                      have hop := hop9
                                      clear hop9
                                      clear hno1 hno2
                                      have HOP := hid hop
                                      rw [hop] at p0
                                      have eK : ((k : Int) != 1) = false := by have h1 := HOK.out.not hop; have h2 : args.length = 1 := h1; have := HKI.out; simp; omega
                                      have h0 : (ns != 0) = false := by have h1 : ns = 0 := HOK.out.sort0 (by show no = 7 ∨ no = 8 ∨ 9 ≤ no; omega); simpa using h1
                                      clear hop
                                      go_wp2_with fail
                                      go_roundg left2
                                      case measure => omega
                                      case rel => exact ⟨i + 1, by omega, by go_num, HTX⟩
                                  · have hskip : True := trivial
                                    by_cases hop10 : no = 10
                                    · as_aux_lemma =>
                                        have hop := hop10
                                        clear hop10
                                        clear hno1 hno2
                                        have HOP := hid hop
                                        rw [hop] at p0
                                        have eK : ¬ (k : Int) < 2 := by have h1 := HOK.out.many (by show no = 10 ∨ no = 11; omega); have h2 : 2 ≤ args.length := h1; have := HKI.out; omega
                                        have h0 : (ns != 0) = false := by have h1 : ns = 0 := HOK.out.sort0 (by show no = 7 ∨ no = 8 ∨ 9 ≤ no; omega); simpa using h1
                                        clear hop
                                        go_wp2_with fail
                                        go_roundg left2
                                        case measure => omega
                                        case rel => exact ⟨i + 1, by omega, by go_num, HTX⟩
                                    · have hskip : True := trivial
                                      by_cases hop11 : no = 11
                                      · as_aux_lemma =>
                                          have hop := hop11
                                          clear hop11
                                          clear hno1 hno2
                                          have HOP := hid hop
                                          rw [hop] at p0
                                          have eK : ¬ (k : Int) < 2 := by have h1 := HOK.out.many (by show no = 10 ∨ no = 11; omega); have h2 : 2 ≤ args.length := h1; have := HKI.out; omega
                                          have h0 : (ns != 0) = false := by have h1 : ns = 0 := HOK.out.sort0 (by show no = 7 ∨ no = 8 ∨ 9 ≤ no; omega); simpa using h1
                                          clear hop
                                          go_wp2_with fail
                                          go_roundg left2
                                          case measure => omega
                                          case rel => exact ⟨i + 1, by omega, by go_num, HTX⟩
                                      · have hskip : True := trivial
                                        exact absurd hno2 (by omega)
        · have HEND := hid T5.out.bel
          have HKN := hid (known_calls w5)
          have hge : ¬ (i : Int) < (M : Int) := by omega
          clear hiM
          go_wp2_with fail
          refine HKN.out.mono ?_
          rintro e w9 ⟨rfl, b9⟩
          go_wp2_with fail
          go_ret
          exact ⟨rfl, TM.bel HEND.out b9⟩
end Go.Proofs.Ytmgbodmpjholiaa.Hk
