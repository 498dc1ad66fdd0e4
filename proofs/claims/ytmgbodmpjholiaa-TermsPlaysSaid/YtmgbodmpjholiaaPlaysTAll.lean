/- The law's same: all nodes of both stores; and from a store to its copy (printed by wip/tools/samet.py). Walk of the law TermsPlays (printed by wip/tools/playst.py). The law TermsPlays, joined: every list of calls. -/
import Derived.Test.YtmgbodmpjholiaaTermQ
import Derived.Test.YtmgbodmpjholiaaTwoT
import Derived.Test.YtmgbodmpjholiaaOnceT
import Derived.Deep.Cut
import Derived.Test.YtmgbodmpjholiaaOpsAt
import Derived.Test.YtmgbodmpjholiaaOkO
namespace Go.Proofs.Ytmgbodmpjholiaa.BT
open Go.RowKit Go.Maps Go.Shelf Go.Lib Go.Proofs.YtmgbodmpjholiaaW.PrintWords Go.Proofs.YtmgbodmpjholiaaW.PrintLast Go.Proofs.YtmgbodmpjholiaaW.PrintMore Go.Proofs.Ytmgbodmpjholiaa.MM Go.Proofs.Ytmgbodmpjholiaa.KM Go.Proofs.Ytmgbodmpjholiaa.TM Go.Proofs.Ytmgbodmpjholiaa.RT Go.Proofs.Ytmgbodmpjholiaa.TW
attribute [local go_sem ↓] Go.wp_at_zero Go.wp_at_succ
set_option linter.unusedSimpArgs false
set_option linter.unusedVariables false

set_option maxRecDepth 100000 in
set_option maxHeartbeats 12800000 in
theorem sameT_calls (sd : Side) (w0 w : World) (s u : Nat) (S : List NodeM) (q : Nat) (h : TwoAt sd w0 w s u S S q) :
    Calls Try.prog 23 #[ptr s, ptr u] w fun e w' => e = .returned (.bool true) ∧ TwoAt sd w0 w' s u S S q := by
  have HT := hid h
  obtain ⟨M, hM⟩ : ∃ M, M = S.length := ⟨_, rfl⟩
  obtain ⟨au, cu, hcu, hult⟩ : ∃ a c, w.cell? ⟨u, 0, none⟩ = some (.slice a M c) ∧ u < w.heap.size := by
    obtain ⟨F, G, h1, h2, h3, h4⟩ := h.st
    rw [hM]
    exact rs_at h2
  have hMb : (M : Int) ≤ 20000 := by have := h.wf.high; omega
  have hbd : Below w.heap.size w w.drew := ⟨rfl, rfl, rfl, Nat.le_refl _, fun _ _ => rfl⟩
  have HLEN := hid ((h.below hbd).readS (P := fun e _ => e = .returned (.int .i64 M)) fun F h => by rw [hM]; exact Len_calls w.drew s S q F h)
  have HM := hid hM
  clear h hM hbd
  go_enter Try.func23, Try.ntmps23
  go_wp2_with fail
  refine wp_region_noPanic ?_
  refine start_ (n := 8) (S := (fun w' => w'.cell? ⟨u, 0, none⟩ = some (.slice au M cu) ∧ True)) (ds := []) #[false, false, false, false, false, false, false, false] (by kernel_rfl) rfl rfl ⟨hcu, trivial⟩ (fun hHeld => ?_)
  refine take_ (i := 0) (N := some 17) (v := ?_) (a' := ?_) #[true, false, false, false, false, false, false, false] rfl rfl (by kernel_rfl) (fun _ _ _ h => h) (Or.inl ⟨by rfl, ?_⟩) hHeld ?_ ?_   -- move (%0)
  rotate_left
  · rintro w' ⟨s0, s1⟩
    go_simp
    with_reducible rfl
  rotate_left
  · simp only [Act.put, List.setIfInBounds_toArray, List.set_cons_zero, List.set_cons_succ]
    rfl
  refine take_ (i := 2) (N := some 19) (v := ?_) (a' := ?_) #[true, false, true, false, false, false, false, false] rfl rfl (by kernel_rfl) (fun _ _ _ h => h) (Or.inl ⟨by rfl, ?_⟩) hHeld ?_ ?_   -- move (%1)
  rotate_left
  · rintro w' ⟨s0, s1⟩
    go_simp
    with_reducible rfl
  rotate_left
  · simp only [Act.put, List.setIfInBounds_toArray, List.set_cons_zero, List.set_cons_succ]
    rfl
  refine take_ (i := 3) (N := some 20) (v := ?_) (a' := ?_) #[true, false, true, true, false, false, false, false] rfl rfl (by kernel_rfl) (fun _ _ _ h => h) (Or.inl ⟨by rfl, ?_⟩) hHeld ?_ ?_   -- nilCheck (%19)
  rotate_left
  · rintro w' ⟨s0, s1⟩
    go_simp
    with_reducible rfl
  rotate_left
  · simp only [Act.put, List.setIfInBounds_toArray, List.set_cons_zero, List.set_cons_succ]
    rfl
  refine take_ (i := 4) (N := some 21) (v := ?_) (a' := ?_) #[true, false, true, true, true, false, false, false] rfl rfl (by kernel_rfl) (fun _ _ _ h => h) (Or.inl ⟨by rfl, ?_⟩) hHeld ?_ ?_   -- fieldAddr 48 (%20) 0
  rotate_left
  · rintro w' ⟨s0, s1⟩
    go_simp
    with_reducible rfl
  rotate_left
  · simp only [Act.put, List.setIfInBounds_toArray, List.set_cons_zero, List.set_cons_succ]
    rfl
  refine take_ (i := 5) (N := some 22) (v := ?_) (a' := ?_) #[true, false, true, true, true, true, false, false] rfl rfl (by kernel_rfl) (fun _ _ _ h => h) (Or.inl ⟨by rfl, ?_⟩) hHeld ?_ ?_   -- load 46 (%21)
  rotate_left
  · rintro w' ⟨s0, s1⟩
    go_simp
    with_reducible rfl
  rotate_left
  · simp only [Act.put, List.setIfInBounds_toArray, List.set_cons_zero, List.set_cons_succ]
    rfl
  refine take_ (i := 6) (N := some 23) (v := ?_) (a' := ?_) #[true, false, true, true, true, true, true, false] rfl rfl (by kernel_rfl) (fun _ _ _ h => h) (Or.inl ⟨by rfl, ?_⟩) hHeld ?_ ?_   -- call { callee := builtin len, args := #[%22], argTypes := #[
  rotate_left
  · rintro w' ⟨s0, s1⟩
    go_simp
    with_reducible rfl
  rotate_left
  · simp only [Act.put, List.setIfInBounds_toArray, List.set_cons_zero, List.set_cons_succ]
    rfl
  refine one_ (i := 1) (N := some 18) #[true, true, true, true, true, true, true, false] rfl rfl (by kernel_rfl) (by decide) (fun K hK => ?_)
  refine call_ 15 #[ptr s] (by rfl) rfl (by go_simp; first | done | rfl) ?_
  refine HLEN.out.mono ?_
  rintro e w1 ⟨rfl, hb1, h1⟩
  refine ⟨_, rfl, ?_⟩
  refine hK.out _ _ ⟨(hb1.cell (p := ⟨u, 0, none⟩) hult).trans hcu, trivial⟩ (fun hHeld => ?_)
  refine norm_ (a' := ?_) ?_ ?_
  rotate_left
  · simp only [Act.put, List.setIfInBounds_toArray, List.set_cons_zero, List.set_cons_succ]
    rfl
  refine take_ (i := 7) (N := some 24) (v := ?_) (a' := ?_) #[true, true, true, true, true, true, true, true] rfl rfl (by kernel_rfl) (fun _ _ _ h => h) (Or.inl ⟨by rfl, ?_⟩) hHeld ?_ ?_   -- binOp neq 3 (%18) (%23) 3
  rotate_left
  · rintro w' ⟨s0, s1⟩
    go_simp
    with_reducible rfl
  rotate_left
  · simp only [Act.put, List.setIfInBounds_toArray, List.set_cons_zero, List.set_cons_succ]
    rfl
  refine done_ (by kernel_rfl) ?_
  try simp only [NoPanic, Exit.then]
  have T1 := hid h1
  clear hHeld hb1 h1 HLEN HT hcu hult
  have eM : ((M : Int) != (M : Int)) = false := by simp
  go_wp2_with fail
  go_loopg [5] (M + 2) (fun left v5 wr => ∃ (k : Nat) (a : Int), left + k = M + 2 ∧ v5 = .int .i64 a ∧ Hid (a = (k : Int) - 1 ∧ TwoAt sd w0 wr s u S S q))
  case atStart => exact ⟨0, -1, by omega, rfl, hid ⟨rfl, T1.out⟩⟩
  case round =>
    obtain ⟨k, a, hk, rfl, X⟩ := hrel
    clear T1 eM
    obtain ⟨au, cu, hcu, hult⟩ : ∃ a c, wr.cell? ⟨u, 0, none⟩ = some (.slice a M c) ∧ u < wr.heap.size := by
      obtain ⟨F, G, h1, h2, h3, h4⟩ := X.out.2.st
      rw [HM.out]
      exact rs_at h2
    by_cases hkM : k < M + 2
    · have haI : a ≤ (M : Int) := by have := X.out.1; omega
      have ha1 : -1 ≤ a := by have := X.out.1; omega
      have ha2 : a ≤ 20000 := by omega
      cases gk with
      | zero => omega
      | succ left =>
      have hnode := X.out.2.readS (P := ShowN wr (nodeE S a) (hasE S a)) fun F h => (Node_calls wr s S q F a h).mono fun e w' hh => ⟨hh, (by obtain ⟨x, _, _, _, hb⟩ := hh; exact hb)⟩
      have hnode2 : ∀ W, TwoAt sd w0 W s u S S q → Calls Try.prog 47 #[ptr u, .int .i64 a] W _ := fun W h => h.readR (P := ShowN W (nodeE S a) (hasE S a)) fun G h => (RT.Node_calls W u S G a h).mono fun e w' hh => ⟨hh, (by obtain ⟨x, _, _, _, hb⟩ := hh; exact hb)⟩
      have HSP := hid (fun (W : World) (h : TwoAt sd w0 W s u S S q) => h.readS (P := fun e _ => e = .returned (.tuple #[.int .i64 (splitM S a).1, .int .i64 (splitM S a).2.1, .int .i64 (splitM S a).2.2])) fun F h => Split_calls W s S q F a h)
      have HSP2 := hid (fun (W : World) (h : TwoAt sd w0 W s u S S q) => h.readR (P := fun e _ => e = .returned (.tuple #[.int .i64 (splitM S a).1, .int .i64 (splitM S a).2.1, .int .i64 (splitM S a).2.2])) fun G h => RT.Split_calls W u S G a h)
      obtain ⟨nd, hnd⟩ : ∃ nd, nd = nodeE S a := ⟨_, rfl⟩
      obtain ⟨ec, hec⟩ : ∃ ec, ec = hasE S a := ⟨_, rfl⟩
      obtain ⟨y1, hy1⟩ : ∃ y, y = (splitM S a).1 := ⟨_, rfl⟩
      obtain ⟨y2, hy2⟩ : ∃ y, y = (splitM S a).2.1 := ⟨_, rfl⟩
      obtain ⟨y3, hy3⟩ : ∃ y, y = (splitM S a).2.2 := ⟨_, rfl⟩
      rw [← hnd, ← hec] at hnode hnode2
      rw [← hy1, ← hy2, ← hy3] at HSP HSP2
      have hlen : nd.args.length ≤ 20000 := by
        rw [hnd]
        unfold nodeE
        split
        · rename_i e
          have := (X.out.2.wf.has e).len
          omega
        · simp
      have hsm : sameM nd nd = true := (sameM_iff nd nd).2 rfl
      obtain ⟨no, nf, nn, ns, args⟩ := nd
      obtain ⟨K, hK⟩ : ∃ K, K = args.length := ⟨_, rfl⟩
      have HK := hid hK
      have HKL := hid (show K ≤ 20000 from by rw [hK]; exact hlen)
      have HNODE := hid hnode
      have HNODE2 := hid hnode2
      have HSM := hid hsm
      clear hnode hnode2 hnd hec hy1 hy2 hy3 hlen hsm hK
      go_wp2_with fail
      refine HNODE.out.mono ?_
      rintro e w6 ⟨⟨x, rfl, hrx, hfx, hb6⟩, _, h6⟩
      obtain ⟨ax, cx, rfl, _⟩ := hrx.shape
      rw [show (lits args).length = K from by simp [HK.out]] at hrx hfx
      rw [show (lits (NodeM.mk no nf nn ns args).args).length = K from by simp [HK.out]]
      have T7 := hid (show TwoAt (sd.and ((Side.obj w6.heap.size (.cells (head ⟨no, nf, nn, ns, args⟩ (.slice ax K cx)).toArray 54 (0, 0))).and (Side.row 26 (.slice ax K cx) (lits args)))) w0 (w6.alloc (.cells #[.int .u8 no, .int .i64 nf, .int .i64 nn, .int .i64 ns, .slice ax K cx] 54)) s u S S q from
        X.out.2.beside (hb6.alloc hb6.size _) ⟨heap_alloc_new w6 _, hrx.alloc _⟩ (fun j hj => hj.elim (fun e => by rw [show j = w6.heap.size from e]; exact hb6.size) (fun e => hfx j e)))
      have HFX := hid (show ∀ g, (Value.slice ax K cx).ownBlock = some g → (∀ j, sd.D j → j < g) ∧ g < w6.heap.size ∧ w0.heap.size ≤ g from fun g hg => ⟨fun j hj => Nat.lt_of_lt_of_le (sd.lt _ X.out.2.side j hj) (hfx g hg), hrx.lt g hg, Nat.le_trans X.out.2.bel.size (hfx g hg)⟩)
      have HP := hid (show ∀ j, sd.D j → j < w6.heap.size from fun j hj => Nat.lt_of_lt_of_le (sd.lt _ X.out.2.side j hj) hb6.size)
      obtain ⟨p, hp⟩ : ∃ p, p = w6.heap.size := ⟨_, rfl⟩
      obtain ⟨W7, hW7⟩ : ∃ W, W = w6.alloc (.cells #[.int .u8 no, .int .i64 nf, .int .i64 nn, .int .i64 ns, .slice ax K cx] 54) := ⟨_, rfl⟩
      rw [← hW7, ← hp] at T7
      rw [← hp] at HFX HP
      clear hrx hfx hb6 h6 HNODE hcu hult
      go_upto_region 7 with fail
      rw [← hW7, ← hp]
      clear hW7 hp
      have HN2 := hid (HNODE2.out W7 T7.out.drop)
      clear HNODE2
      go_wp2_with fail
      refine HN2.out.mono ?_
      rintro e w8 ⟨⟨y, rfl, hry, hfy, hb8⟩, _, h8⟩
      obtain ⟨ay, cy, rfl, _⟩ := hry.shape
      rw [show (lits args).length = K from by simp [HK.out]] at hry hfy
      rw [show (lits (NodeM.mk no nf nn ns args).args).length = K from by simp [HK.out]]
      have T9 := hid (show TwoAt ((sd.and ((Side.obj p (.cells (head ⟨no, nf, nn, ns, args⟩ (.slice ax K cx)).toArray 54 (0, 0))).and (Side.row 26 (.slice ax K cx) (lits args)))).and ((Side.obj w8.heap.size (.cells (head ⟨no, nf, nn, ns, args⟩ (.slice ay K cy)).toArray 54 (0, 0))).and (Side.row 26 (.slice ay K cy) (lits args)))) w0 (w8.alloc (.cells #[.int .u8 no, .int .i64 nf, .int .i64 nn, .int .i64 ns, .slice ay K cy] 54)) s u S S q from
        T7.out.beside (hb8.alloc hb8.size _) ⟨heap_alloc_new w8 _, hry.alloc _⟩ (fun j hj => hj.elim (fun e => by rw [show j = w8.heap.size from e]; exact hb8.size) (fun e => hfy j e)))
      obtain ⟨p2, hp2⟩ : ∃ p, p = w8.heap.size := ⟨_, rfl⟩
      obtain ⟨W9, hW9⟩ : ∃ W, W = w8.alloc (.cells #[.int .u8 no, .int .i64 nf, .int .i64 nn, .int .i64 ns, .slice ay K cy] 54) := ⟨_, rfl⟩
      rw [← hW9, ← hp2] at T9
      clear hry hfy hb8 h8 HN2 T7
      go_upto_region 8 with fail
      rw [← hW9, ← hp2]
      clear hW9 hp2
      have HS1 := hid (HSP.out W9 T9.out.drop.drop)
      clear HSP
      go_wp2_with fail
      refine HS1.out.mono ?_
      rintro e w10 ⟨rfl, hb10, h10⟩
      have T10 := hid (T9.out.below hb10)
      have HS2 := hid (HSP2.out w10 h10)
      clear hb10 h10 HS1 T9 HSP2
      go_wp2_with fail
      refine HS2.out.mono ?_
      rintro e w11 ⟨rfl, hb11, h11⟩
      have T11 := hid (T10.out.below hb11)
      clear hb11 h11 HS2 T10
      have hbx := T11.out.side.1.2.1
      have hby := T11.out.side.2.1
      have q0 : w11.cell? ⟨p, 0, none⟩ = some (.int .u8 no) := (blk_cell hbx 0).trans rfl
      have q1 : w11.cell? ⟨p, 1, none⟩ = some (.int .i64 nf) := (blk_cell hbx 1).trans rfl
      have q2 : w11.cell? ⟨p, 2, none⟩ = some (.int .i64 nn) := (blk_cell hbx 2).trans rfl
      have q3 : w11.cell? ⟨p, 3, none⟩ = some (.int .i64 ns) := (blk_cell hbx 3).trans rfl
      have q4 : w11.cell? ⟨p, 4, none⟩ = some (.slice ax K cx) := (blk_cell hbx 4).trans rfl
      have m0 : w11.cell? ⟨p2, 0, none⟩ = some (.int .u8 no) := (blk_cell hby 0).trans rfl
      have m1 : w11.cell? ⟨p2, 1, none⟩ = some (.int .i64 nf) := (blk_cell hby 1).trans rfl
      have m2 : w11.cell? ⟨p2, 2, none⟩ = some (.int .i64 nn) := (blk_cell hby 2).trans rfl
      have m3 : w11.cell? ⟨p2, 3, none⟩ = some (.int .i64 ns) := (blk_cell hby 3).trans rfl
      have m4 : w11.cell? ⟨p2, 4, none⟩ = some (.slice ay K cy) := (blk_cell hby 4).trans rfl
      have hsame := same_calls w11 ⟨no, nf, nn, ns, args⟩ ⟨no, nf, nn, ns, args⟩ (.slice ax K cx) (.slice ay K cy) T11.out.side.1.2.2 T11.out.side.2.2
      rw [HSM.out] at hsame
      have HSAME := hid hsame
      have e1 : (ec != ec) = false := by simp
      have e2 : (y1 != y1) = false := by simp
      have e3 : (y2 != y2) = false := by simp
      have e4 : (y3 != y3) = false := by simp
      clear hbx hby hsame
      go_wp2_with fail
      refine HSAME.out.mono ?_
      rintro e w12 ⟨rfl, hb12⟩
      have T12 := hid (show TwoAt ((sd.and (Side.obj p (.cells (head ⟨no, nf, nn, ns, args⟩ (.slice ax K cx)).toArray 54 (0, 0)))).and (Side.row 26 (.slice ax K cx) (lits args))) w0 w12 s u S S q from
        (T11.out.below hb12).conv (fun h => ⟨⟨h.1.1, h.1.2.1⟩, h.1.2.2⟩) (fun j hj => by
          rcases hj with (hj | hj) | hj
          · exact .inl (.inl hj)
          · exact .inl (.inr (.inl hj))
          · exact .inl (.inr (.inr hj))))
      clear hb12 HSAME T11 q0 q1 q2 q3 q4 m0 m1 m2 m3 m4
      have hKb : (K : Int) ≤ 20000 := by have := HKL.out; omega
      go_wp2_with fail
      go_loopg [16] K (fun left v16 wr => ∃ (j : Nat) (ys : List Int), left + j = K ∧ v16 = .int .i64 (j : Int) ∧ ys.length = K ∧ Hid (TwoAt ((sd.and (Side.obj p (.cells (head ⟨no, nf, nn, ns, args⟩ (.slice ax K cx)).toArray 54 (0, 0)))).and (Side.row 26 (.slice ax K cx) (lits ys))) w0 wr s u S S q))
      case atStart => exact ⟨0, args, by omega, rfl, HK.out.symm, T12⟩
      case round =>
        obtain ⟨j, ys, hj, rfl, hyl, TJ⟩ := hrel
        clear T12 e1 e2 e3 e4
        have hbx := TJ.out.side.1.2
        have q4 : wr.cell? ⟨p, 4, none⟩ = some (.slice ax K cx) := (blk_cell hbx 4).trans rfl
        clear hbx
        by_cases hjK : j < K
        · have hjI : (j : Int) < (K : Int) := by omega
          cases gk with
          | zero => omega
          | succ left2 =>
          obtain ⟨gi, oi, ci, hv, _, _, hgi, hci, hfi⟩ := (show Row wr 26 (.slice ax K cx) (lits ys) from TJ.out.side.2).cells (by simp; omega)
          injection hv with z1 z2 z3
          subst z1 z3
          have hc0 := (hci j (by simp; omega)).trans (lits_get _ _ (by omega))
          have hfz : wr.frozen? ⟨gi, oi + j, none⟩ = false := hfi _
          have NXT := hid (TJ.out.turn (w1 := wr.setCell ⟨gi, oi + j, none⟩ (.int .i64 99)) (sd3 := Side.row 26 (.slice (some ⟨gi, oi, none⟩) K cx) (lits (ys.set j 99))) ((setCell_keep wr gi (oi + j) (.int .i64 99)).mono fun g hg => by rw [hg]; rfl) (fun g hg e => by
              have h2 := HFX.out g e
              rcases hg with hg | hg
              · have := h2.1 g hg
                omega
              · have h3 : g = p := hg
                omega) (fun g hg => (HFX.out g hg).2.2)
            (by
              have := (TJ.out.side.2 : Row _ _ _ _).set j (by simp; omega) (.int .i64 99)
              rw [show (lits ys).set j (.int .i64 99) = lits (ys.set j 99) from (List.map_set ..).symm] at this
              exact this) (fun g hg => .inl hg))
          clear hci hfi z2
          go_wp2_with fail
          go_roundg left2
          case measure => omega
          case rel => exact ⟨j + 1, ys.set j 99, by omega, by go_num, by simpa using hyl, NXT⟩
        · obtain rfl : j = K := by omega
          have hge : ¬ (j : Int) < (j : Int) := by omega
          have TE := hid TJ.out.drop.drop
          clear hjK hj TJ
          have hw1 : wrap64 (a + 1) = a + 1 := by simp [wrap64]; omega
          go_wp2_with fail
          go_roundg left
          case measure => omega
          case rel => exact ⟨k + 1, a + 1, by omega, by go_num, hid ⟨by have := X.out.1; omega, TE.out⟩⟩
    · have hge : ¬ (a ≤ (M : Int)) := by have := X.out.1; omega
      have TE := hid X.out.2
      clear hkM X
      go_wp2_with fail
      go_ret
      exact ⟨rfl, TE.out⟩

/-- A copy, and a call of the old store: the copy stands in its place. -/
structure CopyAt (sd : Side) (w0 w : World) (s c u : Nat) (S S2 : List NodeM) (q : Nat) : Prop where
  bel : Below w0.heap.size w0 w
  st : ∃ (F G : Nat → Prop) (A : Nat → Prop) (v : Value) (b1 b2 : Nat) (L : CL) (g1 : KeyM → Option Nat) (g2 : Nat × Int → Option Nat) (v' : Value) (c1 c2 : Nat), StO w s S q A v b1 b2 L g1 g2 ∧ ((F s ∧ F b1 ∧ F b2) ∧ (∀ g, v.ownBlock = some g → F g) ∧ (∀ g, A g → F g) ∧ ∀ g, F g → g < w.heap.size) ∧ StO w c S q A v' c1 c2 L g1 g2 ∧ Rs w u S2 G ∧ (∀ j, F j → w0.heap.size ≤ j ∧ ¬ G j ∧ ¬ sd.D j) ∧ (∀ j, G j → w0.heap.size ≤ j ∧ ¬ sd.D j) ∧ ∀ j, (j = c ∨ j = c1 ∨ j = c2 ∨ v'.ownBlock = some j) → w0.heap.size ≤ j ∧ ¬ F j ∧ ¬ G j ∧ ¬ sd.D j
  side : sd.P w
theorem TwoAt.copy {sd : Side} {w0 w : World} {s u : Nat} {S S2 : List NodeM} {q : Nat} (h : TwoAt sd w0 w s u S S2 q) :
    Calls Try.prog 22 #[ptr s] w fun e w' => ∃ c, e = .returned (ptr c) ∧ CopyAt sd w0 w' s c u S S2 q := by
  obtain ⟨F, G, h1, h2, h3, h4⟩ := h.st
  obtain ⟨A, v, b1, b2, L, g1, g2, z1, z2, z3, z4, z5⟩ := h1
  refine (Copy_calls w s S q A v b1 b2 L g1 g2 z1).mono fun e w' ⟨c, c1, c2, v', he, hc⟩ => ⟨c, he, ?_⟩
  have hG : ∀ j, G j → j < w.heap.size := by
    obtain ⟨v0, A0, y1, y2, y3, y4, y5, y6, y7, y8⟩ := h2
    exact y7
  have hD := sd.lt _ h.side
  refine ⟨TM.bel h.bel hc.bel, ⟨F, G, A, v, b1, b2, L, g1, g2, v', c1, c2, z1.keep (Keep.ofBelow (F := fun _ => False) hc.bel) ⟨fun h => h, fun h => h, fun h => h⟩ (fun _ _ h => h) (fun _ _ h => h), ⟨z2, z3, z4, fun g hg => Nat.lt_of_lt_of_le (z5 g hg) hc.bel.size⟩, hc.so, h2.below hc.bel, h3, h4, fun j hj => ?_⟩, sd.mv (Keep.ofBelow (F := fun _ => False) hc.bel) (fun _ _ h => h) h.side⟩
  have hj' : w.heap.size ≤ j := by
    rcases hj with rfl | rfl | rfl | hj
    · exact hc.fresh.1
    · exact hc.fresh.2.1
    · exact hc.fresh.2.2.1
    · exact hc.fresh.2.2.2 j hj
  exact ⟨Nat.le_trans h.bel.size hj', fun hF => by have := z5 j hF; omega, fun hg => by have := hG j hg; omega, fun hd => by have := hD j hd; omega⟩
theorem CopyAt.old {sd : Side} {w0 w : World} {s c u : Nat} {S S2 : List NodeM} {q : Nat} (h : CopyAt sd w0 w s c u S S2 q) (hq : q < 1000000000) :
    Calls Try.prog 11 #[ptr s, .int .i64 77, .int .i64 0, .slice none 0 0] w fun e w' => (∃ x y, e = .returned (.tuple #[.int .i64 x, .int .i64 y])) ∧ TwoAt sd w0 w' c u S S2 q := by
  obtain ⟨F, G, A, v, b1, b2, L, g1, g2, v', c1, c2, z1, z2, z3, z4, z5, z6, z7⟩ := h.st
  refine (App_old w s S q F (fun j => (j = s ∨ j = b1 ∨ j = b2) ∨ v.ownBlock = some j) A v b1 b2 L g1 g2 z1 z2 ⟨⟨.inl (.inl rfl), .inl (.inr (.inl rfl)), .inl (.inr (.inr rfl))⟩, fun g hg => .inr hg⟩ hq).mono fun e w' ⟨he, hk⟩ => ⟨he, ?_⟩
  have hGF : ∀ j, ((j = s ∨ j = b1 ∨ j = b2) ∨ v.ownBlock = some j) → F j := fun j hj => by
    rcases hj with (rfl | rfl | rfl) | hj
    · exact z2.1.1
    · exact z2.1.2.1
    · exact z2.1.2.2
    · exact z2.2.1 j hj
  have hn : ∀ j, (j = c ∨ j = c1 ∨ j = c2 ∨ v'.ownBlock = some j) → ¬ ((j = s ∨ j = b1 ∨ j = b2) ∨ v.ownBlock = some j) := fun j hj e => (z7 j hj).2.1 (hGF j e)
  have hA : ∀ j, A j → ¬ ((j = s ∨ j = b1 ∨ j = b2) ∨ v.ownBlock = some j) := fun j hj e => by
    rcases e with (rfl | rfl | rfl) | e
    · exact z1.nA.1 hj
    · exact z1.nA.2.1 hj
    · exact z1.nA.2.2 hj
    · exact z1.nodes.ap j e hj
  have hc : StO w' c S q A v' c1 c2 L g1 g2 := z3.keep hk ⟨hn c (.inl rfl), hn c1 (.inr (.inl rfl)), hn c2 (.inr (.inr (.inl rfl)))⟩ (fun g hg => hn g (.inr (.inr (.inr hg)))) hA
  have hlt : ∀ j, (j = c ∨ j = c1 ∨ j = c2 ∨ v'.ownBlock = some j) ∨ A j → j < w'.heap.size := fun j hj => by
    rcases hj with (rfl | rfl | rfl | hj) | hj
    · exact blk_lt hc.blk
    · exact hc.m1.lt
    · exact hc.m2.lt
    · exact hc.nodes.lt j hj
    · exact hc.nodes.old j hj
  refine ⟨h.bel.trans (hk.below (fun j hj => (z5 j (hGF j hj)).1) h.bel.size), ⟨fun j => (j = c ∨ j = c1 ∨ j = c2 ∨ v'.ownBlock = some j) ∨ A j, G, ⟨A, v', c1, c2, L, g1, g2, hc, ⟨.inl (.inl rfl), .inl (.inr (.inl rfl)), .inl (.inr (.inr (.inl rfl)))⟩, fun g hg => .inl (.inr (.inr (.inr hg))), fun g hg => .inr hg, hlt⟩, z4.keep hk (fun j hj e => (z5 j (hGF j e)).2.1 hj), fun j hj => ?_, z6⟩, sd.mv hk (fun j hj e => (z5 j (hGF j e)).2.2 hj) h.side⟩
  rcases hj with hj | hj
  · exact ⟨(z7 j hj).1, (z7 j hj).2.2.1, (z7 j hj).2.2.2⟩
  · exact z5 j (z2.2.2.1 j hj)
end Go.Proofs.Ytmgbodmpjholiaa.BT

namespace Go.Proofs.Ytmgbodmpjholiaa.Hk
open Go.RowKit Go.Maps Go.Shelf Go.Lib Go.Proofs.YtmgbodmpjholiaaW.PrintWords Go.Proofs.YtmgbodmpjholiaaW.PrintLast Go.Proofs.YtmgbodmpjholiaaW.PrintMore Go.Proofs.Ytmgbodmpjholiaa.MM Go.Proofs.Ytmgbodmpjholiaa.KM Go.Proofs.Ytmgbodmpjholiaa.TM Go.Proofs.Ytmgbodmpjholiaa.RT Go.Proofs.Ytmgbodmpjholiaa.TW Go.Proofs.Ytmgbodmpjholiaa.BT
attribute [local go_sem ↓] Go.wp_at_zero Go.wp_at_succ
set_option linter.unusedSimpArgs false
set_option linter.unusedVariables false

set_option maxRecDepth 100000 in
set_option maxHeartbeats 25600000 in
theorem plays_main (w : World) (A : Option Addr) (c : Nat) (xs : List S45) (h0 : Kd.C k45 w A xs.length xs) (ht : tameB xs 200 = true) (hb : ∀ x ∈ xs, x.f4.length ≤ 17592186043904) (hw : ∀ x ∈ xs, WfO (opOf x)) :
    Calls Try.prog 7 #[.slice A xs.length c] w fun e w' => e = .returned (.bool true) ∧ Below w.heap.size w w' := by
  obtain ⟨N, hN⟩ : ∃ N, N = xs.length := ⟨_, rfl⟩
  have HC := hid h0
  have HN := hid hN
  have hNb : N ≤ 200 := by
    unfold tameB at ht
    simp at ht
    omega
  have HTAME := hid (tame_calls w A c xs 200 h0 (by omega) hb)
  rw [ht, ← hN] at HTAME
  have HNEW := hid (New_at w)
  have HW := hid hw
  rw [← hN]
  clear h0 hN ht hb hw
  go_enter Try.func7, Try.ntmps7
  go_wp2_with fail
  refine HTAME.out.mono ?_
  rintro e w1 ⟨rfl, hb1⟩
  have HB1 := hid hb1
  have HNEW1 := hid (New_at w1)
  clear hb1 HTAME HNEW
  go_wp2_with fail
  refine HNEW1.out.mono ?_
  rintro e w2 ⟨s, rfl, h2⟩
  have HS2 := hid (two_start h2)
  clear h2 HNEW1
  go_wp2_with fail
  refine HS2.out.mono ?_
  rintro e w3 ⟨u, rfl, h3⟩
  have T3 := hid (show TwoAt Side.nothing w w3 s u newM newM 6000 from ⟨TM.bel HB1.out h3.bel, (by
    obtain ⟨F, G, a1, a2, a3, a4⟩ := h3.st
    exact ⟨F, G, a1, a2, fun j hj => ⟨Nat.le_trans HB1.out.size (a3 j hj).1, (a3 j hj).2⟩, fun j hj => ⟨Nat.le_trans HB1.out.size (a4 j hj).1, (a4 j hj).2⟩⟩), trivial⟩)
  clear h3 HS2
  go_wp2_with fail
  go_loopg [3, 5] N (fun left v3 v5 wr => ∃ (i s : Nat) (S : List NodeM), left + i = N ∧ v3 = ptr s ∧ v5 = .int .i64 (i : Int) ∧ Hid (TwoAt Side.nothing w wr s u S S (6000 + 2000 * i)))
  case atStart => exact ⟨0, s, newM, by omega, rfl, rfl, T3⟩
  case round =>
    obtain ⟨i, s, S, hi, rfl, rfl, U⟩ := hrel
    clear T3
    by_cases hiN : i < N
    · have hiI : (i : Int) < (N : Int) := by omega
      cases gk with
      | zero => omega
      | succ left =>
      have hil : i < xs.length := by rw [← HN.out]; exact hiN
      obtain ⟨b, off, A4, c4, rfl, hat⟩ := ops_at HC.out i hil hil
      have HWO := hid (HW.out xs[i] (List.getElem_mem hil))
      generalize opOf xs[i] = o at hat HWO
      have HAT := hid hat
      have c0 := (hat.below U.out.bel).k0
      obtain ⟨L, hL⟩ : ∃ L, L = o.L.length := ⟨_, rfl⟩
      have HL := hid hL
      obtain ⟨r, hr⟩ : ∃ r : Int, r = (i : Int).tmod 8 := ⟨_, rfl⟩
      have er : (i : Int).tmod 8 = r := hr.symm
      rw [Int.tmod_eq_emod_of_nonneg (by omega)] at hr
      have hr0 : 0 ≤ r := by omega
      have hr7 : r ≤ 7 := by omega
      clear hat hL hil hiN hr
      by_cases k9 : o.kd = 9
      · have e9 : (o.kd == 9) = true := by simpa using k9
        have HCOPY := hid U.out.copy
        clear k9
        go_wp2_with fail
        refine HCOPY.out.mono ?_
        rintro e w4 ⟨c9, rfl, h4⟩
        have HOLD := hid (h4.old (by omega))
        clear h4 HCOPY c0
        go_wp2_with fail
        refine HOLD.out.mono ?_
        rintro e w5 ⟨⟨x9, y9, rfl⟩, h5⟩
        have T5 := hid h5
        clear h5 HOLD
        have hat2 := HAT.out.below T5.out.bel
        have HMADE := hid (made_calls Side.nothing w w5 c9 u S _ o (.slice A4 o.L.length c4) T5.out hat2.rd HWO.out (by omega))
        have c0 := hat2.k0
        have c1 := hat2.k1
        have c2 := hat2.k2
        have c3 := hat2.k3
        have c4' := hat2.k4
        have c5 := hat2.k5
        have c6 := hat2.k6
        have c7 := hat2.k7
        have c8 := hat2.k8
        rw [← HL.out] at c4' HMADE
        clear hat2
        go_wp2_with fail
        refine HMADE.out.mono ?_
        rintro e w6 ⟨rfl, h6⟩
        have T6 := hid (h6.more (q' := 6000 + 2000 * (i + 1)) (by omega))
        clear h6 HMADE c0 c1 c2 c3 c4' c5 c6 c7 c8
        by_cases r7 : r = 7
        · have e7 : (r == 7) = true := by simpa using r7
          have HSAME := hid (sameT_calls Side.nothing w w6 c9 u _ _ T6.out)
          clear r7
          go_wp2_with fail
          refine HSAME.out.mono ?_
          rintro e w7 ⟨rfl, h7⟩
          have T7 := hid h7
          clear h7 HSAME T6
          go_wp2_with fail
          go_roundg left
          case measure => omega
          case rel => exact ⟨i + 1, c9, _, by omega, rfl, by go_num, T7⟩
        · have e7 : (r == 7) = false := by simpa using r7
          clear r7
          go_wp2_with fail
          go_roundg left
          case measure => omega
          case rel => exact ⟨i + 1, c9, _, by omega, rfl, by go_num, T6⟩
      · have e9 : (o.kd == 9) = false := by simpa using k9
        clear k9 c0
        have hat2 := HAT.out.below U.out.bel
        have HMADE := hid (made_calls Side.nothing w wr s u S _ o (.slice A4 o.L.length c4) U.out hat2.rd HWO.out (by omega))
        have c0 := hat2.k0
        have c1 := hat2.k1
        have c2 := hat2.k2
        have c3 := hat2.k3
        have c4' := hat2.k4
        have c5 := hat2.k5
        have c6 := hat2.k6
        have c7 := hat2.k7
        have c8 := hat2.k8
        rw [← HL.out] at c4' HMADE
        clear hat2
        go_wp2_with fail
        refine HMADE.out.mono ?_
        rintro e w6 ⟨rfl, h6⟩
        have T6 := hid (h6.more (q' := 6000 + 2000 * (i + 1)) (by omega))
        clear h6 HMADE c0 c1 c2 c3 c4' c5 c6 c7 c8
        by_cases r7 : r = 7
        · have e7 : (r == 7) = true := by simpa using r7
          have HSAME := hid (sameT_calls Side.nothing w w6 s u _ _ T6.out)
          clear r7
          go_wp2_with fail
          refine HSAME.out.mono ?_
          rintro e w7 ⟨rfl, h7⟩
          have T7 := hid h7
          clear h7 HSAME T6
          go_wp2_with fail
          go_roundg left
          case measure => omega
          case rel => exact ⟨i + 1, s, _, by omega, rfl, by go_num, T7⟩
        · have e7 : (r == 7) = false := by simpa using r7
          clear r7
          go_wp2_with fail
          go_roundg left
          case measure => omega
          case rel => exact ⟨i + 1, s, _, by omega, rfl, by go_num, T6⟩
    · obtain rfl : i = N := by omega
      have HSAME := hid (sameT_calls Side.nothing w wr s u _ _ U.out)
      clear hiN hi U
      go_wp2_with fail
      refine HSAME.out.mono ?_
      rintro e w7 ⟨rfl, h7⟩
      have HEND := hid h7.bel
      have HKN := hid (known_calls w7)
      clear h7 HSAME
      go_wp2_with fail
      refine HKN.out.mono ?_
      rintro e w9 ⟨rfl, b9⟩
      go_wp2_with fail
      go_ret
      exact ⟨rfl, TM.bel HEND.out b9⟩
end Go.Proofs.Ytmgbodmpjholiaa.Hk

namespace Go.Proofs.Ytmgbodmpjholiaa.Hk
open Go.RowKit Go.Maps Go.Shelf Go.Lib Go.Proofs.YtmgbodmpjholiaaW.PrintWords Go.Proofs.YtmgbodmpjholiaaW.PrintLast Go.Proofs.YtmgbodmpjholiaaW.PrintMore Go.Proofs.Ytmgbodmpjholiaa.MM Go.Proofs.Ytmgbodmpjholiaa.KM Go.Proofs.Ytmgbodmpjholiaa.TM Go.Proofs.Ytmgbodmpjholiaa.RT Go.Proofs.Ytmgbodmpjholiaa.TW Go.Proofs.Ytmgbodmpjholiaa.BT
attribute [local go_sem ↓] Go.wp_at_zero Go.wp_at_succ
set_option linter.unusedSimpArgs false
set_option linter.unusedVariables false
set_option maxRecDepth 100000 in
set_option maxHeartbeats 1600000 in
theorem plays_walk (w : World) (A : Option Addr) (c : Nat) (xs : List S45) (h0 : Kd.C k45 w A xs.length xs) (hk : ∀ x ∈ xs, OkO x) :
    Calls Try.prog 7 #[.slice A xs.length c] w fun e w' => e = .returned (.bool true) ∧ Below w.heap.size w w' := by
  cases ht : tameB xs 200 with
  | true => exact plays_main w A c xs h0 ht (fun x hx => (hk x hx).len) (OkO.wf ht hk)
  | false =>
    have HTAME := hid (tame_calls w A c xs 200 h0 (by omega) fun x hx => (hk x hx).len)
    rw [ht] at HTAME
    obtain ⟨N, hN⟩ : ∃ N, N = xs.length := ⟨_, rfl⟩
    rw [← hN] at HTAME ⊢
    clear h0 hk ht hN
    go_enter Try.func7, Try.ntmps7
    go_wp2_with fail
    refine HTAME.out.mono ?_
    rintro e w1 ⟨rfl, hb1⟩
    have HB1 := hid hb1
    have HKN := hid (known_calls w1)
    clear hb1 HTAME
    go_wp2_with fail
    refine HKN.out.mono ?_
    rintro e w9 ⟨rfl, b9⟩
    go_wp2_with fail
    go_ret
    exact ⟨rfl, TM.bel HB1.out b9⟩
open Classical in
noncomputable def juristlaw06_TermsPlays.f (l0 : List S45) : Option Bool := if ∀ x ∈ l0, OkO x then some true else none
theorem juristlaw06_TermsPlays.calls (A0 : Option Addr) (c0 : Nat) (l0 : List S45) (r : Bool) (w : World) (h0 : Kd.C k45 w A0 l0.length l0) (_ : l0.length ≤ c0) (h : juristlaw06_TermsPlays.f l0 = some r) :
    Calls Try.prog 7 #[.slice A0 l0.length c0] w fun e w' => e = .returned (.bool r) ∧ Below w.heap.size w w' := by
  unfold juristlaw06_TermsPlays.f at h
  split at h
  · rename_i hw
    cases h
    exact plays_walk w A0 c0 l0 h0 hw
  · cases h
end Go.Proofs.Ytmgbodmpjholiaa.Hk
