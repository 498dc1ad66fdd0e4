/- Walk of the law ClausesStores (printed by wip/tools/stores.py). -/
import Derived.Test.YtiajmgmidfinfaaClR
import Derived.Deep.QuietTactic
import Derived.BigQuiet
namespace Go.Proofs.Ytiajmgmidfinfaa.Hk
open Go.Lib hiding hid
open Go.RowKit Go.Maps Go.Shelf Go.Proofs.YtiajmgmidfinfaaW.PrintWords Go.Proofs.YtiajmgmidfinfaaW.PrintLast Go.Proofs.YtiajmgmidfinfaaW.PrintMore Go.Proofs.Ytiajmgmidfinfaa.MM Go.Proofs.Ytiajmgmidfinfaa.KM Go.Proofs.Ytiajmgmidfinfaa.SP Go.Proofs.Ytiajmgmidfinfaa.TW Go.Proofs.Ytiajmgmidfinfaa.LF Go.Proofs.Ytiajmgmidfinfaa.SM
set_option linter.unusedSimpArgs false
set_option linter.unusedVariables false

set_option maxRecDepth 100000 in
set_option maxHeartbeats 25600000 in
theorem stores_walk (w : World) (A0 : Option Addr) (c0 : Nat) (l : List (List Int)) (A1 : Option Addr) (c1 : Nat) (ask : List (List Int)) (h0 : CC w A0 l) (h1 : CC w A1 ask) :
    Calls Try.prog 9 #[.slice A0 l.length c0, .slice A1 ask.length c1] w fun e w' => e = .returned (.bool true) ∧ Below w.heap.size w w' := by
  obtain ⟨N, hN⟩ : ∃ N, N = l.length := ⟨_, rfl⟩
  obtain ⟨N1, hN1⟩ : ∃ N, N = ask.length := ⟨_, rfl⟩
  have HC0 := hid h0
  have HC1 := hid h1
  have HN := hid hN
  have HN1 := hid hN1
  have hbig : (N : Int) ≤ 9223372036854775807 ∧ (N1 : Int) ≤ 9223372036854775807 := ⟨by have := h0.2.1; omega, by have := h1.2.1; omega⟩
  obtain ⟨hb0, hb1⟩ := hbig
  rw [← hN, ← hN1]
  clear h0 h1 hN hN1
  by_cases hn : 150 < N
  · have e0 : decide ((N : Int) > 150) = true := by simp; omega
    clear hn
    go_enter Try.func9, Try.ntmps9
    go_wp2_with fail
    refine (known_R w).mono ?_
    rintro e w9 ⟨rfl, b9⟩
    have HB9 := hid b9
    clear b9
    go_wp2_with fail
    go_ret
    exact ⟨rfl, SM.bel (Below.refl _ _) HB9.out⟩
  · have e0 : decide ((N : Int) > 150) = false := by simp; omega
    have hNb : N ≤ 150 := by omega
    clear hn
    by_cases hn : 150 < N1
    · have e1 : decide ((N1 : Int) > 150) = true := by simp; omega
      clear hn
      go_enter Try.func9, Try.ntmps9
      go_wp2_with fail
      refine (known_R w).mono ?_
      rintro e w9 ⟨rfl, b9⟩
      have HB9 := hid b9
      clear b9
      go_wp2_with fail
      go_ret
      exact ⟨rfl, SM.bel (Below.refl _ _) HB9.out⟩
    · have e1 : decide ((N1 : Int) > 150) = false := by simp; omega
      have hN1b : N1 ≤ 150 := by omega
      clear hn
      go_enter Try.func9, Try.ntmps9
      go_wp2_with fail
      refine (New_calls w).mono ?_
      rintro e w1 ⟨s, rfl, h1⟩
      have S1 := hid (StoresAt.start h1)
      clear h1
      go_wp2_with fail
      go_loopg [6, 7, 37] N (fun left v6 v7 v37 wr => ∃ (i : Nat) (fs : List (List Int)) (top : Int) (M : Nat) (a : Option Addr) (c : Nat), left + i = N ∧ v6 = .slice a M c ∧ v7 = .int .i64 top ∧ v37 = .int .i64 (i : Int) ∧ Hid (M = fs.length ∧ StoresAt w s i fs top (.slice a M c) wr))
      case atStart => exact ⟨0, [], 0, 0, none, 0, by omega, rfl, rfl, rfl, hid ⟨rfl, S1.out⟩⟩
      case round =>
        obtain ⟨i, fs, top, M, a, c, hi, rfl, rfl, rfl, U⟩ := hrel
        clear S1
        have HM := hid U.out.1
        have HS := hid U.out.2
        have hMi : M ≤ i := by have := U.out.2.len; have := U.out.1; omega
        obtain ⟨A, t1, hd⟩ := U.out.2.two
        have T1 := hid t1
        have HD := hid hd
        clear t1 hd U
        by_cases hiN : i < N
        · have hiI : (i : Int) < (N : Int) := by omega
          cases gk with
          | zero => omega
          | succ left =>
          have hil : i < l.length := by rw [← HN.out]; exact hiN
          obtain ⟨b, off, A', c', rfl, hli⟩ := HC0.out.li hil
          obtain ⟨li, hlie⟩ : ∃ li, li = l.getD i [] := ⟨_, rfl⟩
          rw [← hlie] at hli
          obtain ⟨L, hL⟩ : ∃ L, L = li.length := ⟨_, rfl⟩
          have HL := hid hL
          rw [← hL] at hli
          have HLI := hid hli
          have hc4 := (hli.below T1.out.bel).c
          have hLb : (L : Int) ≤ 9223372036854775807 := by
            obtain ⟨A9, c9, _, _, h9⟩ := hli.rd
            have := h9.2.1
            omega
          clear hli hL hlie hil hiN
          by_cases hL30 : 30 < L
          · have e3 : decide ((L : Int) > 30) = true := by simp; omega
            clear hL30
            go_wp2_with fail
            refine (known_R wr).mono ?_
            rintro e w9 ⟨rfl, b9⟩
            have HB9 := hid b9
            clear b9
            go_wp2_with fail
            go_ret
            exact ⟨rfl, SM.bel T1.out.bel HB9.out⟩
          · have e3 : decide ((L : Int) > 30) = false := by simp; omega
            have hL3 : L ≤ 30 := by omega
            have HCOP := hid (copied_R wr _ li (HLI.out.rd.below T1.out.bel) (by have := HL.out; omega))
            clear hL30
            go_wp2_with fail
            refine HCOP.out.mono ?_
            rintro e w4 ⟨x, rfl, hrx, hfx, hb4⟩
            obtain ⟨ax, cx, rfl, _⟩ := hrx.shape
            rw [lits_len, ← HL.out] at hrx hfx ⊢
            have T4 := hid (show ClAt ((sideForms (.slice a M c) fs A).and (Side.row 25 (.slice ax L cx) (lits li))) w w4 s fs top from T1.out.beside hb4 hrx hfx)
            have HFX := hid (show ∀ g, (Value.slice ax L cx).ownBlock = some g → (∀ j, (sideForms (.slice a M c) fs A).D j → j < g) ∧ w.heap.size ≤ g from fun g hg => ⟨fun j hj => Nat.lt_of_lt_of_le ((sideForms (.slice a M c) fs A).lt _ T1.out.side j hj) (hfx g hg), Nat.le_trans T1.out.bel.size (hfx g hg)⟩)
            clear hrx hfx hb4 HCOP hc4 T1
            have hLL : li.length = L := HL.out.symm
            have hLL' : li.length ≤ 30 := by omega
            clear hLL
            cases hm : MC.mayB li with
            | false =>
              have hr1 : addC fs li = (0, 2) := by unfold addC; rw [if_neg (by simp [hm])]
              have hr2 : addF fs li = fs := by unfold addF; rw [if_neg (by simp [hm])]
              have hr3 : addT top li = top := by unfold addT; rw [if_neg (by simp [hm])]
              have HADD := hid (T4.out.call (r := fun e => e = .returned (.tuple #[.int .i64 0, .int .i64 2])) (fs2 := fs) (top2 := top) fun F h => by
                obtain ⟨Ax, cx', hv, _, hC⟩ := C_of_Row T4.out.side.2
                rw [← HL.out] at hv
                injection hv with z1 z2 z3
                subst z1 z3
                have h9 := Add_calls w4 s fs top F ax cx li h hC (by omega) (by have := HM.out; omega)
                rw [hr1, hr2, hr3] at h9
                rw [← HL.out] at h9
                exact h9)
              have HR := hid (And.intro hr1 (And.intro hr2 hr3))
              clear hr1 hr2 hr3
              go_wp2_with fail
              refine HADD.out.mono ?_
              rintro e w5 ⟨rfl, h5⟩
              have T5 := hid h5
              clear h5 HADD T4
              go_wp2_with fail
              go_loopg [60] L (fun left v60 wr => ∃ (j : Nat) (ys : List Int), left + j = L ∧ v60 = .int .i64 (j : Int) ∧ ys.length = L ∧ Hid (ClAt ((sideForms (.slice a M c) fs A).and (Side.row 25 (.slice ax L cx) (lits ys))) w wr s fs top))
              case atStart => exact ⟨0, li, by omega, rfl, HL.out.symm, T5⟩
              case round =>
                obtain ⟨j, ys, hj, rfl, hyl, TJ⟩ := hrel
                by_cases hjL : j < L
                · have hjI : (j : Int) < (L : Int) := by omega
                  cases gk with
                  | zero => omega
                  | succ left2 =>
                  obtain ⟨gi, oi, ci, hv, _, _, hgi, hci, hfi⟩ := (show Row wr 25 (.slice ax L cx) (lits ys) from TJ.out.side.2).cells (by simp; omega)
                  injection hv with z1 z2 z3
                  subst z1 z3
                  have hc0 := (hci j (by simp; omega)).trans (lits_get _ _ (by omega))
                  obtain ⟨y0, hy0⟩ : ∃ y, y = ys.getD j 0 := ⟨_, rfl⟩
                  rw [← hy0] at hc0
                  have hfz : wr.frozen? ⟨gi, oi + j, none⟩ = false := hfi _
                  have NXT := hid (TJ.out.turn (w1 := wr.setCell ⟨gi, oi + j, none⟩ (.int .i64 7)) (sd3 := Side.row 25 (.slice (some ⟨gi, oi, none⟩) L cx) (lits (ys.set j 7))) ((setCell_keep wr gi (oi + j) (.int .i64 7)).mono fun g hg => by rw [hg]; rfl) (fun g hg e => by
                      have h2 := HFX.out g e
                      have := h2.1 g hg
                      omega) (fun g hg => (HFX.out g hg).2)
                    (by
                      have := (TJ.out.side.2 : Row _ _ _ _).set j (by simp; omega) (.int .i64 7)
                      rw [show (lits ys).set j (.int .i64 7) = lits (ys.set j 7) from (List.map_set ..).symm] at this
                      exact this) (fun g hg => .inl hg))
                  clear hci hfi z2 hy0
                  go_wp2_with fail
                  go_roundg left2
                  case measure => omega
                  case rel => exact ⟨j + 1, ys.set j 7, by omega, by go_num, by simpa using hyl, NXT⟩
                · obtain rfl : j = L := by omega
                  have hge : ¬ (j : Int) < (j : Int) := by omega
                  have TE := hid TJ.out.drop
                  clear hjL hj TJ
                  have HMAY := hid (may_R wr _ li (HLI.out.rd.below TE.out.bel) (by omega))
                  have hc4 := (HLI.out.below TE.out.bel).c
                  rw [hm] at HMAY
                  have e2 : ((2 : Int) != 2) = false := by simp
                  go_wp2_with fail
                  refine HMAY.out.mono ?_
                  rintro e w7 ⟨rfl, hb7⟩
                  have T7 := hid (TE.out.below hb7)
                  clear hb7 HMAY hc4 TE
                  go_wp2_with fail
                  go_roundg left
                  case measure => omega
                  case rel => exact ⟨i + 1, fs, top, M, a, c, by omega, rfl, rfl, by go_num, hid ⟨HM.out, ⟨A, T7.out, HD.out⟩, by have := HS.out.len; omega, HS.out.tb⟩⟩
            | true =>
              have hr1 : addC fs li = ((M : Int), 0) := by unfold addC; rw [if_pos hm, HM.out]
              have hr2 : addF fs li = fs ++ [LF.canon li] := by unfold addF; rw [if_pos hm]
              have hr3 : addT top li = topOf top li := by unfold addT; rw [if_pos hm]
              have HIN := hid (mayB_in hm)
              have HADD := hid (T4.out.call (r := fun e => e = .returned (.tuple #[.int .i64 (M : Int), .int .i64 0])) (fs2 := (fs ++ [LF.canon li])) (top2 := (topOf top li)) fun F h => by
                obtain ⟨Ax, cx', hv, _, hC⟩ := C_of_Row T4.out.side.2
                rw [← HL.out] at hv
                injection hv with z1 z2 z3
                subst z1 z3
                have h9 := Add_calls w4 s fs top F ax cx li h hC (by omega) (by have := HM.out; omega)
                rw [hr1, hr2, hr3] at h9
                rw [← HL.out] at h9
                exact h9)
              have HR := hid (And.intro hr1 (And.intro hr2 hr3))
              clear hr1 hr2 hr3
              go_wp2_with fail
              refine HADD.out.mono ?_
              rintro e w5 ⟨rfl, h5⟩
              have T5 := hid h5
              clear h5 HADD T4
              go_wp2_with fail
              go_loopg [60] L (fun left v60 wr => ∃ (j : Nat) (ys : List Int), left + j = L ∧ v60 = .int .i64 (j : Int) ∧ ys.length = L ∧ Hid (ClAt ((sideForms (.slice a M c) fs A).and (Side.row 25 (.slice ax L cx) (lits ys))) w wr s (fs ++ [LF.canon li]) (topOf top li)))
              case atStart => exact ⟨0, li, by omega, rfl, HL.out.symm, T5⟩
              case round =>
                obtain ⟨j, ys, hj, rfl, hyl, TJ⟩ := hrel
                by_cases hjL : j < L
                · have hjI : (j : Int) < (L : Int) := by omega
                  cases gk with
                  | zero => omega
                  | succ left2 =>
                  obtain ⟨gi, oi, ci, hv, _, _, hgi, hci, hfi⟩ := (show Row wr 25 (.slice ax L cx) (lits ys) from TJ.out.side.2).cells (by simp; omega)
                  injection hv with z1 z2 z3
                  subst z1 z3
                  have hc0 := (hci j (by simp; omega)).trans (lits_get _ _ (by omega))
                  obtain ⟨y0, hy0⟩ : ∃ y, y = ys.getD j 0 := ⟨_, rfl⟩
                  rw [← hy0] at hc0
                  have hfz : wr.frozen? ⟨gi, oi + j, none⟩ = false := hfi _
                  have NXT := hid (TJ.out.turn (w1 := wr.setCell ⟨gi, oi + j, none⟩ (.int .i64 7)) (sd3 := Side.row 25 (.slice (some ⟨gi, oi, none⟩) L cx) (lits (ys.set j 7))) ((setCell_keep wr gi (oi + j) (.int .i64 7)).mono fun g hg => by rw [hg]; rfl) (fun g hg e => by
                      have h2 := HFX.out g e
                      have := h2.1 g hg
                      omega) (fun g hg => (HFX.out g hg).2)
                    (by
                      have := (TJ.out.side.2 : Row _ _ _ _).set j (by simp; omega) (.int .i64 7)
                      rw [show (lits ys).set j (.int .i64 7) = lits (ys.set j 7) from (List.map_set ..).symm] at this
                      exact this) (fun g hg => .inl hg))
                  clear hci hfi z2 hy0
                  go_wp2_with fail
                  go_roundg left2
                  case measure => omega
                  case rel => exact ⟨j + 1, ys.set j 7, by omega, by go_num, by simpa using hyl, NXT⟩
                · obtain rfl : j = L := by omega
                  have hge : ¬ (j : Int) < (j : Int) := by omega
                  have TE := hid TJ.out.drop
                  clear hjL hj TJ
                  have HMAY := hid (may_R wr _ li (HLI.out.rd.below TE.out.bel) (by omega))
                  have hc4 := (HLI.out.below TE.out.bel).c
                  rw [hm] at HMAY
                  have eM : ((M : Int) != (M : Int)) = false := by simp
                  go_wp2_with fail
                  refine HMAY.out.mono ?_
                  rintro e w7 ⟨rfl, hb7⟩
                  have T7 := hid (TE.out.below hb7)
                  clear hb7 HMAY hc4 TE
                  have HNORM := hid (normal_R w7 _ li (HLI.out.rd.below T7.out.bel) (by omega) hm)
                  have hc4 := (HLI.out.below T7.out.bel).c
                  go_wp2_with fail
                  refine HNORM.out.mono ?_
                  rintro e w8 ⟨y, rfl, hry, hfy, hb8⟩
                  obtain ⟨ay, cy, rfl, _⟩ := hry.shape
                  obtain ⟨KY, hKY⟩ : ∃ KY, KY = (lits (LF.canon li)).length := ⟨_, rfl⟩
                  rw [← hKY] at hry hfy ⊢
                  have T8 := hid (show ClAt ((sideForms (.slice a M c) fs A).and (Side.row 25 (.slice ay KY cy) (lits (LF.canon li)))) w w8 s (fs ++ [LF.canon li]) (topOf top li) from T7.out.beside hb8 hry hfy)
                  have HYF := hid (show (∀ g, (Value.slice ay KY cy).ownBlock = some g → w.heap.size ≤ g) ∧ ∀ g, (Value.slice ay KY cy).ownBlock = some g → (Value.slice a M c).ownBlock ≠ some g from ⟨fun g hg => Nat.le_trans T7.out.bel.size (hfy g hg), fun g hg e => by
                    have h1 := hfy g hg
                    have h2 := (sideForms (.slice a M c) fs A).lt _ T7.out.side g (.inl e)
                    omega⟩)
                  have hc5 := (HLI.out.below T8.out.bel).c
                  obtain ⟨vs, q1, q2, q0, q3⟩ := (show Forms w8 (.slice a M c) fs A from T8.out.side.1).own
                  have HOWN := hid (And.intro q1 (And.intro q2 (And.intro q0 q3)))
                  clear hry hfy hb8 HNORM hc4 T7 hKY q1 q2 q0 q3 eM
                  go_upto_region 26 with (at_builtin; go_loud (refine wp_appF _ rfl _ _ rfl (.slice a M c) _ vs [.slice ay KY cy] (by rfl) (by rfl) (HOWN.out.2.1.alloc _) (Row.one _ _ _) (by simp [Value.oneCell']) (by have := HOWN.out.1; have := HM.out; simp; omega) ?_; intro v5 w10 hr5 hk5 hat5; obtain ⟨a5, c5, rfl, _⟩ := hr5.shape; have hl5 : (vs ++ [Value.slice ay KY cy]).length = M + 1 := (by have := HOWN.out.1; have := HM.out; simp; omega); rw [hl5] at hr5 hat5; try rw [hl5]))
                  obtain ⟨A5, t10, hd5⟩ := all_push T8.out HD.out HYF.out.1 HYF.out.2 ((Below.refl w8.heap.size w8).alloc (Nat.le_refl _) (.cells #[.slice ay KY cy] 22)) HOWN.out.1 HOWN.out.2.2.1 HOWN.out.2.2.2 hr5 hk5 (fun g hg => by
                    rcases hat5 with e | e
                    · exact .inl (by rw [← e]; exact hg)
                    · rw [hg] at e
                      exact .inr (Nat.le_of_eq (Option.some.inj e).symm))
                  have T10 := hid t10
                  have HD5 := hid hd5
                  have hc4 := (HLI.out.below t10.bel).c
                  clear hr5 hk5 hat5 t10 hd5 hc5
                  go_wp2_with fail
                  go_loopg [7, 100] j (fun left v7 v100 wr => ∃ k : Nat, left + k = j ∧ v7 = .int .i64 (topOf top (li.take k)) ∧ v100 = .int .i64 (k : Int) ∧ Hid (ClAt (sideForms (.slice a5 (M + 1) c5) (fs ++ [LF.canon li]) A5) w wr s (fs ++ [LF.canon li]) (topOf top li)))
                  case atStart => exact ⟨0, by omega, rfl, rfl, T10⟩
                  case round =>
                    obtain ⟨k, hk, rfl, rfl, X⟩ := hrel
                    clear T10
                    have hc4 := (HLI.out.below X.out.bel).c
                    by_cases hkL : k < j
                    · have hkI : (k : Int) < (j : Int) := by omega
                      cases gk with
                      | zero => omega
                      | succ left2 =>
                      have hkl : k < li.length := by rw [← HL.out]; exact hkL
                      obtain ⟨g4, o4, d4, hv4, hx4⟩ := (HLI.out.below X.out.bel).rd.cell hkl
                      rw [← HL.out] at hv4
                      injection hv4 with z1 z2 z3
                      subst z1 z3
                      obtain ⟨y, hy⟩ : ∃ y, y = li.getD k 0 := ⟨_, rfl⟩
                      rw [← hy] at hx4
                      have hyin : InB y := HIN.out y (by rw [hy, List.getD_eq_getElem?_getD, List.getElem?_eq_getElem hkl]; exact List.getElem_mem hkl)
                      have HATOM := hid (atom_R wr y hyin)
                      obtain ⟨t, ht⟩ : ∃ t, t = topOf top (li.take k) := ⟨_, rfl⟩
                      have HNT := hid (show topOf top (li.take (k + 1)) = max t (LF.litAtom y) from by rw [take_snoc _ _ hkl, topOf_snoc, ← ht, ← hy])
                      rw [← ht]
                      clear z2 hkl hy ht hyin
                      go_wp2_with fail
                      refine HATOM.out.mono ?_
                      rintro e w7 ⟨rfl, hb7⟩
                      have X7 := hid (X.out.below hb7)
                      clear hb7 HATOM hc4 hx4 X
                      go_wp2_with fail
                      go_roundg left2
                      case measure => omega
                      case rel => exact ⟨k + 1, by omega, by rw [HNT.out], by go_num, X7⟩
                    · obtain rfl : k = j := by omega
                      have hge4 : ¬ (k : Int) < (k : Int) := by omega
                      have htk : li.take k = li := List.take_of_length_le (by have := HL.out; omega)
                      obtain ⟨t, ht⟩ : ∃ t, t = topOf top (li.take k) := ⟨_, rfl⟩
                      have HNT := hid (show t = topOf top li from by rw [ht, htk])
                      have HTB := hid (show 0 ≤ topOf top li ∧ topOf top li ≤ 1048576 from topOf_bound HS.out.tb.1 HS.out.tb.2 HIN.out)
                      rw [← ht]
                      clear hkL hk hc4 htk ht
                      go_wp2_with fail
                      go_roundg left
                      case measure => omega
                      case rel => exact ⟨i + 1, fs ++ [LF.canon li], topOf top li, M + 1, a5, c5, by omega, rfl, by rw [HNT.out], by go_num, hid ⟨by rw [List.length_append, List.length_singleton, HM.out], ⟨A5, X.out, HD5.out⟩, by rw [List.length_append, List.length_singleton]; have := HS.out.len; omega, HTB.out⟩⟩
        · obtain rfl : i = N := by omega
          have hMb : M ≤ 150 := by omega
          clear hiN hMi
          have HLEN := hid (T1.out.read (Q := fun e _ => e = .returned (.int .i64 (M : Int))) fun F h => by rw [HM.out]; exact Len_calls wr s fs top F h)
          have eM : ((M : Int) != (M : Int)) = false := by simp
          have eT : (top != top) = false := by simp
          go_wp2_with fail
          refine HLEN.out.mono ?_
          rintro e w2 ⟨rfl, hb2, h2⟩
          have HAT := hid (h2.read (Q := fun e _ => e = .returned (.int .i64 top)) fun F h => Atoms_calls w2 s fs top F h)
          clear hb2 h2 HLEN
          go_wp2_with fail
          refine HAT.out.mono ?_
          rintro e w3 ⟨rfl, hb3, h3⟩
          have T3 := hid h3
          clear hb3 h3 HAT T1 eT
          go_wp2_with fail
          go_loopg [128] M (fun left v128 wr => ∃ i : Nat, left + i = M ∧ v128 = .int .i64 (i : Int) ∧ Hid (ClAt (sideForms (.slice a M c) fs A) w wr s fs top))
          case atStart => exact ⟨0, by omega, rfl, T3⟩
          case round =>
            obtain ⟨i, hi, rfl, X⟩ := hrel
            clear T3
            by_cases hiM : i < M
            · have hiI : (i : Int) < (M : Int) := by omega
              cases gk with
              | zero => omega
              | succ left =>
              have hil : i < fs.length := by rw [← HM.out]; exact hiM
              obtain ⟨f, hf⟩ : ∃ f, f = fs.getD i [] := ⟨_, rfl⟩
              have hff : formAt fs (i : Int) = f := by unfold formAt; rw [if_pos ⟨by omega, by omega⟩, Int.toNat_natCast, hf]
              have hfg : fs[i]? = some f := by rw [hf]; simp [List.getD_eq_getElem?_getD, hil]
              have hfl : f.length ≤ 1000 := (X.out.inb f (List.mem_of_getElem? hfg)).2.2
              have hcl := X.out.read (Q := ShowC wr f) fun F h => by
                have h9 := Clause_calls wr s fs top F (i : Int) h
                rw [hff] at h9
                exact h9.mono fun e w' hh => ⟨hh, by obtain ⟨x, _, _, _, hb⟩ := hh; exact hb⟩
              have HCL := hid hcl
              have HFG := hid hfg
              obtain ⟨L, hL⟩ : ∃ L, L = f.length := ⟨_, rfl⟩
              have HL := hid hL
              have hLb : L ≤ 1000 := by omega
              clear hcl hff hfg hf hil hL hfl
              go_wp2_with fail
              refine HCL.out.mono ?_
              rintro e w4 ⟨⟨x, rfl, hrx, hfx, hb4⟩, _, h4⟩
              obtain ⟨ax, cx, rfl, _⟩ := hrx.shape
              rw [lits_len, ← HL.out] at hrx hfx ⊢
              have T4 := hid (show ClAt ((sideForms (.slice a M c) fs A).and (Side.row 25 (.slice ax L cx) (lits f))) w w4 s fs top from X.out.beside hb4 hrx hfx)
              have HFX := hid (show ∀ g, (Value.slice ax L cx).ownBlock = some g → (∀ j, (sideForms (.slice a M c) fs A).D j → j < g) ∧ w.heap.size ≤ g from fun g hg => ⟨fun j hj => Nat.lt_of_lt_of_le ((sideForms (.slice a M c) fs A).lt _ X.out.side j hj) (hfx g hg), Nat.le_trans X.out.bel.size (hfx g hg)⟩)
              clear hrx hfx hb4 h4 HCL X
              obtain ⟨g6, o6, cp6, x6, hv6, hg6, hc6, hr6, _⟩ := (show Forms w4 (.slice a M c) fs A from T4.out.side.1).at HFG.out
              rw [← HM.out] at hv6
              injection hv6 with z1 z2 z3
              subst z1 z3
              have HAL := hid (alike_R w4 (.slice ax L cx) x6 f f (.of T4.out.side.2) (.of hr6) (by have := HL.out; omega))
              rw [show decide (f = f) = true by simp] at HAL
              obtain ⟨a6, d6, rfl, _⟩ := hr6.shape
              obtain ⟨K6, hK6⟩ : ∃ K, K = (lits f).length := ⟨_, rfl⟩
              rw [← hK6] at HAL hc6
              clear z2 hr6 hK6
              go_wp2_with fail
              refine HAL.out.mono ?_
              rintro e w5 ⟨rfl, hb5⟩
              have T5 := hid (T4.out.below hb5)
              clear hb5 HAL T4 hc6
              go_wp2_with fail
              go_loopg [143] L (fun left v143 wr => ∃ (j : Nat) (ys : List Int), left + j = L ∧ v143 = .int .i64 (j : Int) ∧ ys.length = L ∧ Hid (ClAt ((sideForms (.slice (some ⟨g6, o6, none⟩) M c) fs A).and (Side.row 25 (.slice ax L cx) (lits ys))) w wr s fs top))
              case atStart => exact ⟨0, f, by omega, rfl, HL.out.symm, T5⟩
              case round =>
                obtain ⟨j, ys, hj, rfl, hyl, TJ⟩ := hrel
                by_cases hjL : j < L
                · have hjI : (j : Int) < (L : Int) := by omega
                  cases gk with
                  | zero => omega
                  | succ left2 =>
                  obtain ⟨gi, oi, ci, hv, _, _, hgi, hci, hfi⟩ := (show Row wr 25 (.slice ax L cx) (lits ys) from TJ.out.side.2).cells (by simp; omega)
                  injection hv with z1 z2 z3
                  subst z1 z3
                  have hc0 := (hci j (by simp; omega)).trans (lits_get _ _ (by omega))
                  obtain ⟨y0, hy0⟩ : ∃ y, y = ys.getD j 0 := ⟨_, rfl⟩
                  rw [← hy0] at hc0
                  have hfz : wr.frozen? ⟨gi, oi + j, none⟩ = false := hfi _
                  have NXT := hid (TJ.out.turn (w1 := wr.setCell ⟨gi, oi + j, none⟩ (.int .i64 (wrap64 (y0 + 1)))) (sd3 := Side.row 25 (.slice (some ⟨gi, oi, none⟩) L cx) (lits (ys.set j (wrap64 (y0 + 1))))) ((setCell_keep wr gi (oi + j) (.int .i64 (wrap64 (y0 + 1)))).mono fun g hg => by rw [hg]; rfl) (fun g hg e => by
                      have h2 := HFX.out g e
                      have := h2.1 g hg
                      omega) (fun g hg => (HFX.out g hg).2)
                    (by
                      have := (TJ.out.side.2 : Row _ _ _ _).set j (by simp; omega) (.int .i64 (wrap64 (y0 + 1)))
                      rw [show (lits ys).set j (.int .i64 (wrap64 (y0 + 1))) = lits (ys.set j (wrap64 (y0 + 1))) from (List.map_set ..).symm] at this
                      exact this) (fun g hg => .inl hg))
                  clear hci hfi z2 hy0
                  go_wp2_with fail
                  go_roundg left2
                  case measure => omega
                  case rel => exact ⟨j + 1, ys.set j (wrap64 (y0 + 1)), by omega, by go_num, by simpa using hyl, NXT⟩
                · obtain rfl : j = L := by omega
                  have hge : ¬ (j : Int) < (j : Int) := by omega
                  have TE := hid TJ.out.drop
                  clear hjL hj TJ
                  go_wp2_with fail
                  go_roundg left
                  case measure => omega
                  case rel => exact ⟨i + 1, by omega, by go_num, TE⟩
            · obtain rfl : i = M := by omega
              have hge : ¬ (i : Int) < (i : Int) := by omega
              clear hiM hi
              go_wp2_with fail
              go_loopg [156] N1 (fun left v156 wr => ∃ j : Nat, left + j = N1 ∧ v156 = .int .i64 (j : Int) ∧ Hid (ClAt (sideForms (.slice a i c) fs A) w wr s fs top))
              case atStart => exact ⟨0, by omega, rfl, X⟩
              case round =>
                obtain ⟨q, hq, rfl, Y⟩ := hrel
                clear X
                by_cases hqN : q < N1
                · have hqI : (q : Int) < (N1 : Int) := by omega
                  cases gk with
                  | zero => omega
                  | succ left =>
                  have hql : q < ask.length := by rw [← HN1.out]; exact hqN
                  obtain ⟨b, off, A', c', rfl, hli⟩ := HC1.out.li hql
                  obtain ⟨li, hlie⟩ : ∃ li, li = ask.getD q [] := ⟨_, rfl⟩
                  rw [← hlie] at hli
                  obtain ⟨L, hL⟩ : ∃ L, L = li.length := ⟨_, rfl⟩
                  have HL := hid hL
                  rw [← hL] at hli
                  have HLI := hid hli
                  have hc4 := (hli.below Y.out.bel).c
                  have hLb : (L : Int) ≤ 9223372036854775807 := by
                    obtain ⟨A9, c9, _, _, h9⟩ := hli.rd
                    have := h9.2.1
                    omega
                  clear hli hL hlie hql hqN
                  by_cases hL30 : 30 < L
                  · have e3 : decide ((L : Int) > 30) = true := by simp; omega
                    clear hL30
                    go_wp2_with fail
                    go_roundg left
                    case measure => omega
                    case rel => exact ⟨q + 1, by omega, by go_num, Y⟩
                  · have e3 : decide ((L : Int) > 30) = false := by simp; omega
                    have hL3 : L ≤ 30 := by omega
                    have hLL : li.length ≤ 30 := by have := HL.out; omega
                    clear hL30
                    have hfind := Y.out.read (Q := fun e _ => e = .returned (.tuple #[.int .i64 ((findC fs li).1 : Int), .bool (findC fs li).2])) fun F h => by
                      obtain ⟨A9, c9, hv9, _, h9⟩ := HLI.out.rd.below Y.out.bel
                      rw [← HL.out] at hv9
                      injection hv9 with z1 z2 z3
                      subst z1 z3
                      have h8 := Find_calls wr s fs top F A' c' li h h9 (by omega)
                      rw [← HL.out] at h8
                      exact h8
                    rw [find_found Y.out.inb] at hfind
                    have HFIND := hid hfind
                    clear hfind
                    cases hm : MC.mayB li with
                    | false =>
                      rw [hm] at HFIND
                      simp only [Bool.false_eq_true, if_false] at HFIND
                      go_wp2_with fail
                      refine HFIND.out.mono ?_
                      rintro e w5 ⟨rfl, hb5, h5⟩
                      have T5 := hid h5
                      have hc5 := (HLI.out.below h5.bel).c
                      have HMAY := hid (may_R w5 _ li (HLI.out.rd.below h5.bel) (by omega))
                      rw [hm] at HMAY
                      clear hb5 h5 HFIND Y hc4
                      go_wp2_with fail
                      go_loopg [20, 21, 22] 1 (fun left v20 v21 v22 wr => v20 = .int .i64 0 ∧ v21 = .bool false ∧ v22 = .int .i64 ((i : Int) - 1) ∧ wr = w5)
                      case atStart => exact ⟨rfl, rfl, by go_num, rfl⟩
                      case round =>
                        obtain ⟨rfl, rfl, rfl, rfl⟩ := hrel
                        obtain ⟨kk, hkk⟩ : ∃ kk : Int, kk = (i : Int) - 1 := ⟨_, rfl⟩
                        rw [← hkk]
                        clear hkk
                        cases hi0 : decide (kk ≥ 0) with
                        | false =>
                          have hi1 : ¬ (kk ≥ 0) := by simpa using hi0
                          have hi2 : kk < 0 := by omega
                          go_wp2_with fail
                          go_roundg left
                          case measure => omega
                          case rel => exact ⟨q + 1, by omega, by go_num, T5⟩
                        | true =>
                          have hi1 : kk ≥ 0 := by simpa using hi0
                          go_wp2_with fail
                          refine HMAY.out.mono ?_
                          rintro e w6 ⟨rfl, hb6⟩
                          have T6 := hid (T5.out.below hb6)
                          clear hb6 HMAY
                          go_wp2_with fail
                          go_roundg left
                          case measure => omega
                          case rel => exact ⟨q + 1, by omega, by go_num, T6⟩
                    | true =>
                      rw [hm] at HFIND
                      simp only [if_true] at HFIND
                      go_wp2_with fail
                      refine HFIND.out.mono ?_
                      rintro e w5 ⟨rfl, hb5, h5⟩
                      have T5 := hid h5
                      obtain ⟨nf, hnf⟩ : ∃ n, n = (foundAt (fun f => bothB f li) fs 0).1 := ⟨_, rfl⟩
                      obtain ⟨bf, hbf⟩ : ∃ n, n = (foundAt (fun f => bothB f li) fs 0).2 := ⟨_, rfl⟩
                      rw [← hnf, ← hbf]
                      have HNF := hid (And.intro hnf hbf)
                      clear hb5 h5 HFIND Y hc4 hnf hbf
                      go_wp2_with fail
                      go_loopg [20, 21, 22] i (fun left v20 v21 v22 wr => left ≤ i ∧ v20 = .int .i64 ((foundAt (fun f => bothB f li) fs left).1 : Int) ∧ v21 = .bool (foundAt (fun f => bothB f li) fs left).2 ∧ v22 = .int .i64 ((left : Int) - 1) ∧ Hid (ClAt (sideForms (.slice a i c) fs A) w wr s fs top))
                      case atStart =>
                        have h9 := foundAt_last (fun f => bothB f li) fs
                        rw [← HM.out] at h9
                        exact ⟨Nat.le_refl _, by rw [h9]; rfl, by rw [h9], by go_num, T5⟩
                      case round =>
                        obtain ⟨hle, rfl, rfl, rfl, Z⟩ := hrel
                        clear T5
                        have hc5 := (HLI.out.below Z.out.bel).c
                        cases gk with
                        | zero =>
                          have hi0 : decide (((0 : Nat) : Int) - 1 ≥ 0) = false := by simp
                          rw [← HNF.out.1, ← HNF.out.2]
                          have en : ((nf : Int) != (nf : Int)) = false := by simp
                          have eb : (bf != bf) = false := by cases bf <;> rfl
                          clear hc5 HNF
                          go_wp2_with fail
                          go_roundg left
                          case measure => omega
                          case rel => exact ⟨q + 1, by omega, by go_num, Z⟩
                        | succ m =>
                          have hml : m < fs.length := by rw [← HM.out]; omega
                          have hmi : (m : Int) ≤ 150 := by omega
                          have hm0 : decide ((m : Int) ≥ 0) = true := by simp
                          rw [show (((m + 1 : Nat) : Int) - 1) = (m : Int) from by omega]
                          have HMAY := hid (may_R wr _ li (HLI.out.rd.below Z.out.bel) (by omega))
                          rw [hm] at HMAY
                          obtain ⟨f, hf⟩ : ∃ f, f = fs.getD m [] := ⟨_, rfl⟩
                          have hfg : fs[m]? = some f := by rw [hf]; simp [List.getD_eq_getElem?_getD, hml]
                          have hfl : f.length ≤ 1000 := (Z.out.inb f (List.mem_of_getElem? hfg)).2.2
                          have hstep := foundAt_step (p := fun f => bothB f li) hml
                          rw [← hf] at hstep
                          have HSTEP := hid hstep
                          have HFG := hid hfg
                          have HFL := hid hfl
                          clear hstep hf hfg hfl hml
                          go_wp2_with fail
                          refine HMAY.out.mono ?_
                          rintro e w6 ⟨rfl, hb6⟩
                          have Z6 := hid (Z.out.below hb6)
                          clear hb6 HMAY hc5 Z
                          have hc6 := (HLI.out.below Z6.out.bel).c
                          obtain ⟨g6, o6, cp6, x6, hv6, hg6, hcx, hr6, _⟩ := (show Forms w6 (.slice a i c) fs A from Z6.out.side).at HFG.out
                          rw [← HM.out] at hv6
                          injection hv6 with z1 z2 z3
                          subst z1 z3
                          have hq1 := fun n => within_Q w6 n x6 _ f li (.of hr6) (HLI.out.rd.below Z6.out.bel) HFL.out (by omega)
                          have hq2 := fun n => within_Q w6 n _ x6 li f (HLI.out.rd.below Z6.out.bel) (.of hr6) (by omega) HFL.out
                          obtain ⟨a6, d6, rfl, _⟩ := hr6.shape
                          obtain ⟨K6, hK6⟩ : ∃ K, K = (lits f).length := ⟨_, rfl⟩
                          rw [← hK6] at hq1 hq2 hcx
                          obtain ⟨b1, hb1⟩ : ∃ b, b = f.all (li.contains ·) := ⟨_, rfl⟩
                          obtain ⟨b2, hb2⟩ : ∃ b, b = li.all (f.contains ·) := ⟨_, rfl⟩
                          rw [← hb1] at hq1
                          rw [← hb2] at hq2
                          have HB := hid (show bothB f li = (b1 && b2) from by unfold bothB; rw [← hb1, ← hb2])
                          have HQ1 := hid hq1
                          have HQ2 := hid hq2
                          clear hq1 hq2 hr6 hK6 hb1 hb2 z2 hg6
                          cases b1 with
                          | false =>
                            have HST := hid (show foundAt (fun f => bothB f li) fs m = foundAt (fun f => bothB f li) fs (m + 1) from by rw [HSTEP.out]; simp only [HB.out]; rfl)
                            go_wp2_with fail
                            go_quiet ((go_at_call 22; first | with_reducible exact HQ1.out _ | with_reducible exact HQ2.out _))
                            go_wp2_with fail
                            go_roundg m
                            case measure => omega
                            case rel => exact ⟨by omega, by rw [HST.out], by rw [HST.out], by go_num, hid (Z6.out.below (pw_below_drewN (Below.refl _ _) _))⟩
                          | true =>
                            cases b2 with
                            | false =>
                              have HST := hid (show foundAt (fun f => bothB f li) fs m = foundAt (fun f => bothB f li) fs (m + 1) from by rw [HSTEP.out]; simp only [HB.out]; rfl)
                              go_wp2_with fail
                              go_quiet ((go_at_call 22; first | with_reducible exact HQ1.out _ | with_reducible exact HQ2.out _))
                              go_wp2_with fail
                              go_roundg m
                              case measure => omega
                              case rel => exact ⟨by omega, by rw [HST.out], by rw [HST.out], by go_num, hid (Z6.out.below (pw_below_drewN (Below.refl _ _) _))⟩
                            | true =>
                              have HST := hid (show foundAt (fun f => bothB f li) fs m = (m, true) from by rw [HSTEP.out]; simp only [HB.out]; rfl)
                              go_wp2_with fail
                              go_quiet ((go_at_call 22; first | with_reducible exact HQ1.out _ | with_reducible exact HQ2.out _))
                              go_wp2_with fail
                              go_roundg m
                              case measure => omega
                              case rel => exact ⟨by omega, by rw [HST.out], by rw [HST.out], by go_num, hid (Z6.out.below (pw_below_drewN (Below.refl _ _) _))⟩
                · obtain rfl : q = N1 := by omega
                  have hge2 : ¬ (q : Int) < (q : Int) := by omega
                  have HC1' := hid (Y.out.read (Q := ShowC wr []) fun F h => by
                    have h9 := Clause_calls wr s fs top F (-1) h
                    rw [show formAt fs (-1) = [] from by unfold formAt; rw [if_neg (by omega)]] at h9
                    exact h9.mono fun e w' hh => ⟨hh, by obtain ⟨x, _, _, _, hb⟩ := hh; exact hb⟩)
                  clear hqN hq
                  go_wp2_with fail
                  refine HC1'.out.mono ?_
                  rintro e w5 ⟨⟨x5, rfl, hr5, _, hb5⟩, _, h5⟩
                  obtain ⟨a5, d5, rfl, _⟩ := hr5.shape
                  rw [show (lits []).length = 0 from rfl]
                  have T5 := hid h5
                  have HC2' := hid (h5.read (Q := ShowC w5 []) fun F h => by
                    have h9 := Clause_calls w5 s fs top F (i : Int) h
                    rw [show formAt fs (i : Int) = [] from by unfold formAt; rw [if_neg (by have := HM.out; omega)]] at h9
                    exact h9.mono fun e w' hh => ⟨hh, by obtain ⟨x, _, _, _, hb⟩ := hh; exact hb⟩)
                  clear hr5 hb5 h5 HC1' Y
                  go_wp2_with fail
                  refine HC2'.out.mono ?_
                  rintro e w6 ⟨⟨x6, rfl, hr6, _, hb6⟩, _, h6⟩
                  obtain ⟨a6, d6, rfl, _⟩ := hr6.shape
                  rw [show (lits []).length = 0 from rfl]
                  have T6 := hid h6
                  clear hr6 hb6 h6 HC2'
                  go_wp2_with fail
                  refine (known_R w6).mono ?_
                  rintro e w9 ⟨rfl, b9⟩
                  have HB9 := hid b9
                  clear b9
                  go_wp2_with fail
                  go_ret
                  exact ⟨rfl, SM.bel T6.out.bel HB9.out⟩
def juristlaw14_ClausesStores.f (_k : Nat) (_l0 : List (List Int)) (_l1 : List (List Int)) : Option Bool := some true
theorem juristlaw14_ClausesStores.calls (k : Nat) (A0 : Option Addr) (c0 : Nat) (l0 : List (List Int)) (A1 : Option Addr) (c1 : Nat) (l1 : List (List Int)) (r : Bool) (w : World) (h0 : Kd.C (Kd.slice 25 (Kd.int .i64)) w A0 l0.length l0) (_ : l0.length ≤ c0) (h1 : Kd.C (Kd.slice 25 (Kd.int .i64)) w A1 l1.length l1) (_ : l1.length ≤ c1) (h : juristlaw14_ClausesStores.f k l0 l1 = some r) :
    Calls Try.prog 9 #[.slice A0 l0.length c0, .slice A1 l1.length c1] w fun e w' => e = .returned (.bool r) ∧ Below w.heap.size w w' := by
  cases h
  exact stores_walk w A0 c0 l0 A1 c1 l1 h0 h1
end Go.Proofs.Ytiajmgmidfinfaa.Hk
