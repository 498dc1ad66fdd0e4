/- What a fall does to the base of rup. -/
import Derived.Test.YtjlkjgoncfdaeaaRupMm
import Derived.Deep.RegionHeld3
import Derived.Deep.DrawnRows
import Derived.WalkSpells
import Derived.WalkMore
import Derived.Deep.LoopGhost
namespace Go.Proofs.Ytjlkjgoncfdaeaa.RM
open Go.RowKit Go.Proofs.YtjlkjgoncfdaeaaW.PrintWords Go.Proofs.YtjlkjgoncfdaeaaW.PrintLast Go.Proofs.YtjlkjgoncfdaeaaW.PrintMore Go.Maps Go.Proofs.Ytjlkjgoncfdaeaa.MM Go.Proofs.Ytjlkjgoncfdaeaa.VM
attribute [local go_sem ↓] Go.wp_at_zero Go.wp_at_succ
set_option linter.unusedSimpArgs false
set_option linter.unusedVariables false

set_option maxRecDepth 100000 in
set_option maxHeartbeats 12800000 in
theorem fall_calls (p M mh nh : Nat) (vA vU : Value) (hs : List Value) (g : Lit → Option Value) (b : RB) (F : Nat → Prop) (l : Int) (H : List Int) (w : World)
    (h : RupMem w p M vA vU hs g 2097153 b F) (hdom : Dom g) (hinv : Inv b.all b.by_) (hH : HMap w mh nh H) (hmF : ¬ F mh) (h1 : -1048576 ≤ l) (h2 : l ≤ 1048576) (hall : b.all.length < 1000000) :
    Calls Try.prog 48 #[.pointer (some ⟨p, 0, none⟩), .int .i64 l, .map (some mh)] w fun e w' => ∃ vC, e = .returned (.tuple #[vC, .bool (fallO l H b)]) ∧
      ∃ g' F', RupMem w' p M vA vU hs g' 2097153 (fallB l H b) F' ∧ Dom g' ∧ Row w' 46 vC (lits (fallC l H b)) ∧ (∀ j, vC.ownBlock = some j → ¬ F' j ∧ w.heap.size ≤ j) ∧ Keep F w w' ∧ (∀ j, F' j → F j ∨ w.heap.size ≤ j) := by
  have hp0 : w.cell? ⟨p, 0, none⟩ = some vA := blk_cell h.obj 0
  have hp1 : w.cell? ⟨p, 1, none⟩ = some (.map (some M)) := blk_cell h.obj 1
  have hwl : (Lit.int .i64 l).wf = true := WalkArith.wf_i64 (by omega)
  obtain ⟨Ar, cr, hvr, hcr, _⟩ := (h.by_ l).shape
  rw [show (lits (b.by_ l)).length = (b.by_ l).length by simp] at hvr hcr
  obtain ⟨nr, hnr⟩ : ∃ n, n = (b.by_ l).length := ⟨_, rfl⟩
  have hnr2 : nr < 1000000 := by have := hinv.short l; omega
  rw [← hnr] at hvr hcr
  have start : Falling w p M vA vU hs g b F l H 0 ⟨b.all, b.by_, [], []⟩ (.slice none 0 0) (.slice none 0 0) w g F :=
    ⟨⟨h, hdom, rfl, Row.nil _ _, Row.nil _ _, (fun j hj => by cases hj), (fun j hj => by cases hj), Keep.refl _ _, fun j hj => .inl hj⟩, by rw [List.drop_zero, mid_start]; exact hinv, rfl, rfl, rfl, Nat.le_refl _, Nat.le_refl _⟩
  have hmb : ∀ W, Keep F w W → HMap W mh nh H := fun W hW => hH.move (hW.block mh hH.lt hmF)
  have HM := hid h
  have HH := hid hmb
  have HV := hid hvr
  have HNR := hid hnr
  have ST := hid start
  have HW := hid hwl
  have HL := hid (And.intro h1 h2)
  clear h hinv hH hvr hnr start hwl hdom hmb hmF h1 h2
  go_enter Try.func48, Try.ntmps48
  go_wp2_with fail
  go_step3
  go_wp2_with (at_lookup; (with_reducible refine wp_look_row _ rfl _ _ rfl M _ _ HM.out.map l _ rfl rfl HW.out HV.out ?_))
  go_step3
  go_wp2_with fail
  go_loopg [6, 7, 8, 22] nr (fun left v6 v7 v8 v22 wr => ∃ k s gg FF, k + left = nr ∧ v22 = .int .i64 k ∧ v7 = .bool true ∧ Hid (Falling w p M vA vU hs g b F l H k s v6 v8 wr gg FF))
  case atStart => exact ⟨0, _, g, F, by omega, rfl, rfl, ST⟩
  case round =>
    obtain ⟨k, s, gg, FF, hk, rfl, rfl, R⟩ := hrel
    cases gk with
    | zero =>
      have hkn : ¬ ((k : Int) < (nr : Int)) := by omega
      have hp1r : wr.cell? ⟨p, 1, none⟩ = some (.map (some M)) := blk_cell R.out.fm.mem.obj 1
      have hov := hid (R.out.over (by rw [← HNR.out]; omega))
      obtain ⟨w2, hrun, hfin⟩ := R.out.fm.done HL.out.1 HL.out.2
      have FIN := hid hfin
      clear hfin
      go_wp2_with fail
      try rw [Exit.noGoto_ret]
      go_ret2
      have hO : fallO l H b = true := by unfold fallO; rw [hov.out]
      rw [hO]
      refine ⟨_, rfl, ?_⟩
      unfold fallB fallC
      rw [hov.out]
      exact FIN.out
    | succ left =>
      have hkn : k < nr := by omega
      obtain ⟨n, gr, orr, ga, oa, cA, gi, oi, ci, o, r, rfl, hrc, hn, hdrop, hvA, hcA, hcM, hcn, hat, hc, hol, hlr, htn, hns, hc0, hc1, hz0, hz1, hbo, hbdr, hrl⟩ := R.out.at HV.out HNR.out hkn
      subst hvA
      obtain ⟨nn, hnn⟩ : ∃ n, n = b.all.length := ⟨_, rfl⟩
      rw [← hnn] at hcA hn
      have HDROP := hid hdrop
      have HAT := hid hat
      have HBD := hid hbdr
      have HBO := hid hbo
      have HTN := hid htn
      have HNS := hid hns
      have HLR := hid hlr
      have HOL := hid hol
      clear hdrop hat hbdr hbo htn hns hlr hol
      obtain ⟨nl, hnl⟩ : ∃ n, n = r.length := ⟨_, rfl⟩
      rw [← hnl] at hcn hrl
      have hnlb : nl + 2 ≤ 9223372036854775807 := by simp only [maxLen] at hrl; omega
      clear hrl
      have HNL := hid hnl
      have hb1 : (1 : Int) < (nl : Int) + 2 := by omega
      have hb0 : (0 : Int) < (nl : Int) + 2 := by omega
      have hlp : p < wr.heap.size := blk_lt R.out.fm.mem.obj
      clear hnl
      by_cases hturn : nth s.all n = l :: o :: r
      · rw [hturn] at hc0 hc1
        simp only [fst_, snd_, List.getD_cons_zero, List.getD_cons_succ] at hc0 hc1
        have HT := hid hturn
        have el : (l == l) = true := by simp
        clear hc hturn
        go_wp2_with fail
        refine start_ (n := 12) (S := fun w' => w'.cell? ⟨gi, oi, none⟩ = some (.int .i64 l) ∧ w'.cell? ⟨gi, oi + 1, none⟩ = some (.int .i64 o)) (ds := [9, 11]) #[false, false, false, false, false, false, false, false, false, false, false, false] (by kernel_rfl) rfl rfl ⟨hc0, hc1⟩ (fun hHeld => ?_)
        refine take_ (i := 0) (N := some 39) (v := ?_) (a' := ?_) #[true, false, false, false, false, false, false, false, false, false, false, false] rfl rfl (by kernel_rfl) (fun _ _ _ h => h) (Or.inl ⟨by rfl, ?_⟩) hHeld ?_ ?_   -- move (%12)
        rotate_left
        · rintro w' ⟨s0, s1⟩
          go_simp
          with_reducible rfl
        rotate_left
        · simp only [Act.put, List.setIfInBounds_toArray, List.set_cons_zero, List.set_cons_succ]
          rfl
        refine pure_ (i := 1) (N := some 40) (v := ?_) (a' := ?_) #[true, true, false, false, false, false, false, false, false, false, false, false] rfl rfl (by kernel_rfl) (fun _ _ _ h => h) (Or.inl ⟨by rfl, ?_⟩) ?_ ?_   -- move (%12)
        rotate_left
        · intro w'
          go_simp
          with_reducible rfl
        rotate_left
        · simp only [Act.put, List.setIfInBounds_toArray, List.set_cons_zero, List.set_cons_succ]
          rfl
        refine take_ (i := 2) (N := some 41) (v := ?_) (a' := ?_) #[true, true, true, false, false, false, false, false, false, false, false, false] rfl rfl (by kernel_rfl) (fun _ _ _ h => h) (Or.inl ⟨by rfl, ?_⟩) hHeld ?_ ?_   -- move (%12)
        rotate_left
        · rintro w' ⟨s0, s1⟩
          go_simp
          with_reducible rfl
        rotate_left
        · simp only [Act.put, List.setIfInBounds_toArray, List.set_cons_zero, List.set_cons_succ]
          rfl
        refine take_ (i := 3) (N := some 42) (v := ?_) (a' := ?_) #[true, true, true, true, false, false, false, false, false, false, false, false] rfl rfl (by kernel_rfl) (fun _ _ _ h => h) (Or.inl ⟨by rfl, ?_⟩) hHeld ?_ ?_   -- indexAddr 31 (%41) (const (int i64 1))
        rotate_left
        · rintro w' ⟨s0, s1⟩
          go_simp
          with_reducible rfl
        rotate_left
        · simp only [Act.put, List.setIfInBounds_toArray, List.set_cons_zero, List.set_cons_succ]
          rfl
        refine take_ (i := 4) (N := some 43) (v := ?_) (a' := ?_) #[true, true, true, true, true, false, false, false, false, false, false, false] rfl rfl (by kernel_rfl) (fun _ _ _ h => h) (Or.inl ⟨by rfl, ?_⟩) hHeld ?_ ?_   -- load 46 (%42)
        rotate_left
        · rintro w' ⟨s0, s1⟩
          go_simp
          with_reducible rfl
        rotate_left
        · simp only [Act.put, List.setIfInBounds_toArray, List.set_cons_zero, List.set_cons_succ]
          rfl
        refine take_ (i := 5) (N := some 44) (v := ?_) (a' := ?_) #[true, true, true, true, true, true, false, false, false, false, false, false] rfl rfl (by kernel_rfl) (fun _ _ _ h => h) (Or.inl ⟨by rfl, ?_⟩) hHeld ?_ ?_   -- move (%12)
        rotate_left
        · rintro w' ⟨s0, s1⟩
          go_simp
          with_reducible rfl
        rotate_left
        · simp only [Act.put, List.setIfInBounds_toArray, List.set_cons_zero, List.set_cons_succ]
          rfl
        refine take_ (i := 6) (N := some 45) (v := ?_) (a' := ?_) #[true, true, true, true, true, true, true, false, false, false, false, false] rfl rfl (by kernel_rfl) (fun _ _ _ h => h) (Or.inl ⟨by rfl, ?_⟩) hHeld ?_ ?_   -- indexAddr 31 (%44) (const (int i64 0))
        rotate_left
        · rintro w' ⟨s0, s1⟩
          go_simp
          with_reducible rfl
        rotate_left
        · simp only [Act.put, List.setIfInBounds_toArray, List.set_cons_zero, List.set_cons_succ]
          rfl
        refine take_ (i := 7) (N := some 46) (v := ?_) (a' := ?_) #[true, true, true, true, true, true, true, true, false, false, false, false] rfl rfl (by kernel_rfl) (fun _ _ _ h => h) (Or.inl ⟨by rfl, ?_⟩) hHeld ?_ ?_   -- load 46 (%45)
        rotate_left
        · rintro w' ⟨s0, s1⟩
          go_simp
          with_reducible rfl
        rotate_left
        · simp only [Act.put, List.setIfInBounds_toArray, List.set_cons_zero, List.set_cons_succ]
          rfl
        refine take_ (i := 8) (N := some 47) (v := ?_) (a' := ?_) #[true, true, true, true, true, true, true, true, true, false, false, false] rfl rfl (by kernel_rfl) (fun _ _ _ h => h) (Or.inl ⟨by rfl, ?_⟩) hHeld ?_ ?_   -- indexAddr 31 (%39) (const (int i64 0))
        rotate_left
        · rintro w' ⟨s0, s1⟩
          go_simp
          with_reducible rfl
        rotate_left
        · simp only [Act.put, List.setIfInBounds_toArray, List.set_cons_zero, List.set_cons_succ]
          rfl
        refine last_ (i := 9) (N := none) #[true, true, true, true, true, true, true, true, true, true, false, false] rfl rfl (by kernel_rfl) (by decide) (fun K hK => ?_)
        refine skip_ (by rfl) rfl (w1 := wr.drew.setCell ⟨gi, oi, none⟩ (.int .i64 o)) (by go_simp; first | done | rfl) ?_
        refine hK.out _ _ ?_
        refine pure_ (i := 10) (N := some 48) (v := ?_) (a' := ?_) #[true, true, true, true, true, true, true, true, true, true, true, false] rfl rfl (by kernel_rfl) (fun _ _ _ h => h) (Or.inl ⟨by rfl, ?_⟩) ?_ ?_   -- indexAddr 31 (%40) (const (int i64 1))
        rotate_left
        · intro w'
          go_simp
          with_reducible rfl
        rotate_left
        · simp only [Act.put, List.setIfInBounds_toArray, List.set_cons_zero, List.set_cons_succ]
          rfl
        refine last_ (i := 11) (N := none) #[true, true, true, true, true, true, true, true, true, true, true, true] rfl rfl (by kernel_rfl) (by decide) (fun K hK => ?_)
        refine skip_ (by rfl) rfl (w1 := (wr.drew.setCell ⟨gi, oi, none⟩ (.int .i64 o)).setCell ⟨gi, oi + 1, none⟩ (.int .i64 l)) (by go_simp; first | done | rfl) ?_
        refine hK.out _ _ ?_
        refine done_ (by kernel_rfl) ?_
        have fmW := R.out.fm.swapped HNS.out HT.out (gi := gi) (oi := oi) (ci := ci) (by rw [HAT.out]; simp) 0 1 (by simp) (by simp) o l (kept_drew wr _)
        simp only [List.set_cons_zero, List.set_cons_succ, Nat.add_zero] at fmW
        generalize hWe : (wr.drew.setCell ⟨gi, oi, none⟩ (.int .i64 o)).setCell ⟨gi, oi + 1, none⟩ (.int .i64 l) = W at fmW ⊢
        clear hWe
        have FM := hid fmW
        clear fmW hrc hc0 hc1 hcA hcn hcM hz0 hz1

        have HGS := hid (show (s.all.set n (o :: l :: r)).getD n [] = o :: l :: r by rw [List.getD_eq_getElem?_getD, List.getElem?_set_self HNS.out]; rfl)
        obtain ⟨hcell, hfro⟩ := FM.out.mem.cellsOf (n := n) (c := o :: l :: r) (by simpa using HNS.out) HGS.out (gi := gi) (oi := oi) (ci := ci) (by rw [HAT.out]; simp) (by simp)
        have ho0 : W.cell? ⟨gi, oi, none⟩ = some (.int .i64 o) := hcell 0 (by simp)
        have ho1 : W.cell? ⟨gi, oi + 1, none⟩ = some (.int .i64 l) := hcell 1 (by simp)
        have HCE := hid hcell
        have hz1' : W.frozen? ⟨gi, oi + 1, none⟩ = false := hfro _
        have HFR := hid hfro
        have HMW := hid (HH.out W FM.out.keep)
        have hsl : s.stay.length ≤ k := R.out.shortS
        have hsc : s.come.length ≤ k := R.out.shortC
        clear hcell hfro
        have hwo : (Lit.int .i64 o).wf = true := WalkArith.wf_i64 (by have := HBO.out; omega)
        have hwno : (Lit.int .i64 (wrap64 (-o))).wf = true := wrap64_wf _
        have hno : wrap64 (-o) = -o := wrap64_lit HBO.out
        have HWO := hid hwo
        have HWNO := hid hwno
        have HNO := hid hno
        clear hwo hwno hno
        by_cases hoH : o ∈ H
        · have hst := fstep_held (H := H) (s := s) HTN.out hoH
          have HST := hid hst
          have HV1 := hid (show hv H o = 1 from if_pos hoH)
          clear hst hoH
          go_wp2_with (first
            | (at_lookup; (with_reducible refine wp_look_hold _ rfl _ _ rfl mh nh H HMW.out o 1 rfl rfl HWO.out HV1.out ?_))
            | (at_builtin; go_loud (refine wp_app_int _ rfl _ _ rfl _ _ (lits s.stay) [.int .i64 n] (by rfl) (by rfl) (FM.out.stay.alloc _) (Row.one _ _ _) (by simp [Value.oneCell']) (by simp; omega) ?_); intro v' w3 hr hk hat; have HR := hid hr; have HK := hid hk; have HA := hid hat; clear hr hk hat))
          have fm2 := FM.out.stayed (s.stay ++ [(n : Int)]) (by simpa [lits] using HR.out) (kept_new _ _) HK.out HA.out
          have R2 := hid (R.out.next HDROP.out HST.out fm2 R.out.here (by simp) (by simp))
          clear fm2
          go_roundg left
          case measure => omega
          case rel => exact ⟨k + 1, _, gg, FF, by omega, by go_num, rfl, R2⟩
        · have HV0 := hid (show hv H o = 0 from if_neg hoH)
          have HOH := hid hoH
          clear hoH
          go_wp2_with (first
            | (at_lookup; (with_reducible refine wp_look_hold _ rfl _ _ rfl mh nh H HMW.out o 0 rfl rfl HWO.out HV0.out ?_)))
          go_loopg [13] nl (fun left2 v13 wy => ∃ i j : Nat, Hid (j = i + 2) ∧ i + left2 = nl ∧ v13 = .int .i64 j ∧ Hid (findC H (r.drop i) (i + 2) = findC H r 2) ∧ W = wy)
          case atStart => exact ⟨0, 2, hid rfl, by omega, rfl, hid rfl, rfl⟩
          case round =>
            obtain ⟨i, j, HJ, hil, rfl, HF, rfl⟩ := hrel
            cases gk with
            | zero =>
              have hin : ¬ ((j : Int) < (nl : Int) + 2) := by have := HJ.out; omega
              have hnone := hid (show findC H r 2 = none by rw [← HF.out, List.drop_eq_nil_of_le (by have := HNL.out; omega)]; rfl)
              by_cases hnoH : -o ∈ H
              · have HST := hid (fstep_bad (H := H) (s := s) HTN.out HOH.out hnone.out hnoH)
                have HV1 := hid (show hv H (wrap64 (-o)) = 1 by rw [HNO.out]; exact if_pos hnoH)
                clear hnoH
                have hBR := hid (R.out.broken HDROP.out HST.out)
                have hlr0 : s.stay.length + ((b.by_ l).drop (k + 1)).length < 10000000 := by have := HNR.out; rw [List.length_drop]; omega
                have hkc : k + 1 ≤ nr := by omega
                go_wp2_with (first
                  | (at_builtin; refine wp_app_int _ rfl _ _ rfl _ _ (lits s.stay) [.int .i64 n] (by rfl) (by rfl) (FM.out.stay.alloc _) (Row.one _ _ _) (by simp [Value.oneCell']) (by simp; omega) ?_; intro v' w3 hr hk hat; have FM2 := hid (FM.out.stayed (s.stay ++ [(n : Int)]) (by simpa [lits] using hr) (kept_new _ _) hk hat); have HM3 := hid (HH.out w3 FM2.out.keep); have HCUT := hid (FM2.out.cutRow HV.out HNR.out R.out.here (k + 1) hkc); have ho3 : w3.cell? ⟨gi, oi, none⟩ = some (.int .i64 o) := (FM2.out.mem.cellsOf (n := n) (c := o :: l :: r) (by simpa using HNS.out) HGS.out (gi := gi) (oi := oi) (ci := ci) (by rw [HAT.out]; simp) (by simp)).1 0 (by simp); clear hr hk hat)
                  | (at_lookup; (with_reducible refine wp_look_hold _ rfl _ _ rfl mh nh H HM3.out (wrap64 (-o)) 1 rfl rfl HWNO.out HV1.out ?_))
                  | (at_builtin; refine stop_app _ _ _ _ rfl ?_))
                all_goals
                  show wpList _ _ _ _ _ _
                  refine wp_app_int _ rfl _ _ rfl _ _ (lits (s.stay ++ [(n : Int)])) (lits ((b.by_ l).drop (k + 1))) (by rfl) (by rfl) FM2.out.stay (by have h := HCUT.out; first | (rw [if_pos (by omega), show cr - (k + 1) = 0 from by omega] at h; exact h) | (rw [if_neg (by omega)] at h; exact h)) (lits_one _) (by simp [lits] at hlr0 ⊢; omega) ?_
                  intro v'' w4 hr hk hat
                  have hfm3 := FM2.out.stayed ((s.stay ++ [(n : Int)]) ++ (b.by_ l).drop (k + 1)) (by simpa [lits] using hr) (Keep.refl _ _) hk hat
                  have hp4 : w4.cell? ⟨p, 1, none⟩ = some (.map (some M)) := blk_cell hfm3.mem.obj 1
                  obtain ⟨w5, hrun, hfin⟩ := hfm3.done HL.out.1 HL.out.2
                  have FIN := hid hfin
                  clear hfin hr hk hat hfm3
                  go_wp2_with fail
                  try rw [Exit.noGoto_ret]
                  go_ret2
                  have hO : fallO l H b = false := by unfold fallO; rw [hBR.out]
                  rw [hO]
                  refine ⟨_, rfl, ?_⟩
                  unfold fallB fallC
                  rw [hBR.out]
                  exact FIN.out
              · have HST := hid (fstep_come (H := H) (s := s) HTN.out HOH.out hnone.out hnoH)
                have HV1 := hid (show hv H (wrap64 (-o)) = 0 by rw [HNO.out]; exact if_neg hnoH)
                clear hnoH
                go_wp2_with (first
                  | (at_builtin; refine wp_app_int _ rfl _ _ rfl _ _ (lits s.stay) [.int .i64 n] (by rfl) (by rfl) (FM.out.stay.alloc _) (Row.one _ _ _) (by simp [Value.oneCell']) (by simp; omega) ?_; intro v' w3 hr hk hat; have FM2 := hid (FM.out.stayed (s.stay ++ [(n : Int)]) (by simpa [lits] using hr) (kept_new _ _) hk hat); have HM3 := hid (HH.out w3 FM2.out.keep); have ho3 : w3.cell? ⟨gi, oi, none⟩ = some (.int .i64 o) := (FM2.out.mem.cellsOf (n := n) (c := o :: l :: r) (by simpa using HNS.out) HGS.out (gi := gi) (oi := oi) (ci := ci) (by rw [HAT.out]; simp) (by simp)).1 0 (by simp); clear hr hk hat)
                  | (at_lookup; (with_reducible refine wp_look_hold _ rfl _ _ rfl mh nh H HM3.out (wrap64 (-o)) 0 rfl rfl HWNO.out HV1.out ?_))
                  | (at_builtin; refine wp_app_lit _ rfl _ _ rfl _ _ (lits s.come) [.int .i64 o] (by rfl) (by rfl) (FM2.out.come.alloc _) (Row.one _ _ _) (by simp [Value.oneCell']) (by simp; omega) ?_; intro v'' w4 hr hk hat; have FM3 := hid (FM2.out.came (s.come ++ [o]) (by simpa [lits] using hr) (kept_new _ _) hk hat); clear hr hk hat))
                have R2 := hid (R.out.next HDROP.out HST.out FM3.out R.out.here (by simp) (by simp))
                go_roundg left
                case measure => omega
                case rel => exact ⟨k + 1, _, gg, FF, by omega, by go_num, rfl, R2⟩
            | succ left2 =>
              have hin : (j : Int) < (nl : Int) + 2 := by have := HJ.out; omega
              obtain ⟨z, hz⟩ : ∃ z, z = r.getD i 0 := ⟨_, rfl⟩
              have hzr : z ∈ r := by rw [hz, List.getD_eq_getElem?_getD, List.getElem?_eq_getElem (by have := HNL.out; omega)]; exact List.getElem_mem _
              have hdr : r.drop i = z :: r.drop (i + 1) := by rw [hz, List.drop_eq_getElem_cons (by have := HNL.out; omega), List.getD_eq_getElem?_getD, List.getElem?_eq_getElem (by have := HNL.out; omega)]; rfl
              have hzc : W.cell? ⟨gi, oi + j, none⟩ = some (.int .i64 z) := by rw [HJ.out, HCE.out (i + 2) (by simp; have := HNL.out; omega), hz]; simp
              have hbz := HBD.out z hzr
              have HZW := hid (show (Lit.int .i64 (wrap64 (-z))).wf = true from wrap64_wf _)
              have hwz : wrap64 (-z) = -z := wrap64_lit hbz
              by_cases hzH : -z ∈ H
              · have HV1 := hid (show hv H (wrap64 (-z)) = 1 by rw [hwz]; exact if_pos hzH)
                have HF2 := hid (show findC H (r.drop (i + 1)) (i + 1 + 2) = findC H r 2 by rw [← HF.out, hdr, findC, if_pos hzH])
                clear hzH hwz hbz hdr hzr hz
                go_wp2_with (first
                  | (at_lookup; (with_reducible refine wp_look_hold _ rfl _ _ rfl mh nh H HMW.out (wrap64 (-z)) 1 rfl rfl HZW.out HV1.out ?_)))
                go_roundg left2
                case measure => omega
                case rel => exact ⟨i + 1, j + 1, hid (by have := HJ.out; omega), by omega, by go_num, HF2, rfl⟩
              · have HV1 := hid (show hv H (wrap64 (-z)) = 0 by rw [hwz]; exact if_neg hzH)
                have hfc : findC H r 2 = some (i + 2) := by rw [← HF.out, hdr, findC, if_neg hzH]
                have HST := hid (fstep_moved (H := H) (s := s) HTN.out HOH.out hfc)
                have hzl : z ≠ l := by rintro rfl; exact HLR.out hzr
                have HZ := hid hz
                have HZR := hid hzr
                have HZL := hid hzl
                have HBZ := hid hbz
                have hzf : W.frozen? ⟨gi, oi + j, none⟩ = false := HFR.out _
                have hzc2 : (W.setCell ⟨gi, oi + 1, none⟩ (.int .i64 z)).cell? ⟨gi, oi + j, none⟩ = some (.int .i64 z) := (World.cell?_setCell_other _ ⟨gi, oi + 1, none⟩ ⟨gi, oi + j, none⟩ _ (by intro h; injection h with _ h; have := HJ.out; omega)).trans hzc
                clear hzH hwz hbz hdr hzr hz hfc hzl
                go_wp2_with (first
                  | (at_lookup; (with_reducible refine wp_look_hold _ rfl _ _ rfl mh nh H HMW.out (wrap64 (-z)) 0 rfl rfl HZW.out HV1.out ?_)))
                refine start_ (n := 14) (S := fun w' => w'.cell? ⟨gi, oi + j, none⟩ = some (.int .i64 z) ∧ w'.cell? ⟨gi, oi + 1, none⟩ = some (.int .i64 l)) (ds := [11, 13]) #[false, false, false, false, false, false, false, false, false, false, false, false, false, false] (by kernel_rfl) rfl rfl ⟨hzc, ho1⟩ (fun hHeld => ?_)
                refine take_ (i := 0) (N := some 73) (v := ?_) (a' := ?_) #[true, false, false, false, false, false, false, false, false, false, false, false, false, false] rfl rfl (by kernel_rfl) (fun _ _ _ h => h) (Or.inl ⟨by rfl, ?_⟩) hHeld ?_ ?_   -- move (%12)
                rotate_left
                · rintro w' ⟨s0, s1⟩
                  go_simp
                  with_reducible rfl
                rotate_left
                · simp only [Act.put, List.setIfInBounds_toArray, List.set_cons_zero, List.set_cons_succ]
                  rfl
                refine pure_ (i := 1) (N := some 74) (v := ?_) (a' := ?_) #[true, true, false, false, false, false, false, false, false, false, false, false, false, false] rfl rfl (by kernel_rfl) (fun _ _ _ h => h) (Or.inl ⟨by rfl, ?_⟩) ?_ ?_   -- move (%12)
                rotate_left
                · intro w'
                  go_simp
                  with_reducible rfl
                rotate_left
                · simp only [Act.put, List.setIfInBounds_toArray, List.set_cons_zero, List.set_cons_succ]
                  rfl
                refine pure_ (i := 2) (N := some 75) (v := ?_) (a' := ?_) #[true, true, true, false, false, false, false, false, false, false, false, false, false, false] rfl rfl (by kernel_rfl) (fun _ _ _ h => h) (Or.inl ⟨by rfl, ?_⟩) ?_ ?_   -- move (%13)
                rotate_left
                · intro w'
                  go_simp
                  with_reducible rfl
                rotate_left
                · simp only [Act.put, List.setIfInBounds_toArray, List.set_cons_zero, List.set_cons_succ]
                  rfl
                refine take_ (i := 3) (N := some 76) (v := ?_) (a' := ?_) #[true, true, true, true, false, false, false, false, false, false, false, false, false, false] rfl rfl (by kernel_rfl) (fun _ _ _ h => h) (Or.inl ⟨by rfl, ?_⟩) hHeld ?_ ?_   -- move (%12)
                rotate_left
                · rintro w' ⟨s0, s1⟩
                  go_simp
                  with_reducible rfl
                rotate_left
                · simp only [Act.put, List.setIfInBounds_toArray, List.set_cons_zero, List.set_cons_succ]
                  rfl
                refine take_ (i := 4) (N := some 77) (v := ?_) (a' := ?_) #[true, true, true, true, true, false, false, false, false, false, false, false, false, false] rfl rfl (by kernel_rfl) (fun _ _ _ h => h) (Or.inl ⟨by rfl, ?_⟩) hHeld ?_ ?_   -- move (%13)
                rotate_left
                · rintro w' ⟨s0, s1⟩
                  go_simp
                  with_reducible rfl
                rotate_left
                · simp only [Act.put, List.setIfInBounds_toArray, List.set_cons_zero, List.set_cons_succ]
                  rfl
                refine take_ (i := 5) (N := some 78) (v := ?_) (a' := ?_) #[true, true, true, true, true, true, false, false, false, false, false, false, false, false] rfl rfl (by kernel_rfl) (fun _ _ _ h => h) (Or.inl ⟨by rfl, ?_⟩) hHeld ?_ ?_   -- indexAddr 31 (%76) (%77)
                rotate_left
                · rintro w' ⟨s0, s1⟩
                  go_simp
                  with_reducible rfl
                rotate_left
                · simp only [Act.put, List.setIfInBounds_toArray, List.set_cons_zero, List.set_cons_succ]
                  rfl
                refine take_ (i := 6) (N := some 79) (v := ?_) (a' := ?_) #[true, true, true, true, true, true, true, false, false, false, false, false, false, false] rfl rfl (by kernel_rfl) (fun _ _ _ h => h) (Or.inl ⟨by rfl, ?_⟩) hHeld ?_ ?_   -- load 46 (%78)
                rotate_left
                · rintro w' ⟨s0, s1⟩
                  go_simp
                  with_reducible rfl
                rotate_left
                · simp only [Act.put, List.setIfInBounds_toArray, List.set_cons_zero, List.set_cons_succ]
                  rfl
                refine take_ (i := 7) (N := some 80) (v := ?_) (a' := ?_) #[true, true, true, true, true, true, true, true, false, false, false, false, false, false] rfl rfl (by kernel_rfl) (fun _ _ _ h => h) (Or.inl ⟨by rfl, ?_⟩) hHeld ?_ ?_   -- move (%12)
                rotate_left
                · rintro w' ⟨s0, s1⟩
                  go_simp
                  with_reducible rfl
                rotate_left
                · simp only [Act.put, List.setIfInBounds_toArray, List.set_cons_zero, List.set_cons_succ]
                  rfl
                refine take_ (i := 8) (N := some 81) (v := ?_) (a' := ?_) #[true, true, true, true, true, true, true, true, true, false, false, false, false, false] rfl rfl (by kernel_rfl) (fun _ _ _ h => h) (Or.inl ⟨by rfl, ?_⟩) hHeld ?_ ?_   -- indexAddr 31 (%80) (const (int i64 1))
                rotate_left
                · rintro w' ⟨s0, s1⟩
                  go_simp
                  with_reducible rfl
                rotate_left
                · simp only [Act.put, List.setIfInBounds_toArray, List.set_cons_zero, List.set_cons_succ]
                  rfl
                refine take_ (i := 9) (N := some 82) (v := ?_) (a' := ?_) #[true, true, true, true, true, true, true, true, true, true, false, false, false, false] rfl rfl (by kernel_rfl) (fun _ _ _ h => h) (Or.inl ⟨by rfl, ?_⟩) hHeld ?_ ?_   -- load 46 (%81)
                rotate_left
                · rintro w' ⟨s0, s1⟩
                  go_simp
                  with_reducible rfl
                rotate_left
                · simp only [Act.put, List.setIfInBounds_toArray, List.set_cons_zero, List.set_cons_succ]
                  rfl
                refine take_ (i := 10) (N := some 83) (v := ?_) (a' := ?_) #[true, true, true, true, true, true, true, true, true, true, true, false, false, false] rfl rfl (by kernel_rfl) (fun _ _ _ h => h) (Or.inl ⟨by rfl, ?_⟩) hHeld ?_ ?_   -- indexAddr 31 (%73) (const (int i64 1))
                rotate_left
                · rintro w' ⟨s0, s1⟩
                  go_simp
                  with_reducible rfl
                rotate_left
                · simp only [Act.put, List.setIfInBounds_toArray, List.set_cons_zero, List.set_cons_succ]
                  rfl
                refine last_ (i := 11) (N := none) #[true, true, true, true, true, true, true, true, true, true, true, true, false, false] rfl rfl (by kernel_rfl) (by decide) (fun K hK => ?_)
                refine skip_ (by rfl) rfl (w1 := W.drew.setCell ⟨gi, oi + 1, none⟩ (.int .i64 z)) (by go_simp; first | done | rfl) ?_
                refine hK.out _ _ ?_
                refine pure_ (i := 12) (N := some 84) (v := ?_) (a' := ?_) #[true, true, true, true, true, true, true, true, true, true, true, true, true, false] rfl rfl (by kernel_rfl) (fun _ _ _ h => h) (Or.inl ⟨by rfl, ?_⟩) ?_ ?_   -- indexAddr 31 (%74) (%75)
                rotate_left
                · intro w'
                  go_simp
                  with_reducible rfl
                rotate_left
                · simp only [Act.put, List.setIfInBounds_toArray, List.set_cons_zero, List.set_cons_succ]
                  rfl
                refine last_ (i := 13) (N := none) #[true, true, true, true, true, true, true, true, true, true, true, true, true, true] rfl rfl (by kernel_rfl) (by decide) (fun K hK => ?_)
                refine skip_ (by rfl) rfl (w1 := (W.drew.setCell ⟨gi, oi + 1, none⟩ (.int .i64 z)).setCell ⟨gi, oi + j, none⟩ (.int .i64 l)) (by go_simp; first | done | rfl) ?_
                refine hK.out _ _ ?_
                refine done_ (by kernel_rfl) ?_
                have fmV := FM.out.swapped (n := n) (c := o :: l :: r) (by simpa using HNS.out) HGS.out (gi := gi) (oi := oi) (ci := ci) (by rw [HAT.out]; simp) 1 j (by simp) (by have := HJ.out; have := HNL.out; simp; omega) z l (kept_drew W _)
                have hlist : (((o :: l :: r).set 1 z).set j l) = o :: (r.getD i 0) :: r.set i l := by rw [HJ.out, ← HZ.out]; rfl
                simp only [List.set_set] at fmV
                rw [hlist] at fmV
                clear hlist
                generalize hVe : (W.drew.setCell ⟨gi, oi + 1, none⟩ (.int .i64 z)).setCell ⟨gi, oi + j, none⟩ (.int .i64 l) = V at fmV ⊢
                clear hVe
                have FV := hid fmV
                clear fmV hzc2 hzc ho0 ho1 hz1' hzf
                have hVz : V.cell? ⟨gi, oi + 1, none⟩ = some (.int .i64 z) := ((FV.out.mem.cellsOf (n := n) (c := o :: (r.getD i 0) :: r.set i l) (by simpa using HNS.out) (by simp only [List.getD_eq_getElem?_getD]; rw [List.getElem?_set_self (by simpa using HNS.out)]; rfl) (gi := gi) (oi := oi) (ci := ci) (by rw [HAT.out]; simp) (by simp)).1 1 (by simp)).trans (by simp only [List.getD_cons_succ, List.getD_cons_zero]; rw [← HZ.out])
                have hlenV := hid (show (s.by_ z).length < 1000000 by
                  have h1 := R.out.inv.short z
                  unfold mid updI at h1
                  rw [if_neg HZL.out, R.out.len] at h1
                  omega)
                have hwz1 : (Lit.int .i64 z).wf = true := WalkArith.wf_i64 (by have := HBZ.out; omega)
                have hS17 : ∀ W2 : World, W2.heap[p]? = V.heap[p]? → W2.heap[gi]? = V.heap[gi]? → W2.heap[M]? = V.heap[M]? →
                    W2.cell? ⟨p, 1, none⟩ = some (.map (some M)) ∧ W2.cell? ⟨gi, oi + 1, none⟩ = some (.int .i64 z) ∧ (Instr.lookup 62 (.map (some M)) (.int .i64 z) false).run Try.prog W2 = .ok (RM.hd gg z) W2 ∧ True :=
                  fun W2 q1 q2 q3 => ⟨(blk_cell (q1.trans FV.out.mem.obj) 1).trans rfl, (World.cell?_of_block q2).trans hVz, (FV.out.mem.map.move q3).look keyed Try.underlying62 (zeroRow W2) (keyOf_int_mk Try.underlying46 hwz1), trivial⟩
                have lp := blk_lt FV.out.mem.obj
                have lm := FV.out.mem.map.lt
                have lg : gi < V.heap.size := World.block_lt_of_cell? V ⟨gi, oi + 1, none⟩ hVz
                have np : (RM.hd gg z).ownBlock ≠ some p := fun e => (FV.out.mem.byNe e).1 rfl
                have nm : (RM.hd gg z).ownBlock ≠ some M := fun e => (FV.out.mem.byNe e).2.1 rfl
                have ng : (RM.hd gg z).ownBlock ≠ some gi := fun e => (FV.out.mem.byNe e).2.2.2.2 n (by simpa using HNS.out) (by rw [HAT.out]; rfl)
                have HRowV := hid (FV.out.mem.by_ z)
                have HS17 := hid hS17
                have HSL := hid (And.intro hwz1 hVz)
                clear hS17 hwz1 hVz
                go_wp2_with fail
                have hS17 := HS17.out
                refine start_ (n := 19) (S := fun w' => w'.cell? ⟨p, 1, none⟩ = some (.map (some M)) ∧ w'.cell? ⟨gi, oi + 1, none⟩ = some (.int .i64 z) ∧ (Instr.lookup 62 (.map (some M)) (.int .i64 z) false).run Try.prog w' = .ok (RM.hd gg z) w' ∧ True) (ds := [18]) #[false, false, false, false, false, false, false, false, false, false, false, false, false, false, false, false, false, false, false] (by kernel_rfl) rfl rfl (hS17 _ rfl rfl rfl) (fun hHeld => ?_)
                refine take_ (i := 0) (N := some 85) (v := ?_) (a' := ?_) #[true, false, false, false, false, false, false, false, false, false, false, false, false, false, false, false, false, false, false] rfl rfl (by kernel_rfl) (fun _ _ _ h => h) (Or.inl ⟨by rfl, ?_⟩) hHeld ?_ ?_   -- move (%0)
                rotate_left
                · rintro w' ⟨s0, s1, s2, s3⟩
                  go_simp
                  with_reducible rfl
                rotate_left
                · simp only [Act.put, List.setIfInBounds_toArray, List.set_cons_zero, List.set_cons_succ]
                  rfl
                refine take_ (i := 1) (N := some 86) (v := ?_) (a' := ?_) #[true, true, false, false, false, false, false, false, false, false, false, false, false, false, false, false, false, false, false] rfl rfl (by kernel_rfl) (fun _ _ _ h => h) (Or.inl ⟨by rfl, ?_⟩) hHeld ?_ ?_   -- nilCheck (%85)
                rotate_left
                · rintro w' ⟨s0, s1, s2, s3⟩
                  go_simp
                  with_reducible rfl
                rotate_left
                · simp only [Act.put, List.setIfInBounds_toArray, List.set_cons_zero, List.set_cons_succ]
                  rfl
                refine take_ (i := 2) (N := some 87) (v := ?_) (a' := ?_) #[true, true, true, false, false, false, false, false, false, false, false, false, false, false, false, false, false, false, false] rfl rfl (by kernel_rfl) (fun _ _ _ h => h) (Or.inl ⟨by rfl, ?_⟩) hHeld ?_ ?_   -- fieldAddr 64 (%86) 1
                rotate_left
                · rintro w' ⟨s0, s1, s2, s3⟩
                  go_simp
                  with_reducible rfl
                rotate_left
                · simp only [Act.put, List.setIfInBounds_toArray, List.set_cons_zero, List.set_cons_succ]
                  rfl
                refine take_ (i := 3) (N := some 88) (v := ?_) (a' := ?_) #[true, true, true, true, false, false, false, false, false, false, false, false, false, false, false, false, false, false, false] rfl rfl (by kernel_rfl) (fun _ _ _ h => h) (Or.inl ⟨by rfl, ?_⟩) hHeld ?_ ?_   -- load 62 (%87)
                rotate_left
                · rintro w' ⟨s0, s1, s2, s3⟩
                  go_simp
                  with_reducible rfl
                rotate_left
                · simp only [Act.put, List.setIfInBounds_toArray, List.set_cons_zero, List.set_cons_succ]
                  rfl
                refine take_ (i := 4) (N := some 89) (v := ?_) (a' := ?_) #[true, true, true, true, true, false, false, false, false, false, false, false, false, false, false, false, false, false, false] rfl rfl (by kernel_rfl) (fun _ _ _ h => h) (Or.inl ⟨by rfl, ?_⟩) hHeld ?_ ?_   -- move (%12)
                rotate_left
                · rintro w' ⟨s0, s1, s2, s3⟩
                  go_simp
                  with_reducible rfl
                rotate_left
                · simp only [Act.put, List.setIfInBounds_toArray, List.set_cons_zero, List.set_cons_succ]
                  rfl
                refine take_ (i := 5) (N := some 90) (v := ?_) (a' := ?_) #[true, true, true, true, true, true, false, false, false, false, false, false, false, false, false, false, false, false, false] rfl rfl (by kernel_rfl) (fun _ _ _ h => h) (Or.inl ⟨by rfl, ?_⟩) hHeld ?_ ?_   -- indexAddr 31 (%89) (const (int i64 1))
                rotate_left
                · rintro w' ⟨s0, s1, s2, s3⟩
                  go_simp
                  with_reducible rfl
                rotate_left
                · simp only [Act.put, List.setIfInBounds_toArray, List.set_cons_zero, List.set_cons_succ]
                  rfl
                refine take_ (i := 6) (N := some 91) (v := ?_) (a' := ?_) #[true, true, true, true, true, true, true, false, false, false, false, false, false, false, false, false, false, false, false] rfl rfl (by kernel_rfl) (fun _ _ _ h => h) (Or.inl ⟨by rfl, ?_⟩) hHeld ?_ ?_   -- load 46 (%90)
                rotate_left
                · rintro w' ⟨s0, s1, s2, s3⟩
                  go_simp
                  with_reducible rfl
                rotate_left
                · simp only [Act.put, List.setIfInBounds_toArray, List.set_cons_zero, List.set_cons_succ]
                  rfl
                refine take_ (i := 7) (N := some 92) (v := ?_) (a' := ?_) #[true, true, true, true, true, true, true, true, false, false, false, false, false, false, false, false, false, false, false] rfl rfl (by kernel_rfl) (fun _ _ _ h => h) (Or.inl ⟨by rfl, ?_⟩) hHeld ?_ ?_   -- move (%0)
                rotate_left
                · rintro w' ⟨s0, s1, s2, s3⟩
                  go_simp
                  with_reducible rfl
                rotate_left
                · simp only [Act.put, List.setIfInBounds_toArray, List.set_cons_zero, List.set_cons_succ]
                  rfl
                refine take_ (i := 8) (N := some 93) (v := ?_) (a' := ?_) #[true, true, true, true, true, true, true, true, true, false, false, false, false, false, false, false, false, false, false] rfl rfl (by kernel_rfl) (fun _ _ _ h => h) (Or.inl ⟨by rfl, ?_⟩) hHeld ?_ ?_   -- nilCheck (%92)
                rotate_left
                · rintro w' ⟨s0, s1, s2, s3⟩
                  go_simp
                  with_reducible rfl
                rotate_left
                · simp only [Act.put, List.setIfInBounds_toArray, List.set_cons_zero, List.set_cons_succ]
                  rfl
                refine take_ (i := 9) (N := some 94) (v := ?_) (a' := ?_) #[true, true, true, true, true, true, true, true, true, true, false, false, false, false, false, false, false, false, false] rfl rfl (by kernel_rfl) (fun _ _ _ h => h) (Or.inl ⟨by rfl, ?_⟩) hHeld ?_ ?_   -- fieldAddr 64 (%93) 1
                rotate_left
                · rintro w' ⟨s0, s1, s2, s3⟩
                  go_simp
                  with_reducible rfl
                rotate_left
                · simp only [Act.put, List.setIfInBounds_toArray, List.set_cons_zero, List.set_cons_succ]
                  rfl
                refine take_ (i := 10) (N := some 95) (v := ?_) (a' := ?_) #[true, true, true, true, true, true, true, true, true, true, true, false, false, false, false, false, false, false, false] rfl rfl (by kernel_rfl) (fun _ _ _ h => h) (Or.inl ⟨by rfl, ?_⟩) hHeld ?_ ?_   -- load 62 (%94)
                rotate_left
                · rintro w' ⟨s0, s1, s2, s3⟩
                  go_simp
                  with_reducible rfl
                rotate_left
                · simp only [Act.put, List.setIfInBounds_toArray, List.set_cons_zero, List.set_cons_succ]
                  rfl
                refine take_ (i := 11) (N := some 96) (v := ?_) (a' := ?_) #[true, true, true, true, true, true, true, true, true, true, true, true, false, false, false, false, false, false, false] rfl rfl (by kernel_rfl) (fun _ _ _ h => h) (Or.inl ⟨by rfl, ?_⟩) hHeld ?_ ?_   -- move (%12)
                rotate_left
                · rintro w' ⟨s0, s1, s2, s3⟩
                  go_simp
                  with_reducible rfl
                rotate_left
                · simp only [Act.put, List.setIfInBounds_toArray, List.set_cons_zero, List.set_cons_succ]
                  rfl
                refine take_ (i := 12) (N := some 97) (v := ?_) (a' := ?_) #[true, true, true, true, true, true, true, true, true, true, true, true, true, false, false, false, false, false, false] rfl rfl (by kernel_rfl) (fun _ _ _ h => h) (Or.inl ⟨by rfl, ?_⟩) hHeld ?_ ?_   -- indexAddr 31 (%96) (const (int i64 1))
                rotate_left
                · rintro w' ⟨s0, s1, s2, s3⟩
                  go_simp
                  with_reducible rfl
                rotate_left
                · simp only [Act.put, List.setIfInBounds_toArray, List.set_cons_zero, List.set_cons_succ]
                  rfl
                refine take_ (i := 13) (N := some 98) (v := ?_) (a' := ?_) #[true, true, true, true, true, true, true, true, true, true, true, true, true, true, false, false, false, false, false] rfl rfl (by kernel_rfl) (fun _ _ _ h => h) (Or.inl ⟨by rfl, ?_⟩) hHeld ?_ ?_   -- load 46 (%97)
                rotate_left
                · rintro w' ⟨s0, s1, s2, s3⟩
                  go_simp
                  with_reducible rfl
                rotate_left
                · simp only [Act.put, List.setIfInBounds_toArray, List.set_cons_zero, List.set_cons_succ]
                  rfl
                refine take_ (i := 14) (N := some 99) (v := ?_) (a' := ?_) #[true, true, true, true, true, true, true, true, true, true, true, true, true, true, true, false, false, false, false] rfl rfl (by kernel_rfl) (fun _ _ _ h => h) (Or.inl ⟨by rfl, ?_⟩) hHeld ?_ ?_   -- lookup 62 (%95) (%98) false
                rotate_left
                · rintro w' ⟨s0, s1, s2, s3⟩
                  go_simp
                  with_reducible rfl
                rotate_left
                · simp only [Act.put, List.setIfInBounds_toArray, List.set_cons_zero, List.set_cons_succ]
                  rfl
                refine take_ (i := 15) (N := some 100) (v := ?_) (a' := ?_) #[true, true, true, true, true, true, true, true, true, true, true, true, true, true, true, true, false, false, false] rfl rfl (by kernel_rfl) (fun _ _ _ h => h) (Or.inl ⟨by rfl, ?_⟩) hHeld ?_ ?_   -- move (%11)
                rotate_left
                · rintro w' ⟨s0, s1, s2, s3⟩
                  go_simp
                  with_reducible rfl
                rotate_left
                · simp only [Act.put, List.setIfInBounds_toArray, List.set_cons_zero, List.set_cons_succ]
                  rfl
                refine one_ (i := 16) (N := some 101) #[true, true, true, true, true, true, true, true, true, true, true, true, true, true, true, true, true, false, false] rfl rfl (by kernel_rfl) (by decide) (fun K hK => ?_)
                refine value_ (by rfl) rfl (v := .slice (some ⟨V.heap.size, 0, none⟩) 1 1) (w1 := V.drew.alloc (.cells #[.int .i64 n] 3)) (by go_simp; first | done | rfl) ?_
                refine hK.out _ _ (hS17 _ (old_alloc _ lp) (old_alloc _ lg) (old_alloc _ lm)) (fun hHeld => ?_)
                refine norm_ (a' := ?_) ?_ ?_
                rotate_left
                · simp only [Act.put, List.setIfInBounds_toArray, List.set_cons_zero, List.set_cons_succ]
                  rfl
                refine one_ (i := 17) (N := some 102) #[true, true, true, true, true, true, true, true, true, true, true, true, true, true, true, true, true, true, false] rfl rfl (by kernel_rfl) (by decide) (fun K hK => ?_)
                refine step_int _ (by rfl) (N := some 102) (by rfl) _ _ (by rfl) (RM.hd gg z) _ (lits (s.by_ z)) [.int .i64 n] (by rfl) (by rfl) (HRowV.out.drew.alloc _) (Row.one _ _ _) (by simp [Value.oneCell']) (by have := hlenV.out; simp; omega) ?_
                intro v1 w3 hr1 hk1 hat1
                have hfar1 : ∀ q, q < V.heap.size → (RM.hd gg z).ownBlock ≠ some q → w3.heap[q]? = V.heap[q]? := fun q hq hne => (hk1.block q (by simp; omega) hne).trans (old_alloc _ hq)
                refine hK.out _ _ (hS17 _ (hfar1 _ lp np) (hfar1 _ lg ng) (hfar1 _ lm nm)) (fun hHeld => ?_)
                have hrun1 := ((FV.out.mem.map.move (hfar1 _ lm nm)).put_run keyed Try.underlying62 (by simp [maxLen]) (keyOf_int_mk Try.underlying46 HSL.out.1) v1)
                refine norm_ (a' := ?_) ?_ ?_
                rotate_left
                · simp only [Act.put, List.setIfInBounds_toArray, List.set_cons_zero, List.set_cons_succ]
                  rfl
                refine last_ (i := 18) (N := none) #[true, true, true, true, true, true, true, true, true, true, true, true, true, true, true, true, true, true, true] rfl rfl (by kernel_rfl) (by decide) (fun K hK => ?_)
                refine skip_ (by rfl) rfl (w1 := putB M z v1 w3) (by go_simp; first | done | (rw [hrun1.1]; first | done | rfl)) ?_
                refine hK.out _ _ ?_
                refine done_ (by kernel_rfl) ?_
                have fmX := FV.out.pushed HZL.out HBZ.out.2.1 HBZ.out.2.2 (s.by_ z ++ [(n : Int)]) ((kept_drew V (fun _ => False)).trans (kept_new _ (fun _ => False)) (fun _ h => h) (fun _ h => h.elim)) (by rw [show lits (s.by_ z ++ [(n : Int)]) = lits (s.by_ z) ++ [.int .i64 n] from by simp [lits]]; exact hr1) hk1 hat1 hrun1.2.1 hrun1.2.2
                rw [← HZ.out] at fmX
                have R2 := hid (R.out.next HDROP.out HST.out (by rw [← HZ.out]; exact fmX) (by show updI s.by_ _ _ l = _; unfold updI; rw [if_neg (by rw [← HZ.out]; exact Ne.symm HZL.out)]; exact R.out.here) (by simp) (by simp))
                clear fmX hr1 hk1 hat1 hrun1
                go_wp2_with fail
                go_roundg left
                case measure => omega
                case rel => exact ⟨k + 1, _, _, _, by omega, by go_num, rfl, R2⟩
      · have hsame := hc.resolve_right hturn
        rw [hsame] at hc0 hc1
        simp only [fst_, snd_, List.getD_cons_zero, List.getD_cons_succ] at hc0 hc1
        have HT := hid hsame
        have el : (o == l) = false := by simpa using HOL.out
        clear hc hturn hsame
        have FM := hid (R.out.fm.same HNS.out HT.out)
        obtain ⟨W, rfl⟩ : ∃ W : World, W = wr := ⟨_, rfl⟩

        have HGS := hid (show (s.all.set n (o :: l :: r)).getD n [] = o :: l :: r by rw [List.getD_eq_getElem?_getD, List.getElem?_set_self HNS.out]; rfl)
        obtain ⟨hcell, hfro⟩ := FM.out.mem.cellsOf (n := n) (c := o :: l :: r) (by simpa using HNS.out) HGS.out (gi := gi) (oi := oi) (ci := ci) (by rw [HAT.out]; simp) (by simp)
        have ho0 : W.cell? ⟨gi, oi, none⟩ = some (.int .i64 o) := hcell 0 (by simp)
        have ho1 : W.cell? ⟨gi, oi + 1, none⟩ = some (.int .i64 l) := hcell 1 (by simp)
        have HCE := hid hcell
        have hz1' : W.frozen? ⟨gi, oi + 1, none⟩ = false := hfro _
        have HFR := hid hfro
        have HMW := hid (HH.out W FM.out.keep)
        have hsl : s.stay.length ≤ k := R.out.shortS
        have hsc : s.come.length ≤ k := R.out.shortC
        clear hcell hfro
        have hwo : (Lit.int .i64 o).wf = true := WalkArith.wf_i64 (by have := HBO.out; omega)
        have hwno : (Lit.int .i64 (wrap64 (-o))).wf = true := wrap64_wf _
        have hno : wrap64 (-o) = -o := wrap64_lit HBO.out
        have HWO := hid hwo
        have HWNO := hid hwno
        have HNO := hid hno
        clear hwo hwno hno
        by_cases hoH : o ∈ H
        · have hst := fstep_held (H := H) (s := s) HTN.out hoH
          have HST := hid hst
          have HV1 := hid (show hv H o = 1 from if_pos hoH)
          clear hst hoH
          go_wp2_with (first
            | (at_lookup; (with_reducible refine wp_look_hold _ rfl _ _ rfl mh nh H HMW.out o 1 rfl rfl HWO.out HV1.out ?_))
            | (at_builtin; go_loud (refine wp_app_int _ rfl _ _ rfl _ _ (lits s.stay) [.int .i64 n] (by rfl) (by rfl) (FM.out.stay.alloc _) (Row.one _ _ _) (by simp [Value.oneCell']) (by simp; omega) ?_); intro v' w3 hr hk hat; have HR := hid hr; have HK := hid hk; have HA := hid hat; clear hr hk hat))
          have fm2 := FM.out.stayed (s.stay ++ [(n : Int)]) (by simpa [lits] using HR.out) (kept_new _ _) HK.out HA.out
          have R2 := hid (R.out.next HDROP.out HST.out fm2 R.out.here (by simp) (by simp))
          clear fm2
          go_roundg left
          case measure => omega
          case rel => exact ⟨k + 1, _, gg, FF, by omega, by go_num, rfl, R2⟩
        · have HV0 := hid (show hv H o = 0 from if_neg hoH)
          have HOH := hid hoH
          clear hoH
          go_wp2_with (first
            | (at_lookup; (with_reducible refine wp_look_hold _ rfl _ _ rfl mh nh H HMW.out o 0 rfl rfl HWO.out HV0.out ?_)))
          go_loopg [13] nl (fun left2 v13 wy => ∃ i j : Nat, Hid (j = i + 2) ∧ i + left2 = nl ∧ v13 = .int .i64 j ∧ Hid (findC H (r.drop i) (i + 2) = findC H r 2) ∧ W = wy)
          case atStart => exact ⟨0, 2, hid rfl, by omega, rfl, hid rfl, rfl⟩
          case round =>
            obtain ⟨i, j, HJ, hil, rfl, HF, rfl⟩ := hrel
            cases gk with
            | zero =>
              have hin : ¬ ((j : Int) < (nl : Int) + 2) := by have := HJ.out; omega
              have hnone := hid (show findC H r 2 = none by rw [← HF.out, List.drop_eq_nil_of_le (by have := HNL.out; omega)]; rfl)
              by_cases hnoH : -o ∈ H
              · have HST := hid (fstep_bad (H := H) (s := s) HTN.out HOH.out hnone.out hnoH)
                have HV1 := hid (show hv H (wrap64 (-o)) = 1 by rw [HNO.out]; exact if_pos hnoH)
                clear hnoH
                have hBR := hid (R.out.broken HDROP.out HST.out)
                have hlr0 : s.stay.length + ((b.by_ l).drop (k + 1)).length < 10000000 := by have := HNR.out; rw [List.length_drop]; omega
                have hkc : k + 1 ≤ nr := by omega
                go_wp2_with (first
                  | (at_builtin; refine wp_app_int _ rfl _ _ rfl _ _ (lits s.stay) [.int .i64 n] (by rfl) (by rfl) (FM.out.stay.alloc _) (Row.one _ _ _) (by simp [Value.oneCell']) (by simp; omega) ?_; intro v' w3 hr hk hat; have FM2 := hid (FM.out.stayed (s.stay ++ [(n : Int)]) (by simpa [lits] using hr) (kept_new _ _) hk hat); have HM3 := hid (HH.out w3 FM2.out.keep); have HCUT := hid (FM2.out.cutRow HV.out HNR.out R.out.here (k + 1) hkc); have ho3 : w3.cell? ⟨gi, oi, none⟩ = some (.int .i64 o) := (FM2.out.mem.cellsOf (n := n) (c := o :: l :: r) (by simpa using HNS.out) HGS.out (gi := gi) (oi := oi) (ci := ci) (by rw [HAT.out]; simp) (by simp)).1 0 (by simp); clear hr hk hat)
                  | (at_lookup; (with_reducible refine wp_look_hold _ rfl _ _ rfl mh nh H HM3.out (wrap64 (-o)) 1 rfl rfl HWNO.out HV1.out ?_))
                  | (at_builtin; refine stop_app _ _ _ _ rfl ?_))
                all_goals
                  show wpList _ _ _ _ _ _
                  refine wp_app_int _ rfl _ _ rfl _ _ (lits (s.stay ++ [(n : Int)])) (lits ((b.by_ l).drop (k + 1))) (by rfl) (by rfl) FM2.out.stay (by have h := HCUT.out; first | (rw [if_pos (by omega), show cr - (k + 1) = 0 from by omega] at h; exact h) | (rw [if_neg (by omega)] at h; exact h)) (lits_one _) (by simp [lits] at hlr0 ⊢; omega) ?_
                  intro v'' w4 hr hk hat
                  have hfm3 := FM2.out.stayed ((s.stay ++ [(n : Int)]) ++ (b.by_ l).drop (k + 1)) (by simpa [lits] using hr) (Keep.refl _ _) hk hat
                  have hp4 : w4.cell? ⟨p, 1, none⟩ = some (.map (some M)) := blk_cell hfm3.mem.obj 1
                  obtain ⟨w5, hrun, hfin⟩ := hfm3.done HL.out.1 HL.out.2
                  have FIN := hid hfin
                  clear hfin hr hk hat hfm3
                  go_wp2_with fail
                  try rw [Exit.noGoto_ret]
                  go_ret2
                  have hO : fallO l H b = false := by unfold fallO; rw [hBR.out]
                  rw [hO]
                  refine ⟨_, rfl, ?_⟩
                  unfold fallB fallC
                  rw [hBR.out]
                  exact FIN.out
              · have HST := hid (fstep_come (H := H) (s := s) HTN.out HOH.out hnone.out hnoH)
                have HV1 := hid (show hv H (wrap64 (-o)) = 0 by rw [HNO.out]; exact if_neg hnoH)
                clear hnoH
                go_wp2_with (first
                  | (at_builtin; refine wp_app_int _ rfl _ _ rfl _ _ (lits s.stay) [.int .i64 n] (by rfl) (by rfl) (FM.out.stay.alloc _) (Row.one _ _ _) (by simp [Value.oneCell']) (by simp; omega) ?_; intro v' w3 hr hk hat; have FM2 := hid (FM.out.stayed (s.stay ++ [(n : Int)]) (by simpa [lits] using hr) (kept_new _ _) hk hat); have HM3 := hid (HH.out w3 FM2.out.keep); have ho3 : w3.cell? ⟨gi, oi, none⟩ = some (.int .i64 o) := (FM2.out.mem.cellsOf (n := n) (c := o :: l :: r) (by simpa using HNS.out) HGS.out (gi := gi) (oi := oi) (ci := ci) (by rw [HAT.out]; simp) (by simp)).1 0 (by simp); clear hr hk hat)
                  | (at_lookup; (with_reducible refine wp_look_hold _ rfl _ _ rfl mh nh H HM3.out (wrap64 (-o)) 0 rfl rfl HWNO.out HV1.out ?_))
                  | (at_builtin; refine wp_app_lit _ rfl _ _ rfl _ _ (lits s.come) [.int .i64 o] (by rfl) (by rfl) (FM2.out.come.alloc _) (Row.one _ _ _) (by simp [Value.oneCell']) (by simp; omega) ?_; intro v'' w4 hr hk hat; have FM3 := hid (FM2.out.came (s.come ++ [o]) (by simpa [lits] using hr) (kept_new _ _) hk hat); clear hr hk hat))
                have R2 := hid (R.out.next HDROP.out HST.out FM3.out R.out.here (by simp) (by simp))
                go_roundg left
                case measure => omega
                case rel => exact ⟨k + 1, _, gg, FF, by omega, by go_num, rfl, R2⟩
            | succ left2 =>
              have hin : (j : Int) < (nl : Int) + 2 := by have := HJ.out; omega
              obtain ⟨z, hz⟩ : ∃ z, z = r.getD i 0 := ⟨_, rfl⟩
              have hzr : z ∈ r := by rw [hz, List.getD_eq_getElem?_getD, List.getElem?_eq_getElem (by have := HNL.out; omega)]; exact List.getElem_mem _
              have hdr : r.drop i = z :: r.drop (i + 1) := by rw [hz, List.drop_eq_getElem_cons (by have := HNL.out; omega), List.getD_eq_getElem?_getD, List.getElem?_eq_getElem (by have := HNL.out; omega)]; rfl
              have hzc : W.cell? ⟨gi, oi + j, none⟩ = some (.int .i64 z) := by rw [HJ.out, HCE.out (i + 2) (by simp; have := HNL.out; omega), hz]; simp
              have hbz := HBD.out z hzr
              have HZW := hid (show (Lit.int .i64 (wrap64 (-z))).wf = true from wrap64_wf _)
              have hwz : wrap64 (-z) = -z := wrap64_lit hbz
              by_cases hzH : -z ∈ H
              · have HV1 := hid (show hv H (wrap64 (-z)) = 1 by rw [hwz]; exact if_pos hzH)
                have HF2 := hid (show findC H (r.drop (i + 1)) (i + 1 + 2) = findC H r 2 by rw [← HF.out, hdr, findC, if_pos hzH])
                clear hzH hwz hbz hdr hzr hz
                go_wp2_with (first
                  | (at_lookup; (with_reducible refine wp_look_hold _ rfl _ _ rfl mh nh H HMW.out (wrap64 (-z)) 1 rfl rfl HZW.out HV1.out ?_)))
                go_roundg left2
                case measure => omega
                case rel => exact ⟨i + 1, j + 1, hid (by have := HJ.out; omega), by omega, by go_num, HF2, rfl⟩
              · have HV1 := hid (show hv H (wrap64 (-z)) = 0 by rw [hwz]; exact if_neg hzH)
                have hfc : findC H r 2 = some (i + 2) := by rw [← HF.out, hdr, findC, if_neg hzH]
                have HST := hid (fstep_moved (H := H) (s := s) HTN.out HOH.out hfc)
                have hzl : z ≠ l := by rintro rfl; exact HLR.out hzr
                have HZ := hid hz
                have HZR := hid hzr
                have HZL := hid hzl
                have HBZ := hid hbz
                have hzf : W.frozen? ⟨gi, oi + j, none⟩ = false := HFR.out _
                have hzc2 : (W.setCell ⟨gi, oi + 1, none⟩ (.int .i64 z)).cell? ⟨gi, oi + j, none⟩ = some (.int .i64 z) := (World.cell?_setCell_other _ ⟨gi, oi + 1, none⟩ ⟨gi, oi + j, none⟩ _ (by intro h; injection h with _ h; have := HJ.out; omega)).trans hzc
                clear hzH hwz hbz hdr hzr hz hfc hzl
                go_wp2_with (first
                  | (at_lookup; (with_reducible refine wp_look_hold _ rfl _ _ rfl mh nh H HMW.out (wrap64 (-z)) 0 rfl rfl HZW.out HV1.out ?_)))
                refine start_ (n := 14) (S := fun w' => w'.cell? ⟨gi, oi + j, none⟩ = some (.int .i64 z) ∧ w'.cell? ⟨gi, oi + 1, none⟩ = some (.int .i64 l)) (ds := [11, 13]) #[false, false, false, false, false, false, false, false, false, false, false, false, false, false] (by kernel_rfl) rfl rfl ⟨hzc, ho1⟩ (fun hHeld => ?_)
                refine take_ (i := 0) (N := some 73) (v := ?_) (a' := ?_) #[true, false, false, false, false, false, false, false, false, false, false, false, false, false] rfl rfl (by kernel_rfl) (fun _ _ _ h => h) (Or.inl ⟨by rfl, ?_⟩) hHeld ?_ ?_   -- move (%12)
                rotate_left
                · rintro w' ⟨s0, s1⟩
                  go_simp
                  with_reducible rfl
                rotate_left
                · simp only [Act.put, List.setIfInBounds_toArray, List.set_cons_zero, List.set_cons_succ]
                  rfl
                refine pure_ (i := 1) (N := some 74) (v := ?_) (a' := ?_) #[true, true, false, false, false, false, false, false, false, false, false, false, false, false] rfl rfl (by kernel_rfl) (fun _ _ _ h => h) (Or.inl ⟨by rfl, ?_⟩) ?_ ?_   -- move (%12)
                rotate_left
                · intro w'
                  go_simp
                  with_reducible rfl
                rotate_left
                · simp only [Act.put, List.setIfInBounds_toArray, List.set_cons_zero, List.set_cons_succ]
                  rfl
                refine pure_ (i := 2) (N := some 75) (v := ?_) (a' := ?_) #[true, true, true, false, false, false, false, false, false, false, false, false, false, false] rfl rfl (by kernel_rfl) (fun _ _ _ h => h) (Or.inl ⟨by rfl, ?_⟩) ?_ ?_   -- move (%13)
                rotate_left
                · intro w'
                  go_simp
                  with_reducible rfl
                rotate_left
                · simp only [Act.put, List.setIfInBounds_toArray, List.set_cons_zero, List.set_cons_succ]
                  rfl
                refine take_ (i := 3) (N := some 76) (v := ?_) (a' := ?_) #[true, true, true, true, false, false, false, false, false, false, false, false, false, false] rfl rfl (by kernel_rfl) (fun _ _ _ h => h) (Or.inl ⟨by rfl, ?_⟩) hHeld ?_ ?_   -- move (%12)
                rotate_left
                · rintro w' ⟨s0, s1⟩
                  go_simp
                  with_reducible rfl
                rotate_left
                · simp only [Act.put, List.setIfInBounds_toArray, List.set_cons_zero, List.set_cons_succ]
                  rfl
                refine take_ (i := 4) (N := some 77) (v := ?_) (a' := ?_) #[true, true, true, true, true, false, false, false, false, false, false, false, false, false] rfl rfl (by kernel_rfl) (fun _ _ _ h => h) (Or.inl ⟨by rfl, ?_⟩) hHeld ?_ ?_   -- move (%13)
                rotate_left
                · rintro w' ⟨s0, s1⟩
                  go_simp
                  with_reducible rfl
                rotate_left
                · simp only [Act.put, List.setIfInBounds_toArray, List.set_cons_zero, List.set_cons_succ]
                  rfl
                refine take_ (i := 5) (N := some 78) (v := ?_) (a' := ?_) #[true, true, true, true, true, true, false, false, false, false, false, false, false, false] rfl rfl (by kernel_rfl) (fun _ _ _ h => h) (Or.inl ⟨by rfl, ?_⟩) hHeld ?_ ?_   -- indexAddr 31 (%76) (%77)
                rotate_left
                · rintro w' ⟨s0, s1⟩
                  go_simp
                  with_reducible rfl
                rotate_left
                · simp only [Act.put, List.setIfInBounds_toArray, List.set_cons_zero, List.set_cons_succ]
                  rfl
                refine take_ (i := 6) (N := some 79) (v := ?_) (a' := ?_) #[true, true, true, true, true, true, true, false, false, false, false, false, false, false] rfl rfl (by kernel_rfl) (fun _ _ _ h => h) (Or.inl ⟨by rfl, ?_⟩) hHeld ?_ ?_   -- load 46 (%78)
                rotate_left
                · rintro w' ⟨s0, s1⟩
                  go_simp
                  with_reducible rfl
                rotate_left
                · simp only [Act.put, List.setIfInBounds_toArray, List.set_cons_zero, List.set_cons_succ]
                  rfl
                refine take_ (i := 7) (N := some 80) (v := ?_) (a' := ?_) #[true, true, true, true, true, true, true, true, false, false, false, false, false, false] rfl rfl (by kernel_rfl) (fun _ _ _ h => h) (Or.inl ⟨by rfl, ?_⟩) hHeld ?_ ?_   -- move (%12)
                rotate_left
                · rintro w' ⟨s0, s1⟩
                  go_simp
                  with_reducible rfl
                rotate_left
                · simp only [Act.put, List.setIfInBounds_toArray, List.set_cons_zero, List.set_cons_succ]
                  rfl
                refine take_ (i := 8) (N := some 81) (v := ?_) (a' := ?_) #[true, true, true, true, true, true, true, true, true, false, false, false, false, false] rfl rfl (by kernel_rfl) (fun _ _ _ h => h) (Or.inl ⟨by rfl, ?_⟩) hHeld ?_ ?_   -- indexAddr 31 (%80) (const (int i64 1))
                rotate_left
                · rintro w' ⟨s0, s1⟩
                  go_simp
                  with_reducible rfl
                rotate_left
                · simp only [Act.put, List.setIfInBounds_toArray, List.set_cons_zero, List.set_cons_succ]
                  rfl
                refine take_ (i := 9) (N := some 82) (v := ?_) (a' := ?_) #[true, true, true, true, true, true, true, true, true, true, false, false, false, false] rfl rfl (by kernel_rfl) (fun _ _ _ h => h) (Or.inl ⟨by rfl, ?_⟩) hHeld ?_ ?_   -- load 46 (%81)
                rotate_left
                · rintro w' ⟨s0, s1⟩
                  go_simp
                  with_reducible rfl
                rotate_left
                · simp only [Act.put, List.setIfInBounds_toArray, List.set_cons_zero, List.set_cons_succ]
                  rfl
                refine take_ (i := 10) (N := some 83) (v := ?_) (a' := ?_) #[true, true, true, true, true, true, true, true, true, true, true, false, false, false] rfl rfl (by kernel_rfl) (fun _ _ _ h => h) (Or.inl ⟨by rfl, ?_⟩) hHeld ?_ ?_   -- indexAddr 31 (%73) (const (int i64 1))
                rotate_left
                · rintro w' ⟨s0, s1⟩
                  go_simp
                  with_reducible rfl
                rotate_left
                · simp only [Act.put, List.setIfInBounds_toArray, List.set_cons_zero, List.set_cons_succ]
                  rfl
                refine last_ (i := 11) (N := none) #[true, true, true, true, true, true, true, true, true, true, true, true, false, false] rfl rfl (by kernel_rfl) (by decide) (fun K hK => ?_)
                refine skip_ (by rfl) rfl (w1 := W.drew.setCell ⟨gi, oi + 1, none⟩ (.int .i64 z)) (by go_simp; first | done | rfl) ?_
                refine hK.out _ _ ?_
                refine pure_ (i := 12) (N := some 84) (v := ?_) (a' := ?_) #[true, true, true, true, true, true, true, true, true, true, true, true, true, false] rfl rfl (by kernel_rfl) (fun _ _ _ h => h) (Or.inl ⟨by rfl, ?_⟩) ?_ ?_   -- indexAddr 31 (%74) (%75)
                rotate_left
                · intro w'
                  go_simp
                  with_reducible rfl
                rotate_left
                · simp only [Act.put, List.setIfInBounds_toArray, List.set_cons_zero, List.set_cons_succ]
                  rfl
                refine last_ (i := 13) (N := none) #[true, true, true, true, true, true, true, true, true, true, true, true, true, true] rfl rfl (by kernel_rfl) (by decide) (fun K hK => ?_)
                refine skip_ (by rfl) rfl (w1 := (W.drew.setCell ⟨gi, oi + 1, none⟩ (.int .i64 z)).setCell ⟨gi, oi + j, none⟩ (.int .i64 l)) (by go_simp; first | done | rfl) ?_
                refine hK.out _ _ ?_
                refine done_ (by kernel_rfl) ?_
                have fmV := FM.out.swapped (n := n) (c := o :: l :: r) (by simpa using HNS.out) HGS.out (gi := gi) (oi := oi) (ci := ci) (by rw [HAT.out]; simp) 1 j (by simp) (by have := HJ.out; have := HNL.out; simp; omega) z l (kept_drew W _)
                have hlist : (((o :: l :: r).set 1 z).set j l) = o :: (r.getD i 0) :: r.set i l := by rw [HJ.out, ← HZ.out]; rfl
                simp only [List.set_set] at fmV
                rw [hlist] at fmV
                clear hlist
                generalize hVe : (W.drew.setCell ⟨gi, oi + 1, none⟩ (.int .i64 z)).setCell ⟨gi, oi + j, none⟩ (.int .i64 l) = V at fmV ⊢
                clear hVe
                have FV := hid fmV
                clear fmV hzc2 hzc ho0 ho1 hz1' hzf
                have hVz : V.cell? ⟨gi, oi + 1, none⟩ = some (.int .i64 z) := ((FV.out.mem.cellsOf (n := n) (c := o :: (r.getD i 0) :: r.set i l) (by simpa using HNS.out) (by simp only [List.getD_eq_getElem?_getD]; rw [List.getElem?_set_self (by simpa using HNS.out)]; rfl) (gi := gi) (oi := oi) (ci := ci) (by rw [HAT.out]; simp) (by simp)).1 1 (by simp)).trans (by simp only [List.getD_cons_succ, List.getD_cons_zero]; rw [← HZ.out])
                have hlenV := hid (show (s.by_ z).length < 1000000 by
                  have h1 := R.out.inv.short z
                  unfold mid updI at h1
                  rw [if_neg HZL.out, R.out.len] at h1
                  omega)
                have hwz1 : (Lit.int .i64 z).wf = true := WalkArith.wf_i64 (by have := HBZ.out; omega)
                have hS17 : ∀ W2 : World, W2.heap[p]? = V.heap[p]? → W2.heap[gi]? = V.heap[gi]? → W2.heap[M]? = V.heap[M]? →
                    W2.cell? ⟨p, 1, none⟩ = some (.map (some M)) ∧ W2.cell? ⟨gi, oi + 1, none⟩ = some (.int .i64 z) ∧ (Instr.lookup 62 (.map (some M)) (.int .i64 z) false).run Try.prog W2 = .ok (RM.hd gg z) W2 ∧ True :=
                  fun W2 q1 q2 q3 => ⟨(blk_cell (q1.trans FV.out.mem.obj) 1).trans rfl, (World.cell?_of_block q2).trans hVz, (FV.out.mem.map.move q3).look keyed Try.underlying62 (zeroRow W2) (keyOf_int_mk Try.underlying46 hwz1), trivial⟩
                have lp := blk_lt FV.out.mem.obj
                have lm := FV.out.mem.map.lt
                have lg : gi < V.heap.size := World.block_lt_of_cell? V ⟨gi, oi + 1, none⟩ hVz
                have np : (RM.hd gg z).ownBlock ≠ some p := fun e => (FV.out.mem.byNe e).1 rfl
                have nm : (RM.hd gg z).ownBlock ≠ some M := fun e => (FV.out.mem.byNe e).2.1 rfl
                have ng : (RM.hd gg z).ownBlock ≠ some gi := fun e => (FV.out.mem.byNe e).2.2.2.2 n (by simpa using HNS.out) (by rw [HAT.out]; rfl)
                have HRowV := hid (FV.out.mem.by_ z)
                have HS17 := hid hS17
                have HSL := hid (And.intro hwz1 hVz)
                clear hS17 hwz1 hVz
                go_wp2_with fail
                have hS17 := HS17.out
                refine start_ (n := 19) (S := fun w' => w'.cell? ⟨p, 1, none⟩ = some (.map (some M)) ∧ w'.cell? ⟨gi, oi + 1, none⟩ = some (.int .i64 z) ∧ (Instr.lookup 62 (.map (some M)) (.int .i64 z) false).run Try.prog w' = .ok (RM.hd gg z) w' ∧ True) (ds := [18]) #[false, false, false, false, false, false, false, false, false, false, false, false, false, false, false, false, false, false, false] (by kernel_rfl) rfl rfl (hS17 _ rfl rfl rfl) (fun hHeld => ?_)
                refine take_ (i := 0) (N := some 85) (v := ?_) (a' := ?_) #[true, false, false, false, false, false, false, false, false, false, false, false, false, false, false, false, false, false, false] rfl rfl (by kernel_rfl) (fun _ _ _ h => h) (Or.inl ⟨by rfl, ?_⟩) hHeld ?_ ?_   -- move (%0)
                rotate_left
                · rintro w' ⟨s0, s1, s2, s3⟩
                  go_simp
                  with_reducible rfl
                rotate_left
                · simp only [Act.put, List.setIfInBounds_toArray, List.set_cons_zero, List.set_cons_succ]
                  rfl
                refine take_ (i := 1) (N := some 86) (v := ?_) (a' := ?_) #[true, true, false, false, false, false, false, false, false, false, false, false, false, false, false, false, false, false, false] rfl rfl (by kernel_rfl) (fun _ _ _ h => h) (Or.inl ⟨by rfl, ?_⟩) hHeld ?_ ?_   -- nilCheck (%85)
                rotate_left
                · rintro w' ⟨s0, s1, s2, s3⟩
                  go_simp
                  with_reducible rfl
                rotate_left
                · simp only [Act.put, List.setIfInBounds_toArray, List.set_cons_zero, List.set_cons_succ]
                  rfl
                refine take_ (i := 2) (N := some 87) (v := ?_) (a' := ?_) #[true, true, true, false, false, false, false, false, false, false, false, false, false, false, false, false, false, false, false] rfl rfl (by kernel_rfl) (fun _ _ _ h => h) (Or.inl ⟨by rfl, ?_⟩) hHeld ?_ ?_   -- fieldAddr 64 (%86) 1
                rotate_left
                · rintro w' ⟨s0, s1, s2, s3⟩
                  go_simp
                  with_reducible rfl
                rotate_left
                · simp only [Act.put, List.setIfInBounds_toArray, List.set_cons_zero, List.set_cons_succ]
                  rfl
                refine take_ (i := 3) (N := some 88) (v := ?_) (a' := ?_) #[true, true, true, true, false, false, false, false, false, false, false, false, false, false, false, false, false, false, false] rfl rfl (by kernel_rfl) (fun _ _ _ h => h) (Or.inl ⟨by rfl, ?_⟩) hHeld ?_ ?_   -- load 62 (%87)
                rotate_left
                · rintro w' ⟨s0, s1, s2, s3⟩
                  go_simp
                  with_reducible rfl
                rotate_left
                · simp only [Act.put, List.setIfInBounds_toArray, List.set_cons_zero, List.set_cons_succ]
                  rfl
                refine take_ (i := 4) (N := some 89) (v := ?_) (a' := ?_) #[true, true, true, true, true, false, false, false, false, false, false, false, false, false, false, false, false, false, false] rfl rfl (by kernel_rfl) (fun _ _ _ h => h) (Or.inl ⟨by rfl, ?_⟩) hHeld ?_ ?_   -- move (%12)
                rotate_left
                · rintro w' ⟨s0, s1, s2, s3⟩
                  go_simp
                  with_reducible rfl
                rotate_left
                · simp only [Act.put, List.setIfInBounds_toArray, List.set_cons_zero, List.set_cons_succ]
                  rfl
                refine take_ (i := 5) (N := some 90) (v := ?_) (a' := ?_) #[true, true, true, true, true, true, false, false, false, false, false, false, false, false, false, false, false, false, false] rfl rfl (by kernel_rfl) (fun _ _ _ h => h) (Or.inl ⟨by rfl, ?_⟩) hHeld ?_ ?_   -- indexAddr 31 (%89) (const (int i64 1))
                rotate_left
                · rintro w' ⟨s0, s1, s2, s3⟩
                  go_simp
                  with_reducible rfl
                rotate_left
                · simp only [Act.put, List.setIfInBounds_toArray, List.set_cons_zero, List.set_cons_succ]
                  rfl
                refine take_ (i := 6) (N := some 91) (v := ?_) (a' := ?_) #[true, true, true, true, true, true, true, false, false, false, false, false, false, false, false, false, false, false, false] rfl rfl (by kernel_rfl) (fun _ _ _ h => h) (Or.inl ⟨by rfl, ?_⟩) hHeld ?_ ?_   -- load 46 (%90)
                rotate_left
                · rintro w' ⟨s0, s1, s2, s3⟩
                  go_simp
                  with_reducible rfl
                rotate_left
                · simp only [Act.put, List.setIfInBounds_toArray, List.set_cons_zero, List.set_cons_succ]
                  rfl
                refine take_ (i := 7) (N := some 92) (v := ?_) (a' := ?_) #[true, true, true, true, true, true, true, true, false, false, false, false, false, false, false, false, false, false, false] rfl rfl (by kernel_rfl) (fun _ _ _ h => h) (Or.inl ⟨by rfl, ?_⟩) hHeld ?_ ?_   -- move (%0)
                rotate_left
                · rintro w' ⟨s0, s1, s2, s3⟩
                  go_simp
                  with_reducible rfl
                rotate_left
                · simp only [Act.put, List.setIfInBounds_toArray, List.set_cons_zero, List.set_cons_succ]
                  rfl
                refine take_ (i := 8) (N := some 93) (v := ?_) (a' := ?_) #[true, true, true, true, true, true, true, true, true, false, false, false, false, false, false, false, false, false, false] rfl rfl (by kernel_rfl) (fun _ _ _ h => h) (Or.inl ⟨by rfl, ?_⟩) hHeld ?_ ?_   -- nilCheck (%92)
                rotate_left
                · rintro w' ⟨s0, s1, s2, s3⟩
                  go_simp
                  with_reducible rfl
                rotate_left
                · simp only [Act.put, List.setIfInBounds_toArray, List.set_cons_zero, List.set_cons_succ]
                  rfl
                refine take_ (i := 9) (N := some 94) (v := ?_) (a' := ?_) #[true, true, true, true, true, true, true, true, true, true, false, false, false, false, false, false, false, false, false] rfl rfl (by kernel_rfl) (fun _ _ _ h => h) (Or.inl ⟨by rfl, ?_⟩) hHeld ?_ ?_   -- fieldAddr 64 (%93) 1
                rotate_left
                · rintro w' ⟨s0, s1, s2, s3⟩
                  go_simp
                  with_reducible rfl
                rotate_left
                · simp only [Act.put, List.setIfInBounds_toArray, List.set_cons_zero, List.set_cons_succ]
                  rfl
                refine take_ (i := 10) (N := some 95) (v := ?_) (a' := ?_) #[true, true, true, true, true, true, true, true, true, true, true, false, false, false, false, false, false, false, false] rfl rfl (by kernel_rfl) (fun _ _ _ h => h) (Or.inl ⟨by rfl, ?_⟩) hHeld ?_ ?_   -- load 62 (%94)
                rotate_left
                · rintro w' ⟨s0, s1, s2, s3⟩
                  go_simp
                  with_reducible rfl
                rotate_left
                · simp only [Act.put, List.setIfInBounds_toArray, List.set_cons_zero, List.set_cons_succ]
                  rfl
                refine take_ (i := 11) (N := some 96) (v := ?_) (a' := ?_) #[true, true, true, true, true, true, true, true, true, true, true, true, false, false, false, false, false, false, false] rfl rfl (by kernel_rfl) (fun _ _ _ h => h) (Or.inl ⟨by rfl, ?_⟩) hHeld ?_ ?_   -- move (%12)
                rotate_left
                · rintro w' ⟨s0, s1, s2, s3⟩
                  go_simp
                  with_reducible rfl
                rotate_left
                · simp only [Act.put, List.setIfInBounds_toArray, List.set_cons_zero, List.set_cons_succ]
                  rfl
                refine take_ (i := 12) (N := some 97) (v := ?_) (a' := ?_) #[true, true, true, true, true, true, true, true, true, true, true, true, true, false, false, false, false, false, false] rfl rfl (by kernel_rfl) (fun _ _ _ h => h) (Or.inl ⟨by rfl, ?_⟩) hHeld ?_ ?_   -- indexAddr 31 (%96) (const (int i64 1))
                rotate_left
                · rintro w' ⟨s0, s1, s2, s3⟩
                  go_simp
                  with_reducible rfl
                rotate_left
                · simp only [Act.put, List.setIfInBounds_toArray, List.set_cons_zero, List.set_cons_succ]
                  rfl
                refine take_ (i := 13) (N := some 98) (v := ?_) (a' := ?_) #[true, true, true, true, true, true, true, true, true, true, true, true, true, true, false, false, false, false, false] rfl rfl (by kernel_rfl) (fun _ _ _ h => h) (Or.inl ⟨by rfl, ?_⟩) hHeld ?_ ?_   -- load 46 (%97)
                rotate_left
                · rintro w' ⟨s0, s1, s2, s3⟩
                  go_simp
                  with_reducible rfl
                rotate_left
                · simp only [Act.put, List.setIfInBounds_toArray, List.set_cons_zero, List.set_cons_succ]
                  rfl
                refine take_ (i := 14) (N := some 99) (v := ?_) (a' := ?_) #[true, true, true, true, true, true, true, true, true, true, true, true, true, true, true, false, false, false, false] rfl rfl (by kernel_rfl) (fun _ _ _ h => h) (Or.inl ⟨by rfl, ?_⟩) hHeld ?_ ?_   -- lookup 62 (%95) (%98) false
                rotate_left
                · rintro w' ⟨s0, s1, s2, s3⟩
                  go_simp
                  with_reducible rfl
                rotate_left
                · simp only [Act.put, List.setIfInBounds_toArray, List.set_cons_zero, List.set_cons_succ]
                  rfl
                refine take_ (i := 15) (N := some 100) (v := ?_) (a' := ?_) #[true, true, true, true, true, true, true, true, true, true, true, true, true, true, true, true, false, false, false] rfl rfl (by kernel_rfl) (fun _ _ _ h => h) (Or.inl ⟨by rfl, ?_⟩) hHeld ?_ ?_   -- move (%11)
                rotate_left
                · rintro w' ⟨s0, s1, s2, s3⟩
                  go_simp
                  with_reducible rfl
                rotate_left
                · simp only [Act.put, List.setIfInBounds_toArray, List.set_cons_zero, List.set_cons_succ]
                  rfl
                refine one_ (i := 16) (N := some 101) #[true, true, true, true, true, true, true, true, true, true, true, true, true, true, true, true, true, false, false] rfl rfl (by kernel_rfl) (by decide) (fun K hK => ?_)
                refine value_ (by rfl) rfl (v := .slice (some ⟨V.heap.size, 0, none⟩) 1 1) (w1 := V.drew.alloc (.cells #[.int .i64 n] 3)) (by go_simp; first | done | rfl) ?_
                refine hK.out _ _ (hS17 _ (old_alloc _ lp) (old_alloc _ lg) (old_alloc _ lm)) (fun hHeld => ?_)
                refine norm_ (a' := ?_) ?_ ?_
                rotate_left
                · simp only [Act.put, List.setIfInBounds_toArray, List.set_cons_zero, List.set_cons_succ]
                  rfl
                refine one_ (i := 17) (N := some 102) #[true, true, true, true, true, true, true, true, true, true, true, true, true, true, true, true, true, true, false] rfl rfl (by kernel_rfl) (by decide) (fun K hK => ?_)
                refine step_int _ (by rfl) (N := some 102) (by rfl) _ _ (by rfl) (RM.hd gg z) _ (lits (s.by_ z)) [.int .i64 n] (by rfl) (by rfl) (HRowV.out.drew.alloc _) (Row.one _ _ _) (by simp [Value.oneCell']) (by have := hlenV.out; simp; omega) ?_
                intro v1 w3 hr1 hk1 hat1
                have hfar1 : ∀ q, q < V.heap.size → (RM.hd gg z).ownBlock ≠ some q → w3.heap[q]? = V.heap[q]? := fun q hq hne => (hk1.block q (by simp; omega) hne).trans (old_alloc _ hq)
                refine hK.out _ _ (hS17 _ (hfar1 _ lp np) (hfar1 _ lg ng) (hfar1 _ lm nm)) (fun hHeld => ?_)
                have hrun1 := ((FV.out.mem.map.move (hfar1 _ lm nm)).put_run keyed Try.underlying62 (by simp [maxLen]) (keyOf_int_mk Try.underlying46 HSL.out.1) v1)
                refine norm_ (a' := ?_) ?_ ?_
                rotate_left
                · simp only [Act.put, List.setIfInBounds_toArray, List.set_cons_zero, List.set_cons_succ]
                  rfl
                refine last_ (i := 18) (N := none) #[true, true, true, true, true, true, true, true, true, true, true, true, true, true, true, true, true, true, true] rfl rfl (by kernel_rfl) (by decide) (fun K hK => ?_)
                refine skip_ (by rfl) rfl (w1 := putB M z v1 w3) (by go_simp; first | done | (rw [hrun1.1]; first | done | rfl)) ?_
                refine hK.out _ _ ?_
                refine done_ (by kernel_rfl) ?_
                have fmX := FV.out.pushed HZL.out HBZ.out.2.1 HBZ.out.2.2 (s.by_ z ++ [(n : Int)]) ((kept_drew V (fun _ => False)).trans (kept_new _ (fun _ => False)) (fun _ h => h) (fun _ h => h.elim)) (by rw [show lits (s.by_ z ++ [(n : Int)]) = lits (s.by_ z) ++ [.int .i64 n] from by simp [lits]]; exact hr1) hk1 hat1 hrun1.2.1 hrun1.2.2
                rw [← HZ.out] at fmX
                have R2 := hid (R.out.next HDROP.out HST.out (by rw [← HZ.out]; exact fmX) (by show updI s.by_ _ _ l = _; unfold updI; rw [if_neg (by rw [← HZ.out]; exact Ne.symm HZL.out)]; exact R.out.here) (by simp) (by simp))
                clear fmX hr1 hk1 hat1 hrun1
                go_wp2_with fail
                go_roundg left
                case measure => omega
                case rel => exact ⟨k + 1, _, _, _, by omega, by go_num, rfl, R2⟩
end Go.Proofs.Ytjlkjgoncfdaeaa.RM
