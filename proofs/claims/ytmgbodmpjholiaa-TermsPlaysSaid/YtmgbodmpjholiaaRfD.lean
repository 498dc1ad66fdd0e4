/- The document's terms, in memory: Split, Plus, Le, Node, New (printed by wip/tools/rfd.py). -/
import Derived.Test.YtmgbodmpjholiaaRfC
import Derived.Test.YtmgbodmpjholiaaTermD
namespace Go.Proofs.Ytmgbodmpjholiaa.RT
open Go.RowKit Go.Maps Go.Shelf Go.Lib Go.Proofs.YtmgbodmpjholiaaW.PrintWords Go.Proofs.YtmgbodmpjholiaaW.PrintLast Go.Proofs.YtmgbodmpjholiaaW.PrintMore Go.Proofs.Ytmgbodmpjholiaa.MM Go.Proofs.Ytmgbodmpjholiaa.KM Go.Proofs.Ytmgbodmpjholiaa.TM
attribute [local go_sem ↓] Go.wp_at_zero Go.wp_at_succ
set_option linter.unusedSimpArgs false
set_option linter.unusedVariables false

theorem zero_rowAt (w : World) (e : TypeId) (b : Nat) (hb : b = w.heap.size) : Row (w.alloc (.cells #[] e)) e (.slice (some ⟨b, 0, none⟩) 0 0) [] := by
  subst hb
  exact zero_row w e
set_option maxRecDepth 100000 in
set_option maxHeartbeats 3200000 in
theorem Split_calls (w : World) (u : Nat) (l : List NodeM) (F : Nat → Prop) (a : Int) (h : Rs w u l F) :
    Calls Try.prog 48 #[ptr u, .int .i64 a] w fun e w' => e = .returned (.tuple #[.int .i64 (splitM l a).1, .int .i64 (splitM l a).2.1, .int .i64 (splitM l a).2.2]) ∧ Below w.heap.size w w' := by
  have HS := hid h
  have HTH := hid (fun (W : World) (v : Value) (xs : List Int) (hW : Below w.heap.size w W) (hr : Row W 26 v (lits xs)) => there_calls W u l F v xs (h.below hW) hr)
  have HWF := hid h.wf
  have HB0 := hid ((Below.refl w.heap.size w).alloc (Nat.le_refl _) (.cells (lits [a]).toArray 26))
  have HR0 := hid (Row.many w 26 (lits [a]) (by simp))
  clear h
  go_enter Try.func48, Try.ntmps48
  go_wp2_with fail
  refine (HTH.out _ _ [a] HB0.out HR0.out).mono ?_
  rintro e w1 ⟨rfl, hb⟩
  have HB1 := hid (TM.bel HB0.out hb)
  clear hb
  cases hth : thereM l [a] with
  | false =>
    have HTHE := hid hth
    clear hth
    go_wp2_with fail
    go_ret3
    rw [show splitM l a = (0, 0, 7) from (by unfold splitM; rw [HTHE.out]; rfl)]
    exact ⟨rfl, HB1.out⟩
  | true =>
    have HTHE := hid hth
    clear hth
    obtain ⟨i, g, n, cap, o, f, r, s, x, c, hai, hin, d0, e0, e1, e2, e3, e4, HROW⟩ := rs_cells (HS.out.below HB1.out) (there_one HTHE.out)
    obtain ⟨K, hK⟩ : ∃ K, K = (nodeM l a).args.length := ⟨_, rfl⟩
    rw [← hK] at e4 HROW
    have HK := hid hK
    have hlt := HROW.out.2.1
    have HND := hid HROW.out.2.2.1
    have HWN := hid (HWF.out.has (there_one HTHE.out))
    have hnb : (n : Int) ≤ 20000 := by have := HROW.out.2.2.2; have := HWF.out.high; omega
    clear hK
    subst hai
    by_cases hs : s = 1
    · subst hs
      by_cases h3 : o = 3
      · subst h3
        go_wp2_with fail
        go_quiet (fail)
        go_wp2_with fail
        go_ret3
        rw [show splitM l (i : Int) = (2, r, 0) from (by unfold splitM sortM; rw [HTHE.out]; rw [HND.out]; simp)]
        exact ⟨rfl, pw_below_drewN (HB1.out.alloc HB1.out.size _) _⟩
      · have o3 : (o == 3) = false := by simpa using h3
        have H3 := hid h3
        clear h3
        by_cases h4 : o = 4
        · subst h4
          have HL1 := hid (show K = 1 from by rw [HK.out]; exact HWN.out.one (by rw [HND.out]))
          have hK1 := HL1.out
          subst hK1
          obtain ⟨gx, ox, cx, hv, _, _, hgx, hcx, _⟩ := HROW.out.1.cells (by simp; have := HK.out; omega)
          injection hv with z1 z2 z3
          subst z1 z3
          have hx0 := hcx 0 (by simp; have := HK.out; omega)
          rw [TM.lits_get _ _ (by have := HK.out; omega)] at hx0
          have hx1 : w1.cell? ⟨gx, ox, none⟩ = some (.int .i64 ((nodeM l (i : Int)).args.getD 0 0)) := hx0
          obtain ⟨y, hy⟩ : ∃ y, y = (nodeM l (i : Int)).args.getD 0 0 := ⟨_, rfl⟩
          rw [← hy] at hx1
          have HY := hid hy
          clear hx0 hcx z2 hy
          go_wp2_with fail
          go_quiet (fail)
          go_wp2_with fail
          go_ret3
          rw [show splitM l (i : Int) = (y, r, 0) from (by unfold splitM sortM; rw [HTHE.out, HY.out]; rw [HND.out]; simp)]
          exact ⟨rfl, pw_below_drewN (HB1.out.alloc HB1.out.size _) _⟩
        · have o4 : (o == 4) = false := by simpa using h4
          have H4 := hid h4
          clear h4
          go_wp2_with fail
          go_ret3
          rw [show splitM l (i : Int) = ((i : Int), 0, 0) from (by unfold splitM sortM; rw [HTHE.out]; rw [HND.out]; simp [H3.out, H4.out])]
          exact ⟨rfl, HB1.out.alloc HB1.out.size _⟩
    · have s1 : (s != 1) = true := by simpa using hs
      have HSN := hid hs
      clear hs
      go_wp2_with fail
      go_ret3
      rw [show splitM l (i : Int) = (0, 0, 60) from (by unfold splitM sortM; rw [HTHE.out]; rw [HND.out]; simp [HSN.out])]
      exact ⟨rfl, HB1.out.alloc HB1.out.size _⟩
set_option maxRecDepth 100000 in
set_option maxHeartbeats 3200000 in
theorem Node_calls (w : World) (u : Nat) (l : List NodeM) (F : Nat → Prop) (a : Int) (h : Rs w u l F) :
    Calls Try.prog 47 #[ptr u, .int .i64 a] w (ShowN w (nodeE l a) (hasE l a)) := by
  have HS := hid h
  have HTH := hid (fun (W : World) (v : Value) (xs : List Int) (hW : Below w.heap.size w W) (hr : Row W 26 v (lits xs)) => there_calls W u l F v xs (h.below hW) hr)
  have HWF := hid h.wf
  have HB0 := hid (((Below.refl w.heap.size w).alloc (Nat.le_refl _) (.cells #[.int .u8 0, .int .i64 0, .int .i64 0, .int .i64 0, .slice none 0 0] 54)).alloc (by simp) (.cells (lits [a]).toArray 26))
  have HR0 := hid (Row.manyAt (w.alloc (.cells #[.int .u8 0, .int .i64 0, .int .i64 0, .int .i64 0, .slice none 0 0] 54)) 26 (lits [a]) (by simp) (w.heap.size + 1) (by simp))
  clear h
  go_enter Try.func47, Try.ntmps47
  go_wp2_with fail
  refine (HTH.out _ _ [a] HB0.out HR0.out).mono ?_
  rintro e w1 ⟨rfl, hb⟩
  have HB1 := hid (show Below w.heap.size w w1 from HB0.out.trans (hb.mono HB0.out.size))
  have hp : w1.heap[w.heap.size]? = some (.cells #[.int .u8 0, .int .i64 0, .int .i64 0, .int .i64 0, .slice none 0 0] 54 (0, 0)) := (hb.block _ (by simp; omega)).trans ((old_alloc _ (by simp)).trans (heap_alloc_new _ _))
  have HP := hid hp
  clear hb
  cases hth : thereM l [a] with
  | false =>
    have HTHE := hid hth
    clear hth
    have HHE := hid (show hasM l a = false by simpa [thereM] using HTHE.out)
    have p0 : w1.cell? ⟨w.heap.size, 0, none⟩ = some (.int .u8 0) := (blk_cell hp 0).trans rfl
    have p1 : w1.cell? ⟨w.heap.size, 1, none⟩ = some (.int .i64 0) := (blk_cell hp 1).trans rfl
    have p2 : w1.cell? ⟨w.heap.size, 2, none⟩ = some (.int .i64 0) := (blk_cell hp 2).trans rfl
    have p3 : w1.cell? ⟨w.heap.size, 3, none⟩ = some (.int .i64 0) := (blk_cell hp 3).trans rfl
    have p4 : w1.cell? ⟨w.heap.size, 4, none⟩ = some (.slice none 0 0) := (blk_cell hp 4).trans rfl
    have pf0 : w1.frozen? ⟨w.heap.size, 0, none⟩ = false := blk_frozen hp 0
    have pf1 : w1.frozen? ⟨w.heap.size, 1, none⟩ = false := blk_frozen hp 1
    have pf2 : w1.frozen? ⟨w.heap.size, 2, none⟩ = false := blk_frozen hp 2
    have pf3 : w1.frozen? ⟨w.heap.size, 3, none⟩ = false := blk_frozen hp 3
    have pf4 : w1.frozen? ⟨w.heap.size, 4, none⟩ = false := blk_frozen hp 4
    clear hp
    go_wp2_with fail
    refine bodyPost_ret (v := .tuple #[.agg #[.int .u8 0, .int .i64 0, .int .i64 0, .int .i64 0, .slice none 0 0], .int .i64 7]) (by simp [results, Try.results47, go_sem, p0, p1, p2, p3, p4]) rfl ?_
    unfold nodeE hasE
    rw [HHE.out]
    refine ⟨.slice none 0 0, rfl, .nil _ _, (by intro g hg; cases hg), ?_⟩
    exact ((((HB1.out.setCell (by simp) _).setCell (by simp) _).setCell (by simp) _).setCell (by simp) _).setCell (by simp) _
  | true =>
    have HTHE := hid hth
    clear hth
    have HTHT := hid (there_one HTHE.out)
    have hsz : w.heap.size < w1.heap.size := blk_lt hp
    clear hp
    obtain ⟨i, g, n, cap, o, f, r, s, x, c, hai, hin, d0, e0, e1, e2, e3, e4, HROW⟩ := rs_cells (HS.out.below HB1.out) (there_one HTHE.out)
    obtain ⟨K, hK⟩ : ∃ K, K = (nodeM l a).args.length := ⟨_, rfl⟩
    rw [← hK] at e4 HROW
    have HK := hid hK
    have hlt := HROW.out.2.1
    have HND := hid HROW.out.2.2.1
    have HWN := hid (HWF.out.has (there_one HTHE.out))
    have hnb : (n : Int) ≤ 20000 := by have := HROW.out.2.2.2; have := HWF.out.high; omega
    clear hK
    subst hai
    have HSZ := hid hsz
    have HBDK := hid (show K ≤ 2000 from by rw [HK.out]; exact HWN.out.len)
    go_wp2_with (at_builtin; go_loud (refine wp_appT _ rfl _ _ rfl _ _ [] (lits (nodeM l (i : Int)).args) (by rfl) (by rfl) (zero_rowAt _ _ (w1.heap.size + 1) (by simp)) ((HROW.out.1.alloc _).alloc _) (one_cells _) (by have := HK.out; have := HBDK.out; simp; omega) ?_; intro v2 w2 hr2 hk2 hat2; rw [List.nil_append] at hr2; obtain ⟨a2, c2, rfl, _⟩ := hr2.shape; have hxl : (lits (nodeM l (i : Int)).args).length = K := (by simp [HK.out]); rw [hxl] at hr2 hat2; try rw [hxl]; have hq := hk2.blk ((old_alloc _ (by simp)).trans (heap_alloc_new w1 (.cells #[.int .u8 o, .int .i64 f, .int .i64 r, .int .i64 s, .slice x K c] 54))) (fun e => absurd (Option.some.inj e : w1.heap.size + 1 = w1.heap.size) (by omega)); have hp := hk2.blk ((old_alloc _ (by simp; omega)).trans ((old_alloc _ hsz).trans HP.out)) (fun e => absurd (Option.some.inj e : w1.heap.size + 1 = w.heap.size) (by omega)); have HR2 := hid hr2; have HK2 := hid hk2; have HAT2 := hid hat2; clear hr2 hk2 hat2 d0 e0 e1 e2 e3 e4 hlt hin; have p0 : w2.cell? ⟨w.heap.size, 0, none⟩ = some (.int .u8 0) := (blk_cell hp 0).trans rfl; have p1 : w2.cell? ⟨w.heap.size, 1, none⟩ = some (.int .i64 0) := (blk_cell hp 1).trans rfl; have p2 : w2.cell? ⟨w.heap.size, 2, none⟩ = some (.int .i64 0) := (blk_cell hp 2).trans rfl; have p3 : w2.cell? ⟨w.heap.size, 3, none⟩ = some (.int .i64 0) := (blk_cell hp 3).trans rfl; have p4 : w2.cell? ⟨w.heap.size, 4, none⟩ = some (.slice none 0 0) := (blk_cell hp 4).trans rfl; have pf0 : w2.frozen? ⟨w.heap.size, 0, none⟩ = false := blk_frozen hp 0; have pf1 : w2.frozen? ⟨w.heap.size, 1, none⟩ = false := blk_frozen hp 1; have pf2 : w2.frozen? ⟨w.heap.size, 2, none⟩ = false := blk_frozen hp 2; have pf3 : w2.frozen? ⟨w.heap.size, 3, none⟩ = false := blk_frozen hp 3; have pf4 : w2.frozen? ⟨w.heap.size, 4, none⟩ = false := blk_frozen hp 4; clear hp; have q0 : w2.cell? ⟨w1.heap.size, 0, none⟩ = some (.int .u8 o) := (blk_cell hq 0).trans rfl; have q1 : w2.cell? ⟨w1.heap.size, 1, none⟩ = some (.int .i64 f) := (blk_cell hq 1).trans rfl; have q2 : w2.cell? ⟨w1.heap.size, 2, none⟩ = some (.int .i64 r) := (blk_cell hq 2).trans rfl; have q3 : w2.cell? ⟨w1.heap.size, 3, none⟩ = some (.int .i64 s) := (blk_cell hq 3).trans rfl; have q4 : w2.cell? ⟨w1.heap.size, 4, none⟩ = some (.slice x K c) := (blk_cell hq 4).trans rfl; have qf0 : w2.frozen? ⟨w1.heap.size, 0, none⟩ = false := blk_frozen hq 0; have qf1 : w2.frozen? ⟨w1.heap.size, 1, none⟩ = false := blk_frozen hq 1; have qf2 : w2.frozen? ⟨w1.heap.size, 2, none⟩ = false := blk_frozen hq 2; have qf3 : w2.frozen? ⟨w1.heap.size, 3, none⟩ = false := blk_frozen hq 3; have qf4 : w2.frozen? ⟨w1.heap.size, 4, none⟩ = false := blk_frozen hq 4; clear hq; have hne : w.heap.size ≠ w1.heap.size := (by omega); have hne' : w1.heap.size ≠ w.heap.size := (by omega)))
    refine bodyPost_ret (v := .tuple #[.agg #[.int .u8 o, .int .i64 f, .int .i64 r, .int .i64 s, .slice a2 K c2], .int .i64 0]) (by simp [results, Try.results47, go_sem, p0, p1, p2, p3, p4, hne, hne']) rfl ?_
    have hxg : ∀ g, (Value.slice a2 K c2).ownBlock = some g → w1.heap.size < g := fun g hg => by
      rcases HAT2.out with e | e
      · rw [hg] at e
        have := (Option.some.inj e : g = w1.heap.size + 1)
        omega
      · rw [hg] at e
        have := Option.some.inj e
        simp at this
        omega
    have hxn : ∀ g, (Value.slice a2 K c2).ownBlock = some g → g ≠ w.heap.size ∧ g ≠ w1.heap.size := fun g hg => by
      have h1 := hxg g hg
      have h2 := HSZ.out
      omega
    have hbw : Below w.heap.size w w2 := TM.bel (HB1.out.alloc HB1.out.size (.cells #[.int .u8 o, .int .i64 f, .int .i64 r, .int .i64 s, .slice x K c] 54)) (((Below.refl _ _).alloc (Nat.le_refl _) (.cells #[] 26)).trans (HK2.out.below (fun j hj => by have := (Option.some.inj hj : w1.heap.size + 1 = j); simp; omega) (by simp)))
    unfold nodeE hasE
    rw [if_pos HTHT.out, if_pos HTHT.out, HND.out]
    refine ⟨.slice a2 K c2, rfl, ?_, fun g hg => by have h1 := hxg g hg; have h2 := HSZ.out; omega, ?_⟩
    · exact Row.other (Row.other (Row.other (Row.other (Row.other (Row.other HR2.out (fun g hg => (hxn g hg).2)) (fun g hg => (hxn g hg).1)) (fun g hg => (hxn g hg).1)) (fun g hg => (hxn g hg).1)) (fun g hg => (hxn g hg).1)) (fun g hg => (hxn g hg).1)
    · exact (((((hbw.setCell (by simp; omega) _).setCell (by simp) _).setCell (by simp) _).setCell (by simp) _).setCell (by simp) _).setCell (by simp) _
end Go.Proofs.Ytmgbodmpjholiaa.RT
