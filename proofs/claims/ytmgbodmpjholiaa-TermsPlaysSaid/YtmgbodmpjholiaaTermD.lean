/- Walks of terms: Split, Plus, Le, Len, Node, New (printed by wip/tools/termd.py). -/
import Derived.Test.YtmgbodmpjholiaaTermC
namespace Go.Proofs.Ytmgbodmpjholiaa.TM
open Go.RowKit Go.Maps Go.Shelf Go.Lib Go.Proofs.YtmgbodmpjholiaaW.PrintWords Go.Proofs.YtmgbodmpjholiaaW.PrintLast Go.Proofs.YtmgbodmpjholiaaW.PrintMore Go.Proofs.Ytmgbodmpjholiaa.MM Go.Proofs.Ytmgbodmpjholiaa.KM
attribute [local go_sem ↓] Go.wp_at_zero Go.wp_at_succ
set_option linter.unusedSimpArgs false
set_option linter.unusedVariables false

/-- Where a node stands. -/
theorem node_cells {w : World} {t : Nat} {l : List NodeM} {q : Nat} {F : Nat → Prop} {a : Int} (h : St w t l q F) (ha : hasM l a = true) : ∃ (i g n cap : Nat) (o f u s : Int) (x : Option Addr) (c : Nat), a = (i : Int) ∧ (i : Int) < (n : Int) ∧ w.cell? ⟨t, 0, none⟩ = some (.slice (some ⟨g, 0, none⟩) n cap) ∧
    w.cell? ⟨g, i * 5, none⟩ = some (.int .u8 o) ∧ w.cell? ⟨g, i * 5 + 1, none⟩ = some (.int .i64 f) ∧ w.cell? ⟨g, i * 5 + 2, none⟩ = some (.int .i64 u) ∧ w.cell? ⟨g, i * 5 + 3, none⟩ = some (.int .i64 s) ∧ w.cell? ⟨g, i * 5 + 4, none⟩ = some (.slice x (nodeM l a).args.length c) ∧
    Hid (Row w 26 (.slice x (nodeM l a).args.length c) (lits (nodeM l a).args) ∧ g < w.heap.size ∧ nodeM l a = ⟨o, f, u, s, (nodeM l a).args⟩) := by
  obtain ⟨A, v, b1, b2, L, g1, g2, h1, _⟩ := h
  obtain ⟨g, cap, y, rfl, hg, hcells, hr, _⟩ := h1.nodes.cells (nodes_get ha)
  have h2 := getD_mem ha
  obtain ⟨x, c, hy, _⟩ := hr.shape
  rw [List.length_map] at hy
  subst hy
  exact ⟨a.toNat, g, l.length, cap, _, _, _, _, x, c, by omega, by omega, h1.at.c0, hcells 0 _ rfl, hcells 1 _ rfl, hcells 2 _ rfl, hcells 3 _ rfl, hcells 4 _ rfl, hid ⟨hr, hg, rfl⟩⟩
theorem Row.manyAt (w : World) (e : TypeId) (xs : List Value) (hl : xs.length ≤ 1000000) (b : Nat) (hb : b = w.heap.size) : Row (w.alloc (.cells xs.toArray e)) e (.slice (some ⟨b, 0, none⟩) xs.length xs.length) xs := by
  subst hb
  exact Row.many w e xs hl
theorem Row.other {w : World} {e : TypeId} {v : Value} {xs : List Value} {p i : Nat} {u : Value} (h : Row w e v xs) (hn : ∀ g, v.ownBlock = some g → g ≠ p) : Row (w.setCell ⟨p, i, none⟩ u) e v xs := h.keep (setCell_keep w p i u) hn
theorem there_one {l : List NodeM} {a : Int} (h : thereM l [a] = true) : hasM l a = true := there_mem h a (by simp)
set_option maxRecDepth 100000 in
set_option maxHeartbeats 1600000 in
theorem Split_calls (w : World) (t : Nat) (l : List NodeM) (q : Nat) (F : Nat → Prop) (a : Int) (h : St w t l q F) :
    Calls Try.prog 13 #[ptr t, .int .i64 a] w fun e w' => e = .returned (.tuple #[.int .i64 (splitM l a).1, .int .i64 (splitM l a).2.1, .int .i64 (splitM l a).2.2]) ∧ Below w.heap.size w w' := by
  have HS := hid h
  have HTH := hid (fun (W : World) (v : Value) (xs : List Int) (hW : Below w.heap.size w W) (hr : Row W 26 v (lits xs)) => there_calls W t l q F v xs (h.below hW) hr)
  have HWF := hid h.wf
  have HB0 := hid (Below.refl w.heap.size w)
  clear h
  go_enter Try.func13, Try.ntmps13
  go_wp2_with fail
  refine (HTH.out _ _ [a] (HB0.out.alloc HB0.out.size _) (Row.many _ _ (lits [a]) (by simp))).mono ?_
  rintro e w1 ⟨rfl, hb⟩
  have HB1 := hid (bel (HB0.out.alloc HB0.out.size _) hb)
  clear hb
  cases hth : thereM l [a] with
  | false =>
    rw [thereE_false hth]
    have HTHE := hid hth
    clear hth
    go_wp2_with fail
    go_ret3
    rw [show splitM l a = (0, 0, 7) from (by unfold splitM; rw [HTHE.out]; rfl)]
    exact ⟨rfl, HB1.out⟩
  | true =>
    rw [thereE_true hth]
    have HNC := hid (node_cells (HS.out.below HB1.out) (there_one hth))
    obtain ⟨i, g, n, cap, o, f, u, s, x, c, hai, hin, d0, e0, e1, e2, e3, e4, HROW⟩ := HNC.out
    obtain ⟨K, hK⟩ : ∃ K, K = (nodeM l a).args.length := ⟨_, rfl⟩
    rw [← hK] at e4 HROW
    have HK := hid hK
    have hlt := HROW.out.2.1
    have HND := hid HROW.out.2.2
    have HWN := hid (HWF.out.has (there_one hth))
    have HTHE := hid hth
    clear hth hK HNC
    subst hai
    by_cases hs : s = 1
    · subst hs
      by_cases h3 : o = 3
      · subst h3
        go_wp2_with fail
        go_quiet (fail)
        go_wp2_with fail
        go_ret3
        rw [show splitM l (i : Int) = (2, u, 0) from (by unfold splitM sortM; rw [HTHE.out]; rw [HND.out]; simp [])]
        exact ⟨rfl, pw_below_drewN (HB1.out.alloc HB1.out.size _) _⟩
      · have o3 : (o == 3) = false := by simpa using h3
        have H3 := hid h3
        clear h3
        by_cases h4 : o = 4
        · subst h4
          have HL1 := hid (show K = 1 from by rw [HK.out]; exact HWN.out.one (by rw [HND.out]))
          have hK1 := HL1.out
          subst hK1
          obtain ⟨gx, ox, cx, hv, _, _, hgx, hcx, _⟩ := HROW.out.1.cells (by simp; have := HK.out; omega)
          injection hv with z1 z2 z3
          subst z1 z3
          have hx0 := hcx 0 (by simp; have := HK.out; omega)
          rw [lits_get _ _ (by have := HK.out; omega)] at hx0
          have hx1 : w1.cell? ⟨gx, ox, none⟩ = some (.int .i64 ((nodeM l (i : Int)).args.getD 0 0)) := hx0
          obtain ⟨y, hy⟩ : ∃ y, y = (nodeM l (i : Int)).args.getD 0 0 := ⟨_, rfl⟩
          rw [← hy] at hx1
          have HY := hid hy
          clear hx0 hcx z2 hy
          go_wp2_with fail
          go_quiet (fail)
          go_wp2_with fail
          go_ret3
          rw [show splitM l (i : Int) = (y, u, 0) from (by unfold splitM sortM; rw [HTHE.out, HY.out]; rw [HND.out]; simp)]
          exact ⟨rfl, pw_below_drewN (HB1.out.alloc HB1.out.size _) _⟩
        · have o4 : (o == 4) = false := by simpa using h4
          have H4 := hid h4
          clear h4
          go_wp2_with fail
          go_ret3
          rw [show splitM l (i : Int) = ((i : Int), 0, 0) from (by unfold splitM sortM; rw [HTHE.out]; rw [HND.out]; simp [H3.out, H4.out])]
          exact ⟨rfl, HB1.out.alloc HB1.out.size _⟩
    · have s1 : (s != 1) = true := by simpa using hs
      have HSN := hid hs
      clear hs
      go_wp2_with fail
      go_ret3
      rw [show splitM l (i : Int) = (0, 0, 60) from (by unfold splitM sortM; rw [HTHE.out]; rw [HND.out]; simp [HSN.out])]
      exact ⟨rfl, HB1.out.alloc HB1.out.size _⟩
set_option maxRecDepth 100000 in
set_option maxHeartbeats 1600000 in
theorem Len_calls (w : World) (t : Nat) (l : List NodeM) (q : Nat) (F : Nat → Prop) (h : St w t l q F) :
    Calls Try.prog 15 #[ptr t] w fun e w' => e = .returned (.int .i64 l.length) ∧ Below w.heap.size w w' := by
  obtain ⟨A, v, b1, b2, L, g1, g2, h1, _⟩ := h
  obtain ⟨av, cv, hv⟩ := h1.nodes.shape
  have hc0 := h1.at.c0
  rw [hv] at hc0
  have hnb := h1.wf.high
  have HNONE := hid (none_walk w t b1 h1.at.c1)
  clear h1 hv
  go_enter Try.func15, Try.ntmps15
  go_wp2_with fail
  refine HNONE.out.mono ?_
  rintro e w1 ⟨rfl, hw⟩
  obtain rfl := hw
  go_wp2_with fail
  go_ret
  exact ⟨rfl, Below.refl _ _⟩
def nodeE (l : List NodeM) (a : Int) : NodeM := if hasM l a = true then nodeM l a else ⟨0, 0, 0, 0, []⟩
def hasE (l : List NodeM) (a : Int) : Int := if hasM l a = true then 0 else 7
/-- What Node tells: a node, its arguments' slice is new. -/
def ShowN (w : World) (n : NodeM) (c : Int) (e : Ending) (w' : World) : Prop :=
  ∃ x, e = .returned (.tuple #[nodeV n x, .int .i64 c]) ∧ Row w' 26 x (lits n.args) ∧ (∀ g, x.ownBlock = some g → w.heap.size ≤ g) ∧ Below w.heap.size w w'
set_option maxRecDepth 100000 in
set_option maxHeartbeats 1600000 in
theorem Node_calls (w : World) (t : Nat) (l : List NodeM) (q : Nat) (F : Nat → Prop) (a : Int) (h : St w t l q F) :
    Calls Try.prog 20 #[ptr t, .int .i64 a] w (ShowN w (nodeE l a) (hasE l a)) := by
  have HS := hid h
  have HTH := hid (fun (W : World) (v : Value) (xs : List Int) (hW : Below w.heap.size w W) (hr : Row W 26 v (lits xs)) => there_calls W t l q F v xs (h.below hW) hr)
  have HWF := hid h.wf
  have HB0 := hid (Below.refl w.heap.size w)
  clear h
  go_enter Try.func20, Try.ntmps20
  go_wp2_with fail
  refine (HTH.out _ _ [a] ((HB0.out.alloc HB0.out.size _).alloc (by simp) _) (Row.manyAt _ _ (lits [a]) (by simp) _ (by simp))).mono ?_
  rintro e w1 ⟨rfl, hb⟩
  have HB1 := hid (bel ((HB0.out.alloc HB0.out.size _).alloc (by simp) _) hb)
  have hp : w1.heap[w.heap.size]? = some (.cells #[.int .u8 0, .int .i64 0, .int .i64 0, .int .i64 0, .slice none 0 0] 54 (0, 0)) := (hb.block _ (by simp; omega)).trans ((old_alloc _ (by simp)).trans (heap_alloc_new _ _))
  have HP := hid hp
  clear hb
  cases hth : thereM l [a] with
  | false =>
    rw [thereE_false hth]
    have HTHE := hid (show hasM l a = false by simpa [thereM] using hth)
    clear hth
    have p0 : w1.cell? ⟨w.heap.size, 0, none⟩ = some (.int .u8 0) := (blk_cell hp 0).trans rfl
    have p1 : w1.cell? ⟨w.heap.size, 1, none⟩ = some (.int .i64 0) := (blk_cell hp 1).trans rfl
    have p2 : w1.cell? ⟨w.heap.size, 2, none⟩ = some (.int .i64 0) := (blk_cell hp 2).trans rfl
    have p3 : w1.cell? ⟨w.heap.size, 3, none⟩ = some (.int .i64 0) := (blk_cell hp 3).trans rfl
    have p4 : w1.cell? ⟨w.heap.size, 4, none⟩ = some (.slice none 0 0) := (blk_cell hp 4).trans rfl
    have pf0 : w1.frozen? ⟨w.heap.size, 0, none⟩ = false := blk_frozen hp 0
    have pf1 : w1.frozen? ⟨w.heap.size, 1, none⟩ = false := blk_frozen hp 1
    have pf2 : w1.frozen? ⟨w.heap.size, 2, none⟩ = false := blk_frozen hp 2
    have pf3 : w1.frozen? ⟨w.heap.size, 3, none⟩ = false := blk_frozen hp 3
    have pf4 : w1.frozen? ⟨w.heap.size, 4, none⟩ = false := blk_frozen hp 4
    clear hp
    go_wp2_with fail
    refine bodyPost_ret (v := .tuple #[.agg #[.int .u8 0, .int .i64 0, .int .i64 0, .int .i64 0, .slice none 0 0], .int .i64 7]) (by simp [results, Try.results20, go_sem, p0, p1, p2, p3, p4]) rfl ?_
    unfold nodeE hasE
    rw [HTHE.out]
    refine ⟨.slice none 0 0, rfl, .nil _ _, (by intro g hg; cases hg), ?_⟩
    exact ((((HB1.out.setCell (by simp) _).setCell (by simp) _).setCell (by simp) _).setCell (by simp) _).setCell (by simp) _
  | true =>
    rw [thereE_true hth]
    have HTHT := hid (there_one hth)
    have hsz : w.heap.size < w1.heap.size := blk_lt hp
    clear hp
    have HNC := hid (node_cells (HS.out.below HB1.out) (there_one hth))
    obtain ⟨i, g, n, cap, o, f, u, s, x, c, hai, hin, d0, e0, e1, e2, e3, e4, HROW⟩ := HNC.out
    obtain ⟨K, hK⟩ : ∃ K, K = (nodeM l a).args.length := ⟨_, rfl⟩
    rw [← hK] at e4 HROW
    have HK := hid hK
    have hlt := HROW.out.2.1
    have HND := hid HROW.out.2.2
    have HWN := hid (HWF.out.has (there_one hth))
    have HTHE := hid hth
    clear hth hK HNC
    subst hai
    have HSZ := hid hsz
    have HBDK := hid (show K ≤ 2000 from by rw [HK.out]; exact HWN.out.len)
    go_wp2_with fail
    refine (clone_calls _ (.slice x K c) (nodeM l (i : Int)).args (HROW.out.1.alloc _) (by have := HK.out; have := HBDK.out; omega)).mono ?_
    rintro e w2 ⟨x2, rfl, hr2, hx2, hb2⟩
    obtain ⟨a2, c2, rfl, _⟩ := hr2.shape
    rw [show (lits (nodeM l (i : Int)).args).length = K from by simp [HK.out]] at hr2 hx2
    rw [show (lits (nodeM l (i : Int)).args).length = K from by simp [HK.out]]
    have hq : w2.heap[w1.heap.size]? = some (.cells #[.int .u8 o, .int .i64 f, .int .i64 u, .int .i64 s, .slice x K c] 54 (0, 0)) := (hb2.block _ (by simp)).trans (heap_alloc_new _ _)
    have hp : w2.heap[w.heap.size]? = some (.cells #[.int .u8 0, .int .i64 0, .int .i64 0, .int .i64 0, .slice none 0 0] 54 (0, 0)) := (hb2.block _ (by simp; omega)).trans ((old_alloc _ HSZ.out).trans HP.out)
    have HR2 := hid hr2
    have HX2 := hid hx2
    have HB2 := hid hb2
    clear hr2 hx2 hb2 d0 e0 e1 e2 e3 e4 hlt hin
    have p0 : w2.cell? ⟨w.heap.size, 0, none⟩ = some (.int .u8 0) := (blk_cell hp 0).trans rfl
    have p1 : w2.cell? ⟨w.heap.size, 1, none⟩ = some (.int .i64 0) := (blk_cell hp 1).trans rfl
    have p2 : w2.cell? ⟨w.heap.size, 2, none⟩ = some (.int .i64 0) := (blk_cell hp 2).trans rfl
    have p3 : w2.cell? ⟨w.heap.size, 3, none⟩ = some (.int .i64 0) := (blk_cell hp 3).trans rfl
    have p4 : w2.cell? ⟨w.heap.size, 4, none⟩ = some (.slice none 0 0) := (blk_cell hp 4).trans rfl
    have pf0 : w2.frozen? ⟨w.heap.size, 0, none⟩ = false := blk_frozen hp 0
    have pf1 : w2.frozen? ⟨w.heap.size, 1, none⟩ = false := blk_frozen hp 1
    have pf2 : w2.frozen? ⟨w.heap.size, 2, none⟩ = false := blk_frozen hp 2
    have pf3 : w2.frozen? ⟨w.heap.size, 3, none⟩ = false := blk_frozen hp 3
    have pf4 : w2.frozen? ⟨w.heap.size, 4, none⟩ = false := blk_frozen hp 4
    clear hp
    have q0 : w2.cell? ⟨w1.heap.size, 0, none⟩ = some (.int .u8 o) := (blk_cell hq 0).trans rfl
    have q1 : w2.cell? ⟨w1.heap.size, 1, none⟩ = some (.int .i64 f) := (blk_cell hq 1).trans rfl
    have q2 : w2.cell? ⟨w1.heap.size, 2, none⟩ = some (.int .i64 u) := (blk_cell hq 2).trans rfl
    have q3 : w2.cell? ⟨w1.heap.size, 3, none⟩ = some (.int .i64 s) := (blk_cell hq 3).trans rfl
    have q4 : w2.cell? ⟨w1.heap.size, 4, none⟩ = some (.slice x K c) := (blk_cell hq 4).trans rfl
    have qf0 : w2.frozen? ⟨w1.heap.size, 0, none⟩ = false := blk_frozen hq 0
    have qf1 : w2.frozen? ⟨w1.heap.size, 1, none⟩ = false := blk_frozen hq 1
    have qf2 : w2.frozen? ⟨w1.heap.size, 2, none⟩ = false := blk_frozen hq 2
    have qf3 : w2.frozen? ⟨w1.heap.size, 3, none⟩ = false := blk_frozen hq 3
    have qf4 : w2.frozen? ⟨w1.heap.size, 4, none⟩ = false := blk_frozen hq 4
    clear hq
    have hne : w.heap.size ≠ w1.heap.size := by omega
    have hne' : w1.heap.size ≠ w.heap.size := by omega
    go_wp2_with fail
    refine bodyPost_ret (v := .tuple #[.agg #[.int .u8 o, .int .i64 f, .int .i64 u, .int .i64 s, .slice a2 K c2], .int .i64 0]) (by simp [results, Try.results20, go_sem, p0, p1, p2, p3, p4, hne, hne']) rfl ?_
    have hxn : ∀ g, (Value.slice a2 K c2).ownBlock = some g → g ≠ w.heap.size ∧ g ≠ w1.heap.size := fun g hg => by
      have h1 := HX2.out g hg
      have h2 := HSZ.out
      simp at h1
      omega
    have hbw : Below w.heap.size w w2 := bel (HB1.out.alloc HB1.out.size _) HB2.out
    unfold nodeE hasE
    rw [if_pos HTHT.out, if_pos HTHT.out, HND.out]
    refine ⟨.slice a2 K c2, rfl, ?_, fun g hg => by have h1 := HX2.out g hg; have h2 := HSZ.out; simp at h1; omega, ?_⟩
    · exact Row.other (Row.other (Row.other (Row.other (Row.other (Row.other HR2.out (fun g hg => (hxn g hg).2)) (fun g hg => (hxn g hg).1)) (fun g hg => (hxn g hg).1)) (fun g hg => (hxn g hg).1)) (fun g hg => (hxn g hg).1)) (fun g hg => (hxn g hg).1)
    · exact (((((hbw.setCell (by simp; omega) _).setCell (by simp) _).setCell (by simp) _).setCell (by simp) _).setCell (by simp) _).setCell (by simp) _
def addM (a b : Int) : Int × Bool := if -9223372036854775808 ≤ a + b ∧ a + b ≤ 9223372036854775807 then (a + b, true) else (0, false)
set_option maxRecDepth 100000 in
set_option maxHeartbeats 1600000 in
theorem add_calls (w : World) (a b : Int) (ha : wf64 a) (hb : wf64 b) :
    Calls Try.prog 51 #[.int .i64 a, .int .i64 b] w fun e w' => e = .returned (.tuple #[.int .i64 (addM a b).1, .bool (addM a b).2]) ∧ w' = w := by
  unfold wf64 at ha hb
  obtain ⟨ha1, ha2⟩ := ha
  obtain ⟨hb1, hb2⟩ := hb
  obtain ⟨c, hc⟩ : ∃ c, c = wrap64 (a + b) := ⟨_, rfl⟩
  have hw : wrap64 (a + b) = c := hc.symm
  by_cases hf : -9223372036854775808 ≤ a + b ∧ a + b ≤ 9223372036854775807
  · rw [show addM a b = (a + b, true) from if_pos hf]
    have hcs : c = a + b := by rw [hc]; unfold wrap64; omega
    rw [← hcs]
    rcases Int.lt_or_le a 0 with h1 | h1 <;> rcases Int.lt_or_le b 0 with h2 | h2 <;> rcases Int.lt_or_le c 0 with h3 | h3
    · have hA : decide (a < 0) = true := by simp; omega
      have hB : decide (b < 0) = true := by simp; omega
      have hC : decide (c < 0) = true := by simp; omega
      have HW := hid hw
      clear hf hc hcs ha1 ha2 hb1 hb2 h1 h2 h3
      go_enter Try.func51, Try.ntmps51
      go_wp2
      go_ret2
      exact ⟨by show Ending.returned (.tuple #[.int .i64 (wrap64 (a + b)), .bool true]) = _; rw [HW.out], rfl⟩
    · exfalso; clear hw hc; omega
    · have hA : decide (a < 0) = true := by simp; omega
      have hB : decide (b < 0) = false := by simp; omega
      have hC : decide (c < 0) = true := by simp; omega
      have HW := hid hw
      clear hf hc hcs ha1 ha2 hb1 hb2 h1 h2 h3
      go_enter Try.func51, Try.ntmps51
      go_wp2
      go_ret2
      exact ⟨by show Ending.returned (.tuple #[.int .i64 (wrap64 (a + b)), .bool true]) = _; rw [HW.out], rfl⟩
    · have hA : decide (a < 0) = true := by simp; omega
      have hB : decide (b < 0) = false := by simp; omega
      have hC : decide (c < 0) = false := by simp; omega
      have HW := hid hw
      clear hf hc hcs ha1 ha2 hb1 hb2 h1 h2 h3
      go_enter Try.func51, Try.ntmps51
      go_wp2
      go_ret2
      exact ⟨by show Ending.returned (.tuple #[.int .i64 (wrap64 (a + b)), .bool true]) = _; rw [HW.out], rfl⟩
    · have hA : decide (a < 0) = false := by simp; omega
      have hB : decide (b < 0) = true := by simp; omega
      have hC : decide (c < 0) = true := by simp; omega
      have HW := hid hw
      clear hf hc hcs ha1 ha2 hb1 hb2 h1 h2 h3
      go_enter Try.func51, Try.ntmps51
      go_wp2
      go_ret2
      exact ⟨by show Ending.returned (.tuple #[.int .i64 (wrap64 (a + b)), .bool true]) = _; rw [HW.out], rfl⟩
    · have hA : decide (a < 0) = false := by simp; omega
      have hB : decide (b < 0) = true := by simp; omega
      have hC : decide (c < 0) = false := by simp; omega
      have HW := hid hw
      clear hf hc hcs ha1 ha2 hb1 hb2 h1 h2 h3
      go_enter Try.func51, Try.ntmps51
      go_wp2
      go_ret2
      exact ⟨by show Ending.returned (.tuple #[.int .i64 (wrap64 (a + b)), .bool true]) = _; rw [HW.out], rfl⟩
    · exfalso; clear hw hc; omega
    · have hA : decide (a < 0) = false := by simp; omega
      have hB : decide (b < 0) = false := by simp; omega
      have hC : decide (c < 0) = false := by simp; omega
      have HW := hid hw
      clear hf hc hcs ha1 ha2 hb1 hb2 h1 h2 h3
      go_enter Try.func51, Try.ntmps51
      go_wp2
      go_ret2
      exact ⟨by show Ending.returned (.tuple #[.int .i64 (wrap64 (a + b)), .bool true]) = _; rw [HW.out], rfl⟩
  · rw [show addM a b = (0, false) from if_neg hf]
    have hcv : (0 ≤ a ∧ 0 ≤ b ∧ c < 0) ∨ (a < 0 ∧ b < 0 ∧ 0 ≤ c) := by rw [hc]; unfold wrap64; omega
    rcases hcv with ⟨h1, h2, h3⟩ | ⟨h1, h2, h3⟩
    · have hA : decide (a < 0) = false := by simp; omega
      have hB : decide (b < 0) = false := by simp; omega
      have hC : decide (c < 0) = true := by simp; omega
      clear hf hc ha1 ha2 hb1 hb2 h1 h2 h3
      go_enter Try.func51, Try.ntmps51
      go_wp2
      go_ret2
      exact ⟨rfl, rfl⟩
    · have hA : decide (a < 0) = true := by simp; omega
      have hB : decide (b < 0) = true := by simp; omega
      have hC : decide (c < 0) = false := by simp; omega
      clear hf hc ha1 ha2 hb1 hb2 h1 h2 h3
      go_enter Try.func51, Try.ntmps51
      go_wp2
      go_ret2
      exact ⟨rfl, rfl⟩
set_option maxRecDepth 100000 in
set_option maxHeartbeats 1600000 in
theorem Plus_calls (w : World) (t : Nat) (l : List NodeM) (q : Nat) (F : Nat → Prop) (a n : Int) (hn : wf64 n) (h : St w t l q F) (hq : q + 2000 < 1000000000) :
    Calls Try.prog 12 #[ptr t, .int .i64 a, .int .i64 n] w (Got w t (q + 2000) F (plusM l a n)) := by
  have HS := hid h
  have HTH := hid (fun (W : World) (v : Value) (xs : List Int) (hW : Below w.heap.size w W) (hr : Row W 26 v (lits xs)) => there_calls W t l q F v xs (h.below hW) hr)
  have HOF := hid (fun (W : World) (s : Int) (v : Value) (xs : List Int) (hW : Below w.heap.size w W) (hr : Row W 26 v (lits xs)) (hx : thereM l xs = true) => of_calls W t l q F s v xs (h.below hW) hr hx)
  have HPUT := hid (fun (W : World) (n : NodeM) (v : Value) (hW : Below w.heap.size w W) (hr : Row W 26 v (lits n.args)) (hn : WfN n) => (put_got W t l q F n v (h.below hW) hr hn hq).mono fun e w' => Got.below hW)
  have HWF := hid h.wf
  have HSP := hid (fun (W : World) (a : Int) (hW : Below w.heap.size w W) => Split_calls W t l q F a (h.below hW))
  have HB0 := hid (Below.refl w.heap.size w)
  have HNUM := hid (fun (W : World) (n : Int) (hW : Below w.heap.size w W) (hn : wf64 n) => (Num_calls W t l q F n hn (h.below hW) hq).mono fun e w' => Got.below hW)
  have HNW := hid hn
  clear h hn
  go_enter Try.func12, Try.ntmps12
  go_wp2_with fail
  refine (HSP.out _ a HB0.out).mono ?_
  rintro e w1 ⟨rfl, hb⟩
  have HB1 := hid (bel HB0.out hb)
  clear hb
  have HSW1 := hid (HWF.out.split a)
  obtain ⟨x1, hx1⟩ : ∃ x, x = (splitM l a).1 := ⟨_, rfl⟩
  obtain ⟨p1, hp1⟩ : ∃ x, x = (splitM l a).2.1 := ⟨_, rfl⟩
  obtain ⟨e1, he1⟩ : ∃ x, x = (splitM l a).2.2 := ⟨_, rfl⟩
  rw [← hx1, ← hp1, ← he1]
  rw [← hx1, ← hp1, ← he1] at HSW1
  have HX1 := hid (And.intro hx1 (And.intro hp1 he1))
  clear hx1 hp1 he1
  by_cases he : e1 = 0
  · have HE0 := hid he
    subst he
    have hpb := (bound_iff p1).1 HSW1.out.1
    have hnb : -9223372036854775808 ≤ n ∧ n ≤ 9223372036854775807 := HNW.out
    obtain ⟨s, hs⟩ : ∃ s, s = p1 + n := ⟨_, rfl⟩
    have HSE := hid hs
    clear hs hpb hnb
    go_wp2_with fail
    refine (bound_calls _ n).mono ?_
    rintro e wb ⟨rfl, hw⟩
    obtain rfl := hw
    cases hbn : boundM n with
    | false =>
      have HBDn := hid hbn
      clear hbn
      go_wp2_with fail
      go_ret2
      rw [show plusM l a n = (0, 6, l) from (by unfold plusM; rw [← HX1.out.1, ← HX1.out.2.1, ← HX1.out.2.2, if_neg (show ¬ (0:Int) ≠ 0 by simp), HBDn.out]; rfl)]
      exact Got.same HS.out HB1.out
    | true =>
      have HBDn := hid hbn
      clear hbn
      have hpb := (bound_iff p1).1 HSW1.out.1
      have hnb := (bound_iff n).1 HBDn.out
      have hsw : wrap64 (p1 + n) = s := by rw [HSE.out]; unfold wrap64; omega
      clear hpb hnb
      go_wp2_with fail
      refine (bound_calls _ s).mono ?_
      rintro e wb ⟨rfl, hw⟩
      obtain rfl := hw
      cases hbs : boundM s with
      | false =>
        have HBDs := hid hbs
        clear hbs
        go_wp2_with fail
        go_ret2
        rw [show plusM l a n = (0, 6, l) from (by unfold plusM; rw [← HX1.out.1, ← HX1.out.2.1, ← HX1.out.2.2, if_neg (show ¬ (0:Int) ≠ 0 by simp), HBDn.out, ← HSE.out, HBDs.out]; rfl)]
        exact Got.same HS.out HB1.out
      | true =>
        have HBDs := hid hbs
        clear hbs
        by_cases h2 : x1 = 2
        · have H2 := hid h2
          have e2 : (x1 == 2) = true := by simpa using h2
          clear h2
          go_wp2_with fail
          refine (HNUM.out _ s HB1.out (by have := (bound_iff s).1 HBDs.out; unfold wf64; omega)).mono ?_
          rintro e w9 ⟨rfl, hl⟩
          have HL := hid hl
          clear hl
          generalize hr9 : numM l s = r9 at HL ⊢
          have HR9 := hid hr9
          clear hr9
          go_wp2_with fail
          go_ret2
          rw [show plusM l a n = r9 from (by unfold plusM; rw [← HX1.out.1, ← HX1.out.2.1, ← HX1.out.2.2, if_neg (show ¬ (0:Int) ≠ 0 by simp), HBDn.out, ← HSE.out, HBDs.out, if_neg (by simp), if_neg (by simp), if_pos H2.out]; exact HR9.out)]
          exact ⟨rfl, HL.out⟩
        · have e2 : (x1 == 2) = false := by simpa using h2
          have H2 := hid h2
          clear h2
          by_cases h0 : s = 0
          · have e0 : (s == 0) = true := by simpa using h0
            have H0 := hid h0
            clear h0
            go_wp2_with fail
            go_ret2
            rw [show plusM l a n = (x1, 0, l) from (by unfold plusM; rw [← HX1.out.1, ← HX1.out.2.1, ← HX1.out.2.2, if_neg (show ¬ (0:Int) ≠ 0 by simp), HBDn.out, ← HSE.out, HBDs.out, if_neg (by simp), if_neg (by simp), if_neg H2.out, if_pos H0.out])]
            exact Got.same HS.out HB1.out
          · have e0 : (s == 0) = false := by simpa using h0
            have H0 := hid h0
            clear h0
            go_wp2_with fail
            refine (HPUT.out _ ⟨4, 0, s, 1, [x1]⟩ _ (HB1.out.alloc HB1.out.size _) (Row.many _ _ (lits [x1]) (by simp)) ⟨⟨by show (0:Int) ≤ 4; omega, by show (4:Int) ≤ 255; omega⟩, wf0, by have := (bound_iff s).1 HBDs.out; show wf64 s; unfold wf64; omega, wf1, fun y hy => by rw [List.mem_singleton.1 hy]; exact (HSW1.out.2 HE0.out).2, by simp, fun _ => HBDs.out, fun _ => rfl⟩).mono ?_
            rintro e w9 ⟨rfl, hl⟩
            have HL := hid hl
            clear hl
            generalize hr9 : putM l ⟨4, 0, s, 1, [x1]⟩ = r9 at HL ⊢
            have HR9 := hid hr9
            clear hr9
            go_wp2_with fail
            go_ret2
            rw [show plusM l a n = r9 from (by unfold plusM; rw [← HX1.out.1, ← HX1.out.2.1, ← HX1.out.2.2, if_neg (show ¬ (0:Int) ≠ 0 by simp), HBDn.out, ← HSE.out, HBDs.out, if_neg (by simp), if_neg (by simp), if_neg H2.out, if_neg H0.out]; exact HR9.out)]
            exact ⟨rfl, HL.out⟩
  · have hen : (e1 != 0) = true := by simpa using he
    have HEN := hid he
    clear he
    go_wp2_with fail
    go_ret2
    rw [show plusM l a n = (0, e1, l) from (by unfold plusM; rw [← HX1.out.1, ← HX1.out.2.1, ← HX1.out.2.2, if_pos (show e1 ≠ 0 from HEN.out)])]
    exact Got.same HS.out HB1.out
end Go.Proofs.Ytmgbodmpjholiaa.TM
