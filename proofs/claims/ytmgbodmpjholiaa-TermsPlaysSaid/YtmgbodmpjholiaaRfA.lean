/- The document's terms, in memory: there, of, bound, Same (printed by wip/tools/rfa.py). -/
import Derived.Test.YtmgbodmpjholiaaTermF
namespace Go.Proofs.Ytmgbodmpjholiaa.RT
open Go.RowKit Go.Maps Go.Shelf Go.Lib Go.Proofs.YtmgbodmpjholiaaW.PrintWords Go.Proofs.YtmgbodmpjholiaaW.PrintLast Go.Proofs.YtmgbodmpjholiaaW.PrintMore Go.Proofs.Ytmgbodmpjholiaa.MM Go.Proofs.Ytmgbodmpjholiaa.KM Go.Proofs.Ytmgbodmpjholiaa.TM
attribute [local go_sem ↓] Go.wp_at_zero Go.wp_at_succ
set_option linter.unusedSimpArgs false
set_option linter.unusedVariables false

theorem rs_at {w : World} {u : Nat} {l : List NodeM} {F : Nat → Prop} (h : Rs w u l F) : ∃ a c, w.cell? ⟨u, 0, none⟩ = some (.slice a l.length c) ∧ u < w.heap.size := by
  obtain ⟨v, A, h1, h2, _⟩ := h
  obtain ⟨a, c, rfl⟩ := h2.shape
  exact ⟨a, c, (blk_cell h1 0).trans rfl, blk_lt h1⟩
/-- Where a node stands. -/
theorem rs_cells {w : World} {u : Nat} {l : List NodeM} {F : Nat → Prop} {a : Int} (h : Rs w u l F) (ha : hasM l a = true) : ∃ (i g n cap : Nat) (o f r s : Int) (x : Option Addr) (c : Nat), a = (i : Int) ∧ (i : Int) < (n : Int) ∧ w.cell? ⟨u, 0, none⟩ = some (.slice (some ⟨g, 0, none⟩) n cap) ∧
    w.cell? ⟨g, i * 5, none⟩ = some (.int .u8 o) ∧ w.cell? ⟨g, i * 5 + 1, none⟩ = some (.int .i64 f) ∧ w.cell? ⟨g, i * 5 + 2, none⟩ = some (.int .i64 r) ∧ w.cell? ⟨g, i * 5 + 3, none⟩ = some (.int .i64 s) ∧ w.cell? ⟨g, i * 5 + 4, none⟩ = some (.slice x (nodeM l a).args.length c) ∧
    Hid (Row w 26 (.slice x (nodeM l a).args.length c) (lits (nodeM l a).args) ∧ g < w.heap.size ∧ nodeM l a = ⟨o, f, r, s, (nodeM l a).args⟩ ∧ n = l.length) := by
  obtain ⟨v, A, h1, hN, _⟩ := h
  obtain ⟨g, cap, y, rfl, hg, hcells, hr, _⟩ := hN.cells (nodes_get ha)
  have h2 := getD_mem ha
  obtain ⟨x, c, hy, _⟩ := hr.shape
  rw [List.length_map] at hy
  subst hy
  exact ⟨a.toNat, g, l.length, cap, _, _, _, _, x, c, by omega, by omega, (blk_cell h1 0).trans rfl, hcells 0 _ rfl, hcells 1 _ rfl, hcells 2 _ rfl, hcells 3 _ rfl, hcells 4 _ rfl, hid ⟨hr, hg, rfl, rfl⟩⟩
theorem sort_of {l : List NodeM} {x o f r s : Int} {args : List Int} (h : nodeM l x = ⟨o, f, r, s, args⟩) : sortM l x = s := by unfold sortM; rw [h]
theorem Row.bel {w w1 : World} {e : TypeId} {v : Value} {xs : List Value} (h : Row w e v xs) (hb : Below w.heap.size w w1) : Row w1 e v xs := h.keep (Keep.ofBelow (F := fun _ => False) hb) (fun _ _ h => h)
theorem there_cons {l : List NodeM} {xs : List Int} {k : Nat} (hk : k < xs.length) (h : hasM l (xs.getD k 0) = false) : thereM l xs = false := by
  cases e : thereM l xs with
  | false => rfl
  | true =>
    have := there_mem e (xs.getD k 0) (by rw [List.getD_eq_getElem?_getD, List.getElem?_eq_getElem hk]; exact List.getElem_mem hk)
    rw [h] at this
    cases this
theorem there_full {l : List NodeM} {xs : List Int} (h : ∀ j, j < xs.length → hasM l (xs.getD j 0) = true) : thereM l xs = true := there_sub fun x hx => by
  obtain ⟨j, hj, e⟩ := List.getElem_of_mem hx
  have := h j hj
  rw [List.getD_eq_getElem?_getD, List.getElem?_eq_getElem hj] at this
  rw [← e]
  exact this
/-- A loop over a row of terms. -/
structure OverAt (w : World) (l : List NodeM) (xs : List Int) (ok : Int → Bool) (k : Nat) (wr : World) : Prop where
  bel : Below w.heap.size w wr
  ok : ∀ j, j < k → ok (xs.getD j 0) = true
  kl : k ≤ xs.length
theorem OverAt.step {w wr w2 : World} {l : List NodeM} {xs : List Int} {ok : Int → Bool} {k : Nat} (h : OverAt w l xs ok k wr) (hk : k < xs.length) (ho : ok (xs.getD k 0) = true) (hb : Below wr.heap.size wr w2) : OverAt w l xs ok (k + 1) w2 :=
  ⟨TM.bel h.bel hb, fun j hj => (by
    rcases Nat.lt_or_ge j k with h1 | h1
    · exact h.ok j h1
    · obtain rfl : j = k := by omega
      exact ho), hk⟩
set_option maxRecDepth 100000 in
set_option maxHeartbeats 1600000 in
theorem there_calls (w : World) (u : Nat) (l : List NodeM) (F : Nat → Prop) (v : Value) (xs : List Int) (h : Rs w u l F) (hr : Row w 26 v (lits xs)) :
    Calls Try.prog 54 #[ptr u, v] w fun e w' => e = .returned (.bool (thereM l xs)) ∧ Below w.heap.size w w' := by
  obtain ⟨N, hN⟩ : ∃ N, N = xs.length := ⟨_, rfl⟩
  obtain ⟨a, c, hcu, hlt⟩ := rs_at h
  obtain ⟨A, c1, rfl, hcap⟩ := hr.shape
  rw [show (lits xs).length = N from by simp [hN]] at hr ⊢
  have HR := hid hr
  have HNN := hid hN
  have HCU := hid (And.intro hcu hlt)
  have hNb : N ≤ 9223372036854775807 := by have h1 := hcap.1; have h2 := hcap.2; unfold maxLen at h2; simp at h1; omega
  clear h hr hcap hN hcu hlt
  go_enter Try.func54, Try.ntmps54
  go_wp2_with fail
  go_loopg [5] N (fun left v5 wr => ∃ k : Nat, left + k = N ∧ v5 = .int .i64 (k : Int) ∧ Hid (OverAt w l xs (hasM l) k wr))
  case atStart => exact ⟨0, by omega, rfl, hid ⟨Below.refl _ _, fun j hj => by omega, by omega⟩⟩
  case round =>
    obtain ⟨k, hk, rfl, U⟩ := hrel
    by_cases hkn : k < N
    · have hkI : (k : Int) < (N : Int) := by omega
      have hkl : k < xs.length := by rw [← HNN.out]; exact hkn
      cases gk with
      | zero => omega
      | succ left =>
      obtain ⟨g, off, cap, hv, _, _, _, hcells, _⟩ := (Row.bel HR.out U.out.bel).cells (by simp; omega)
      injection hv with e1 e2 e3
      subst e1 e3
      have hx := (hcells k (by simpa using hkl)).trans (lits_get _ _ hkl)
      have hcu : wr.cell? ⟨u, 0, none⟩ = _ := (U.out.bel.cell (p := ⟨u, 0, none⟩) HCU.out.2).trans HCU.out.1
      obtain ⟨x, hxe⟩ : ∃ x, x = xs.getD k 0 := ⟨_, rfl⟩
      rw [← hxe] at hx
      have HXE := hid hxe
      have HKL := hid hkl
      clear hcells e2 hxe hkl
      by_cases h1 : x < 0
      · have HF := hid (there_cons HKL.out (show hasM l (xs.getD k 0) = false by rw [← HXE.out]; simp [hasM]; omega))
        go_wp2_with fail
        go_quiet (fail)
        go_wp2_with fail
        go_ret
        rw [HF.out]
        exact ⟨rfl, TM.bel U.out.bel (pw_below_drewN (Below.refl _ _) _)⟩
      · by_cases h2 : x ≥ (l.length : Int)
        · have HF := hid (there_cons HKL.out (show hasM l (xs.getD k 0) = false by rw [← HXE.out]; simp [hasM]; omega))
          go_wp2_with fail
          go_quiet (fail)
          go_wp2_with fail
          go_ret
          rw [HF.out]
          exact ⟨rfl, TM.bel U.out.bel (pw_below_drewN (Below.refl _ _) _)⟩
        · have HT := hid (show hasM l (xs.getD k 0) = true by rw [← HXE.out]; simp [hasM]; omega)
          go_wp2_with fail
          go_quiet (fail)
          go_wp2_with fail
          go_roundg left
          case measure => omega
          case rel => exact ⟨k + 1, by omega, by go_num, hid (U.out.step HKL.out HT.out (pw_below_drewN (Below.refl _ _) _))⟩
    · obtain rfl : k = N := by have := U.out.kl; have := HNN.out; omega
      have HT := hid (there_full (l := l) (xs := xs) (by rw [← HNN.out]; exact U.out.ok))
      go_wp2_with fail
      go_ret
      rw [HT.out]
      exact ⟨rfl, U.out.bel⟩
theorem of_cons {l : List NodeM} {xs : List Int} {s : Int} {k : Nat} (hk : k < xs.length) (h : decide (sortM l (xs.getD k 0) = s) = false) : ofM l s xs = false := by
  cases e : ofM l s xs with
  | false => rfl
  | true =>
    unfold ofM at e
    rw [List.all_eq_true] at e
    have := e (xs.getD k 0) (by rw [List.getD_eq_getElem?_getD, List.getElem?_eq_getElem hk]; exact List.getElem_mem hk)
    rw [h] at this
    cases this
theorem of_full {l : List NodeM} {xs : List Int} {s : Int} (h : ∀ j, j < xs.length → decide (sortM l (xs.getD j 0) = s) = true) : ofM l s xs = true := by
  unfold ofM
  rw [List.all_eq_true]
  intro x hx
  obtain ⟨j, hj, e⟩ := List.getElem_of_mem hx
  have := h j hj
  rw [List.getD_eq_getElem?_getD, List.getElem?_eq_getElem hj] at this
  rw [← e]
  exact this
set_option maxRecDepth 100000 in
set_option maxHeartbeats 1600000 in
theorem of_calls (w : World) (u : Nat) (l : List NodeM) (F : Nat → Prop) (s : Int) (v : Value) (xs : List Int) (h : Rs w u l F) (hr : Row w 26 v (lits xs)) (ht : thereM l xs = true) :
    Calls Try.prog 55 #[ptr u, v, .int .i64 s] w fun e w' => e = .returned (.bool (ofM l s xs)) ∧ Below w.heap.size w w' := by
  obtain ⟨N, hN⟩ : ∃ N, N = xs.length := ⟨_, rfl⟩
  have HS := hid h
  obtain ⟨A, c1, rfl, hcap⟩ := hr.shape
  rw [show (lits xs).length = N from by simp [hN]] at hr ⊢
  have HR := hid hr
  have HNN := hid hN
  have HTH := hid ht
  have hNb : N ≤ 9223372036854775807 := by have h1 := hcap.1; have h2 := hcap.2; unfold maxLen at h2; simp at h1; omega
  clear h hr hcap hN ht
  go_enter Try.func55, Try.ntmps55
  go_wp2_with fail
  go_loopg [7] N (fun left v7 wr => ∃ k : Nat, left + k = N ∧ v7 = .int .i64 (k : Int) ∧ Hid (OverAt w l xs (fun x => decide (sortM l x = s)) k wr))
  case atStart => exact ⟨0, by omega, rfl, hid ⟨Below.refl _ _, fun j hj => by omega, by omega⟩⟩
  case round =>
    obtain ⟨k, hk, rfl, U⟩ := hrel
    by_cases hkn : k < N
    · have hkI : (k : Int) < (N : Int) := by omega
      have hkl : k < xs.length := by rw [← HNN.out]; exact hkn
      cases gk with
      | zero => omega
      | succ left =>
      obtain ⟨g, off, cap, hv, _, _, _, hcells, _⟩ := (Row.bel HR.out U.out.bel).cells (by simp; omega)
      injection hv with e1 e2 e3
      subst e1 e3
      have hx := (hcells k (by simpa using hkl)).trans (lits_get _ _ hkl)
      have hhas : hasM l (xs.getD k 0) = true := there_mem HTH.out _ (by rw [List.getD_eq_getElem?_getD, List.getElem?_eq_getElem hkl]; exact List.getElem_mem hkl)
      obtain ⟨i, gg, n, cap2, o, f, r, so, xx, c3, hxi, hin, d0, f0, f1, f2, f3, f4, HND⟩ := rs_cells (HS.out.below U.out.bel) hhas
      have hso := sort_of HND.out.2.2.1
      rw [hxi] at hx
      have HSO := hid hso
      have HKL := hid hkl
      have hnb : (n : Int) ≤ 20000 := by have := HND.out.2.2.2; have := HS.out.wf.high; omega
      clear hcells e2 hkl f0 f1 f2 f4 hhas hso hxi
      by_cases h1 : so = s
      · have HT := hid (show decide (sortM l (xs.getD k 0) = s) = true by rw [HSO.out]; simpa using h1)
        have e1 : (so != s) = false := by simpa using h1
        clear h1
        go_wp2_with fail
        go_quiet (fail)
        go_wp2_with fail
        go_roundg left
        case measure => omega
        case rel => exact ⟨k + 1, by omega, by go_num, hid (U.out.step HKL.out HT.out (pw_below_drewN (Below.refl _ _) _))⟩
      · have HF := hid (of_cons (l := l) (s := s) HKL.out (by rw [HSO.out]; simpa using h1))
        have e1 : (so != s) = true := by simpa using h1
        clear h1
        go_wp2_with fail
        go_quiet (fail)
        go_wp2_with fail
        go_ret
        rw [HF.out]
        exact ⟨rfl, TM.bel U.out.bel (pw_below_drewN (Below.refl _ _) _)⟩
    · obtain rfl : k = N := by have := U.out.kl; have := HNN.out; omega
      have HT := hid (of_full (l := l) (xs := xs) (s := s) (by rw [← HNN.out]; exact U.out.ok))
      go_wp2_with fail
      go_ret
      rw [HT.out]
      exact ⟨rfl, U.out.bel⟩
set_option maxRecDepth 100000 in
set_option maxHeartbeats 1600000 in
theorem bound_calls (w : World) (n : Int) :
    Calls Try.prog 58 #[.int .i64 n] w fun e w' => e = .returned (.bool (boundM n)) ∧ w' = w := by
  by_cases h1 : n ≥ -4611686018427387903
  · by_cases h2 : n ≤ 4611686018427387903
    · rw [show boundM n = true from by simp [boundM]; omega]
      go_enter Try.func58, Try.ntmps58
      go_wp2
      go_ret
      exact ⟨rfl, rfl⟩
    · rw [show boundM n = false from by simp [boundM]; omega]
      go_enter Try.func58, Try.ntmps58
      go_wp2
      go_ret
      exact ⟨rfl, rfl⟩
  · rw [show boundM n = false from by simp [boundM]; omega]
    go_enter Try.func58, Try.ntmps58
    go_wp2
    go_ret
    exact ⟨rfl, rfl⟩
/-- The loop of Same. -/
structure SameAt (w : World) (xs ys : List Int) (X Y : List Value) (vx vy : Value) (k : Nat) (wr : World) : Prop where
  bel : Below w.heap.size w wr
  b1 : wr.heap[w.heap.size]? = some (.cells X.toArray 54 (0, 0))
  b2 : wr.heap[w.heap.size + 1]? = some (.cells Y.toArray 54 (0, 0))
  rx : Row wr 26 vx (lits xs)
  ry : Row wr 26 vy (lits ys)
  al : ∀ j, j < k → xs.getD j 0 = ys.getD j 0
  kl : k ≤ xs.length
theorem SameAt.step {w wr w2 : World} {xs ys : List Int} {X Y : List Value} {vx vy : Value} {k : Nat} (h : SameAt w xs ys X Y vx vy k wr) (hk : k < xs.length) (he : xs.getD k 0 = ys.getD k 0) (hb : Below wr.heap.size wr w2) : SameAt w xs ys X Y vx vy (k + 1) w2 where
  bel := TM.bel h.bel hb
  b1 := (hb.block _ (blk_lt h.b1)).trans h.b1
  b2 := (hb.block _ (blk_lt h.b2)).trans h.b2
  rx := Row.bel h.rx hb
  ry := Row.bel h.ry hb
  al := fun j hj => by
    rcases Nat.lt_or_ge j k with h1 | h1
    · exact h.al j h1
    · obtain rfl : j = k := by omega
      exact he
  kl := hk
theorem list_same {xs ys : List Int} (hl : xs.length = ys.length) (h : ∀ j, j < xs.length → xs.getD j 0 = ys.getD j 0) : xs = ys := by
  refine List.ext_getElem hl fun j h1 h2 => ?_
  have := h j h1
  rwa [List.getD_eq_getElem?_getD, List.getD_eq_getElem?_getD, List.getElem?_eq_getElem h1, List.getElem?_eq_getElem h2] at this
set_option maxRecDepth 100000 in
set_option maxHeartbeats 6400000 in
theorem same_calls (w : World) (n m : NodeM) (x y : Value) (hx : Row w 26 x (lits n.args)) (hy : Row w 26 y (lits m.args)) :
    Calls Try.prog 21 #[nodeV n x, nodeV m y] w fun e w' => e = .returned (.bool (sameM n m)) ∧ Below w.heap.size w w' := by
  obtain ⟨N, hN⟩ : ∃ N, N = n.args.length := ⟨_, rfl⟩
  obtain ⟨M, hM⟩ : ∃ M, M = m.args.length := ⟨_, rfl⟩
  obtain ⟨A, c, rfl, hcap⟩ := hx.shape
  obtain ⟨B, d, rfl, _⟩ := hy.shape
  rw [show (lits n.args).length = N from by simp [hN]] at hx ⊢
  rw [show (lits m.args).length = M from by simp [hM]] at hy ⊢
  have hNb : N ≤ 9223372036854775807 := by have h1 := hcap.1; have h2 := hcap.2; unfold maxLen at h2; simp at h1; omega
  have HX := hid hx
  have HY := hid hy
  have HN := hid hN
  have HM := hid hM
  obtain ⟨o, f, u, s, xs⟩ := n
  obtain ⟨o', f', u', s', ys⟩ := m
  have BB := hid (((Below.refl w.heap.size w).alloc (Nat.le_refl _) (.cells #[.int .u8 o, .int .i64 f, .int .i64 u, .int .i64 s, .slice A N c] 54)).alloc (by simp) (.cells #[.int .u8 o', .int .i64 f', .int .i64 u', .int .i64 s', .slice B M d] 54))
  clear hx hy hcap hN hM
  by_cases ho : o = o'
  · have eo : (o != o') = false := by simpa using ho
    have Ho := hid ho
    clear ho
    by_cases hf : f = f'
    · have ef : (f != f') = false := by simpa using hf
      have Hf := hid hf
      clear hf
      by_cases hu : u = u'
      · have eu : (u != u') = false := by simpa using hu
        have Hu := hid hu
        clear hu
        by_cases hs : s = s'
        · have es : (s != s') = false := by simpa using hs
          have Hs := hid hs
          clear hs
          by_cases hl : N = M
          · have eL : ((N : Int) != (M : Int)) = false := by simp; omega
            subst hl
            have S0 := hid (show SameAt w xs ys [.int .u8 o, .int .i64 f, .int .i64 u, .int .i64 s, .slice A N c] [.int .u8 o', .int .i64 f', .int .i64 u', .int .i64 s', .slice B N d] (.slice A N c) (.slice B N d) 0 _ from
              ⟨BB.out, (old_alloc _ (by simp)).trans (heap_alloc_new _ _), by have := heap_alloc_new (w.alloc (.cells #[.int .u8 o, .int .i64 f, .int .i64 u, .int .i64 s, .slice A N c] 54)) (.cells #[.int .u8 o', .int .i64 f', .int .i64 u', .int .i64 s', .slice B N d] 54); simpa using this, Row.bel HX.out BB.out, Row.bel HY.out BB.out, fun j hj => by omega, by omega⟩)
            go_enter Try.func21, Try.ntmps21
            go_wp2_with fail
            go_loopg [5] N (fun left v5 wr => ∃ k : Nat, left + k = N ∧ v5 = .int .i64 (k : Int) ∧ Hid (SameAt w xs ys [.int .u8 o, .int .i64 f, .int .i64 u, .int .i64 s, .slice A N c] [.int .u8 o', .int .i64 f', .int .i64 u', .int .i64 s', .slice B N d] (.slice A N c) (.slice B N d) k wr))
            case atStart => exact ⟨0, by omega, rfl, S0⟩
            case round =>
              obtain ⟨k, hk, rfl, U⟩ := hrel
              clear S0
              have p4 : wr.cell? ⟨w.heap.size, 4, none⟩ = some (.slice A N c) := (blk_cell U.out.b1 4).trans rfl
              have q4 : wr.cell? ⟨w.heap.size + 1, 4, none⟩ = some (.slice B N d) := (blk_cell U.out.b2 4).trans rfl
              by_cases hkn : k < N
              · have hkI : (k : Int) < (N : Int) := by omega
                cases gk with
                | zero => omega
                | succ left =>
                obtain ⟨g, off, cap, hv, _, _, _, hcells, _⟩ := U.out.rx.cells (by simp; have h1 : N = xs.length := HN.out; omega)
                injection hv with e1 e2 e3
                subst e1 e3
                obtain ⟨g2, off2, cap2, hv2, _, _, _, hcells2, _⟩ := U.out.ry.cells (by simp; have h1 : N = ys.length := HM.out; omega)
                injection hv2 with e4 e5 e6
                subst e4 e6
                have hx := (hcells k (by simp; have h1 : N = xs.length := HN.out; omega)).trans (lits_get _ _ (by have h1 : N = xs.length := HN.out; omega))
                have hy := (hcells2 k (by simp; have h1 : N = ys.length := HM.out; omega)).trans (lits_get _ _ (by have h1 : N = ys.length := HM.out; omega))
                obtain ⟨x, hxe⟩ : ∃ x, x = xs.getD k 0 := ⟨_, rfl⟩
                obtain ⟨y, hye⟩ : ∃ x, x = ys.getD k 0 := ⟨_, rfl⟩
                rw [← hxe] at hx
                rw [← hye] at hy
                have HXE := hid hxe
                have HYE := hid hye
                have HKN := hid hkn
                clear hcells hcells2 e2 e5 hxe hye
                by_cases hxy : x = y
                · have e7 : (x != y) = false := by simpa using hxy
                  have HXY := hid hxy
                  clear hxy
                  go_wp2_with fail
                  go_quiet (fail)
                  go_wp2_with fail
                  go_roundg left
                  case measure => omega
                  case rel => exact ⟨k + 1, by omega, by go_num, hid (U.out.step (by have h1 : N = xs.length := HN.out; have := HKN.out; omega) (by rw [← HXE.out, ← HYE.out, HXY.out]) (pw_below_drewN (Below.refl _ _) _))⟩
                · have e7 : (x != y) = true := by simpa using hxy
                  have HXY := hid hxy
                  clear hxy
                  go_wp2_with fail
                  go_quiet (fail)
                  go_wp2_with fail
                  go_ret
                  rw [sameM_ne (fun e => HXY.out (by injection e with _ _ _ _ e9; rw [HXE.out, HYE.out, e9]))]
                  exact ⟨rfl, TM.bel U.out.bel (pw_below_drewN (Below.refl _ _) _)⟩
              · obtain rfl : k = N := by have := U.out.kl; have h1 : N = xs.length := HN.out; omega
                have HE := hid (list_same (xs := xs) (ys := ys) (by have h1 : k = xs.length := HN.out; have h2 : k = ys.length := HM.out; omega) (fun j hj => U.out.al j (by have h1 : k = xs.length := HN.out; omega)))
                go_wp2_with fail
                go_ret
                rw [(sameM_iff _ _).2 (by rw [Ho.out, Hf.out, Hu.out, Hs.out, HE.out])]
                exact ⟨rfl, U.out.bel⟩
          · have eL : ((N : Int) != (M : Int)) = true := by simp; omega
            have HL := hid hl
            clear hl
            go_enter Try.func21, Try.ntmps21
            go_wp2_with fail
            go_ret
            rw [sameM_ne (fun e => HL.out (by injection e with _ _ _ _ e9; rw [HN.out, HM.out, e9]))]
            exact ⟨rfl, BB.out⟩
        · have es : (s != s') = true := by simpa using hs
          have Hs := hid hs
          clear hs
          go_enter Try.func21, Try.ntmps21
          go_wp2_with fail
          go_ret
          rw [sameM_ne (fun e => Hs.out (by injection e with _ _ _ e9 _))]
          exact ⟨rfl, BB.out⟩
      · have eu : (u != u') = true := by simpa using hu
        have Hu := hid hu
        clear hu
        go_enter Try.func21, Try.ntmps21
        go_wp2_with fail
        go_ret
        rw [sameM_ne (fun e => Hu.out (by injection e with _ _ e9 _ _))]
        exact ⟨rfl, BB.out⟩
    · have ef : (f != f') = true := by simpa using hf
      have Hf := hid hf
      clear hf
      go_enter Try.func21, Try.ntmps21
      go_wp2_with fail
      go_ret
      rw [sameM_ne (fun e => Hf.out (by injection e with _ e9 _ _ _))]
      exact ⟨rfl, BB.out⟩
  · have eo : (o != o') = true := by simpa using ho
    have Ho := hid ho
    clear ho
    go_enter Try.func21, Try.ntmps21
    go_wp2_with fail
    go_ret
    rw [sameM_ne (fun e => Ho.out (by injection e with e9 _ _ _ _))]
    exact ⟨rfl, BB.out⟩
end Go.Proofs.Ytmgbodmpjholiaa.RT
