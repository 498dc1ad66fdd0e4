/- Walk of terms' put. -/
import Derived.Test.YtmgbodmpjholiaaApp5
import Derived.StillTailTactics
import Derived.Deep.Cut
namespace Go.Proofs.Ytmgbodmpjholiaa.TM
open Go.RowKit Go.Maps Go.Shelf Go.Lib Go.Proofs.YtmgbodmpjholiaaW.PrintWords Go.Proofs.YtmgbodmpjholiaaW.PrintLast Go.Proofs.YtmgbodmpjholiaaW.PrintMore Go.Proofs.Ytmgbodmpjholiaa.MM Go.Proofs.Ytmgbodmpjholiaa.KM
attribute [local go_sem ↓] Go.wp_at_zero Go.wp_at_succ
set_option linter.unusedSimpArgs false
set_option linter.unusedVariables false

abbrev nodeV (n : NodeM) (x : Value) : Value := .agg #[.int .u8 n.op, .int .i64 n.fn, .int .i64 n.num, .int .i64 n.sort, x]
theorem take_snoc (l : List Int) (k : Nat) (h : k < l.length) : l.take (k + 1) = l.take k ++ [l.getD k 0] := by
  rw [List.take_succ_eq_append_getElem h, List.getD_eq_getElem?_getD, List.getElem?_eq_getElem h]
  rfl
/-- The loop of put. -/
structure PutAt (w : World) (t : Nat) (l : List NodeM) (q : Nat) (F : Nat → Prop) (n : NodeM) (x : Value) (A : Nat → Prop) (v : Value) (b1 b2 : Nat) (g1 : KeyM → Option Nat) (k m : Nat) (L : CL) (g2 : Nat × Int → Option Nat) (wr : World) : Prop where
  so : StO wr t l (q + k) A v b1 b2 L g1 g2
  keep : Keep F w wr
  size : w.heap.size < wr.heap.size
  box : wr.heap[w.heap.size]? = some (.cells (head n x).toArray 54 (0, 0))
  dec : Dec L m (n.args.take k)
  row : Row wr 26 x (lits n.args)
  kl : k ≤ n.args.length
theorem upd_map {α β : Type} {g : α → Option Nat} (f : Nat → β) (k : α) (j : Nat) : KM.upd (fun y => (g y).map f) k (f j) = fun y => (upd2 g k j y).map f := by
  funext y
  unfold KM.upd upd2
  split <;> rfl
theorem PutAt.known {w : World} {t : Nat} {l : List NodeM} {q : Nat} {F : Nat → Prop} {n : NodeM} {x : Value} {A : Nat → Prop} {v : Value} {b1 b2 : Nat} {g1 : KeyM → Option Nat} {k m : Nat} {L : CL} {g2 : Nat × Int → Option Nat} {wr W : World} {j : Nat} (h : PutAt w t l q F n x A v b1 b2 g1 k m L g2 wr)
    (hk : k < n.args.length) (hg : g2 (m, n.args.getD k 0) = some j) (hb : Below wr.heap.size wr W) : PutAt w t l q F n x A v b1 b2 g1 (k + 1) j L g2 W where
  so := { h.so.keep (Keep.ofBelow (F := fun _ => False) hb) ⟨fun h => h, fun h => h, fun h => h⟩ (fun _ _ h => h) (fun _ _ h => h) with lq := by have := h.so.lq; omega }
  keep := h.keep.trans (Keep.ofBelow (F := F) hb) (fun _ h => h) (fun _ h => .inl h)
  size := Nat.lt_of_lt_of_le h.size hb.size
  box := (hb.block _ h.size).trans h.box
  dec := by
    rw [take_snoc _ _ hk]
    exact h.so.maps.known h.dec hg
  row := h.row.keep (Keep.ofBelow (F := fun _ => False) hb) (fun _ _ h => h)
  kl := hk
theorem PutAt.new {w : World} {t : Nat} {l : List NodeM} {q : Nat} {F : Nat → Prop} {n : NodeM} {x : Value} {A : Nat → Prop} {v : Value} {b1 b2 : Nat} {g1 : KeyM → Option Nat} {k m : Nat} {L : CL} {g2 : Nat × Int → Option Nat} {wr W W2 : World} (h : PutAt w t l q F n x A v b1 b2 g1 k m L g2 wr)
    (hF : F b2) (hA : ∀ g, A g → g ≠ b2) (hv : ∀ g, v.ownBlock = some g → g ≠ b2) (ho : w.heap.size ≠ b2)
    (hk : k < n.args.length) (hg : g2 (m, n.args.getD k 0) = none) (hb : Below wr.heap.size wr W) (hm : KMap Try.prog 82 cellV W2 b2 (L.length + 1) (KM.upd (fun k => (g2 k).map tV) (m, n.args.getD k 0) (tV (L.length + 1)))) (hgr : W.grownBy W2 (some b2)) :
    PutAt w t l q F n x A v b1 b2 g1 (k + 1) (L.length + 1) (L ++ [(m, n.args.getD k 0)]) (upd2 g2 (m, n.args.getD k 0) (L.length + 1)) W2 := by
  have h1 := h.so.maps.add h.dec hg
  have hk2 : Keep (fun j => j = b2) W W2 := Keep.ofGrown hgr fun j hj => (Option.some.inj hj).symm
  have hso := h.so.keep (Keep.ofBelow (F := fun _ => False) hb) ⟨fun h => h, fun h => h, fun h => h⟩ (fun _ _ h => h) (fun _ _ h => h)
  have hrw := h.row.keep (Keep.ofBelow (F := fun _ => False) hb) (fun _ _ h => h)
  have hnr : ∀ g, x.ownBlock = some g → g ≠ b2 := fun g hg e => by
    subst e
    obtain ⟨cur, h3⟩ := hrw.typed g hg
    obtain ⟨es, cl, h4⟩ := hso.m2.obj
    rw [h3] at h4
    cases h4
  rw [upd_map] at hm
  refine ⟨⟨hk2.blk hso.blk hso.ne.2.1, hso.nodes.keep hk2 hv hA, hso.m1.move (hk2.block _ hso.m1.lt hso.ne.2.2), by rw [List.length_append]; exact hm, h1.1, hso.ne, hso.nA, hso.nv, hso.wf, ?_⟩, ?_, ?_, ?_, ?_, hrw.keep hk2 hnr, hk⟩
  · have := h.so.lq
    simp
    omega
  · exact (h.keep.trans (Keep.ofBelow (F := F) hb) (fun _ h => h) (fun _ h => .inl h)).trans hk2 (fun _ h => h) (fun j hj => .inl (by rw [hj]; exact hF))
  · exact Nat.lt_of_lt_of_le (Nat.lt_of_lt_of_le h.size hb.size) hgr.size
  · exact hk2.blk ((hb.block _ h.size).trans h.box) ho
  · rw [take_snoc _ _ hk]
    exact h1.2
/-- What a call leaves, that keeps all but G. -/
def LeftG (w : World) (t : Nat) (l : List NodeM) (q : Nat) (F G : Nat → Prop) (w' : World) : Prop := ∃ F', St w' t l q F' ∧ Keep G w w' ∧ ∀ j, F' j → F j ∨ w.heap.size ≤ j
theorem PutAt.left {w : World} {t : Nat} {l : List NodeM} {q : Nat} {F G : Nat → Prop} {n : NodeM} {x : Value} {A : Nat → Prop} {v : Value} {b1 b2 : Nat} {g1 : KeyM → Option Nat} {k m : Nat} {L : CL} {g2 : Nat × Int → Option Nat} {wr W : World} (h : PutAt w t l q G n x A v b1 b2 g1 k m L g2 wr)
    (hF : (F t ∧ F b1 ∧ F b2) ∧ (∀ g, v.ownBlock = some g → F g) ∧ (∀ g, A g → F g) ∧ ∀ g, F g → g < w.heap.size) (hb : Below wr.heap.size wr W) : LeftG w t l (q + k) F G W :=
  ⟨F, ⟨A, v, b1, b2, L, g1, g2, h.so.keep (Keep.ofBelow (F := fun _ => False) hb) ⟨fun h => h, fun h => h, fun h => h⟩ (fun _ _ h => h) (fun _ _ h => h), hF.1, hF.2.1, hF.2.2.1, fun g hg => Nat.lt_of_lt_of_le (hF.2.2.2 g hg) (Nat.le_trans h.keep.size hb.size)⟩, h.keep.trans (Keep.ofBelow (F := G) hb) (fun _ h => h) (fun _ h => .inl h), fun _ h => .inl h⟩
theorem own_shape {w : World} {base : Nat} {e : TypeId} {size n : Nat} {v : Value} {xs : List Value} (h : w.ownsRow base e size v n xs) : ∃ a c, v = .slice a n c := by
  rcases h.2 with ⟨rfl, rfl⟩ | ⟨g, cap, cur, rfl, _⟩
  · exact ⟨_, _, rfl⟩
  · exact ⟨_, _, rfl⟩
/-- What stands behind a put of a node more. -/
theorem StO.push {w W3 w5 w7 : World} {t : Nat} {l : List NodeM} {q : Nat} {F G : Nat → Prop} {n : NodeM} {A : Nat → Prop} {v x2 v5 : Value} {b1 b2 m : Nat} {g1 : KeyM → Option Nat} {L : CL} {g2 : Nat × Int → Option Nat} {vs : List Value}
    (h : StO W3 t l q A v b1 b2 L g1 g2) (hF : (F t ∧ F b1 ∧ F b2) ∧ (∀ g, v.ownBlock = some g → F g) ∧ (∀ g, A g → F g) ∧ ∀ g, F g → g < w.heap.size) (hG : (G t ∧ G b1 ∧ G b2) ∧ ∀ g, v.ownBlock = some g → G g) (hk0 : Keep G w W3) (hn : WfN n) (hfn : findM n l = none) (hfull : l.length < 20000) (hd : Dec L m n.args)
    (hx3 : Row W3 26 x2 (lits n.args)) (hxn : ∀ g, x2.ownBlock = some g → w.heap.size ≤ g)
    (hvl : vs.length = l.length) (hrows : ∀ (i : Nat) (n : NodeM) (x : Value), l[i]? = some n → vs[i]? = some x → Row W3 26 x (lits n.args) ∧ ∀ g, x.ownBlock = some g → A g)
    (hown5 : w5.ownsRow 0 54 5 v5 (l.length + 1) (flat l vs ++ head n x2)) (hk5 : Keep (fun k => v.ownBlock = some k) W3 w5) (hat : ∀ g, v5.ownBlock = some g → v.ownBlock = some g ∨ W3.heap.size ≤ g)
    (hm7 : KMap Try.prog 79 keyV w7 b1 (l.length + 1) (KM.upd (fun k => (g1 k).map tV) (keyM n m) (tV l.length))) (hgr7 : (w5.setCell ⟨t, 0, none⟩ v5).grownBy w7 (some b1)) : LeftG w t (l ++ [n]) q F G w7 := by
  have hvx : ∀ g, x2.ownBlock = some g → v.ownBlock ≠ some g := fun g hg hv => by
    have h1 := hxn g hg
    have h2 := hF.2.2.2 g (hF.2.1 g hv)
    omega
  have hN := h.nodes.push hk5 vs hvl hrows hown5 hat hx3 hvx
  have ks := setCell_keep w5 t 0 v5
  have k7 : Keep (fun j => j = b1) (w5.setCell ⟨t, 0, none⟩ v5) w7 := Keep.ofGrown hgr7 fun j hj => (Option.some.inj hj).symm
  have hv3 : ∀ b, (∃ o, W3.heap[b]? = some o ∧ ∀ cur, o ≠ .cells cur 54 (0, 0)) → v.ownBlock ≠ some b := fun b ⟨o, ho, hc⟩ e => by
    obtain ⟨cur, h1⟩ := h.nodes.typed b e
    rw [ho] at h1
    injection h1 with h1
    exact hc cur h1
  have ht5 : w5.heap[t]? = some (.cells #[v, .map (some b1), .map (some b2)] 63 (0, 0)) := hk5.blk h.blk fun e => (h.nv t e).1 rfl
  have hv5 : ∀ g, v5.ownBlock = some g → g ≠ t ∧ g ≠ b1 ∧ g ≠ b2 := fun g hg => by
    rcases hat g hg with h1 | h1
    · exact h.nv g h1
    · have h2 := blk_lt h.blk
      have h3 := h.m1.lt
      have h4 := h.m2.lt
      refine ⟨?_, ?_, ?_⟩ <;> omega
  have hsz := hk0.size
  have hAx : ∀ g, (A g ∨ x2.ownBlock = some g) → g ≠ t ∧ g ≠ b1 ∧ g ≠ b2 := fun g hg => by
    rcases hg with h1 | h1
    · exact ⟨fun e => h.nA.1 (e ▸ h1), fun e => h.nA.2.1 (e ▸ h1), fun e => h.nA.2.2 (e ▸ h1)⟩
    · have h2 := hxn g h1
      have h3 := hF.2.2.2 t hF.1.1
      have h4 := hF.2.2.2 b1 hF.1.2.1
      have h5 := hF.2.2.2 b2 hF.1.2.2
      refine ⟨?_, ?_, ?_⟩ <;> omega
  have hsO : StO w7 t (l ++ [n]) q (fun g => A g ∨ x2.ownBlock = some g) v5 b1 b2 L (upd2 g1 (keyM n m) l.length) g2 := {
    blk := k7.blk ((blk_set ht5 0 v5).trans (by simp)) h.ne.1
    nodes := (hN.keep ks (fun g hg => (hv5 g hg).1) (fun g hg => (hAx g hg).1)).keep k7 (fun g hg => (hv5 g hg).2.1) (fun g hg => (hAx g hg).2.1)
    m1 := by
      rw [upd_map] at hm7
      rw [List.length_append, List.length_singleton]
      exact hm7
    m2 := h.m2.move ((k7.block _ (Nat.lt_of_lt_of_le (Nat.lt_of_lt_of_le h.m2.lt hk5.size) ks.size) (fun e => h.ne.2.2 e.symm)).trans ((ks.block _ (Nat.lt_of_lt_of_le h.m2.lt hk5.size) (fun e => h.ne.2.1 e.symm)).trans (hk5.block _ h.m2.lt fun e => (h.nv _ e).2.2 rfl)))
    maps := h.maps.push hd hfn
    ne := h.ne
    nA := ⟨fun hg => (hAx t hg).1 rfl, fun hg => (hAx b1 hg).2.1 rfl, fun hg => (hAx b2 hg).2.2 rfl⟩
    nv := hv5
    wf := by
      have := h.wf.put hn
      unfold putM at this
      rw [hfn] at this
      simp only at this
      rwa [if_neg (by omega)] at this
    lq := h.lq }
  have hsize : W3.heap.size ≤ w7.heap.size := Nat.le_trans hk5.size (Nat.le_trans ks.size k7.size)
  refine ⟨fun j => F j ∨ w.heap.size ≤ j ∧ j < w7.heap.size, ⟨_, _, _, _, _, _, _, hsO, ⟨.inl hF.1.1, .inl hF.1.2.1, .inl hF.1.2.2⟩, fun g hg => ?_, fun g hg => ?_, fun g hg => ?_⟩, ?_, fun j hj => hj.imp id fun h => h.1⟩
  · rcases hat g hg with h1 | h1
    · exact .inl (hF.2.1 g h1)
    · exact .inr ⟨by omega, hsO.nodes.lt g hg⟩
  · rcases hg with h1 | h1
    · exact .inl (hF.2.2.1 g h1)
    · exact .inr ⟨hxn g h1, hsO.nodes.old g (.inr h1)⟩
  · rcases hg with h1 | h1
    · have := hF.2.2.2 g h1
      omega
    · exact h1.2
  · exact ((hk0.trans hk5 (fun _ h => h) (fun j hj => .inl (hG.2 j hj))).trans ks (fun _ h => h) (fun j hj => .inl (by rw [hj]; exact hG.1.1))).trans k7 (fun _ h => h) (fun j hj => .inl (by rw [hj]; exact hG.1.2.1))
theorem zeroI (w : World) : (zeroValue 3).run Try.prog w = .ok (.int .i64 0) w := by kernel_rfl
theorem zeroT (w : World) : (zeroValue 26).run Try.prog w = .ok (.int .i64 0) w := by kernel_rfl
theorem getD_args {n : NodeM} (h : WfN n) (k : Nat) (hk : k < n.args.length) : wf64 (n.args.getD k 0) := by
  refine h.args _ ?_
  rw [List.getD_eq_getElem?_getD, List.getElem?_eq_getElem hk]
  exact List.getElem_mem hk
set_option maxRecDepth 100000 in
set_option maxHeartbeats 3200000 in
theorem put_callsG (w : World) (t : Nat) (l : List NodeM) (q : Nat) (F G : Nat → Prop) (n : NodeM) (x : Value) (A : Nat → Prop) (v : Value) (b1 b2 : Nat) (L : CL) (g1 : KeyM → Option Nat) (g2 : Nat × Int → Option Nat) (h1 : StO w t l q A v b1 b2 L g1 g2) (hf : (F t ∧ F b1 ∧ F b2) ∧ (∀ g, v.ownBlock = some g → F g) ∧ (∀ g, A g → F g) ∧ ∀ g, F g → g < w.heap.size) (hg : (G t ∧ G b1 ∧ G b2) ∧ ∀ g, v.ownBlock = some g → G g) (hr : Row w 26 x (lits n.args)) (hn : WfN n) (hq : q + n.args.length < 1000000000) :
    Calls Try.prog 30 #[ptr t, nodeV n x] w fun e w' => e = .returned (.tuple #[.int .i64 (putM l n).1, .int .i64 (putM l n).2.1]) ∧ LeftG w t (putM l n).2.2 (q + n.args.length) F G w' := by
  obtain ⟨N, hN⟩ : ∃ N, N = n.args.length := ⟨_, rfl⟩
  obtain ⟨a, c, rfl, _⟩ := hr.shape
  rw [show (lits n.args).length = N from by simp [hN]] at hr ⊢
  have hNb : N ≤ 2000 := by rw [hN]; exact hn.len
  have HN := hid hN
  have HWF := hid hn
  have HQ := hid hq
  have HF := hid hf
  have HG := hid hg
  have START : Hid (PutAt w t l q G n (.slice a N c) A v b1 b2 g1 0 0 L g2 (w.alloc (.cells (head n (.slice a N c)).toArray 54))) := hid
    ⟨h1.keep (Keep.ofBelow (F := fun _ => False) ((Below.refl _ _).alloc (Nat.le_refl _) _)) ⟨fun h => h, fun h => h, fun h => h⟩ (fun _ _ h => h) (fun _ _ h => h), Keep.ofBelow ((Below.refl _ _).alloc (Nat.le_refl _) _), by simp, heap_alloc_new w _, by simpa using Dec.nil, hr.alloc _, by omega⟩
  clear h1 hf hg hr hn hN hq
  go_enter Try.func30, Try.ntmps30
  go_wp2_with fail
  go_loopg [6, 19] N (fun left v6 v19 wr => ∃ k m L' g2', left + k = N ∧ v6 = .int .i64 (m : Nat) ∧ v19 = .int .i64 (k : Nat) ∧ Hid (PutAt w t l q G n (.slice a N c) A v b1 b2 g1 k m L' g2' wr))
  case atStart => exact ⟨0, 0, L, g2, by omega, rfl, rfl, START⟩
  case round =>
    obtain ⟨k, m, L', g2', hk, rfl, rfl, U⟩ := hrel
    by_cases hkn : k < N
    · have hkI : (k : Int) < (N : Int) := by omega
      have hkl : k < n.args.length := by rw [← HN.out]; exact hkn
      cases gk with
      | zero => omega
      | succ left =>
      obtain ⟨g, off, cap, hv, _, _, hg, hcells, _⟩ := U.out.row.cells (by simp; omega)
      injection hv with e1 e2 e3
      subst e1 e3
      have hx := (hcells k (by simpa using hkl)).trans (lits_get _ _ hkl)
      obtain ⟨y, hy⟩ : ∃ y, y = n.args.getD k 0 := ⟨_, rfl⟩
      rw [← hy] at hx
      have HY := hid hy
      have hat := U.out.so.at
      have hwy : wf64 y := by rw [hy]; exact getD_args HWF.out k hkl
      have hml : (m : Int) < 1000000000 := by have := U.out.dec.le; have := U.out.so.lq; have := HQ.out; have := HN.out; omega
      have hwm : wf64 (m : Int) := ⟨by omega, by omega⟩
      have hc2 := hat.c2
      have htl := hat.lt
      have hlk := fun j => (KMap.look_ok (KMap.move U.out.so.m2 (w1 := (wr.alloc (.cells #[.int .i64 (m : Nat), .int .i64 y] 82)).drewN j) (old_alloc (w := wr) _ U.out.so.m2.lt)) keyedCell Try.underlying61 (zeroI _) (a := ((m, y) : Nat × Int)) (cell_key _ hwm hwy))
      rw [show cellV (m, y) = .agg #[.int .i64 (m : Int), .int .i64 y] from rfl] at hlk
      have HKL := hid hkl
      have HKEY := hid (cell_key (m, y) hwm hwy)
      clear hy hcells hg e2 hwy hwm hkl
      cases hg2 : g2' (m, y) with
      | some j =>
        have HG2 := hid hg2
        simp only [hg2, Option.map_some, Option.getD_some, Option.isSome_some] at hlk
        clear hg2
        go_wp2_with fail
        go_quiet (fail)
        go_wp2_with fail
        go_roundg left
        case measure => omega
        case rel => exact ⟨k + 1, j, L', g2', by omega, rfl, by go_num, hid (U.out.known HKL.out (by rw [← HY.out]; exact HG2.out) (pw_below_drewN ((Below.refl _ _).alloc (Nat.le_refl _) _) _))⟩
      | none =>
        have HG2 := hid hg2
        simp only [hg2, Option.map_none, Option.getD_none, Option.isSome_none] at hlk
        clear hg2
        have hll : (L'.length : Int) < 1000000000 := by have := U.out.so.lq; have := HQ.out; have := HN.out; omega
        go_wp2_with fail
        go_quiet (fail)
        go_wp2_with (at_len; refine wp_len_k _ rfl _ 61 rfl Try.underlying61 b2 L'.length _ (KMap.move U.out.so.m2 (old_alloc (w := wr) _ U.out.so.m2.lt)) rfl ?_)
        have hBW : Below wr.heap.size wr ((wr.alloc (.cells #[.int .i64 (m : Nat), .int .i64 y] 82)).drewN nq) := pw_below_drewN ((Below.refl _ _).alloc (Nat.le_refl _) _) _
        have hbx : ((wr.alloc (.cells #[.int .i64 (m : Nat), .int .i64 y] 82)).drewN nq).heap[wr.heap.size]? = some (.cells #[.int .i64 (m : Nat), .int .i64 y] 82 (0, 0)) := heap_alloc_new wr _
        generalize (wr.alloc (.cells #[.int .i64 (m : Nat), .int .i64 y] 82)).drewN nq = W at hBW hbx ⊢
        have hc2W : W.cell? ⟨t, 2, none⟩ = _ := (hBW.cell (p := ⟨t, 2, none⟩) htl).trans hc2
        have hb0 : W.cell? ⟨wr.heap.size, 0, none⟩ = some (.int .i64 (m : Nat)) := (blk_cell hbx 0).trans rfl
        have hb1 : W.cell? ⟨wr.heap.size, 1, none⟩ = some (.int .i64 y) := (blk_cell hbx 1).trans rfl
        have HBW := hid hBW
        clear hBW hbx hlk hc2 hx
        go_still_tail 6, (by kernel_rfl)
        change wpList _ _ _ _ _ W.drew
        have hm2 : KMap Try.prog 82 cellV W.drew b2 L'.length _ := KMap.move U.out.so.m2 (HBW.out.block _ U.out.so.m2.lt)
        refine wp_update_k _ rfl _ _ _ 61 rfl keyedCell Try.underlying61 b2 L'.length _ hm2 ((m, y) : Nat × Int) _ rfl rfl rfl HKEY.out cellV_inj (by show Option.map tV (g2' (m, y)) = none; rw [HG2.out]; rfl) (by unfold maxLen; omega) ?_
        intro W2 hm3 hgr
        have HM3 := hid hm3
        have HGR := hid hgr
        clear hm2 hm3 hgr
        go_wp2_with fail
        go_roundg left
        case measure => omega
        case rel => exact ⟨k + 1, L'.length + 1, L' ++ [(m, y)], upd2 g2' (m, y) (L'.length + 1), by omega, rfl, by go_num, hid (by
          have hne := U.out.so.nA
          have hb := HF.out.1
          have h9 := U.out.new HG.out.1.2.2 (fun g hg e => hne.2.2 (e ▸ hg)) (fun g hg => (U.out.so.nv g hg).2.2) (by have := HF.out.2.2.2 b2 hb.2.2; omega) HKL.out (by rw [← HY.out]; exact HG2.out) (W := W.drew) ⟨HBW.out.os, HBW.out.tape, HBW.out.output, HBW.out.size, HBW.out.block⟩ (by rw [← HY.out]; exact HM3.out) HGR.out
          rw [← HY.out] at h9
          exact h9)⟩
    · obtain rfl : k = N := by have := U.out.kl; have := HN.out; omega
      have hbox := U.out.box
      have q0 : wr.cell? ⟨w.heap.size, 0, none⟩ = some (.int .u8 n.op) := (blk_cell hbox 0).trans rfl
      have q1 : wr.cell? ⟨w.heap.size, 1, none⟩ = some (.int .i64 n.fn) := (blk_cell hbox 1).trans rfl
      have q2 : wr.cell? ⟨w.heap.size, 2, none⟩ = some (.int .i64 n.num) := (blk_cell hbox 2).trans rfl
      have q3 : wr.cell? ⟨w.heap.size, 3, none⟩ = some (.int .i64 n.sort) := (blk_cell hbox 3).trans rfl
      have q4 : wr.cell? ⟨w.heap.size, 4, none⟩ = some (.slice a k c) := (blk_cell hbox 4).trans rfl
      have q5 := U.out.size
      have hdec : Dec L' m n.args := by have := U.out.dec; rwa [List.take_of_length_le (by have := HN.out; omega)] at this
      have hlook := U.out.so.maps.look hdec
      have hat := U.out.so.at
      have hml : (m : Int) < 1000000000 := by have := U.out.dec.le; have := U.out.so.lq; have := HQ.out; have := HN.out; omega
      have HKEY := hid (key_key (keyM n m) HWF.out.op HWF.out.fn HWF.out.num HWF.out.sort (show wf64 (m : Int) from ⟨by omega, by omega⟩))
      have hlk := fun j => (KMap.look_ok (KMap.move U.out.so.m1 (w1 := (wr.alloc (.cells #[.int .u8 n.op, .int .i64 n.fn, .int .i64 n.num, .int .i64 n.sort, .int .i64 (m : Nat)] 79)).drewN j) (old_alloc (w := wr) _ U.out.so.m1.lt)) keyedKey Try.underlying60 (zeroT _) (a := keyM n m) HKEY.out)
      rw [hlook, show keyV (keyM n m) = .agg #[.int .u8 n.op, .int .i64 n.fn, .int .i64 n.num, .int .i64 n.sort, .int .i64 (m : Int)] from rfl] at hlk
      have hc1 := hat.c1
      have htl := hat.lt
      have HDEC := hid hdec
      clear hlook hbox hdec
      cases hf : findM n l with
      | some i =>
        have HP := hid (show putM l n = ((i : Int), 0, l) by unfold putM; rw [hf])
        simp only [hf, Option.map_some, Option.getD_some, Option.isSome_some] at hlk
        clear hf
        go_wp2_with fail
        go_quiet (fail)
        go_wp2_with fail
        go_ret2
        rw [HP.out, ← HN.out]
        exact ⟨rfl, U.out.left HF.out (pw_below_drewN ((Below.refl _ _).alloc (Nat.le_refl _) _) _)⟩
      | none =>
        have HFN := hid hf
        simp only [hf, Option.map_none, Option.getD_none, Option.isSome_none] at hlk
        clear hf
        obtain ⟨av, cv, hv⟩ := U.out.so.nodes.shape
        have hc0 := hat.c0
        rw [hv] at hc0
        have HV := hid hv
        clear hv
        by_cases hfull : 20000 ≤ l.length
        · have HP := hid (show putM l n = (0, 9, l) by unfold putM; rw [HFN.out]; simp [hfull])
          have hfI : (l.length : Int) ≥ 20000 := by omega
          clear hfull
          go_wp2_with fail
          go_quiet (fail)
          go_wp2_with fail
          go_ret2
          rw [HP.out, ← HN.out]
          exact ⟨rfl, U.out.left HF.out (pw_below_drewN ((Below.refl _ _).alloc (Nat.le_refl _) _) _)⟩
        · have HP := hid (show putM l n = ((l.length : Int), 0, l ++ [n]) by unfold putM; rw [HFN.out]; simp [hfull])
          have hfI : (l.length : Int) < 20000 := by omega
          have HFULL := hid hfull
          clear hfull
          go_wp2_with fail
          go_quiet (fail)
          clear hlk hk hkn
          have hBW : Below wr.heap.size wr ((wr.alloc (.cells #[.int .u8 n.op, .int .i64 n.fn, .int .i64 n.num, .int .i64 n.sort, .int .i64 (m : Nat)] 79)).drewN nq) := pw_below_drewN ((Below.refl _ _).alloc (Nat.le_refl _) _) _
          have hkb : ((wr.alloc (.cells #[.int .u8 n.op, .int .i64 n.fn, .int .i64 n.num, .int .i64 n.sort, .int .i64 (m : Nat)] 79)).drewN nq).heap[wr.heap.size]? = some (.cells #[.int .u8 n.op, .int .i64 n.fn, .int .i64 n.num, .int .i64 n.sort, .int .i64 (m : Nat)] 79 (0, 0)) := heap_alloc_new wr _
          generalize (wr.alloc (.cells #[.int .u8 n.op, .int .i64 n.fn, .int .i64 n.num, .int .i64 n.sort, .int .i64 (m : Nat)] 79)).drewN nq = W at hBW hkb ⊢
          have hc0W : W.cell? ⟨t, 0, none⟩ = _ := (hBW.cell (p := ⟨t, 0, none⟩) htl).trans hc0
          have hq4W : W.cell? ⟨w.heap.size, 4, none⟩ = _ := (hBW.cell (p := ⟨w.heap.size, 4, none⟩) q5).trans q4
          have HBW := hid hBW
          have HKB := hid hkb
          have HQ5 := hid q5
          clear hBW hkb q0 q1 q2 q3 q4 q5 hc0 hc1 hat htl
          have hfB : decide ((20000 : Int) ≤ (l.length : Int)) = false := by simpa using hfI
          have HROW := hid (U.out.row.keep (Keep.ofBelow (F := fun _ => False) HBW.out) (fun _ _ h => h))
          go_wp2_with fail
          refine (clone_calls W (.slice a k c) n.args HROW.out (by have := HWF.out.len; omega)).mono ?_
          rintro e W2 ⟨x2, rfl, hr2, hx2, hb2⟩
          obtain ⟨a2, c2, rfl, _⟩ := hr2.shape
          rw [show (lits n.args).length = k from by simp [HN.out]] at hr2 hx2
          rw [show (lits n.args).length = k from by simp [HN.out]]
          have HR2 := hid hr2
          have HX2 := hid hx2
          have HB2 := hid hb2
          have hbx2 : W2.heap[w.heap.size]? = _ := (hb2.block _ (Nat.lt_of_lt_of_le HQ5.out HBW.out.size)).trans ((HBW.out.block _ HQ5.out).trans U.out.box)
          have hf4 : W2.frozen? ⟨w.heap.size, 4, none⟩ = false := blk_frozen hbx2 4
          have hc4 : W2.cell? ⟨w.heap.size, 4, none⟩ = some (.slice a k c) := (blk_cell hbx2 4).trans rfl
          have HBX2 := hid hbx2
          clear hr2 hx2 hb2 hbx2 hc0W hq4W
          go_wp2_with fail
          have HLT := hid (And.intro (Nat.lt_of_lt_of_le U.out.so.at.lt (Nat.le_trans HBW.out.size HB2.out.size)) (Nat.lt_of_lt_of_le HQ5.out (Nat.le_trans HBW.out.size HB2.out.size)))
          have hk23 := setCell_keep W2 w.heap.size 4 (.slice a2 k c2)
          have hkr3 : Keep (fun j => j = w.heap.size) wr (W2.setCell ⟨w.heap.size, 4, none⟩ (.slice a2 k c2)) := ((Keep.ofBelow (F := fun j => j = w.heap.size) HBW.out).trans (Keep.ofBelow (F := fun j => j = w.heap.size) HB2.out) (fun _ h => h) (fun _ h => .inl h)).trans hk23 (fun _ h => h) (fun _ h => .inl h)
          have hnp : ∀ b, b < w.heap.size → b ≠ w.heap.size := fun b hb => by omega
          have HSO3 := hid (U.out.so.keep hkr3 ⟨hnp _ (HF.out.2.2.2 _ HF.out.1.1), hnp _ (HF.out.2.2.2 _ HF.out.1.2.1), hnp _ (HF.out.2.2.2 _ HF.out.1.2.2)⟩ (fun g hg => hnp _ (HF.out.2.2.2 _ (HF.out.2.1 g hg))) (fun g hg => hnp _ (HF.out.2.2.2 _ (HF.out.2.2.1 g hg))))
          have hP3 : (W2.setCell ⟨w.heap.size, 4, none⟩ (.slice a2 k c2)).heap[w.heap.size]? = some (.cells #[.int .u8 n.op, .int .i64 n.fn, .int .i64 n.num, .int .i64 n.sort, .slice a2 k c2] 54 (0, 0)) := (blk_set HBX2.out 4 _).trans (by simp)
          have HP3 := hid hP3
          have HX3 := hid (HR2.out.keep hk23 (fun g hg e => by have := HX2.out g hg; have := HQ5.out; have := HBW.out.size; omega))
          have HK03 := hid (show Keep G w _ from (U.out.keep.trans hkr3 (fun _ h => h) (fun j hj => .inr (by rw [hj]; exact Nat.le_refl _))))
          have HLS := hid hk23.size
          have HKB3 := hid (hk23.blk ((HB2.out.block _ (blk_lt HKB.out)).trans HKB.out) (fun e => by have := HQ5.out; omega))
          generalize W2.setCell ⟨w.heap.size, 4, none⟩ (.slice a2 k c2) = W3 at HSO3 HP3 HX3 HK03 HLS HKB3 ⊢
          have HT3 := hid HSO3.out.blk
          rw [HV.out] at HT3
          have HPV := hid (show v.ownBlock ≠ some w.heap.size from fun e => hnp _ (HF.out.2.2.2 _ (HF.out.2.1 _ e)) rfl)
          have HS := hid (show ∀ W : World, W.heap[t]? = some (.cells #[.slice av l.length cv, .map (some b1), .map (some b2)] 63 (0, 0)) → W.heap[w.heap.size]? = some (.cells #[.int .u8 n.op, .int .i64 n.fn, .int .i64 n.num, .int .i64 n.sort, .slice a2 k c2] 54 (0, 0)) → _ ∧ _ ∧ _ ∧ _ ∧ _ ∧ _ ∧ _ from fun W y z => ⟨(blk_cell y 0).trans rfl, (blk_cell z 0).trans rfl, (blk_cell z 1).trans rfl, (blk_cell z 2).trans rfl, (blk_cell z 3).trans rfl, (blk_cell z 4).trans rfl, blk_frozen y 0⟩)
          obtain ⟨vs, hvl, hown3, hrows3⟩ := HSO3.out.nodes.own
          have HOWN3 := hid (And.intro hvl (And.intro hown3 hrows3))
          clear hvl hown3 hrows3 hk23 hkr3 hnp hf4 hc4 hP3
          have HLT' := hid (And.intro (Nat.lt_of_lt_of_le HLT.out.1 HLS.out) (Nat.lt_of_lt_of_le HLT.out.2 HLS.out))
          clear HLT
          have HLT := HLT'
          clear HLT'
          refine wp_region_noPanic ?_
          refine start_ (n := 11) (S := (fun w' => w'.cell? ⟨t, 0, none⟩ = some (.slice av l.length cv) ∧ w'.cell? ⟨w.heap.size, 0, none⟩ = some (.int .u8 n.op) ∧ w'.cell? ⟨w.heap.size, 1, none⟩ = some (.int .i64 n.fn) ∧ w'.cell? ⟨w.heap.size, 2, none⟩ = some (.int .i64 n.num) ∧ w'.cell? ⟨w.heap.size, 3, none⟩ = some (.int .i64 n.sort) ∧ w'.cell? ⟨w.heap.size, 4, none⟩ = some (.slice a2 k c2) ∧ w'.frozen? ⟨t, 0, none⟩ = false)) (ds := [10]) #[false, false, false, false, false, false, false, false, false, false, false] (by kernel_rfl) rfl rfl (HS.out _ HT3.out HP3.out) (fun hHeld => ?_)
          refine take_ (i := 0) (N := some 82) (v := ?_) (a' := ?_) #[true, false, false, false, false, false, false, false, false, false, false] rfl rfl (by kernel_rfl) (fun _ _ _ h => h) (Or.inl ⟨by rfl, ?_⟩) hHeld ?_ ?_   -- move (%0)
          rotate_left
          · rintro w' ⟨s0, s1, s2, s3, s4, s5, s6⟩
            go_simp
            with_reducible rfl
          rotate_left
          · simp only [Act.put, List.setIfInBounds_toArray, List.set_cons_zero, List.set_cons_succ]
            rfl
          refine take_ (i := 1) (N := some 83) (v := ?_) (a' := ?_) #[true, true, false, false, false, false, false, false, false, false, false] rfl rfl (by kernel_rfl) (fun _ _ _ h => h) (Or.inl ⟨by rfl, ?_⟩) hHeld ?_ ?_   -- move (%0)
          rotate_left
          · rintro w' ⟨s0, s1, s2, s3, s4, s5, s6⟩
            go_simp
            with_reducible rfl
          rotate_left
          · simp only [Act.put, List.setIfInBounds_toArray, List.set_cons_zero, List.set_cons_succ]
            rfl
          refine take_ (i := 2) (N := some 84) (v := ?_) (a' := ?_) #[true, true, true, false, false, false, false, false, false, false, false] rfl rfl (by kernel_rfl) (fun _ _ _ h => h) (Or.inl ⟨by rfl, ?_⟩) hHeld ?_ ?_   -- nilCheck (%83)
          rotate_left
          · rintro w' ⟨s0, s1, s2, s3, s4, s5, s6⟩
            go_simp
            with_reducible rfl
          rotate_left
          · simp only [Act.put, List.setIfInBounds_toArray, List.set_cons_zero, List.set_cons_succ]
            rfl
          refine take_ (i := 3) (N := some 85) (v := ?_) (a' := ?_) #[true, true, true, true, false, false, false, false, false, false, false] rfl rfl (by kernel_rfl) (fun _ _ _ h => h) (Or.inl ⟨by rfl, ?_⟩) hHeld ?_ ?_   -- fieldAddr 63 (%84) 0
          rotate_left
          · rintro w' ⟨s0, s1, s2, s3, s4, s5, s6⟩
            go_simp
            with_reducible rfl
          rotate_left
          · simp only [Act.put, List.setIfInBounds_toArray, List.set_cons_zero, List.set_cons_succ]
            rfl
          refine take_ (i := 4) (N := some 86) (v := ?_) (a' := ?_) #[true, true, true, true, true, false, false, false, false, false, false] rfl rfl (by kernel_rfl) (fun _ _ _ h => h) (Or.inl ⟨by rfl, ?_⟩) hHeld ?_ ?_   -- load 46 (%85)
          rotate_left
          · rintro w' ⟨s0, s1, s2, s3, s4, s5, s6⟩
            go_simp
            with_reducible rfl
          rotate_left
          · simp only [Act.put, List.setIfInBounds_toArray, List.set_cons_zero, List.set_cons_succ]
            rfl
          refine take_ (i := 5) (N := some 87) (v := ?_) (a' := ?_) #[true, true, true, true, true, true, false, false, false, false, false] rfl rfl (by kernel_rfl) (fun _ _ _ h => h) (Or.inl ⟨by rfl, ?_⟩) hHeld ?_ ?_   -- load 54 (%3)
          rotate_left
          · rintro w' ⟨s0, s1, s2, s3, s4, s5, s6⟩
            go_simp
            with_reducible rfl
          rotate_left
          · simp only [Act.put, List.setIfInBounds_toArray, List.set_cons_zero, List.set_cons_succ]
            rfl
          refine one_ (i := 6) (N := some 88) #[true, true, true, true, true, true, true, false, false, false, false] rfl rfl (by kernel_rfl) (by decide) (fun K hK => ?_)
          refine value_ (by rfl) rfl (v := .slice (some ⟨W3.heap.size, 0, none⟩) 1 1) (w1 := W3.drew.alloc (.cells #[.int .u8 n.op, .int .i64 n.fn, .int .i64 n.num, .int .i64 n.sort, .slice a2 k c2] 54)) (by go_simp; first | done | rfl) ?_
          refine hK.out _ _ (HS.out _ ((old_alloc _ HLT.out.1).trans HT3.out) ((old_alloc _ HLT.out.2).trans HP3.out)) (fun hHeld => ?_)
          refine norm_ (a' := ?_) ?_ ?_
          rotate_left
          · simp only [Act.put, List.setIfInBounds_toArray, List.set_cons_zero, List.set_cons_succ]
            rfl
          refine one_ (i := 7) (N := some 89) #[true, true, true, true, true, true, true, true, false, false, false] rfl rfl (by kernel_rfl) (by decide) (fun K hK => ?_)
          refine step_node _ (by rfl) (N := some 89) (by rfl) _ _ (by rfl) v l.length (flat l vs) W3.heap.size (head n (.slice a2 k c2)) (by rw [HV.out]; rfl) (by rfl) (own_move HOWN3.out.2.1 (fun g hg => old_alloc _ (HOWN3.out.2.1.lt g hg).2)) (by simp) (fun j u hj => (blk_cell (heap_alloc_new W3.drew (.cells (head n (.slice a2 k c2)).toArray 54)) j).trans (by simpa using hj)) (by simp [Value.oneCell']) (by omega) ?_
          intro v5 w5 ho5 hg5 hat5
          obtain ⟨a5, c5, rfl⟩ := own_shape ho5
          have hk35 : Keep (fun k => v.ownBlock = some k) W3 w5 := (⟨rfl, rfl, rfl, by simp, fun q hq _ => old_alloc (w := W3) _ hq⟩ : Keep (fun k => v.ownBlock = some k) W3 (W3.drew.alloc (.cells #[.int .u8 n.op, .int .i64 n.fn, .int .i64 n.num, .int .i64 n.sort, .slice a2 k c2] 54))).trans (Keep.ofGrown hg5 (fun j hj => hj)) (fun _ h => h) (fun _ h => .inl h)
          have ht5 := hk35.blk HT3.out (fun e => (HSO3.out.nv _ e).1 rfl)
          have hp5 := hk35.blk HP3.out HPV.out
          refine hK.out _ _ (HS.out _ ht5 hp5) (fun hHeld => ?_)
          refine norm_ (a' := ?_) ?_ ?_
          rotate_left
          · simp only [Act.put, List.setIfInBounds_toArray, List.set_cons_zero, List.set_cons_succ]
            rfl
          refine take_ (i := 8) (N := some 90) (v := ?_) (a' := ?_) #[true, true, true, true, true, true, true, true, true, false, false] rfl rfl (by kernel_rfl) (fun _ _ _ h => h) (Or.inl ⟨by rfl, ?_⟩) hHeld ?_ ?_   -- nilCheck (%82)
          rotate_left
          · rintro w' ⟨s0, s1, s2, s3, s4, s5, s6⟩
            go_simp
            with_reducible rfl
          rotate_left
          · simp only [Act.put, List.setIfInBounds_toArray, List.set_cons_zero, List.set_cons_succ]
            rfl
          refine take_ (i := 9) (N := some 91) (v := ?_) (a' := ?_) #[true, true, true, true, true, true, true, true, true, true, false] rfl rfl (by kernel_rfl) (fun _ _ _ h => h) (Or.inl ⟨by rfl, ?_⟩) hHeld ?_ ?_   -- fieldAddr 63 (%90) 0
          rotate_left
          · rintro w' ⟨s0, s1, s2, s3, s4, s5, s6⟩
            go_simp
            with_reducible rfl
          rotate_left
          · simp only [Act.put, List.setIfInBounds_toArray, List.set_cons_zero, List.set_cons_succ]
            rfl
          refine last_ (i := 10) (N := none) #[true, true, true, true, true, true, true, true, true, true, true] rfl rfl (by kernel_rfl) (by decide) (fun K hK => ?_)
          refine skip_ (by rfl) rfl (w1 := w5.setCell ⟨t, 0, none⟩ (.slice a5 (l.length + 1) c5)) (by have hf0 := hHeld.2.2.2.2.2.2; have hz0 := hHeld.1; go_simp; first | done | rfl) ?_
          refine hK.out _ _ ?_
          refine done_ (by kernel_rfl) ?_
          try simp only [NoPanic, Exit.then]
          have HSZ := hid (show W3.heap.size ≤ (w5.setCell ⟨t, 0, none⟩ (.slice a5 (l.length + 1) c5)).heap.size from Nat.le_trans hk35.size (setCell_keep w5 t 0 _).size)
          have hT6 : (w5.setCell ⟨t, 0, none⟩ (.slice a5 (l.length + 1) c5)).heap[t]? = some (.cells #[.slice a5 (l.length + 1) c5, .map (some b1), .map (some b2)] 63 (0, 0)) := (blk_set ht5 0 _).trans (by simp)
          have hK6 : (w5.setCell ⟨t, 0, none⟩ (.slice a5 (l.length + 1) c5)).heap[wr.heap.size]? = some (.cells #[.int .u8 n.op, .int .i64 n.fn, .int .i64 n.num, .int .i64 n.sort, .int .i64 (m : Nat)] 79 (0, 0)) :=
            (setCell_keep w5 t 0 _).blk (hk35.blk HKB3.out (fun e => by have h1 := HF.out.2.2.2 _ (HF.out.2.1 _ e); have := HQ5.out; omega)) (fun e => by have := U.out.so.at.lt; omega)
          have hM6 : KMap Try.prog 79 keyV (w5.setCell ⟨t, 0, none⟩ (.slice a5 (l.length + 1) c5)) b1 l.length _ := HSO3.out.m1.move (((setCell_keep w5 t 0 _).block _ (Nat.lt_of_lt_of_le HSO3.out.m1.lt hk35.size) (fun e => HSO3.out.ne.1 e.symm)).trans (hk35.block _ HSO3.out.m1.lt fun e => (HSO3.out.nv _ e).2.1 rfl))
          have HO5 := hid ho5
          have HK35 := hid hk35
          have HAT5 := hid hat5
          have HM6 := hid hM6
          obtain ⟨W6, hW6⟩ : ∃ W6, W6 = w5.setCell ⟨t, 0, none⟩ (.slice a5 (l.length + 1) c5) := ⟨_, rfl⟩
          rw [← hW6] at hT6 hK6 HM6 HSZ ⊢
          have HW6 := hid hW6
          have d0 : W6.cell? ⟨t, 0, none⟩ = some (.slice a5 (l.length + 1) c5) := (blk_cell hT6 0).trans rfl
          have d1 : W6.cell? ⟨t, 1, none⟩ = some (.map (some b1)) := (blk_cell hT6 1).trans rfl
          have e0 : W6.cell? ⟨wr.heap.size, 0, none⟩ = some (.int .u8 n.op) := (blk_cell hK6 0).trans rfl
          have e1 : W6.cell? ⟨wr.heap.size, 1, none⟩ = some (.int .i64 n.fn) := (blk_cell hK6 1).trans rfl
          have e2 : W6.cell? ⟨wr.heap.size, 2, none⟩ = some (.int .i64 n.num) := (blk_cell hK6 2).trans rfl
          have e3 : W6.cell? ⟨wr.heap.size, 3, none⟩ = some (.int .i64 n.sort) := (blk_cell hK6 3).trans rfl
          have e4 : W6.cell? ⟨wr.heap.size, 4, none⟩ = some (.int .i64 (m : Nat)) := (blk_cell hK6 4).trans rfl
          clear hM6 ho5 hk35 hat5 hg5 ht5 hp5 hT6 hK6 hW6 hHeld
          go_wp2_with fail
          go_still_tail 6, (by kernel_rfl)
          change wpList _ _ _ _ _ W6.drew
          have hm6 : KMap Try.prog 79 keyV W6.drew b1 l.length _ := KMap.move HM6.out rfl
          have hnone : g1 (keyM n m) = none := by rw [U.out.so.maps.look HDEC.out]; exact HFN.out
          refine wp_update_k _ rfl _ _ _ 60 rfl keyedKey Try.underlying60 b1 l.length _ hm6 (keyM n m) (tV l.length) rfl rfl (by go_simp; first | done | rfl) HKEY.out keyV_inj (by show Option.map tV (g1 (keyM n m)) = none; rw [hnone]; rfl) (by unfold maxLen; omega) ?_
          intro W7 hm7 hgr7
          have HM7 := hid hm7
          have HGR7 := hid hgr7
          clear hm6 hm7 hgr7 hnone
          go_wp2_with fail
          go_ret2
          rw [HP.out, ← HN.out]
          refine ⟨rfl, HSO3.out.push HF.out HG.out HK03.out HWF.out HFN.out (by omega) HDEC.out HX3.out (fun g hg => ?_) HOWN3.out.1 HOWN3.out.2.2 HO5.out HK35.out (fun g hg => (HAT5.out g hg).imp id fun h => by simp at h; omega) HM7.out ?_⟩
          · have h1 := HX2.out g hg
            have h2 := HBW.out.size
            have h3 := HQ5.out
            omega
          · rw [← HW6.out]
            exact ⟨HGR7.out.os, HGR7.out.tape, HGR7.out.output, HGR7.out.size, HGR7.out.block⟩
theorem put_calls (w : World) (t : Nat) (l : List NodeM) (q : Nat) (F : Nat → Prop) (n : NodeM) (x : Value) (h : St w t l q F) (hr : Row w 26 x (lits n.args)) (hn : WfN n) (hq : q + n.args.length < 1000000000) :
    Calls Try.prog 30 #[ptr t, nodeV n x] w fun e w' => e = .returned (.tuple #[.int .i64 (putM l n).1, .int .i64 (putM l n).2.1]) ∧ LeftS w t (putM l n).2.2 (q + n.args.length) F w' := by
  obtain ⟨A, v, b1, b2, L, g1, g2, h1, h2, h3, h4, h5⟩ := h
  exact put_callsG w t l q F F n x A v b1 b2 L g1 g2 h1 ⟨h2, h3, h4, h5⟩ ⟨h2, h3⟩ hr hn hq
end Go.Proofs.Ytmgbodmpjholiaa.TM
