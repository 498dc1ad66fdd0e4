/- The document's terms, in memory: put (printed by wip/tools/rfp.py). -/
import Derived.Test.YtmgbodmpjholiaaRfA
import Derived.Test.YtmgbodmpjholiaaTermPS
import Derived.StillTailTactics
namespace Go.Proofs.Ytmgbodmpjholiaa.RT
open Go.RowKit Go.Maps Go.Shelf Go.Lib Go.Proofs.YtmgbodmpjholiaaW.PrintWords Go.Proofs.YtmgbodmpjholiaaW.PrintLast Go.Proofs.YtmgbodmpjholiaaW.PrintMore Go.Proofs.Ytmgbodmpjholiaa.MM Go.Proofs.Ytmgbodmpjholiaa.KM Go.Proofs.Ytmgbodmpjholiaa.TM
attribute [local go_sem ↓] Go.wp_at_zero Go.wp_at_succ
set_option linter.unusedSimpArgs false
set_option linter.unusedVariables false

/-- What a constructor leaves. -/
def GotR (w : World) (u : Nat) (F : Nat → Prop) (r : Ans) (e : Ending) (w' : World) : Prop := e = .returned (.tuple #[.int .i64 r.1, .int .i64 r.2.1]) ∧ LeftR w u r.2.2 F w'
theorem GotR.below {w w1 : World} {u : Nat} {F : Nat → Prop} {r : Ans} {e : Ending} {w2 : World} (hb : Below w.heap.size w w1) (h : GotR w1 u F r e w2) : GotR w u F r e w2 := ⟨h.1, h.2.below hb⟩
theorem GotR.same {w w1 : World} {u : Nat} {F : Nat → Prop} {l : List NodeM} {x y : Int} (h : Rs w u l F) (hb : Below w.heap.size w w1) : GotR w u F (x, y, l) (.returned (.tuple #[.int .i64 x, .int .i64 y])) w1 := ⟨rfl, LeftR.same h hb⟩
theorem infoT : (Try.prog.info? 26).map (fun i => (i.zero, i.size, i.bytes)) = some (some (.int .i64 0), 1, 8) := by kernel_rfl
theorem wp_appT (w : World) {ops : Array Oper} {rest : List Oper} {o : Oper} {a : Act} {Q : Exit → Act → World → Prop} (hgd : o.guard = none) (s x : Operand)
    (ho : o.op = .call { callee := .builtin .append, args := #[s, x], argTypes := #[43, 43] })
    (v u : Value) (xs ys : List Value) (hs : a.eval s = v) (hx : a.eval x = u) (h : Row w 26 v xs) (hy : Row w 26 u ys) (h1 : ∀ u ∈ ys, u.oneCell' = true) (hl : xs.length + ys.length < 461168601842)
    (hK : ∀ v' w', Row w' 26 v' (xs ++ ys) → Keep (fun k => v.ownBlock = some k) w w' → (v'.ownBlock = v.ownBlock ∨ v'.ownBlock = some w.heap.size) → wpList Try.prog ops Q rest (a.put o.dst v') w') :
    wpList Try.prog ops Q (o :: rest) a w := by
  obtain ⟨i0, hi0, hz0, hz1, hz2⟩ := info_parts infoT
  exact wpList_append_row hgd s x _ ho _ i0 _ Try.underlying43 hi0 hz0 hz1 rfl v u xs ys hs hx h hy.src h1 (by simp [maxLen]; omega) (by rw [hz2]; omega) hK
theorem zero_row (w : World) (e : TypeId) : Row (w.alloc (.cells #[] e)) e (.slice (some ⟨w.heap.size, 0, none⟩) 0 0) [] := .inr ⟨w.heap.size, 0, 0, #[], rfl, heap_alloc_new w _, by simp, by simp [maxLen], by simp, rfl⟩
theorem one_cells (xs : List Int) : ∀ u ∈ lits xs, u.oneCell' = true := by
  intro u hu
  obtain ⟨x, _, rfl⟩ := List.mem_map.1 hu
  simp [Value.oneCell']
theorem find_first {n m : NodeM} : ∀ {l : List NodeM} {k : Nat}, (∀ j a, j < k → l[j]? = some a → sameM a n = false) → l[k]? = some m → sameM m n = true → findM n l = some k
  | a :: r, 0, _, hk, hs => by
    cases hk
    unfold findM
    rw [if_pos hs]
  | a :: r, k + 1, h, hk, hs => by
    unfold findM
    rw [if_neg (by rw [h 0 a (by omega) rfl]; simp), find_first (l := r) (k := k) (fun j b hj hb => h (j + 1) b (by omega) (by simpa using hb)) (by simpa using hk) hs]
    rfl
theorem find_full {n : NodeM} {l : List NodeM} (h : ∀ j a, j < l.length → l[j]? = some a → sameM a n = false) : findM n l = none := by
  rw [findM_none]
  intro hm
  obtain ⟨j, hj⟩ := List.getElem?_of_mem hm
  have := h j n (List.getElem?_eq_some_iff.1 hj).1 hj
  rw [(sameM_iff n n).2 rfl] at this
  cases this
/-- The loop of put. -/
structure PutR (w : World) (u : Nat) (l : List NodeM) (F : Nat → Prop) (n : NodeM) (x : Value) (k : Nat) (wr : World) : Prop where
  rs : Rs wr u l F
  bel : Below w.heap.size w wr
  box : wr.heap[w.heap.size]? = some (.cells (head n x).toArray 54 (0, 0))
  row : Row wr 26 x (lits n.args)
  no : ∀ j a, j < k → l[j]? = some a → sameM a n = false
  kl : k ≤ l.length
theorem PutR.step {w wr w2 : World} {u : Nat} {l : List NodeM} {F : Nat → Prop} {n : NodeM} {x : Value} {k : Nat} (h : PutR w u l F n x k wr) (hk : k < l.length) (hs : ∀ a, l[k]? = some a → sameM a n = false) (hb : Below wr.heap.size wr w2) : PutR w u l F n x (k + 1) w2 where
  rs := h.rs.below hb
  bel := TM.bel h.bel hb
  box := (hb.block _ (blk_lt h.box)).trans h.box
  row := Row.bel h.row hb
  no := fun j a hj ha => by
    rcases Nat.lt_or_ge j k with h1 | h1
    · exact h.no j a h1 ha
    · obtain rfl : j = k := by omega
      exact hs a ha
  kl := hk
/-- What stands behind a put of a node more. -/
theorem rs_push {w W3 w5 : World} {u : Nat} {l : List NodeM} {F A : Nat → Prop} {n : NodeM} {v x2 v5 : Value} {vs : List Value}
    (hblk : W3.heap[u]? = some (.cells #[v] 48 (0, 0))) (hN : Nodes W3 v l A) (hAu : ¬ A u) (hFu : F u) (hvF : ∀ g, v.ownBlock = some g → F g ∧ g ≠ u) (hAF : ∀ g, A g → F g) (hF : ∀ g, F g → g < w.heap.size) (wf : Wf l) (hk0 : Keep F w W3) (hn : WfN n) (hfn : findM n l = none) (hfull : l.length < 20000)
    (hx3 : Row W3 26 x2 (lits n.args)) (hxn : ∀ g, x2.ownBlock = some g → w.heap.size ≤ g)
    (hvl : vs.length = l.length) (hrows : ∀ (i : Nat) (n : NodeM) (x : Value), l[i]? = some n → vs[i]? = some x → Row W3 26 x (lits n.args) ∧ ∀ g, x.ownBlock = some g → A g)
    (hown5 : w5.ownsRow 0 54 5 v5 (l.length + 1) (flat l vs ++ head n x2)) (hk5 : Keep (fun k => v.ownBlock = some k) W3 w5) (hat : ∀ g, v5.ownBlock = some g → v.ownBlock = some g ∨ W3.heap.size ≤ g) : LeftR w u (l ++ [n]) F (w5.setCell ⟨u, 0, none⟩ v5) := by
  have hvx : ∀ g, x2.ownBlock = some g → v.ownBlock ≠ some g := fun g hg hv => by
    have h1 := hxn g hg
    have h2 := hF g (hvF g hv).1
    omega
  have hNN := hN.push hk5 vs hvl hrows hown5 hat hx3 hvx
  have ks := setCell_keep w5 u 0 v5
  have hu5 : w5.heap[u]? = some (.cells #[v] 48 (0, 0)) := hk5.blk hblk fun e => (hvF u e).2 rfl
  have hsz := hk0.size
  have hv5 : ∀ g, v5.ownBlock = some g → g ≠ u := fun g hg => by
    rcases hat g hg with h1 | h1
    · exact (hvF g h1).2
    · have h2 := blk_lt hblk
      omega
  have hAx : ∀ g, (A g ∨ x2.ownBlock = some g) → g ≠ u := fun g hg => by
    rcases hg with h1 | h1
    · exact fun e => hAu (e ▸ h1)
    · have h2 := hxn g h1
      have h3 := hF u hFu
      omega
  have hNk := hNN.keep ks (fun g hg => hv5 g hg) (fun g hg => hAx g hg)
  refine ⟨fun j => F j ∨ w.heap.size ≤ j ∧ j < (w5.setCell ⟨u, 0, none⟩ v5).heap.size, ⟨v5, _, (blk_set hu5 0 v5).trans (by simp), hNk, fun h => hAx u h rfl, .inl hFu, fun g hg => ⟨?_, hv5 g hg⟩, fun g hg => ?_, fun g hg => ?_, hid ?_⟩, ?_, fun j hj => hj.imp id fun h => h.1⟩
  · rcases hat g hg with h1 | h1
    · exact .inl (hvF g h1).1
    · exact .inr ⟨by omega, hNk.lt g hg⟩
  · rcases hg with h1 | h1
    · exact .inl (hAF g h1)
    · exact .inr ⟨hxn g h1, hNk.old g (.inr h1)⟩
  · rcases hg with h1 | h1
    · have := hF g h1
      have h2 := hk5.size
      have h3 := ks.size
      omega
    · exact h1.2
  · have := wf.put hn
    unfold putM at this
    rw [hfn] at this
    simp only at this
    rwa [if_neg (by omega)] at this
  · exact (hk0.trans hk5 (fun _ h => h) (fun j hj => .inl (hvF j hj).1)).trans ks (fun _ h => h) (fun j hj => .inl (by rw [hj]; exact hFu))
set_option maxRecDepth 100000 in
set_option maxHeartbeats 6400000 in
theorem put_got (w : World) (u : Nat) (l : List NodeM) (F : Nat → Prop) (n : NodeM) (x : Value) (h : Rs w u l F) (hr : Row w 26 x (lits n.args)) (hn : WfN n) :
    Calls Try.prog 56 #[ptr u, nodeV n x] w (GotR w u F (putM l n)) := by
  obtain ⟨N, hN⟩ : ∃ N, N = n.args.length := ⟨_, rfl⟩
  obtain ⟨a, c, rfl, _⟩ := hr.shape
  rw [show (lits n.args).length = N from by simp [hN]] at hr ⊢
  have hNb : N ≤ 2000 := by rw [hN]; exact hn.len
  have hLb : l.length ≤ 20000 := h.wf.high
  have HN := hid hN
  have HWF := hid hn
  have HRS := hid h
  have START : Hid (PutR w u l F n (.slice a N c) 0 (w.alloc (.cells (head n (.slice a N c)).toArray 54))) := hid
    ⟨h.below ((Below.refl _ _).alloc (Nat.le_refl _) _), (Below.refl _ _).alloc (Nat.le_refl _) _, heap_alloc_new w _, hr.alloc _, fun j a hj => by omega, by omega⟩
  obtain ⟨L, hL⟩ : ∃ L, L = l.length := ⟨_, rfl⟩
  have HL := hid hL
  clear h hr hn hN
  go_enter Try.func56, Try.ntmps56
  go_wp2_with fail
  go_loopg [6] L (fun left v6 wr => ∃ k : Nat, left + k = L ∧ v6 = .int .i64 (k : Int) ∧ Hid (PutR w u l F n (.slice a N c) k wr))
  case atStart => exact ⟨0, by omega, rfl, START⟩
  case round =>
    obtain ⟨k, hk, rfl, U⟩ := hrel
    clear START
    have hbox := U.out.box
    have q0 : wr.cell? ⟨w.heap.size, 0, none⟩ = some (.int .u8 n.op) := (blk_cell hbox 0).trans rfl
    have q1 : wr.cell? ⟨w.heap.size, 1, none⟩ = some (.int .i64 n.fn) := (blk_cell hbox 1).trans rfl
    have q2 : wr.cell? ⟨w.heap.size, 2, none⟩ = some (.int .i64 n.num) := (blk_cell hbox 2).trans rfl
    have q3 : wr.cell? ⟨w.heap.size, 3, none⟩ = some (.int .i64 n.sort) := (blk_cell hbox 3).trans rfl
    have q4 : wr.cell? ⟨w.heap.size, 4, none⟩ = some (.slice a N c) := (blk_cell hbox 4).trans rfl
    clear hbox
    by_cases hkn : k < l.length
    · have hkI : (k : Int) < (l.length : Int) := by omega
      cases gk with
      | zero => omega
      | succ left =>
      obtain ⟨i, g, m, cap, o, f, r, s, x, cx, hki, hin, d0, f0, f1, f2, f3, f4, HND⟩ := rs_cells U.out.rs (has_of hkn)
      obtain rfl : k = i := Int.ofNat.inj hki
      obtain ⟨K, hK⟩ : ∃ K, K = (nodeM l (k : Int)).args.length := ⟨_, rfl⟩
      rw [← hK] at f4 HND
      obtain rfl : m = l.length := HND.out.2.2.2
      have HK := hid hK
      have HKN := hid hkn
      have HSAME := hid (fun (W : World) (hW : Below wr.heap.size wr W) => (by
        have h1 := same_calls W (nodeM l (k : Int)) n (.slice x K cx) (.slice a N c) (Row.bel HND.out.1 hW) (Row.bel U.out.row hW)
        rw [show nodeV (nodeM l (k : Int)) (.slice x K cx) = nodeV ⟨o, f, r, s, (nodeM l (k : Int)).args⟩ (.slice x K cx) from by rw [HND.out.2.2.1]] at h1
        exact h1 : Calls Try.prog 21 #[.agg #[.int .u8 o, .int .i64 f, .int .i64 r, .int .i64 s, .slice x K cx], nodeV n (.slice a N c)] W fun e w' => e = .returned (.bool (sameM (nodeM l (k : Int)) n)) ∧ Below W.heap.size W w'))
      have HGET := hid (show l[k]? = some (nodeM l (k : Int)) from by have := nodes_get (has_of hkn); rwa [Int.toNat_natCast] at this)
      clear hK hki hkn
      go_wp2_with fail
      go_still_tail 8, (by kernel_rfl)
      change wpList _ _ _ _ _ wr.drew
      have hbd : Below wr.heap.size wr wr.drew := ⟨rfl, rfl, rfl, Nat.le_refl _, fun _ _ => rfl⟩
      have HS1 := hid (HSAME.out wr.drew hbd)
      have HBD := hid hbd
      clear hbd HSAME
      go_wp2_with fail
      refine HS1.out.mono ?_
      rintro e w2 ⟨rfl, hb2⟩
      have HB2 := hid (TM.bel HBD.out hb2)
      clear hb2 HS1
      cases hsame : sameM (nodeM l (k : Int)) n with
      | true =>
        have HP := hid (show putM l n = ((k : Int), 0, l) from by unfold putM; rw [find_first U.out.no HGET.out hsame])
        clear hsame
        go_wp2_with fail
        go_ret2
        rw [HP.out]
        exact ⟨rfl, LeftR.same HRS.out (TM.bel U.out.bel HB2.out)⟩
      | false =>
        have HNX := hid (U.out.step HKN.out (fun b hb => by rw [HGET.out] at hb; cases hb; exact hsame) HB2.out)
        clear hsame
        go_wp2_with fail
        go_roundg left
        case measure => omega
        case rel => exact ⟨k + 1, by omega, by go_num, HNX⟩
    · have HFN := hid (find_full (n := n) (l := l) (fun j b hj hb => U.out.no j b (by omega) hb))
      have hkl : k = l.length := by have := U.out.kl; omega
      subst hkl
      obtain ⟨v, A, y1, y2, y3, y4, y5, y6, y7, y8⟩ := U.out.rs
      obtain ⟨av, cv, hv⟩ := y2.shape
      have hc0 : wr.cell? ⟨u, 0, none⟩ = some v := (blk_cell y1 0).trans rfl
      rw [hv] at hc0
      have HV := hid hv
      have HF0 := hid (fun g (hg : F g) => (by
        obtain ⟨v0, A0, z1, z2, z3, z4, z5, z6, z7, z8⟩ := HRS.out
        exact z7 g hg : g < w.heap.size))
      have HVF := hid (And.intro y4 (And.intro y5 (And.intro y6 (And.intro y3 y8))))
      have HN1 := hid y2
      have HY1 := hid y1
      clear hv y1 y2 y3 y4 y5 y6 y7 y8 hk hkn
      by_cases hfull : 20000 ≤ l.length
      · have HP := hid (show putM l n = (0, 9, l) by unfold putM; rw [HFN.out]; simp [hfull])
        have hfI : (l.length : Int) ≥ 20000 := by omega
        clear hfull
        go_wp2_with fail
        go_ret2
        rw [HP.out]
        exact ⟨rfl, LeftR.same HRS.out U.out.bel⟩
      · have HP := hid (show putM l n = ((l.length : Int), 0, l ++ [n]) by unfold putM; rw [HFN.out]; simp [hfull])
        have hfI : (l.length : Int) < 20000 := by omega
        have hfB : decide ((20000 : Int) ≤ (l.length : Int)) = false := by simpa using hfI
        have hlt := blk_lt U.out.box
        clear hfull
        go_wp2_with (at_builtin; go_loud (refine wp_appT _ rfl _ _ rfl _ _ [] (lits n.args) (by rfl) (by rfl) (zero_row _ _) (U.out.row.alloc _) (one_cells _) (by have := HN.out; simp; omega) ?_; intro v2 w2 hr2 hk2 hat2; rw [List.nil_append] at hr2; obtain ⟨a2, c2, rfl, _⟩ := hr2.shape; have hxl : (lits n.args).length = N := (by simp [HN.out]); rw [hxl] at hr2 hat2; try rw [hxl]; have hbx2 := hk2.blk ((old_alloc _ hlt).trans U.out.box) (fun e => absurd (Option.some.inj e : wr.heap.size = w.heap.size) (by omega)); have hf4 : w2.frozen? ⟨w.heap.size, 4, none⟩ = false := blk_frozen hbx2 4; have hc4 : w2.cell? ⟨w.heap.size, 4, none⟩ = some (.slice a N c) := (blk_cell hbx2 4).trans rfl; have HBX2 := hid hbx2; have HR2 := hid hr2; have HK2 := hid hk2; have HAT2 := hid hat2; clear hbx2 hr2 hk2 hat2))
        have hk23 := setCell_keep w2 w.heap.size 4 (.slice a2 N c2)
        have hk12 : Keep (fun _ => False) wr w2 := (⟨rfl, rfl, rfl, by simp, fun q hq _ => old_alloc (w := wr) _ hq⟩ : Keep (fun _ => False) wr (wr.alloc (.cells #[] 26))).trans HK2.out (fun _ h => h) (fun j hj => .inr (Nat.le_of_eq (Option.some.inj hj : wr.heap.size = j)))
        have hx2 : ∀ g, (Value.slice a2 N c2).ownBlock = some g → wr.heap.size ≤ g := fun g hg => by
          rcases HAT2.out with e | e
          · rw [hg] at e; exact Nat.le_of_eq (Option.some.inj e : g = wr.heap.size).symm
          · rw [hg] at e; injection e with e; simp at e; omega
        have HX2 := hid hx2
        have hkr3 : Keep (fun j => j = w.heap.size) wr (w2.setCell ⟨w.heap.size, 4, none⟩ (.slice a2 N c2)) := hk12.trans hk23 (fun _ h => h.elim) (fun _ h => .inl h)
        have hnp : ∀ b, b < w.heap.size → b ≠ w.heap.size := fun b hb => by omega
        have HN3 := hid (HN1.out.keep hkr3 (fun g hg => hnp _ (HF0.out g (HVF.out.2.1 g hg).1)) (fun g hg => hnp _ (HF0.out g (HVF.out.2.2.1 g hg))))
        have hT3 := hkr3.blk HY1.out (hnp _ (HF0.out u HVF.out.1))
        have HT3V := hid hT3
        rw [HV.out] at hT3
        have HT3 := hid hT3
        have hP3 : (w2.setCell ⟨w.heap.size, 4, none⟩ (.slice a2 N c2)).heap[w.heap.size]? = some (.cells #[.int .u8 n.op, .int .i64 n.fn, .int .i64 n.num, .int .i64 n.sort, .slice a2 N c2] 54 (0, 0)) := (blk_set HBX2.out 4 _).trans (by simp)
        have HP3 := hid hP3
        have HX3 := hid (HR2.out.keep hk23 (fun g hg e => by have := hx2 g hg; omega))
        have HK03 := hid (show Keep F w _ from (Keep.ofBelow (F := F) U.out.bel).trans hkr3 (fun _ h => h) (fun j hj => .inr (by rw [hj]; exact Nat.le_refl _)))
        have HLT := hid (And.intro (blk_lt hT3) (blk_lt hP3))
        have HSZ := hid U.out.bel.size
        clear hT3 hP3 hk23 hkr3 hk12 hnp hx2 hf4 hc4 hlt
        generalize w2.setCell ⟨w.heap.size, 4, none⟩ (.slice a2 N c2) = W3 at HN3 HT3 HT3V HP3 HX3 HK03 HLT ⊢
        have HPV := hid (show v.ownBlock ≠ some w.heap.size from fun e => by have := HF0.out _ (HVF.out.2.1 _ e).1; omega)
        have HS := hid (show ∀ W : World, W.heap[u]? = some (.cells #[.slice av l.length cv] 48 (0, 0)) → W.heap[w.heap.size]? = some (.cells #[.int .u8 n.op, .int .i64 n.fn, .int .i64 n.num, .int .i64 n.sort, .slice a2 N c2] 54 (0, 0)) → _ ∧ _ ∧ _ ∧ _ ∧ _ ∧ _ ∧ _ from fun W y z => ⟨(blk_cell y 0).trans rfl, (blk_cell z 0).trans rfl, (blk_cell z 1).trans rfl, (blk_cell z 2).trans rfl, (blk_cell z 3).trans rfl, (blk_cell z 4).trans rfl, blk_frozen y 0⟩)
        obtain ⟨vs, hvl, hown3, hrows3⟩ := HN3.out.own
        have HOWN3 := hid (And.intro hvl (And.intro hown3 hrows3))
        clear hvl hown3 hrows3
        try go_wp2_with fail
        refine wp_region_noPanic ?_
        refine start_ (n := 11) (S := (fun w' => w'.cell? ⟨u, 0, none⟩ = some (.slice av l.length cv) ∧ w'.cell? ⟨w.heap.size, 0, none⟩ = some (.int .u8 n.op) ∧ w'.cell? ⟨w.heap.size, 1, none⟩ = some (.int .i64 n.fn) ∧ w'.cell? ⟨w.heap.size, 2, none⟩ = some (.int .i64 n.num) ∧ w'.cell? ⟨w.heap.size, 3, none⟩ = some (.int .i64 n.sort) ∧ w'.cell? ⟨w.heap.size, 4, none⟩ = some (.slice a2 N c2) ∧ w'.frozen? ⟨u, 0, none⟩ = false)) (ds := [10]) #[false, false, false, false, false, false, false, false, false, false, false] (by kernel_rfl) rfl rfl (HS.out _ HT3.out HP3.out) (fun hHeld => ?_)
        refine take_ (i := 0) (N := some 37) (v := ?_) (a' := ?_) #[true, false, false, false, false, false, false, false, false, false, false] rfl rfl (by kernel_rfl) (fun _ _ _ h => h) (Or.inl ⟨by rfl, ?_⟩) hHeld ?_ ?_   -- move (%0)
        rotate_left
        · rintro w' ⟨s0, s1, s2, s3, s4, s5, s6⟩
          go_simp
          with_reducible rfl
        rotate_left
        · simp only [Act.put, List.setIfInBounds_toArray, List.set_cons_zero, List.set_cons_succ]
          rfl
        refine take_ (i := 1) (N := some 38) (v := ?_) (a' := ?_) #[true, true, false, false, false, false, false, false, false, false, false] rfl rfl (by kernel_rfl) (fun _ _ _ h => h) (Or.inl ⟨by rfl, ?_⟩) hHeld ?_ ?_   -- move (%0)
        rotate_left
        · rintro w' ⟨s0, s1, s2, s3, s4, s5, s6⟩
          go_simp
          with_reducible rfl
        rotate_left
        · simp only [Act.put, List.setIfInBounds_toArray, List.set_cons_zero, List.set_cons_succ]
          rfl
        refine take_ (i := 2) (N := some 39) (v := ?_) (a' := ?_) #[true, true, true, false, false, false, false, false, false, false, false] rfl rfl (by kernel_rfl) (fun _ _ _ h => h) (Or.inl ⟨by rfl, ?_⟩) hHeld ?_ ?_   -- nilCheck (%38)
        rotate_left
        · rintro w' ⟨s0, s1, s2, s3, s4, s5, s6⟩
          go_simp
          with_reducible rfl
        rotate_left
        · simp only [Act.put, List.setIfInBounds_toArray, List.set_cons_zero, List.set_cons_succ]
          rfl
        refine take_ (i := 3) (N := some 40) (v := ?_) (a' := ?_) #[true, true, true, true, false, false, false, false, false, false, false] rfl rfl (by kernel_rfl) (fun _ _ _ h => h) (Or.inl ⟨by rfl, ?_⟩) hHeld ?_ ?_   -- fieldAddr 48 (%39) 0
        rotate_left
        · rintro w' ⟨s0, s1, s2, s3, s4, s5, s6⟩
          go_simp
          with_reducible rfl
        rotate_left
        · simp only [Act.put, List.setIfInBounds_toArray, List.set_cons_zero, List.set_cons_succ]
          rfl
        refine take_ (i := 4) (N := some 41) (v := ?_) (a' := ?_) #[true, true, true, true, true, false, false, false, false, false, false] rfl rfl (by kernel_rfl) (fun _ _ _ h => h) (Or.inl ⟨by rfl, ?_⟩) hHeld ?_ ?_   -- load 46 (%40)
        rotate_left
        · rintro w' ⟨s0, s1, s2, s3, s4, s5, s6⟩
          go_simp
          with_reducible rfl
        rotate_left
        · simp only [Act.put, List.setIfInBounds_toArray, List.set_cons_zero, List.set_cons_succ]
          rfl
        refine take_ (i := 5) (N := some 42) (v := ?_) (a' := ?_) #[true, true, true, true, true, true, false, false, false, false, false] rfl rfl (by kernel_rfl) (fun _ _ _ h => h) (Or.inl ⟨by rfl, ?_⟩) hHeld ?_ ?_   -- load 54 (%3)
        rotate_left
        · rintro w' ⟨s0, s1, s2, s3, s4, s5, s6⟩
          go_simp
          with_reducible rfl
        rotate_left
        · simp only [Act.put, List.setIfInBounds_toArray, List.set_cons_zero, List.set_cons_succ]
          rfl
        refine one_ (i := 6) (N := some 43) #[true, true, true, true, true, true, true, false, false, false, false] rfl rfl (by kernel_rfl) (by decide) (fun K hK => ?_)
        refine value_ (by rfl) rfl (v := .slice (some ⟨W3.heap.size, 0, none⟩) 1 1) (w1 := W3.drew.alloc (.cells #[.int .u8 n.op, .int .i64 n.fn, .int .i64 n.num, .int .i64 n.sort, .slice a2 N c2] 54)) (by go_simp; first | done | rfl) ?_
        refine hK.out _ _ (HS.out _ ((old_alloc _ HLT.out.1).trans HT3.out) ((old_alloc _ HLT.out.2).trans HP3.out)) (fun hHeld => ?_)
        refine norm_ (a' := ?_) ?_ ?_
        rotate_left
        · simp only [Act.put, List.setIfInBounds_toArray, List.set_cons_zero, List.set_cons_succ]
          rfl
        refine one_ (i := 7) (N := some 44) #[true, true, true, true, true, true, true, true, false, false, false] rfl rfl (by kernel_rfl) (by decide) (fun K hK => ?_)
        refine step_node _ (by rfl) (N := some 44) (by rfl) _ _ (by rfl) v l.length (flat l vs) W3.heap.size (head n (.slice a2 N c2)) (by rw [HV.out]; rfl) (by rfl) (TM.own_move HOWN3.out.2.1 (fun g hg => old_alloc _ (HOWN3.out.2.1.lt g hg).2)) (by simp) (fun j u hj => (blk_cell (heap_alloc_new W3.drew (.cells (head n (.slice a2 N c2)).toArray 54)) j).trans (by simpa using hj)) (by simp [Value.oneCell']) (by omega) ?_
        intro v5 w5 ho5 hg5 hat5
        obtain ⟨a5, c5, rfl⟩ := own_shape ho5
        have hk35 : Keep (fun k => v.ownBlock = some k) W3 w5 := (⟨rfl, rfl, rfl, by simp, fun q hq _ => old_alloc (w := W3) _ hq⟩ : Keep (fun k => v.ownBlock = some k) W3 (W3.drew.alloc (.cells #[.int .u8 n.op, .int .i64 n.fn, .int .i64 n.num, .int .i64 n.sort, .slice a2 N c2] 54))).trans (Keep.ofGrown hg5 (fun j hj => hj)) (fun _ h => h) (fun _ h => .inl h)
        have ht5 := hk35.blk HT3.out (fun e => (HVF.out.2.1 _ e).2 rfl)
        have hp5 := hk35.blk HP3.out HPV.out
        refine hK.out _ _ (HS.out _ ht5 hp5) (fun hHeld => ?_)
        refine norm_ (a' := ?_) ?_ ?_
        rotate_left
        · simp only [Act.put, List.setIfInBounds_toArray, List.set_cons_zero, List.set_cons_succ]
          rfl
        refine take_ (i := 8) (N := some 45) (v := ?_) (a' := ?_) #[true, true, true, true, true, true, true, true, true, false, false] rfl rfl (by kernel_rfl) (fun _ _ _ h => h) (Or.inl ⟨by rfl, ?_⟩) hHeld ?_ ?_   -- nilCheck (%37)
        rotate_left
        · rintro w' ⟨s0, s1, s2, s3, s4, s5, s6⟩
          go_simp
          with_reducible rfl
        rotate_left
        · simp only [Act.put, List.setIfInBounds_toArray, List.set_cons_zero, List.set_cons_succ]
          rfl
        refine take_ (i := 9) (N := some 46) (v := ?_) (a' := ?_) #[true, true, true, true, true, true, true, true, true, true, false] rfl rfl (by kernel_rfl) (fun _ _ _ h => h) (Or.inl ⟨by rfl, ?_⟩) hHeld ?_ ?_   -- fieldAddr 48 (%45) 0
        rotate_left
        · rintro w' ⟨s0, s1, s2, s3, s4, s5, s6⟩
          go_simp
          with_reducible rfl
        rotate_left
        · simp only [Act.put, List.setIfInBounds_toArray, List.set_cons_zero, List.set_cons_succ]
          rfl
        refine last_ (i := 10) (N := none) #[true, true, true, true, true, true, true, true, true, true, true] rfl rfl (by kernel_rfl) (by decide) (fun K hK => ?_)
        refine skip_ (by rfl) rfl (w1 := w5.setCell ⟨u, 0, none⟩ (.slice a5 (l.length + 1) c5)) (by have hf0 := hHeld.2.2.2.2.2.2; have hz0 := hHeld.1; go_simp; first | done | rfl) ?_
        refine hK.out _ _ ?_
        refine done_ (by kernel_rfl) ?_
        try simp only [NoPanic, Exit.then]
        have hT6 : (w5.setCell ⟨u, 0, none⟩ (.slice a5 (l.length + 1) c5)).heap[u]? = some (.cells #[.slice a5 (l.length + 1) c5] 48 (0, 0)) := (blk_set ht5 0 _).trans (by simp)
        have d6 : (w5.setCell ⟨u, 0, none⟩ (.slice a5 (l.length + 1) c5)).cell? ⟨u, 0, none⟩ = some (.slice a5 (l.length + 1) c5) := (blk_cell hT6 0).trans rfl
        have FIN := hid (rs_push (F := F) HT3V.out HN3.out HVF.out.2.2.2.1 HVF.out.1 HVF.out.2.1 HVF.out.2.2.1 HF0.out HVF.out.2.2.2.2.out HK03.out HWF.out HFN.out (by omega) HX3.out (fun g hg => by have := HX2.out g hg; have := HSZ.out; omega) HOWN3.out.1 HOWN3.out.2.2 ho5 hk35 (fun g hg => (hat5 g hg).imp id fun h => by simp at h; omega))
        clear hg5 ht5 hp5 hHeld hT6 ho5 hat5 hk35
        generalize w5.setCell ⟨u, 0, none⟩ (.slice a5 (l.length + 1) c5) = W6 at d6 FIN ⊢
        go_wp2_with fail
        go_ret2
        rw [HP.out]
        exact ⟨rfl, FIN.out⟩
end Go.Proofs.Ytmgbodmpjholiaa.RT
