/- The law's made: one call of both stores (printed by wip/tools/made.py). -/
import Derived.Test.YtmgbodmpjholiaaTwoT
import Derived.Deep.Cut
namespace Go.Proofs.Ytmgbodmpjholiaa.BT
open Go.RowKit Go.Maps Go.Shelf Go.Lib Go.Proofs.YtmgbodmpjholiaaW.PrintWords Go.Proofs.YtmgbodmpjholiaaW.PrintLast Go.Proofs.YtmgbodmpjholiaaW.PrintMore Go.Proofs.Ytmgbodmpjholiaa.MM Go.Proofs.Ytmgbodmpjholiaa.KM Go.Proofs.Ytmgbodmpjholiaa.TM Go.Proofs.Ytmgbodmpjholiaa.RT Go.Proofs.Ytmgbodmpjholiaa.TW
attribute [local go_sem ↓] Go.wp_at_zero Go.wp_at_succ
set_option linter.unusedSimpArgs false
set_option linter.unusedVariables false

/-- A call. -/
structure OpM where
  kd : Int
  a : Int
  b : Int
  c : Int
  L : List Int
  fn : Int
  so : Int
  n : Int
  m : Bool
structure WfO (o : OpM) : Prop where
  a : wf64 o.a
  b : wf64 o.b
  c : wf64 o.c
  L : ∀ x ∈ o.L, wf64 x
  fn : wf64 o.fn
  so : wf64 o.so
  n : wf64 o.n
  len : o.L.length ≤ 6000
abbrev opCells (o : OpM) (v : Value) : List Value := [.int .i64 o.kd, .int .i64 o.a, .int .i64 o.b, .int .i64 o.c, v, .int .i64 o.fn, .int .i64 o.so, .int .i64 o.n, .bool o.m]
abbrev opV (o : OpM) (v : Value) : Value := .agg #[.int .i64 o.kd, .int .i64 o.a, .int .i64 o.b, .int .i64 o.c, v, .int .i64 o.fn, .int .i64 o.so, .int .i64 o.n, .bool o.m]
def nearL (S : List NodeM) (o : OpM) (xs : List Int) : List Int := xs.map fun x => nearM x S.length o.m
abbrev near1 (S : List NodeM) (o : OpM) (x : Int) : Int := nearM x S.length o.m
def madeM (S : List NodeM) (o : OpM) : Ans :=
  if o.kd = 0 then TM.notM S (near1 S o o.a) else if o.kd = 1 then andM S (nearL S o o.L) else if o.kd = 2 then orM S (nearL S o o.L) else if o.kd = 3 then eqM S (near1 S o o.a) (near1 S o o.b) else
  if o.kd = 4 then iteM S (near1 S o o.a) (near1 S o o.b) (near1 S o o.c) else if o.kd = 5 then appM S o.fn o.so (nearL S o o.L) else if o.kd = 6 then numM S o.n else if o.kd = 7 then plusM S (near1 S o o.a) o.n else
  if o.kd = 8 then leM S (near1 S o o.a) (near1 S o o.b) o.n else (0, 0, S)
/-- What is read of a row that is handed in. -/
def Reads (w : World) (v : Value) (xs : List Int) : Prop := ∃ A c, v = .slice A xs.length c ∧ (0 < xs.length → ∃ g off, A = some ⟨g, off, none⟩ ∧ g < w.heap.size ∧ ∀ k, k < xs.length → w.cell? ⟨g, off + k, none⟩ = some (.int .i64 (xs.getD k 0)))
theorem Reads.ofRow {w : World} {v : Value} {xs : List Int} (h : Row w 26 v (lits xs)) : Reads w v xs := by
  obtain ⟨A, c, rfl, _⟩ := h.shape
  rw [show (lits xs).length = xs.length from by simp] at h ⊢
  refine ⟨A, c, rfl, fun h0 => ?_⟩
  obtain ⟨g, off, cap, hv, _, _, hg, hc, _⟩ := h.cells (by simpa using h0)
  injection hv with e1 _ _
  exact ⟨g, off, e1, hg, fun k hk => (hc k (by simpa using hk)).trans (lits_get _ _ hk)⟩
theorem Reads.keep {w w1 : World} {v : Value} {xs : List Int} {F : Nat → Prop} (h : Reads w v xs) (hk : Keep F w w1) (hn : 0 < xs.length → ∀ g, v.ownBlock = some g → ¬ F g) : Reads w1 v xs := by
  obtain ⟨A, c, rfl, h1⟩ := h
  refine ⟨A, c, rfl, fun h0 => ?_⟩
  obtain ⟨g, off, rfl, hg, hc⟩ := h1 h0
  exact ⟨g, off, rfl, Nat.lt_of_lt_of_le hg hk.size, fun k hkk => (World.cell?_of_block (hk.block g hg (hn h0 g rfl))).trans (hc k hkk)⟩
theorem Reads.bel {w w1 : World} {v : Value} {xs : List Int} (h : Reads w v xs) (hb : Below w.heap.size w w1) : Reads w1 v xs := h.keep (Keep.ofBelow (F := fun _ => False) hb) (fun _ _ _ h => h)
theorem Reads.lt {w : World} {v : Value} {xs : List Int} (h : Reads w v xs) (h0 : 0 < xs.length) : ∀ g, v.ownBlock = some g → g < w.heap.size := by
  obtain ⟨A, c, rfl, h1⟩ := h
  obtain ⟨g, off, rfl, hg, hc⟩ := h1 h0
  intro g' hg'
  have := (Option.some.inj hg' : g = g')
  omega
/-- The first loop of made. -/
structure MadeAt (sd : Side) (w0 w : World) (s u : Nat) (S : List NodeM) (q : Nat) (o : OpM) (vL : Value) (k : Nat) (vl : Value) (wr : World) : Prop where
  two : TwoAt (sd.and (Side.row 26 vl (lits (nearL S o (o.L.take k))))) w0 wr s u S S q
  bel : Below w.heap.size w wr
  sdo : ∀ j, sd.D j → j ≤ w.heap.size
  base : w0.heap.size ≤ w.heap.size
  oldL : 0 < o.L.length → ∀ g, vL.ownBlock = some g → g < w.heap.size
  box : wr.heap[w.heap.size]? = some (.cells (opCells o vL).toArray 45 (0, 0))
  rowL : Reads wr vL o.L
  fresh : ∀ g, vl.ownBlock = some g → w.heap.size < g
  kl : k ≤ o.L.length
theorem MadeAt.below {sd : Side} {w0 w : World} {s u : Nat} {S : List NodeM} {q : Nat} {o : OpM} {vL : Value} {k : Nat} {vl : Value} {wr w2 : World} (h : MadeAt sd w0 w s u S q o vL k vl wr) (hb : Below wr.heap.size wr w2) : MadeAt sd w0 w s u S q o vL k vl w2 :=
  ⟨h.two.below hb, TM.bel h.bel hb, h.sdo, h.base, h.oldL, (hb.block _ (blk_lt h.box)).trans h.box, h.rowL.bel hb, h.fresh, h.kl⟩
theorem MadeAt.rowl {sd : Side} {w0 w : World} {s u : Nat} {S : List NodeM} {q : Nat} {o : OpM} {vL : Value} {k : Nat} {vl : Value} {wr : World} (h : MadeAt sd w0 w s u S q o vL k vl wr) : Row wr 26 vl (lits (nearL S o (o.L.take k))) := h.two.side.2
theorem MadeAt.neL {sd : Side} {w0 w : World} {s u : Nat} {S : List NodeM} {q : Nat} {o : OpM} {vL : Value} {k : Nat} {vl : Value} {wr : World} (h : MadeAt sd w0 w s u S q o vL k vl wr) (h0 : 0 < o.L.length) : ∀ g, vL.ownBlock = some g → vl.ownBlock ≠ some g := fun g hg e => by
  have h1 := h.oldL h0 g hg
  have h2 := h.fresh g e
  omega
theorem MadeAt.step {sd : Side} {w0 w : World} {s u : Nat} {S : List NodeM} {q : Nat} {o : OpM} {vL : Value} {k : Nat} {vl v2 : Value} {wr w2 : World} (h : MadeAt sd w0 w s u S q o vL k vl wr) (hk : k < o.L.length) (hr : Row w2 26 v2 (lits (nearL S o (o.L.take (k + 1))))) (hkw : Keep (fun g => vl.ownBlock = some g) wr w2) (hat : ∀ g, v2.ownBlock = some g → vl.ownBlock = some g ∨ wr.heap.size ≤ g) (hsz : w.heap.size < wr.heap.size) : MadeAt sd w0 w s u S q o vL (k + 1) v2 w2 := by
  have hb : Below w.heap.size w w2 := h.bel.trans (hkw.below (fun j hj => by have := h.fresh j hj; omega) h.bel.size)
  refine ⟨h.two.turn (sd3 := Side.row 26 v2 (lits (nearL S o (o.L.take (k + 1))))) hkw (fun j hj e => by have := h.sdo j hj; have := h.fresh j e; omega) (fun j hj => by have := h.fresh j hj; have := h.base; omega) hr (fun j hj => hat j hj), hb, h.sdo, h.base, h.oldL, hkw.blk h.box (fun e => by have := h.fresh _ e; omega), h.rowL.keep hkw (fun h0 g hg => h.neL h0 g hg), fun g hg => ?_, hk⟩
  · rcases hat g hg with e | e
    · exact h.fresh g e
    · omega
theorem nearL_snoc (S : List NodeM) (o : OpM) (k : Nat) (h : k < o.L.length) : lits (nearL S o (o.L.take (k + 1))) = lits (nearL S o (o.L.take k)) ++ [.int .i64 (near1 S o (o.L.getD k 0))] := by
  rw [take_snoc _ _ h]
  simp [nearL]
theorem nearL_len (S : List NodeM) (o : OpM) (xs : List Int) : (nearL S o xs).length = xs.length := by simp [nearL]
theorem nearL_wf {S : List NodeM} {o : OpM} (hw : ∀ x ∈ o.L, wf64 x) (hn : S.length ≤ 20000) : ∀ x ∈ nearL S o o.L, wf64 x := by
  intro x hx
  obtain ⟨y, hy, rfl⟩ := List.mem_map.1 hx
  exact nearM_wf (hw y hy) hn
theorem step_T (w : World) {ops : Array Oper} {o : Oper} {a : Act} {K : Act → World → Prop} {Q : Exit → Act → World → Prop} {E : Prop} (hgd : o.guard = none) {N : Option Tmp} (hN : o.dst = N) (s x : Operand)
    (ho : o.op = .call { callee := .builtin .append, args := #[s, x], argTypes := #[43, 43] })
    (v u : Value) (xs ys : List Value) (hs : a.eval s = v) (hx : a.eval x = u) (h : Row w 26 v xs) (hy : Row w 26 u ys) (h1 : ∀ u ∈ ys, u.oneCell' = true) (hl : xs.length + ys.length < 461168601842)
    (hK : ∀ v' w', Row w' 26 v' (xs ++ ys) → Keep (fun k => v.ownBlock = some k) w w' → (v'.ownBlock = v.ownBlock ∨ v'.ownBlock = some w.heap.size) → K (a.put N v') w') :
    if Region.wanted o (yielded ops a.tmps) = true then Oper.wp Try.prog o a w K Q else E := by
  subst hN
  obtain ⟨i0, hi0, hz0, hz1, hz2⟩ := info_parts infoT
  exact step_append_row w hgd s x _ ho _ i0 _ Try.underlying43 hi0 hz0 hz1 rfl v u xs ys hs hx h hy.src h1 (by simp [maxLen]; omega) (by rw [hz2]; omega) hK
theorem in_fresh {wr : World} {o : Obj} {v : Value} (h : v.ownBlock = some wr.heap.size ∨ v.ownBlock = some (wr.alloc o).heap.size) : ∀ g, v.ownBlock = some g → wr.heap.size ≤ g := by
  intro g hg
  rcases h with e | e
  · rw [hg] at e
    exact Nat.le_of_eq (Option.some.inj e).symm
  · rw [hg] at e
    have := Option.some.inj e
    simp at this
    omega
/-- Such a call's end. -/
def EndM (sd : Side) (w0 : World) (s u q : Nat) (r : Ans) (e : Ending) (w' : World) : Prop := e = .returned (.tuple #[.int .i64 r.1, .int .i64 r.2.1, .bool true]) ∧ TwoAt sd w0 w' s u r.2.2 r.2.2 q
structure ZeroAt (sd : Side) (w0 : World) (s u : Nat) (S : List NodeM) (q N c : Nat) (A : Option Addr) (wr : World) : Prop where
  two : ∃ ys : List Int, ys.length = N ∧ TwoAt (sd.and (Side.row 26 (.slice A N c) (lits ys))) w0 wr s u S S q
set_option maxRecDepth 100000 in
set_option maxHeartbeats 12800000 in
theorem made_calls (sd : Side) (w0 w : World) (s u : Nat) (S : List NodeM) (q : Nat) (o : OpM) (vL : Value) (h : TwoAt sd w0 w s u S S q) (hr : Reads w vL o.L) (hw : WfO o) (hq : q + 2000 < 1000000000) :
    Calls Try.prog 19 #[ptr s, ptr u, opV o vL] w (EndM sd w0 s u (q + 2000) (madeM S o)) := by
  have HSB := hid h.wf.high
  have HW := hid hw
  have HQ := hid hq
  obtain ⟨N, hN⟩ : ∃ N, N = o.L.length := ⟨_, rfl⟩
  have hNb : N ≤ 6000 := by rw [hN]; exact hw.len
  obtain ⟨AL, cL, rfl, _⟩ := id hr
  rw [← hN] at hr ⊢
  have HNN := hid hN
  have hbw := (Below.refl w.heap.size w).alloc (Nat.le_refl _) (.cells (opCells o (.slice AL N cL)).toArray 45)
  obtain ⟨sdb, hsdb⟩ : ∃ sdb, sdb = sd.and (Side.obj w.heap.size (.cells (opCells o (.slice AL N cL)).toArray 45 (0, 0))) := ⟨_, rfl⟩
  have HSDB := hid hsdb
  have hone : TwoAt sdb w0 (w.alloc (.cells (opCells o (.slice AL N cL)).toArray 45)) s u S S q := by
    rw [hsdb]
    exact h.beside hbw (sd2 := Side.obj w.heap.size (.cells (opCells o (.slice AL N cL)).toArray 45 (0, 0))) (heap_alloc_new w _) (fun j hj => Nat.le_of_eq (hj : j = w.heap.size).symm)
  have START := hid (show MadeAt sdb w0 w s u S q o (.slice AL N cL) 0 (.slice none 0 0) _ from ⟨hone.beside (Below.refl _ _) (sd2 := Side.row 26 (.slice none 0 0) (lits (nearL S o (o.L.take 0)))) (.nil _ _) (fun j hj => by cases hj), hbw, fun j hj => by have := sdb.lt _ hone.side j hj; simp at this; omega, h.bel.size, hr.lt, heap_alloc_new w _, hr.bel hbw, (fun g hg => by cases hg), by omega⟩)
  obtain ⟨au, cu, hcu, hult⟩ : ∃ a c, w.cell? ⟨u, 0, none⟩ = some (.slice a S.length c) ∧ u < w.heap.size := by
    obtain ⟨F, G, h1, h2, h3, h4⟩ := h.st
    exact rs_at h2
  have hcu' := (hbw.cell (p := ⟨u, 0, none⟩) hult).trans hcu
  obtain ⟨ns, hns⟩ : ∃ ns, ns = S.length := ⟨_, rfl⟩
  have HSN := hid hns
  have hSI : (S.length : Int) ≤ 20000 := by have := h.wf.high; omega
  have HN1 := hid (fun (W : World) (t : Int) => near_calls W t S.length o.m HSB.out)
  clear h hr hw hq hbw hN hns hcu hone hsdb
  go_enter Try.func19, Try.ntmps19
  go_wp2_with fail
  go_quiet ((go_at_call 18; exact Calls.quiet_of_same (HN1.out _ _)))
  go_wp2_with fail
  go_loopg [13, 14] N (fun left v13 v14 wr => ∃ (k : Nat) (A : Option Addr) (c : Nat), left + k = N ∧ v13 = .slice A k c ∧ v14 = .int .i64 (k : Int) ∧ Hid (MadeAt sdb w0 w s u S q o (.slice AL N cL) k (.slice A k c) wr))
  case atStart => exact ⟨0, none, 0, by omega, rfl, rfl, hid (START.out.below (pw_below_drewN (Below.refl _ _) _))⟩
  case round =>
    obtain ⟨k, A, c, hk, rfl, rfl, HU⟩ := hrel
    clear START
    have hbox := HU.out.box
    have p4 : wr.cell? ⟨w.heap.size, 4, none⟩ = some (.slice AL N cL) := (blk_cell hbox 4).trans rfl
    by_cases hkn : k < N
    · have hkI : (k : Int) < (N : Int) := by omega
      cases gk with
      | zero => omega
      | succ left =>
      have HLL := hid (show (o.L.take k).length ≤ 6000 from by rw [List.length_take]; omega)
      have HKL := hid (show k < o.L.length from by rw [← HNN.out]; exact hkn)
      obtain ⟨AL', cL', hv, hrd⟩ := HU.out.rowL
      injection hv with z1 z2 z3
      subst z1 z3
      obtain ⟨gL, oL, rfl, hgL, hcells⟩ := hrd (by have := HKL.out; omega)
      obtain ⟨x, hx⟩ : ∃ x, x = o.L.getD k 0 := ⟨_, rfl⟩
      have hxc := hcells k HKL.out
      rw [← hx] at hxc
      have HX := hid hx
      have HS := hid (show ∀ W : World, (∀ b, b < wr.heap.size → W.heap[b]? = wr.heap[b]?) → W.cell? ⟨w.heap.size, 4, none⟩ = some (.slice (some ⟨gL, oL, none⟩) N cL) ∧ W.cell? ⟨w.heap.size, 8, none⟩ = some (.bool o.m) ∧ W.cell? ⟨gL, oL + k, none⟩ = some (.int .i64 x) ∧ True from fun W hW =>
        ⟨(blk_cell ((hW _ (blk_lt hbox)).trans hbox) 4).trans rfl, (blk_cell ((hW _ (blk_lt hbox)).trans hbox) 8).trans rfl, (World.cell?_of_block (hW gL hgL)).trans hxc, trivial⟩)
      have HS2 := hid (show ∀ W : World, Keep (fun g => (Value.slice A k c).ownBlock = some g) wr W → W.cell? ⟨w.heap.size, 4, none⟩ = some (.slice (some ⟨gL, oL, none⟩) N cL) ∧ W.cell? ⟨w.heap.size, 8, none⟩ = some (.bool o.m) ∧ W.cell? ⟨gL, oL + k, none⟩ = some (.int .i64 x) ∧ True from fun W hW => (by
        have hb := hW.blk hbox fun e => by have := HU.out.fresh _ e; omega
        have hnL : (Value.slice A k c).ownBlock ≠ some gL := HU.out.neL (by have := HKL.out; omega) gL rfl
        exact ⟨(blk_cell hb 4).trans rfl, (blk_cell hb 8).trans rfl, (World.cell?_of_block (hW.block gL hgL hnL)).trans hxc, trivial⟩))
      clear hx hcells z2 hxc hbox
      go_wp2_with fail
      refine wp_region_noPanic ?_
      refine start_ (n := 13) (S := (fun w' => w'.cell? ⟨w.heap.size, 4, none⟩ = some (.slice (some ⟨gL, oL, none⟩) N cL) ∧ w'.cell? ⟨w.heap.size, 8, none⟩ = some (.bool o.m) ∧ w'.cell? ⟨gL, oL + k, none⟩ = some (.int .i64 x) ∧ True)) (ds := []) #[false, false, false, false, false, false, false, false, false, false, false, false, false] (by kernel_rfl) rfl rfl (HS.out _ (fun b hb => rfl)) (fun hHeld => ?_)
      refine take_ (i := 0) (N := some 51) (v := ?_) (a' := ?_) #[true, false, false, false, false, false, false, false, false, false, false, false, false] rfl rfl (by kernel_rfl) (fun _ _ _ h => h) (Or.inl ⟨by rfl, ?_⟩) hHeld ?_ ?_   -- move (%13)
      rotate_left
      · rintro w' ⟨s0, s1, s2, s3⟩
        go_simp
        with_reducible rfl
      rotate_left
      · simp only [Act.put, List.setIfInBounds_toArray, List.set_cons_zero, List.set_cons_succ]
        rfl
      refine take_ (i := 1) (N := some 52) (v := ?_) (a' := ?_) #[true, true, false, false, false, false, false, false, false, false, false, false, false] rfl rfl (by kernel_rfl) (fun _ _ _ h => h) (Or.inl ⟨by rfl, ?_⟩) hHeld ?_ ?_   -- fieldAddr 45 (%5) 4
      rotate_left
      · rintro w' ⟨s0, s1, s2, s3⟩
        go_simp
        with_reducible rfl
      rotate_left
      · simp only [Act.put, List.setIfInBounds_toArray, List.set_cons_zero, List.set_cons_succ]
        rfl
      refine take_ (i := 2) (N := some 53) (v := ?_) (a' := ?_) #[true, true, true, false, false, false, false, false, false, false, false, false, false] rfl rfl (by kernel_rfl) (fun _ _ _ h => h) (Or.inl ⟨by rfl, ?_⟩) hHeld ?_ ?_   -- load 43 (%52)
      rotate_left
      · rintro w' ⟨s0, s1, s2, s3⟩
        go_simp
        with_reducible rfl
      rotate_left
      · simp only [Act.put, List.setIfInBounds_toArray, List.set_cons_zero, List.set_cons_succ]
        rfl
      refine take_ (i := 3) (N := some 54) (v := ?_) (a' := ?_) #[true, true, true, true, false, false, false, false, false, false, false, false, false] rfl rfl (by kernel_rfl) (fun _ _ _ h => h) (Or.inl ⟨by rfl, ?_⟩) hHeld ?_ ?_   -- move (%14)
      rotate_left
      · rintro w' ⟨s0, s1, s2, s3⟩
        go_simp
        with_reducible rfl
      rotate_left
      · simp only [Act.put, List.setIfInBounds_toArray, List.set_cons_zero, List.set_cons_succ]
        rfl
      refine take_ (i := 4) (N := some 55) (v := ?_) (a' := ?_) #[true, true, true, true, true, false, false, false, false, false, false, false, false] rfl rfl (by kernel_rfl) (fun _ _ _ h => h) (Or.inl ⟨by rfl, ?_⟩) hHeld ?_ ?_   -- indexAddr 43 (%53) (%54)
      rotate_left
      · rintro w' ⟨s0, s1, s2, s3⟩
        go_simp
        with_reducible rfl
      rotate_left
      · simp only [Act.put, List.setIfInBounds_toArray, List.set_cons_zero, List.set_cons_succ]
        rfl
      refine take_ (i := 5) (N := some 56) (v := ?_) (a' := ?_) #[true, true, true, true, true, true, false, false, false, false, false, false, false] rfl rfl (by kernel_rfl) (fun _ _ _ h => h) (Or.inl ⟨by rfl, ?_⟩) hHeld ?_ ?_   -- load 26 (%55)
      rotate_left
      · rintro w' ⟨s0, s1, s2, s3⟩
        go_simp
        with_reducible rfl
      rotate_left
      · simp only [Act.put, List.setIfInBounds_toArray, List.set_cons_zero, List.set_cons_succ]
        rfl
      refine take_ (i := 6) (N := some 57) (v := ?_) (a' := ?_) #[true, true, true, true, true, true, true, false, false, false, false, false, false] rfl rfl (by kernel_rfl) (fun _ _ _ h => h) (Or.inl ⟨by rfl, ?_⟩) hHeld ?_ ?_   -- move (%9)
      rotate_left
      · rintro w' ⟨s0, s1, s2, s3⟩
        go_simp
        with_reducible rfl
      rotate_left
      · simp only [Act.put, List.setIfInBounds_toArray, List.set_cons_zero, List.set_cons_succ]
        rfl
      refine take_ (i := 7) (N := some 58) (v := ?_) (a' := ?_) #[true, true, true, true, true, true, true, true, false, false, false, false, false] rfl rfl (by kernel_rfl) (fun _ _ _ h => h) (Or.inl ⟨by rfl, ?_⟩) hHeld ?_ ?_   -- fieldAddr 45 (%5) 8
      rotate_left
      · rintro w' ⟨s0, s1, s2, s3⟩
        go_simp
        with_reducible rfl
      rotate_left
      · simp only [Act.put, List.setIfInBounds_toArray, List.set_cons_zero, List.set_cons_succ]
        rfl
      refine take_ (i := 8) (N := some 59) (v := ?_) (a' := ?_) #[true, true, true, true, true, true, true, true, true, false, false, false, false] rfl rfl (by kernel_rfl) (fun _ _ _ h => h) (Or.inl ⟨by rfl, ?_⟩) hHeld ?_ ?_   -- load 4 (%58)
      rotate_left
      · rintro w' ⟨s0, s1, s2, s3⟩
        go_simp
        with_reducible rfl
      rotate_left
      · simp only [Act.put, List.setIfInBounds_toArray, List.set_cons_zero, List.set_cons_succ]
        rfl
      refine one_ (i := 9) (N := some 60) #[true, true, true, true, true, true, true, true, true, true, false, false, false] rfl rfl (by kernel_rfl) (by decide) (fun K hK => ?_)
      refine call_ 18 #[.int .i64 x, .int .i64 S.length, .bool o.m] (by rfl) rfl (by go_simp; first | done | rfl) ?_
      refine (near_calls _ x S.length o.m HSB.out).mono ?_
      rintro e w' ⟨rfl, hw'⟩
      obtain rfl := hw'
      refine ⟨_, rfl, ?_⟩
      refine hK.out _ _ (HS.out _ (fun b hb => rfl)) (fun hHeld => ?_)
      refine norm_ (a' := ?_) ?_ ?_
      rotate_left
      · simp only [Act.put, List.setIfInBounds_toArray, List.set_cons_zero, List.set_cons_succ]
        rfl
      refine one_ (i := 10) (N := some 61) #[true, true, true, true, true, true, true, true, true, true, true, false, false] rfl rfl (by kernel_rfl) (by decide) (fun K hK => ?_)
      refine value_ (by rfl) rfl (v := .slice (some ⟨wr.heap.size, 0, none⟩) 1 1) (w1 := wr.drew.alloc (.cells #[.int .i64 (near1 S o x)] 26)) (by go_simp; first | done | rfl) ?_
      refine hK.out _ _ (HS.out _ (fun b hb => old_alloc (w := wr) _ hb)) (fun hHeld => ?_)
      refine norm_ (a' := ?_) ?_ ?_
      rotate_left
      · simp only [Act.put, List.setIfInBounds_toArray, List.set_cons_zero, List.set_cons_succ]
        rfl
      refine one_ (i := 11) (N := some 62) #[true, true, true, true, true, true, true, true, true, true, true, true, false] rfl rfl (by kernel_rfl) (by decide) (fun K hK => ?_)
      refine step_T _ (by rfl) (N := some 62) (by rfl) _ _ (by rfl) (.slice A k c) _ (lits (nearL S o (o.L.take k))) [.int .i64 (near1 S o x)] (by rfl) (by rfl) (HU.out.rowl.drew.alloc _) (Row.one _ _ _) (by simp [Value.oneCell']) (by have := HLL.out; simp [nearL_len]; omega) ?_
      intro v2 w2 hr2 hk2 hat2
      have hkw : Keep (fun g => (Value.slice A k c).ownBlock = some g) wr w2 := (⟨rfl, rfl, rfl, by simp, fun q hq _ => old_alloc (w := wr) _ hq⟩ : Keep (fun g => (Value.slice A k c).ownBlock = some g) wr (wr.drew.alloc (.cells #[.int .i64 (near1 S o x)] 26))).trans hk2 (fun _ h => h) (fun _ h => .inl h)
      refine hK.out _ _ (HS2.out _ hkw) (fun hHeld => ?_)
      refine norm_ (a' := ?_) ?_ ?_
      rotate_left
      · simp only [Act.put, List.setIfInBounds_toArray, List.set_cons_zero, List.set_cons_succ]
        rfl
      refine take_ (i := 12) (N := some 13) (v := ?_) (a' := ?_) #[true, true, true, true, true, true, true, true, true, true, true, true, true] rfl rfl (by kernel_rfl) (fun _ _ _ h => h) (Or.inl ⟨by rfl, ?_⟩) hHeld ?_ ?_   -- assign (%62)
      rotate_left
      · rintro w' ⟨s0, s1, s2, s3⟩
        go_simp
        with_reducible rfl
      rotate_left
      · simp only [Act.put, List.setIfInBounds_toArray, List.set_cons_zero, List.set_cons_succ]
        rfl
      refine done_ (by kernel_rfl) ?_
      obtain ⟨A2, c2, rfl, _⟩ := hr2.shape
      have hl2 : (lits (nearL S o (o.L.take k)) ++ [Value.int .i64 (near1 S o x)]).length = k + 1 := by have := HKL.out; simp [nearL_len]; omega
      rw [hl2] at hr2 hat2
      rw [hl2]
      try simp only [NoPanic, Exit.then]
      have NX := hid (HU.out.step HKL.out (by rw [nearL_snoc _ _ _ HKL.out, ← HX.out]; exact hr2) hkw (fun g hg => by
        rcases hat2 with e | e
        · exact .inl (by rw [← e]; exact hg)
        · right
          rw [hg] at e
          have := Option.some.inj e
          simp at this
          omega) (blk_lt HU.out.box))
      clear hr2 hkw hk2 hat2 hHeld
      go_wp2_with fail
      go_roundg left
      case measure => omega
      case rel => exact ⟨k + 1, A2, c2, by omega, rfl, by go_num, NX⟩
    · obtain rfl : k = N := by have := HU.out.kl; have := HNN.out; omega
      have hrl := HU.out.rowl
      rw [List.take_of_length_le (by have := HNN.out; omega)] at hrl
      have HRL := hid hrl
      have HTW := HU.out.two
      rw [List.take_of_length_le (by have := HNN.out; omega)] at HTW
      have HLEN := hid (show (lits (nearL S o o.L)).length = k from by simp [nearL_len, HNN.out])
      obtain ⟨sdl, hsdl⟩ : ∃ sdl, sdl = sdb.and (Side.row 26 (.slice A k c) (lits (nearL S o o.L))) := ⟨_, rfl⟩
      rw [← hsdl] at HTW
      have HTW' := hid HTW
      have HSDL := hid hsdl
      have HLT := hid (fun j (hj : sdl.D j) => sdl.lt _ HTW.side j hj)
      have HB0 := hid HTW.bel.size
      clear hrl HTW hsdl hkn hk
      go_upto_region 9 with (at_builtin; go_loud (refine wp_appT _ rfl _ _ rfl _ _ [] (lits (nearL S o o.L)) (by rfl) (by rfl) (zero_row _ _) (HRL.out.alloc _) (one_cells _) (by rw [HLEN.out]; simp; omega) ?_; intro v2 w2 hr2 hk2 hat2; rw [List.nil_append] at hr2; obtain ⟨A2, c2, rfl, _⟩ := hr2.shape; rw [HLEN.out] at hr2 hat2; try rw [HLEN.out]; have hb2 : Below wr.heap.size wr w2 := ((Below.refl wr.heap.size wr).alloc (Nat.le_refl _) (.cells #[] 26)).trans (hk2.below (fun j hj => Nat.le_of_eq (Option.some.inj hj : wr.heap.size = j)) (by simp)); have hin := in_fresh hat2; have TB := hid (HTW'.out.beside hb2 (sd2 := Side.row 26 (.slice A2 k c2) (lits (nearL S o o.L))) hr2 hin); have HIN := hid hin; have HBX := hid ((hb2.block _ (blk_lt hbox)).trans hbox); clear hr2 hk2 hat2 hb2 hin p4 hbox))
      have hbx := HBX.out
      have p0 : w2.cell? ⟨w.heap.size, 0, none⟩ = some (.int .i64 o.kd) := (blk_cell hbx 0).trans rfl
      clear hbx
      by_cases kd0 : o.kd = 0
      · have HKD := hid kd0
        rw [kd0] at p0
        clear kd0
        obtain ⟨r9, h9⟩ : ∃ r9, r9 = TM.notM S (near1 S o o.a) := ⟨_, rfl⟩
        have HM := hid (show madeM S o = r9 by rw [h9]; unfold madeM; rw [if_pos HKD.out])
        have CS := hid (TB.out.callS (r := TM.notM S (near1 S o o.a)) fun F h => Not_calls w2 s S _ F (near1 S o o.a) h HQ.out)
        have CR := hid (fun (W : World) (S' : List NodeM) (q' : Nat) (T : TwoAt (sdl.and (Side.row 26 (.slice A2 k c2) (lits (nearL S o o.L)))) w0 W s u S' S q') => T.callR (r := TM.notM S (near1 S o o.a)) fun G h => RT.Not_calls W u S G (near1 S o o.a) h)
        rw [← h9] at CS CR
        clear h9
        have p5 : w2.cell? ⟨w.heap.size, 5, none⟩ = some (.int .i64 o.fn) := (blk_cell HBX.out 5).trans rfl
        have p6 : w2.cell? ⟨w.heap.size, 6, none⟩ = some (.int .i64 o.so) := (blk_cell HBX.out 6).trans rfl
        have p7 : w2.cell? ⟨w.heap.size, 7, none⟩ = some (.int .i64 o.n) := (blk_cell HBX.out 7).trans rfl
        go_wp2_with fail
        refine CS.out.mono ?_
        rintro e w3 ⟨rfl, h3⟩
        have T3 := hid h3
        have HBX3 := hid (show w3.heap[w.heap.size]? = _ from (by have := T3.out.side.1; rw [HSDL.out] at this; have h8 := this.1; rw [HSDB.out] at h8; exact h8.2 : w3.heap[w.heap.size]? = some (.cells (opCells o (.slice AL k cL)).toArray 45 (0, 0))))
        clear h3 CS p5 p6 p7
        have p5 : w3.cell? ⟨w.heap.size, 5, none⟩ = some (.int .i64 o.fn) := (blk_cell HBX3.out 5).trans rfl
        have p6 : w3.cell? ⟨w.heap.size, 6, none⟩ = some (.int .i64 o.so) := (blk_cell HBX3.out 6).trans rfl
        have p7 : w3.cell? ⟨w.heap.size, 7, none⟩ = some (.int .i64 o.n) := (blk_cell HBX3.out 7).trans rfl
        go_wp2_with fail
        refine (CR.out _ _ _ T3.out).mono ?_
        rintro e w4 ⟨rfl, h4⟩
        have TEND := hid h4
        clear h4 CR T3
        go_wp2_with fail
        go_loopg [20] k (fun left v20 wr => ∃ (j : Nat) (ys : List Int), left + j = k ∧ v20 = .int .i64 (j : Int) ∧ ys.length = k ∧ Hid (TwoAt (sdl.and (Side.row 26 (.slice A2 k c2) (lits ys))) w0 wr s u r9.2.2 r9.2.2 (q + 2000)))
        case atStart => exact ⟨0, _, by omega, rfl, by rw [nearL_len]; exact HNN.out.symm, TEND⟩
        case round =>
          obtain ⟨j, ys, hj, rfl, hyl, TJ⟩ := hrel
          by_cases hjk : j < k
          · have hjI : (j : Int) < (k : Int) := by omega
            cases gk with
            | zero => omega
            | succ left =>
            obtain ⟨gi, oi, ci, hv, _, _, _, hcells, hfr⟩ := (TJ.out.side.2 : Row _ _ _ _).cells (by simp; omega)
            injection hv with z1 z2 z3
            subst z1 z3
            have hyc := (hcells j (by simp; omega)).trans (lits_get _ _ (by omega))
            have hyf := hfr (oi + j)
            have NXT := hid (TJ.out.turn (w1 := wr.setCell ⟨gi, oi + j, none⟩ (.int .i64 0)) (sd3 := Side.row 26 (.slice (some ⟨gi, oi, none⟩) k c2) (lits (ys.set j 0))) ((setCell_keep wr gi (oi + j) (.int .i64 0)).mono fun g hg => by rw [hg]; rfl) (fun g hg e => by have h1 := HLT.out g hg; have h2 := HIN.out g e; omega) (fun g hg => by have h2 := HIN.out g hg; have := HB0.out; omega)
              (show Row _ _ _ _ from by
                have := (TJ.out.side.2 : Row _ _ _ _).set j (by simp; omega) (.int .i64 0)
                rw [show (lits ys).set j (.int .i64 0) = lits (ys.set j 0) from (List.map_set ..).symm] at this
                exact this) (fun g hg => .inl hg))
            clear hcells hfr z2
            go_wp2_with fail
            go_roundg left
            case measure => omega
            case rel => exact ⟨j + 1, ys.set j 0, by omega, by go_num, by simpa using hyl, NXT⟩
          · have TD := hid (TJ.out.drop)
            have eq1 : (r9.1 == r9.1) = true := by simp
            have eq2 : (r9.2.1 == r9.2.1) = true := by simp
            go_wp2_with fail
            go_ret3
            unfold EndM
            rw [HM.out]
            have h9 := TD.out
            rw [HSDL.out] at h9
            have h8 := h9.drop
            rw [HSDB.out] at h8
            exact ⟨rfl, h8.drop.more (by omega)⟩
      · have kk0 : (o.kd == 0) = false := by simpa using kd0
        by_cases kd1 : o.kd = 1
        · have HKD := hid kd1
          rw [kd1] at p0
          clear kd1
          obtain ⟨r9, h9⟩ : ∃ r9, r9 = andM S (nearL S o o.L) := ⟨_, rfl⟩
          have HM := hid (show madeM S o = r9 by rw [h9]; unfold madeM; rw [if_neg (show ¬ o.kd = 0 by rw [HKD.out]; omega)]; rw [if_pos HKD.out])
          have CS := hid (TB.out.callS (r := andM S (nearL S o o.L)) fun F h => And_calls w2 s S _ F (.slice A2 k c2) (nearL S o o.L) TB.out.side.2 h HQ.out)
          have CR := hid (fun (W : World) (S' : List NodeM) (q' : Nat) (T : TwoAt (sdl.and (Side.row 26 (.slice A2 k c2) (lits (nearL S o o.L)))) w0 W s u S' S q') => T.callR (r := andM S (nearL S o o.L)) fun G h => RT.And_calls W u S G (.slice A k c) (nearL S o o.L) (by have := T.side.1; rw [HSDL.out] at this; exact this.2) h)
          rw [← h9] at CS CR
          clear h9
          have p5 : w2.cell? ⟨w.heap.size, 5, none⟩ = some (.int .i64 o.fn) := (blk_cell HBX.out 5).trans rfl
          have p6 : w2.cell? ⟨w.heap.size, 6, none⟩ = some (.int .i64 o.so) := (blk_cell HBX.out 6).trans rfl
          have p7 : w2.cell? ⟨w.heap.size, 7, none⟩ = some (.int .i64 o.n) := (blk_cell HBX.out 7).trans rfl
          go_wp2_with fail
          refine CS.out.mono ?_
          rintro e w3 ⟨rfl, h3⟩
          have T3 := hid h3
          have HBX3 := hid (show w3.heap[w.heap.size]? = _ from (by have := T3.out.side.1; rw [HSDL.out] at this; have h8 := this.1; rw [HSDB.out] at h8; exact h8.2 : w3.heap[w.heap.size]? = some (.cells (opCells o (.slice AL k cL)).toArray 45 (0, 0))))
          clear h3 CS p5 p6 p7
          have p5 : w3.cell? ⟨w.heap.size, 5, none⟩ = some (.int .i64 o.fn) := (blk_cell HBX3.out 5).trans rfl
          have p6 : w3.cell? ⟨w.heap.size, 6, none⟩ = some (.int .i64 o.so) := (blk_cell HBX3.out 6).trans rfl
          have p7 : w3.cell? ⟨w.heap.size, 7, none⟩ = some (.int .i64 o.n) := (blk_cell HBX3.out 7).trans rfl
          go_wp2_with fail
          refine (CR.out _ _ _ T3.out).mono ?_
          rintro e w4 ⟨rfl, h4⟩
          have TEND := hid h4
          clear h4 CR T3
          go_wp2_with fail
          go_loopg [20] k (fun left v20 wr => ∃ (j : Nat) (ys : List Int), left + j = k ∧ v20 = .int .i64 (j : Int) ∧ ys.length = k ∧ Hid (TwoAt (sdl.and (Side.row 26 (.slice A2 k c2) (lits ys))) w0 wr s u r9.2.2 r9.2.2 (q + 2000)))
          case atStart => exact ⟨0, _, by omega, rfl, by rw [nearL_len]; exact HNN.out.symm, TEND⟩
          case round =>
            obtain ⟨j, ys, hj, rfl, hyl, TJ⟩ := hrel
            by_cases hjk : j < k
            · have hjI : (j : Int) < (k : Int) := by omega
              cases gk with
              | zero => omega
              | succ left =>
              obtain ⟨gi, oi, ci, hv, _, _, _, hcells, hfr⟩ := (TJ.out.side.2 : Row _ _ _ _).cells (by simp; omega)
              injection hv with z1 z2 z3
              subst z1 z3
              have hyc := (hcells j (by simp; omega)).trans (lits_get _ _ (by omega))
              have hyf := hfr (oi + j)
              have NXT := hid (TJ.out.turn (w1 := wr.setCell ⟨gi, oi + j, none⟩ (.int .i64 0)) (sd3 := Side.row 26 (.slice (some ⟨gi, oi, none⟩) k c2) (lits (ys.set j 0))) ((setCell_keep wr gi (oi + j) (.int .i64 0)).mono fun g hg => by rw [hg]; rfl) (fun g hg e => by have h1 := HLT.out g hg; have h2 := HIN.out g e; omega) (fun g hg => by have h2 := HIN.out g hg; have := HB0.out; omega)
                (show Row _ _ _ _ from by
                  have := (TJ.out.side.2 : Row _ _ _ _).set j (by simp; omega) (.int .i64 0)
                  rw [show (lits ys).set j (.int .i64 0) = lits (ys.set j 0) from (List.map_set ..).symm] at this
                  exact this) (fun g hg => .inl hg))
              clear hcells hfr z2
              go_wp2_with fail
              go_roundg left
              case measure => omega
              case rel => exact ⟨j + 1, ys.set j 0, by omega, by go_num, by simpa using hyl, NXT⟩
            · have TD := hid (TJ.out.drop)
              have eq1 : (r9.1 == r9.1) = true := by simp
              have eq2 : (r9.2.1 == r9.2.1) = true := by simp
              go_wp2_with fail
              go_ret3
              unfold EndM
              rw [HM.out]
              have h9 := TD.out
              rw [HSDL.out] at h9
              have h8 := h9.drop
              rw [HSDB.out] at h8
              exact ⟨rfl, h8.drop.more (by omega)⟩
        · have kk1 : (o.kd == 1) = false := by simpa using kd1
          by_cases kd2 : o.kd = 2
          · have HKD := hid kd2
            rw [kd2] at p0
            clear kd2
            obtain ⟨r9, h9⟩ : ∃ r9, r9 = orM S (nearL S o o.L) := ⟨_, rfl⟩
            have HM := hid (show madeM S o = r9 by rw [h9]; unfold madeM; rw [if_neg (show ¬ o.kd = 0 by rw [HKD.out]; omega)]; rw [if_neg (show ¬ o.kd = 1 by rw [HKD.out]; omega)]; rw [if_pos HKD.out])
            have CS := hid (TB.out.callS (r := orM S (nearL S o o.L)) fun F h => Or_calls w2 s S _ F (.slice A2 k c2) (nearL S o o.L) TB.out.side.2 h HQ.out)
            have CR := hid (fun (W : World) (S' : List NodeM) (q' : Nat) (T : TwoAt (sdl.and (Side.row 26 (.slice A2 k c2) (lits (nearL S o o.L)))) w0 W s u S' S q') => T.callR (r := orM S (nearL S o o.L)) fun G h => RT.Or_calls W u S G (.slice A k c) (nearL S o o.L) (by have := T.side.1; rw [HSDL.out] at this; exact this.2) h)
            rw [← h9] at CS CR
            clear h9
            have p5 : w2.cell? ⟨w.heap.size, 5, none⟩ = some (.int .i64 o.fn) := (blk_cell HBX.out 5).trans rfl
            have p6 : w2.cell? ⟨w.heap.size, 6, none⟩ = some (.int .i64 o.so) := (blk_cell HBX.out 6).trans rfl
            have p7 : w2.cell? ⟨w.heap.size, 7, none⟩ = some (.int .i64 o.n) := (blk_cell HBX.out 7).trans rfl
            go_wp2_with fail
            refine CS.out.mono ?_
            rintro e w3 ⟨rfl, h3⟩
            have T3 := hid h3
            have HBX3 := hid (show w3.heap[w.heap.size]? = _ from (by have := T3.out.side.1; rw [HSDL.out] at this; have h8 := this.1; rw [HSDB.out] at h8; exact h8.2 : w3.heap[w.heap.size]? = some (.cells (opCells o (.slice AL k cL)).toArray 45 (0, 0))))
            clear h3 CS p5 p6 p7
            have p5 : w3.cell? ⟨w.heap.size, 5, none⟩ = some (.int .i64 o.fn) := (blk_cell HBX3.out 5).trans rfl
            have p6 : w3.cell? ⟨w.heap.size, 6, none⟩ = some (.int .i64 o.so) := (blk_cell HBX3.out 6).trans rfl
            have p7 : w3.cell? ⟨w.heap.size, 7, none⟩ = some (.int .i64 o.n) := (blk_cell HBX3.out 7).trans rfl
            go_wp2_with fail
            refine (CR.out _ _ _ T3.out).mono ?_
            rintro e w4 ⟨rfl, h4⟩
            have TEND := hid h4
            clear h4 CR T3
            go_wp2_with fail
            go_loopg [20] k (fun left v20 wr => ∃ (j : Nat) (ys : List Int), left + j = k ∧ v20 = .int .i64 (j : Int) ∧ ys.length = k ∧ Hid (TwoAt (sdl.and (Side.row 26 (.slice A2 k c2) (lits ys))) w0 wr s u r9.2.2 r9.2.2 (q + 2000)))
            case atStart => exact ⟨0, _, by omega, rfl, by rw [nearL_len]; exact HNN.out.symm, TEND⟩
            case round =>
              obtain ⟨j, ys, hj, rfl, hyl, TJ⟩ := hrel
              by_cases hjk : j < k
              · have hjI : (j : Int) < (k : Int) := by omega
                cases gk with
                | zero => omega
                | succ left =>
                obtain ⟨gi, oi, ci, hv, _, _, _, hcells, hfr⟩ := (TJ.out.side.2 : Row _ _ _ _).cells (by simp; omega)
                injection hv with z1 z2 z3
                subst z1 z3
                have hyc := (hcells j (by simp; omega)).trans (lits_get _ _ (by omega))
                have hyf := hfr (oi + j)
                have NXT := hid (TJ.out.turn (w1 := wr.setCell ⟨gi, oi + j, none⟩ (.int .i64 0)) (sd3 := Side.row 26 (.slice (some ⟨gi, oi, none⟩) k c2) (lits (ys.set j 0))) ((setCell_keep wr gi (oi + j) (.int .i64 0)).mono fun g hg => by rw [hg]; rfl) (fun g hg e => by have h1 := HLT.out g hg; have h2 := HIN.out g e; omega) (fun g hg => by have h2 := HIN.out g hg; have := HB0.out; omega)
                  (show Row _ _ _ _ from by
                    have := (TJ.out.side.2 : Row _ _ _ _).set j (by simp; omega) (.int .i64 0)
                    rw [show (lits ys).set j (.int .i64 0) = lits (ys.set j 0) from (List.map_set ..).symm] at this
                    exact this) (fun g hg => .inl hg))
                clear hcells hfr z2
                go_wp2_with fail
                go_roundg left
                case measure => omega
                case rel => exact ⟨j + 1, ys.set j 0, by omega, by go_num, by simpa using hyl, NXT⟩
              · have TD := hid (TJ.out.drop)
                have eq1 : (r9.1 == r9.1) = true := by simp
                have eq2 : (r9.2.1 == r9.2.1) = true := by simp
                go_wp2_with fail
                go_ret3
                unfold EndM
                rw [HM.out]
                have h9 := TD.out
                rw [HSDL.out] at h9
                have h8 := h9.drop
                rw [HSDB.out] at h8
                exact ⟨rfl, h8.drop.more (by omega)⟩
          · have kk2 : (o.kd == 2) = false := by simpa using kd2
            by_cases kd3 : o.kd = 3
            · have HKD := hid kd3
              rw [kd3] at p0
              clear kd3
              obtain ⟨r9, h9⟩ : ∃ r9, r9 = eqM S (near1 S o o.a) (near1 S o o.b) := ⟨_, rfl⟩
              have HM := hid (show madeM S o = r9 by rw [h9]; unfold madeM; rw [if_neg (show ¬ o.kd = 0 by rw [HKD.out]; omega)]; rw [if_neg (show ¬ o.kd = 1 by rw [HKD.out]; omega)]; rw [if_neg (show ¬ o.kd = 2 by rw [HKD.out]; omega)]; rw [if_pos HKD.out])
              have CS := hid (TB.out.callS (r := eqM S (near1 S o o.a) (near1 S o o.b)) fun F h => Eq_calls w2 s S _ F (near1 S o o.a) (near1 S o o.b) h HQ.out)
              have CR := hid (fun (W : World) (S' : List NodeM) (q' : Nat) (T : TwoAt (sdl.and (Side.row 26 (.slice A2 k c2) (lits (nearL S o o.L)))) w0 W s u S' S q') => T.callR (r := eqM S (near1 S o o.a) (near1 S o o.b)) fun G h => RT.Eq_calls W u S G (near1 S o o.a) (near1 S o o.b) h)
              rw [← h9] at CS CR
              clear h9
              have p5 : w2.cell? ⟨w.heap.size, 5, none⟩ = some (.int .i64 o.fn) := (blk_cell HBX.out 5).trans rfl
              have p6 : w2.cell? ⟨w.heap.size, 6, none⟩ = some (.int .i64 o.so) := (blk_cell HBX.out 6).trans rfl
              have p7 : w2.cell? ⟨w.heap.size, 7, none⟩ = some (.int .i64 o.n) := (blk_cell HBX.out 7).trans rfl
              go_wp2_with fail
              refine CS.out.mono ?_
              rintro e w3 ⟨rfl, h3⟩
              have T3 := hid h3
              have HBX3 := hid (show w3.heap[w.heap.size]? = _ from (by have := T3.out.side.1; rw [HSDL.out] at this; have h8 := this.1; rw [HSDB.out] at h8; exact h8.2 : w3.heap[w.heap.size]? = some (.cells (opCells o (.slice AL k cL)).toArray 45 (0, 0))))
              clear h3 CS p5 p6 p7
              have p5 : w3.cell? ⟨w.heap.size, 5, none⟩ = some (.int .i64 o.fn) := (blk_cell HBX3.out 5).trans rfl
              have p6 : w3.cell? ⟨w.heap.size, 6, none⟩ = some (.int .i64 o.so) := (blk_cell HBX3.out 6).trans rfl
              have p7 : w3.cell? ⟨w.heap.size, 7, none⟩ = some (.int .i64 o.n) := (blk_cell HBX3.out 7).trans rfl
              go_wp2_with fail
              refine (CR.out _ _ _ T3.out).mono ?_
              rintro e w4 ⟨rfl, h4⟩
              have TEND := hid h4
              clear h4 CR T3
              go_wp2_with fail
              go_loopg [20] k (fun left v20 wr => ∃ (j : Nat) (ys : List Int), left + j = k ∧ v20 = .int .i64 (j : Int) ∧ ys.length = k ∧ Hid (TwoAt (sdl.and (Side.row 26 (.slice A2 k c2) (lits ys))) w0 wr s u r9.2.2 r9.2.2 (q + 2000)))
              case atStart => exact ⟨0, _, by omega, rfl, by rw [nearL_len]; exact HNN.out.symm, TEND⟩
              case round =>
                obtain ⟨j, ys, hj, rfl, hyl, TJ⟩ := hrel
                by_cases hjk : j < k
                · have hjI : (j : Int) < (k : Int) := by omega
                  cases gk with
                  | zero => omega
                  | succ left =>
                  obtain ⟨gi, oi, ci, hv, _, _, _, hcells, hfr⟩ := (TJ.out.side.2 : Row _ _ _ _).cells (by simp; omega)
                  injection hv with z1 z2 z3
                  subst z1 z3
                  have hyc := (hcells j (by simp; omega)).trans (lits_get _ _ (by omega))
                  have hyf := hfr (oi + j)
                  have NXT := hid (TJ.out.turn (w1 := wr.setCell ⟨gi, oi + j, none⟩ (.int .i64 0)) (sd3 := Side.row 26 (.slice (some ⟨gi, oi, none⟩) k c2) (lits (ys.set j 0))) ((setCell_keep wr gi (oi + j) (.int .i64 0)).mono fun g hg => by rw [hg]; rfl) (fun g hg e => by have h1 := HLT.out g hg; have h2 := HIN.out g e; omega) (fun g hg => by have h2 := HIN.out g hg; have := HB0.out; omega)
                    (show Row _ _ _ _ from by
                      have := (TJ.out.side.2 : Row _ _ _ _).set j (by simp; omega) (.int .i64 0)
                      rw [show (lits ys).set j (.int .i64 0) = lits (ys.set j 0) from (List.map_set ..).symm] at this
                      exact this) (fun g hg => .inl hg))
                  clear hcells hfr z2
                  go_wp2_with fail
                  go_roundg left
                  case measure => omega
                  case rel => exact ⟨j + 1, ys.set j 0, by omega, by go_num, by simpa using hyl, NXT⟩
                · have TD := hid (TJ.out.drop)
                  have eq1 : (r9.1 == r9.1) = true := by simp
                  have eq2 : (r9.2.1 == r9.2.1) = true := by simp
                  go_wp2_with fail
                  go_ret3
                  unfold EndM
                  rw [HM.out]
                  have h9 := TD.out
                  rw [HSDL.out] at h9
                  have h8 := h9.drop
                  rw [HSDB.out] at h8
                  exact ⟨rfl, h8.drop.more (by omega)⟩
            · have kk3 : (o.kd == 3) = false := by simpa using kd3
              by_cases kd4 : o.kd = 4
              · have HKD := hid kd4
                rw [kd4] at p0
                clear kd4
                obtain ⟨r9, h9⟩ : ∃ r9, r9 = iteM S (near1 S o o.a) (near1 S o o.b) (near1 S o o.c) := ⟨_, rfl⟩
                have HM := hid (show madeM S o = r9 by rw [h9]; unfold madeM; rw [if_neg (show ¬ o.kd = 0 by rw [HKD.out]; omega)]; rw [if_neg (show ¬ o.kd = 1 by rw [HKD.out]; omega)]; rw [if_neg (show ¬ o.kd = 2 by rw [HKD.out]; omega)]; rw [if_neg (show ¬ o.kd = 3 by rw [HKD.out]; omega)]; rw [if_pos HKD.out])
                have CS := hid (TB.out.callS (r := iteM S (near1 S o o.a) (near1 S o o.b) (near1 S o o.c)) fun F h => Ite_calls w2 s S _ F (near1 S o o.a) (near1 S o o.b) (near1 S o o.c) h HQ.out)
                have CR := hid (fun (W : World) (S' : List NodeM) (q' : Nat) (T : TwoAt (sdl.and (Side.row 26 (.slice A2 k c2) (lits (nearL S o o.L)))) w0 W s u S' S q') => T.callR (r := iteM S (near1 S o o.a) (near1 S o o.b) (near1 S o o.c)) fun G h => RT.Ite_calls W u S G (near1 S o o.a) (near1 S o o.b) (near1 S o o.c) h)
                rw [← h9] at CS CR
                clear h9
                have p5 : w2.cell? ⟨w.heap.size, 5, none⟩ = some (.int .i64 o.fn) := (blk_cell HBX.out 5).trans rfl
                have p6 : w2.cell? ⟨w.heap.size, 6, none⟩ = some (.int .i64 o.so) := (blk_cell HBX.out 6).trans rfl
                have p7 : w2.cell? ⟨w.heap.size, 7, none⟩ = some (.int .i64 o.n) := (blk_cell HBX.out 7).trans rfl
                go_wp2_with fail
                refine CS.out.mono ?_
                rintro e w3 ⟨rfl, h3⟩
                have T3 := hid h3
                have HBX3 := hid (show w3.heap[w.heap.size]? = _ from (by have := T3.out.side.1; rw [HSDL.out] at this; have h8 := this.1; rw [HSDB.out] at h8; exact h8.2 : w3.heap[w.heap.size]? = some (.cells (opCells o (.slice AL k cL)).toArray 45 (0, 0))))
                clear h3 CS p5 p6 p7
                have p5 : w3.cell? ⟨w.heap.size, 5, none⟩ = some (.int .i64 o.fn) := (blk_cell HBX3.out 5).trans rfl
                have p6 : w3.cell? ⟨w.heap.size, 6, none⟩ = some (.int .i64 o.so) := (blk_cell HBX3.out 6).trans rfl
                have p7 : w3.cell? ⟨w.heap.size, 7, none⟩ = some (.int .i64 o.n) := (blk_cell HBX3.out 7).trans rfl
                go_wp2_with fail
                refine (CR.out _ _ _ T3.out).mono ?_
                rintro e w4 ⟨rfl, h4⟩
                have TEND := hid h4
                clear h4 CR T3
                go_wp2_with fail
                go_loopg [20] k (fun left v20 wr => ∃ (j : Nat) (ys : List Int), left + j = k ∧ v20 = .int .i64 (j : Int) ∧ ys.length = k ∧ Hid (TwoAt (sdl.and (Side.row 26 (.slice A2 k c2) (lits ys))) w0 wr s u r9.2.2 r9.2.2 (q + 2000)))
                case atStart => exact ⟨0, _, by omega, rfl, by rw [nearL_len]; exact HNN.out.symm, TEND⟩
                case round =>
                  obtain ⟨j, ys, hj, rfl, hyl, TJ⟩ := hrel
                  by_cases hjk : j < k
                  · have hjI : (j : Int) < (k : Int) := by omega
                    cases gk with
                    | zero => omega
                    | succ left =>
                    obtain ⟨gi, oi, ci, hv, _, _, _, hcells, hfr⟩ := (TJ.out.side.2 : Row _ _ _ _).cells (by simp; omega)
                    injection hv with z1 z2 z3
                    subst z1 z3
                    have hyc := (hcells j (by simp; omega)).trans (lits_get _ _ (by omega))
                    have hyf := hfr (oi + j)
                    have NXT := hid (TJ.out.turn (w1 := wr.setCell ⟨gi, oi + j, none⟩ (.int .i64 0)) (sd3 := Side.row 26 (.slice (some ⟨gi, oi, none⟩) k c2) (lits (ys.set j 0))) ((setCell_keep wr gi (oi + j) (.int .i64 0)).mono fun g hg => by rw [hg]; rfl) (fun g hg e => by have h1 := HLT.out g hg; have h2 := HIN.out g e; omega) (fun g hg => by have h2 := HIN.out g hg; have := HB0.out; omega)
                      (show Row _ _ _ _ from by
                        have := (TJ.out.side.2 : Row _ _ _ _).set j (by simp; omega) (.int .i64 0)
                        rw [show (lits ys).set j (.int .i64 0) = lits (ys.set j 0) from (List.map_set ..).symm] at this
                        exact this) (fun g hg => .inl hg))
                    clear hcells hfr z2
                    go_wp2_with fail
                    go_roundg left
                    case measure => omega
                    case rel => exact ⟨j + 1, ys.set j 0, by omega, by go_num, by simpa using hyl, NXT⟩
                  · have TD := hid (TJ.out.drop)
                    have eq1 : (r9.1 == r9.1) = true := by simp
                    have eq2 : (r9.2.1 == r9.2.1) = true := by simp
                    go_wp2_with fail
                    go_ret3
                    unfold EndM
                    rw [HM.out]
                    have h9 := TD.out
                    rw [HSDL.out] at h9
                    have h8 := h9.drop
                    rw [HSDB.out] at h8
                    exact ⟨rfl, h8.drop.more (by omega)⟩
              · have kk4 : (o.kd == 4) = false := by simpa using kd4
                by_cases kd5 : o.kd = 5
                · have HKD := hid kd5
                  rw [kd5] at p0
                  clear kd5
                  obtain ⟨r9, h9⟩ : ∃ r9, r9 = appM S o.fn o.so (nearL S o o.L) := ⟨_, rfl⟩
                  have HM := hid (show madeM S o = r9 by rw [h9]; unfold madeM; rw [if_neg (show ¬ o.kd = 0 by rw [HKD.out]; omega)]; rw [if_neg (show ¬ o.kd = 1 by rw [HKD.out]; omega)]; rw [if_neg (show ¬ o.kd = 2 by rw [HKD.out]; omega)]; rw [if_neg (show ¬ o.kd = 3 by rw [HKD.out]; omega)]; rw [if_neg (show ¬ o.kd = 4 by rw [HKD.out]; omega)]; rw [if_pos HKD.out])
                  have CS := hid (TB.out.callS (r := appM S o.fn o.so (nearL S o o.L)) fun F h => App_calls w2 s S _ F o.fn o.so (.slice A2 k c2) (nearL S o o.L) TB.out.side.2 HW.out.fn HW.out.so h HQ.out)
                  have CR := hid (fun (W : World) (S' : List NodeM) (q' : Nat) (T : TwoAt (sdl.and (Side.row 26 (.slice A2 k c2) (lits (nearL S o o.L)))) w0 W s u S' S q') => T.callR (r := appM S o.fn o.so (nearL S o o.L)) fun G h => RT.App_calls W u S G o.fn o.so (.slice A k c) (nearL S o o.L) (by have := T.side.1; rw [HSDL.out] at this; exact this.2) HW.out.fn HW.out.so h)
                  rw [← h9] at CS CR
                  clear h9
                  have p5 : w2.cell? ⟨w.heap.size, 5, none⟩ = some (.int .i64 o.fn) := (blk_cell HBX.out 5).trans rfl
                  have p6 : w2.cell? ⟨w.heap.size, 6, none⟩ = some (.int .i64 o.so) := (blk_cell HBX.out 6).trans rfl
                  have p7 : w2.cell? ⟨w.heap.size, 7, none⟩ = some (.int .i64 o.n) := (blk_cell HBX.out 7).trans rfl
                  go_wp2_with fail
                  refine CS.out.mono ?_
                  rintro e w3 ⟨rfl, h3⟩
                  have T3 := hid h3
                  have HBX3 := hid (show w3.heap[w.heap.size]? = _ from (by have := T3.out.side.1; rw [HSDL.out] at this; have h8 := this.1; rw [HSDB.out] at h8; exact h8.2 : w3.heap[w.heap.size]? = some (.cells (opCells o (.slice AL k cL)).toArray 45 (0, 0))))
                  clear h3 CS p5 p6 p7
                  have p5 : w3.cell? ⟨w.heap.size, 5, none⟩ = some (.int .i64 o.fn) := (blk_cell HBX3.out 5).trans rfl
                  have p6 : w3.cell? ⟨w.heap.size, 6, none⟩ = some (.int .i64 o.so) := (blk_cell HBX3.out 6).trans rfl
                  have p7 : w3.cell? ⟨w.heap.size, 7, none⟩ = some (.int .i64 o.n) := (blk_cell HBX3.out 7).trans rfl
                  go_wp2_with fail
                  refine (CR.out _ _ _ T3.out).mono ?_
                  rintro e w4 ⟨rfl, h4⟩
                  have TEND := hid h4
                  clear h4 CR T3
                  go_wp2_with fail
                  go_loopg [20] k (fun left v20 wr => ∃ (j : Nat) (ys : List Int), left + j = k ∧ v20 = .int .i64 (j : Int) ∧ ys.length = k ∧ Hid (TwoAt (sdl.and (Side.row 26 (.slice A2 k c2) (lits ys))) w0 wr s u r9.2.2 r9.2.2 (q + 2000)))
                  case atStart => exact ⟨0, _, by omega, rfl, by rw [nearL_len]; exact HNN.out.symm, TEND⟩
                  case round =>
                    obtain ⟨j, ys, hj, rfl, hyl, TJ⟩ := hrel
                    by_cases hjk : j < k
                    · have hjI : (j : Int) < (k : Int) := by omega
                      cases gk with
                      | zero => omega
                      | succ left =>
                      obtain ⟨gi, oi, ci, hv, _, _, _, hcells, hfr⟩ := (TJ.out.side.2 : Row _ _ _ _).cells (by simp; omega)
                      injection hv with z1 z2 z3
                      subst z1 z3
                      have hyc := (hcells j (by simp; omega)).trans (lits_get _ _ (by omega))
                      have hyf := hfr (oi + j)
                      have NXT := hid (TJ.out.turn (w1 := wr.setCell ⟨gi, oi + j, none⟩ (.int .i64 0)) (sd3 := Side.row 26 (.slice (some ⟨gi, oi, none⟩) k c2) (lits (ys.set j 0))) ((setCell_keep wr gi (oi + j) (.int .i64 0)).mono fun g hg => by rw [hg]; rfl) (fun g hg e => by have h1 := HLT.out g hg; have h2 := HIN.out g e; omega) (fun g hg => by have h2 := HIN.out g hg; have := HB0.out; omega)
                        (show Row _ _ _ _ from by
                          have := (TJ.out.side.2 : Row _ _ _ _).set j (by simp; omega) (.int .i64 0)
                          rw [show (lits ys).set j (.int .i64 0) = lits (ys.set j 0) from (List.map_set ..).symm] at this
                          exact this) (fun g hg => .inl hg))
                      clear hcells hfr z2
                      go_wp2_with fail
                      go_roundg left
                      case measure => omega
                      case rel => exact ⟨j + 1, ys.set j 0, by omega, by go_num, by simpa using hyl, NXT⟩
                    · have TD := hid (TJ.out.drop)
                      have eq1 : (r9.1 == r9.1) = true := by simp
                      have eq2 : (r9.2.1 == r9.2.1) = true := by simp
                      go_wp2_with fail
                      go_ret3
                      unfold EndM
                      rw [HM.out]
                      have h9 := TD.out
                      rw [HSDL.out] at h9
                      have h8 := h9.drop
                      rw [HSDB.out] at h8
                      exact ⟨rfl, h8.drop.more (by omega)⟩
                · have kk5 : (o.kd == 5) = false := by simpa using kd5
                  by_cases kd6 : o.kd = 6
                  · have HKD := hid kd6
                    rw [kd6] at p0
                    clear kd6
                    obtain ⟨r9, h9⟩ : ∃ r9, r9 = numM S o.n := ⟨_, rfl⟩
                    have HM := hid (show madeM S o = r9 by rw [h9]; unfold madeM; rw [if_neg (show ¬ o.kd = 0 by rw [HKD.out]; omega)]; rw [if_neg (show ¬ o.kd = 1 by rw [HKD.out]; omega)]; rw [if_neg (show ¬ o.kd = 2 by rw [HKD.out]; omega)]; rw [if_neg (show ¬ o.kd = 3 by rw [HKD.out]; omega)]; rw [if_neg (show ¬ o.kd = 4 by rw [HKD.out]; omega)]; rw [if_neg (show ¬ o.kd = 5 by rw [HKD.out]; omega)]; rw [if_pos HKD.out])
                    have CS := hid (TB.out.callS (r := numM S o.n) fun F h => Num_calls w2 s S _ F o.n HW.out.n h HQ.out)
                    have CR := hid (fun (W : World) (S' : List NodeM) (q' : Nat) (T : TwoAt (sdl.and (Side.row 26 (.slice A2 k c2) (lits (nearL S o o.L)))) w0 W s u S' S q') => T.callR (r := numM S o.n) fun G h => RT.Num_calls W u S G o.n HW.out.n h)
                    rw [← h9] at CS CR
                    clear h9
                    have p5 : w2.cell? ⟨w.heap.size, 5, none⟩ = some (.int .i64 o.fn) := (blk_cell HBX.out 5).trans rfl
                    have p6 : w2.cell? ⟨w.heap.size, 6, none⟩ = some (.int .i64 o.so) := (blk_cell HBX.out 6).trans rfl
                    have p7 : w2.cell? ⟨w.heap.size, 7, none⟩ = some (.int .i64 o.n) := (blk_cell HBX.out 7).trans rfl
                    go_wp2_with fail
                    refine CS.out.mono ?_
                    rintro e w3 ⟨rfl, h3⟩
                    have T3 := hid h3
                    have HBX3 := hid (show w3.heap[w.heap.size]? = _ from (by have := T3.out.side.1; rw [HSDL.out] at this; have h8 := this.1; rw [HSDB.out] at h8; exact h8.2 : w3.heap[w.heap.size]? = some (.cells (opCells o (.slice AL k cL)).toArray 45 (0, 0))))
                    clear h3 CS p5 p6 p7
                    have p5 : w3.cell? ⟨w.heap.size, 5, none⟩ = some (.int .i64 o.fn) := (blk_cell HBX3.out 5).trans rfl
                    have p6 : w3.cell? ⟨w.heap.size, 6, none⟩ = some (.int .i64 o.so) := (blk_cell HBX3.out 6).trans rfl
                    have p7 : w3.cell? ⟨w.heap.size, 7, none⟩ = some (.int .i64 o.n) := (blk_cell HBX3.out 7).trans rfl
                    go_wp2_with fail
                    refine (CR.out _ _ _ T3.out).mono ?_
                    rintro e w4 ⟨rfl, h4⟩
                    have TEND := hid h4
                    clear h4 CR T3
                    go_wp2_with fail
                    go_loopg [20] k (fun left v20 wr => ∃ (j : Nat) (ys : List Int), left + j = k ∧ v20 = .int .i64 (j : Int) ∧ ys.length = k ∧ Hid (TwoAt (sdl.and (Side.row 26 (.slice A2 k c2) (lits ys))) w0 wr s u r9.2.2 r9.2.2 (q + 2000)))
                    case atStart => exact ⟨0, _, by omega, rfl, by rw [nearL_len]; exact HNN.out.symm, TEND⟩
                    case round =>
                      obtain ⟨j, ys, hj, rfl, hyl, TJ⟩ := hrel
                      by_cases hjk : j < k
                      · have hjI : (j : Int) < (k : Int) := by omega
                        cases gk with
                        | zero => omega
                        | succ left =>
                        obtain ⟨gi, oi, ci, hv, _, _, _, hcells, hfr⟩ := (TJ.out.side.2 : Row _ _ _ _).cells (by simp; omega)
                        injection hv with z1 z2 z3
                        subst z1 z3
                        have hyc := (hcells j (by simp; omega)).trans (lits_get _ _ (by omega))
                        have hyf := hfr (oi + j)
                        have NXT := hid (TJ.out.turn (w1 := wr.setCell ⟨gi, oi + j, none⟩ (.int .i64 0)) (sd3 := Side.row 26 (.slice (some ⟨gi, oi, none⟩) k c2) (lits (ys.set j 0))) ((setCell_keep wr gi (oi + j) (.int .i64 0)).mono fun g hg => by rw [hg]; rfl) (fun g hg e => by have h1 := HLT.out g hg; have h2 := HIN.out g e; omega) (fun g hg => by have h2 := HIN.out g hg; have := HB0.out; omega)
                          (show Row _ _ _ _ from by
                            have := (TJ.out.side.2 : Row _ _ _ _).set j (by simp; omega) (.int .i64 0)
                            rw [show (lits ys).set j (.int .i64 0) = lits (ys.set j 0) from (List.map_set ..).symm] at this
                            exact this) (fun g hg => .inl hg))
                        clear hcells hfr z2
                        go_wp2_with fail
                        go_roundg left
                        case measure => omega
                        case rel => exact ⟨j + 1, ys.set j 0, by omega, by go_num, by simpa using hyl, NXT⟩
                      · have TD := hid (TJ.out.drop)
                        have eq1 : (r9.1 == r9.1) = true := by simp
                        have eq2 : (r9.2.1 == r9.2.1) = true := by simp
                        go_wp2_with fail
                        go_ret3
                        unfold EndM
                        rw [HM.out]
                        have h9 := TD.out
                        rw [HSDL.out] at h9
                        have h8 := h9.drop
                        rw [HSDB.out] at h8
                        exact ⟨rfl, h8.drop.more (by omega)⟩
                  · have kk6 : (o.kd == 6) = false := by simpa using kd6
                    by_cases kd7 : o.kd = 7
                    · have HKD := hid kd7
                      rw [kd7] at p0
                      clear kd7
                      obtain ⟨r9, h9⟩ : ∃ r9, r9 = plusM S (near1 S o o.a) o.n := ⟨_, rfl⟩
                      have HM := hid (show madeM S o = r9 by rw [h9]; unfold madeM; rw [if_neg (show ¬ o.kd = 0 by rw [HKD.out]; omega)]; rw [if_neg (show ¬ o.kd = 1 by rw [HKD.out]; omega)]; rw [if_neg (show ¬ o.kd = 2 by rw [HKD.out]; omega)]; rw [if_neg (show ¬ o.kd = 3 by rw [HKD.out]; omega)]; rw [if_neg (show ¬ o.kd = 4 by rw [HKD.out]; omega)]; rw [if_neg (show ¬ o.kd = 5 by rw [HKD.out]; omega)]; rw [if_neg (show ¬ o.kd = 6 by rw [HKD.out]; omega)]; rw [if_pos HKD.out])
                      have CS := hid (TB.out.callS (r := plusM S (near1 S o o.a) o.n) fun F h => Plus_calls w2 s S _ F (near1 S o o.a) o.n HW.out.n h HQ.out)
                      have CR := hid (fun (W : World) (S' : List NodeM) (q' : Nat) (T : TwoAt (sdl.and (Side.row 26 (.slice A2 k c2) (lits (nearL S o o.L)))) w0 W s u S' S q') => T.callR (r := plusM S (near1 S o o.a) o.n) fun G h => RT.Plus_calls W u S G (near1 S o o.a) o.n HW.out.n h)
                      rw [← h9] at CS CR
                      clear h9
                      have p5 : w2.cell? ⟨w.heap.size, 5, none⟩ = some (.int .i64 o.fn) := (blk_cell HBX.out 5).trans rfl
                      have p6 : w2.cell? ⟨w.heap.size, 6, none⟩ = some (.int .i64 o.so) := (blk_cell HBX.out 6).trans rfl
                      have p7 : w2.cell? ⟨w.heap.size, 7, none⟩ = some (.int .i64 o.n) := (blk_cell HBX.out 7).trans rfl
                      go_wp2_with fail
                      refine CS.out.mono ?_
                      rintro e w3 ⟨rfl, h3⟩
                      have T3 := hid h3
                      have HBX3 := hid (show w3.heap[w.heap.size]? = _ from (by have := T3.out.side.1; rw [HSDL.out] at this; have h8 := this.1; rw [HSDB.out] at h8; exact h8.2 : w3.heap[w.heap.size]? = some (.cells (opCells o (.slice AL k cL)).toArray 45 (0, 0))))
                      clear h3 CS p5 p6 p7
                      have p5 : w3.cell? ⟨w.heap.size, 5, none⟩ = some (.int .i64 o.fn) := (blk_cell HBX3.out 5).trans rfl
                      have p6 : w3.cell? ⟨w.heap.size, 6, none⟩ = some (.int .i64 o.so) := (blk_cell HBX3.out 6).trans rfl
                      have p7 : w3.cell? ⟨w.heap.size, 7, none⟩ = some (.int .i64 o.n) := (blk_cell HBX3.out 7).trans rfl
                      go_wp2_with fail
                      refine (CR.out _ _ _ T3.out).mono ?_
                      rintro e w4 ⟨rfl, h4⟩
                      have TEND := hid h4
                      clear h4 CR T3
                      go_wp2_with fail
                      go_loopg [20] k (fun left v20 wr => ∃ (j : Nat) (ys : List Int), left + j = k ∧ v20 = .int .i64 (j : Int) ∧ ys.length = k ∧ Hid (TwoAt (sdl.and (Side.row 26 (.slice A2 k c2) (lits ys))) w0 wr s u r9.2.2 r9.2.2 (q + 2000)))
                      case atStart => exact ⟨0, _, by omega, rfl, by rw [nearL_len]; exact HNN.out.symm, TEND⟩
                      case round =>
                        obtain ⟨j, ys, hj, rfl, hyl, TJ⟩ := hrel
                        by_cases hjk : j < k
                        · have hjI : (j : Int) < (k : Int) := by omega
                          cases gk with
                          | zero => omega
                          | succ left =>
                          obtain ⟨gi, oi, ci, hv, _, _, _, hcells, hfr⟩ := (TJ.out.side.2 : Row _ _ _ _).cells (by simp; omega)
                          injection hv with z1 z2 z3
                          subst z1 z3
                          have hyc := (hcells j (by simp; omega)).trans (lits_get _ _ (by omega))
                          have hyf := hfr (oi + j)
                          have NXT := hid (TJ.out.turn (w1 := wr.setCell ⟨gi, oi + j, none⟩ (.int .i64 0)) (sd3 := Side.row 26 (.slice (some ⟨gi, oi, none⟩) k c2) (lits (ys.set j 0))) ((setCell_keep wr gi (oi + j) (.int .i64 0)).mono fun g hg => by rw [hg]; rfl) (fun g hg e => by have h1 := HLT.out g hg; have h2 := HIN.out g e; omega) (fun g hg => by have h2 := HIN.out g hg; have := HB0.out; omega)
                            (show Row _ _ _ _ from by
                              have := (TJ.out.side.2 : Row _ _ _ _).set j (by simp; omega) (.int .i64 0)
                              rw [show (lits ys).set j (.int .i64 0) = lits (ys.set j 0) from (List.map_set ..).symm] at this
                              exact this) (fun g hg => .inl hg))
                          clear hcells hfr z2
                          go_wp2_with fail
                          go_roundg left
                          case measure => omega
                          case rel => exact ⟨j + 1, ys.set j 0, by omega, by go_num, by simpa using hyl, NXT⟩
                        · have TD := hid (TJ.out.drop)
                          have eq1 : (r9.1 == r9.1) = true := by simp
                          have eq2 : (r9.2.1 == r9.2.1) = true := by simp
                          go_wp2_with fail
                          go_ret3
                          unfold EndM
                          rw [HM.out]
                          have h9 := TD.out
                          rw [HSDL.out] at h9
                          have h8 := h9.drop
                          rw [HSDB.out] at h8
                          exact ⟨rfl, h8.drop.more (by omega)⟩
                    · have kk7 : (o.kd == 7) = false := by simpa using kd7
                      by_cases kd8 : o.kd = 8
                      · have HKD := hid kd8
                        rw [kd8] at p0
                        clear kd8
                        obtain ⟨r9, h9⟩ : ∃ r9, r9 = leM S (near1 S o o.a) (near1 S o o.b) o.n := ⟨_, rfl⟩
                        have HM := hid (show madeM S o = r9 by rw [h9]; unfold madeM; rw [if_neg (show ¬ o.kd = 0 by rw [HKD.out]; omega)]; rw [if_neg (show ¬ o.kd = 1 by rw [HKD.out]; omega)]; rw [if_neg (show ¬ o.kd = 2 by rw [HKD.out]; omega)]; rw [if_neg (show ¬ o.kd = 3 by rw [HKD.out]; omega)]; rw [if_neg (show ¬ o.kd = 4 by rw [HKD.out]; omega)]; rw [if_neg (show ¬ o.kd = 5 by rw [HKD.out]; omega)]; rw [if_neg (show ¬ o.kd = 6 by rw [HKD.out]; omega)]; rw [if_neg (show ¬ o.kd = 7 by rw [HKD.out]; omega)]; rw [if_pos HKD.out])
                        have CS := hid (TB.out.callS (r := leM S (near1 S o o.a) (near1 S o o.b) o.n) fun F h => Le_calls w2 s S _ F (near1 S o o.a) (near1 S o o.b) o.n HW.out.n h HQ.out)
                        have CR := hid (fun (W : World) (S' : List NodeM) (q' : Nat) (T : TwoAt (sdl.and (Side.row 26 (.slice A2 k c2) (lits (nearL S o o.L)))) w0 W s u S' S q') => T.callR (r := leM S (near1 S o o.a) (near1 S o o.b) o.n) fun G h => RT.Le_calls W u S G (near1 S o o.a) (near1 S o o.b) o.n HW.out.n h)
                        rw [← h9] at CS CR
                        clear h9
                        have p5 : w2.cell? ⟨w.heap.size, 5, none⟩ = some (.int .i64 o.fn) := (blk_cell HBX.out 5).trans rfl
                        have p6 : w2.cell? ⟨w.heap.size, 6, none⟩ = some (.int .i64 o.so) := (blk_cell HBX.out 6).trans rfl
                        have p7 : w2.cell? ⟨w.heap.size, 7, none⟩ = some (.int .i64 o.n) := (blk_cell HBX.out 7).trans rfl
                        go_wp2_with fail
                        refine CS.out.mono ?_
                        rintro e w3 ⟨rfl, h3⟩
                        have T3 := hid h3
                        have HBX3 := hid (show w3.heap[w.heap.size]? = _ from (by have := T3.out.side.1; rw [HSDL.out] at this; have h8 := this.1; rw [HSDB.out] at h8; exact h8.2 : w3.heap[w.heap.size]? = some (.cells (opCells o (.slice AL k cL)).toArray 45 (0, 0))))
                        clear h3 CS p5 p6 p7
                        have p5 : w3.cell? ⟨w.heap.size, 5, none⟩ = some (.int .i64 o.fn) := (blk_cell HBX3.out 5).trans rfl
                        have p6 : w3.cell? ⟨w.heap.size, 6, none⟩ = some (.int .i64 o.so) := (blk_cell HBX3.out 6).trans rfl
                        have p7 : w3.cell? ⟨w.heap.size, 7, none⟩ = some (.int .i64 o.n) := (blk_cell HBX3.out 7).trans rfl
                        go_wp2_with fail
                        refine (CR.out _ _ _ T3.out).mono ?_
                        rintro e w4 ⟨rfl, h4⟩
                        have TEND := hid h4
                        clear h4 CR T3
                        go_wp2_with fail
                        go_loopg [20] k (fun left v20 wr => ∃ (j : Nat) (ys : List Int), left + j = k ∧ v20 = .int .i64 (j : Int) ∧ ys.length = k ∧ Hid (TwoAt (sdl.and (Side.row 26 (.slice A2 k c2) (lits ys))) w0 wr s u r9.2.2 r9.2.2 (q + 2000)))
                        case atStart => exact ⟨0, _, by omega, rfl, by rw [nearL_len]; exact HNN.out.symm, TEND⟩
                        case round =>
                          obtain ⟨j, ys, hj, rfl, hyl, TJ⟩ := hrel
                          by_cases hjk : j < k
                          · have hjI : (j : Int) < (k : Int) := by omega
                            cases gk with
                            | zero => omega
                            | succ left =>
                            obtain ⟨gi, oi, ci, hv, _, _, _, hcells, hfr⟩ := (TJ.out.side.2 : Row _ _ _ _).cells (by simp; omega)
                            injection hv with z1 z2 z3
                            subst z1 z3
                            have hyc := (hcells j (by simp; omega)).trans (lits_get _ _ (by omega))
                            have hyf := hfr (oi + j)
                            have NXT := hid (TJ.out.turn (w1 := wr.setCell ⟨gi, oi + j, none⟩ (.int .i64 0)) (sd3 := Side.row 26 (.slice (some ⟨gi, oi, none⟩) k c2) (lits (ys.set j 0))) ((setCell_keep wr gi (oi + j) (.int .i64 0)).mono fun g hg => by rw [hg]; rfl) (fun g hg e => by have h1 := HLT.out g hg; have h2 := HIN.out g e; omega) (fun g hg => by have h2 := HIN.out g hg; have := HB0.out; omega)
                              (show Row _ _ _ _ from by
                                have := (TJ.out.side.2 : Row _ _ _ _).set j (by simp; omega) (.int .i64 0)
                                rw [show (lits ys).set j (.int .i64 0) = lits (ys.set j 0) from (List.map_set ..).symm] at this
                                exact this) (fun g hg => .inl hg))
                            clear hcells hfr z2
                            go_wp2_with fail
                            go_roundg left
                            case measure => omega
                            case rel => exact ⟨j + 1, ys.set j 0, by omega, by go_num, by simpa using hyl, NXT⟩
                          · have TD := hid (TJ.out.drop)
                            have eq1 : (r9.1 == r9.1) = true := by simp
                            have eq2 : (r9.2.1 == r9.2.1) = true := by simp
                            go_wp2_with fail
                            go_ret3
                            unfold EndM
                            rw [HM.out]
                            have h9 := TD.out
                            rw [HSDL.out] at h9
                            have h8 := h9.drop
                            rw [HSDB.out] at h8
                            exact ⟨rfl, h8.drop.more (by omega)⟩
                      · have kk8 : (o.kd == 8) = false := by simpa using kd8
                        have TEND := hid TB.out
                        have HM := hid (show madeM S o = (0, 0, S) by unfold madeM; simp [kd0, kd1, kd2, kd3, kd4, kd5, kd6, kd7, kd8])
                        clear kd0 kd1 kd2 kd3 kd4 kd5 kd6 kd7 kd8
                        obtain ⟨r9, h9⟩ : ∃ r9 : Ans, r9 = (0, 0, S) := ⟨_, rfl⟩
                        have TEND := hid (show TwoAt (sdl.and (Side.row 26 (.slice A2 k c2) (lits (nearL S o o.L)))) w0 w2 s u r9.2.2 r9.2.2 q by rw [h9]; exact TB.out)
                        rw [← h9] at HM
                        have z1 : r9.1 = 0 := by rw [h9]
                        have z2 : r9.2.1 = 0 := by rw [h9]
                        have Z := hid (And.intro z1 z2)
                        clear z1 z2 h9
                        go_wp2_with fail
                        go_loopg [20] k (fun left v20 wr => ∃ (j : Nat) (ys : List Int), left + j = k ∧ v20 = .int .i64 (j : Int) ∧ ys.length = k ∧ Hid (TwoAt (sdl.and (Side.row 26 (.slice A2 k c2) (lits ys))) w0 wr s u r9.2.2 r9.2.2 q))
                        case atStart => exact ⟨0, _, by omega, rfl, by rw [nearL_len]; exact HNN.out.symm, TEND⟩
                        case round =>
                          obtain ⟨j, ys, hj, rfl, hyl, TJ⟩ := hrel
                          by_cases hjk : j < k
                          · have hjI : (j : Int) < (k : Int) := by omega
                            cases gk with
                            | zero => omega
                            | succ left =>
                            obtain ⟨gi, oi, ci, hv, _, _, _, hcells, hfr⟩ := (TJ.out.side.2 : Row _ _ _ _).cells (by simp; omega)
                            injection hv with z1 z2 z3
                            subst z1 z3
                            have hyc := (hcells j (by simp; omega)).trans (lits_get _ _ (by omega))
                            have hyf := hfr (oi + j)
                            have NXT := hid (TJ.out.turn (w1 := wr.setCell ⟨gi, oi + j, none⟩ (.int .i64 0)) (sd3 := Side.row 26 (.slice (some ⟨gi, oi, none⟩) k c2) (lits (ys.set j 0))) ((setCell_keep wr gi (oi + j) (.int .i64 0)).mono fun g hg => by rw [hg]; rfl) (fun g hg e => by have h1 := HLT.out g hg; have h2 := HIN.out g e; omega) (fun g hg => by have h2 := HIN.out g hg; have := HB0.out; omega)
                              (show Row _ _ _ _ from by
                                have := (TJ.out.side.2 : Row _ _ _ _).set j (by simp; omega) (.int .i64 0)
                                rw [show (lits ys).set j (.int .i64 0) = lits (ys.set j 0) from (List.map_set ..).symm] at this
                                exact this) (fun g hg => .inl hg))
                            clear hcells hfr z2
                            go_wp2_with fail
                            go_roundg left
                            case measure => omega
                            case rel => exact ⟨j + 1, ys.set j 0, by omega, by go_num, by simpa using hyl, NXT⟩
                          · have TD := hid (TJ.out.drop)
                            go_wp2_with fail
                            go_ret3
                            unfold EndM
                            rw [HM.out, Z.out.1, Z.out.2]
                            have h9 := TD.out
                            rw [HSDL.out] at h9
                            have h8 := h9.drop
                            rw [HSDB.out] at h8
                            exact ⟨rfl, h8.drop.more (by omega)⟩
end Go.Proofs.Ytmgbodmpjholiaa.BT
