/- The document's trail, in memory: its calls. -/
import Derived.Test.YtegcfaohhcjajaaTrailS
namespace Go.Proofs.Ytegcfaohhcjajaa.RT
open Go.RowKit Go.Proofs.YtegcfaohhcjajaaW.PrintWords Go.Proofs.YtegcfaohhcjajaaW.PrintLast Go.Proofs.YtegcfaohhcjajaaW.PrintMore Go.Proofs.Ytegcfaohhcjajaa.MM Go.Proofs.Ytegcfaohhcjajaa.TS
attribute [local go_sem ↓] Go.wp_at_zero Go.wp_at_succ
set_option linter.unusedSimpArgs false
set_option linter.unusedVariables false

abbrev RfO (w : World) (t : Nat) (vr va : Value) (row : List ByteArray) (ats : List Nat) (lev : Nat) (F : Nat → Prop) : Prop := Ob 30 w t [vr, va, .int .i64 lev] [(9, elems row), (3, nats ats)] F
def Rf (w : World) (t : Nat) (row : List ByteArray) (ats : List Nat) (lev : Nat) (F : Nat → Prop) : Prop := ∃ vr va, RfO w t vr va row ats lev F
def Left (w : World) (t : Nat) (row : List ByteArray) (ats : List Nat) (lev : Nat) (F : Nat → Prop) (w' : World) : Prop := ∃ F', Rf w' t row ats lev F' ∧ Keep F w w' ∧ ∀ j, F' j → F j ∨ w.heap.size ≤ j
theorem Left.of {w w' : World} {t lev : Nat} {vr va : Value} {row : List ByteArray} {ats : List Nat} {F G : Nat → Prop} {xs ys : List Value} (h1 : Ob 30 w' t [vr, va, .int .i64 lev] [(9, xs), (3, ys)] G) (h2 : Keep F w w') (hx : elems row = xs) (hy : nats ats = ys) (hG : ∀ j, G j → F j ∨ w.heap.size ≤ j) : Left w t row ats lev F w' := by
  subst hx hy
  exact ⟨_, ⟨_, _, h1⟩, h2, hG⟩
theorem step_str (w : World) {ops : Array Oper} {o : Oper} {a : Act} {K : Act → World → Prop} {Q : Exit → Act → World → Prop} {E : Prop} (hgd : o.guard = none) {N : Option Tmp} (hN : o.dst = N) (s x : Operand)
    (ho : o.op = .call { callee := .builtin .append, args := #[s, x], argTypes := #[24, 24] })
    (v u : Value) (xs ys : List Value) (hs : a.eval s = v) (hx : a.eval x = u) (h : Row w 9 v xs) (hy : Row w 9 u ys) (h1 : ∀ u ∈ ys, u.oneCell' = true) (hl : xs.length + ys.length < 461168601842)
    (hK : ∀ v' w', Row w' 9 v' (xs ++ ys) → Keep (fun k => v.ownBlock = some k) w w' → (v'.ownBlock = v.ownBlock ∨ v'.ownBlock = some w.heap.size) → K (a.put N v') w') :
    if Region.wanted o (yielded ops a.tmps) = true then Oper.wp Try.prog o a w K Q else E := by
  subst hN
  obtain ⟨i0, hi0, hz0, hz1, hz2⟩ := info_parts infoT
  exact step_append_row w hgd s x _ ho _ i0 _ Try.underlying24 hi0 hz0 hz1 rfl v u xs ys hs hx h hy.src h1 (by simp [maxLen]; omega) (by rw [hz2]; omega) hK
theorem keep_cell {F : Nat → Prop} {a b : World} (h : Keep F a b) {p : Addr} (hp : p.block < a.heap.size) (hn : ¬ F p.block) : b.cell? p = a.cell? p := by
  unfold World.cell?
  rw [h.block _ hp hn]
/-- An empty slice literal. -/
theorem zero_row (w : World) (e : TypeId) : Row (w.alloc (.cells #[] e)) e (.slice (some ⟨w.heap.size, 0, none⟩) 0 0) [] :=
  .inr ⟨w.heap.size, 0, 0, #[], rfl, heap_alloc_new w _, by simp, by simp [maxLen], by simp, rfl⟩
/-- A row that is new since w0. -/
structure Fresh (w0 w : World) (e : TypeId) (v : Value) (xs : List Value) : Prop where
  row : Row w e v xs
  below : Below w0.heap.size w0 w
  own : ∀ j, v.ownBlock = some j → w0.heap.size ≤ j
theorem Fresh.zero {w0 w : World} (e : TypeId) (hb : Below w0.heap.size w0 w) : Fresh w0 (w.alloc (.cells #[] e)) e (.slice (some ⟨w.heap.size, 0, none⟩) 0 0) [] :=
  ⟨zero_row w e, hb.alloc hb.size _, fun j hj => by cases hj; exact hb.size⟩
theorem Fresh.alloc {w0 w : World} {e : TypeId} {v : Value} {xs : List Value} (h : Fresh w0 w e v xs) (o : Obj) : Fresh w0 (w.alloc o) e v xs :=
  ⟨h.row.alloc o, h.below.alloc h.below.size o, h.own⟩
theorem Fresh.drew {w0 w : World} {e : TypeId} {v : Value} {xs : List Value} (h : Fresh w0 w e v xs) : Fresh w0 w.drew e v xs := ⟨h.row.drew, ⟨h.below.os, h.below.tape, h.below.output, h.below.size, h.below.block⟩, h.own⟩
theorem Fresh.app {w0 w w1 : World} {e : TypeId} {v v1 : Value} {xs ys : List Value} (h : Fresh w0 w e v xs) (hr : Row w1 e v1 ys) (hk : Keep (fun k => v.ownBlock = some k) w w1) (hat : v1.ownBlock = v.ownBlock ∨ v1.ownBlock = some w.heap.size) : Fresh w0 w1 e v1 ys where
  row := hr
  below := h.below.trans (hk.below (fun j hj => h.own j hj) h.below.size)
  own := fun j hj => by
    rcases hat with e | e
    · exact h.own j (e ▸ hj)
    · rw [e] at hj; cases hj; exact h.below.size
set_option maxRecDepth 100000 in
set_option maxHeartbeats 3200000 in
theorem Push_calls (w : World) (t : Nat) (row : List ByteArray) (ats : List Nat) (lev : Nat) (F : Nat → Prop) (x : ByteArray) (h : Rf w t row ats lev F) (hl : row.length < 1000000) (ha : ats.length < 1000000) :
    Calls Try.prog 11 #[ptr t, .string x] w fun e w' => e = .returned (.tuple #[]) ∧ Left w t (row ++ [x]) (ats ++ [lev]) lev F w' := by
  obtain ⟨vr, va, h⟩ := h
  have hc := h.cell 0 vr rfl
  have hR := hid (h.row 0 _ _ vr rfl rfl)
  have HH := hid h
  have HL := hid hl
  have HA := hid ha
  have lt := blk_lt h.blk
  clear h hl ha
  go_enter Try.func11, Try.ntmps11
  go_wp2_with (at_builtin; go_loud (first
    | (refine wp_app _ rfl _ _ rfl _ _ [] (elems row) (by rfl) (by rfl) (zero_row _ _) (hR.out.alloc _) (elems_one row) (by have := HL.out; simp; omega) ?_; intro v1 w1 hr1 hk1 hat1; have F1 := hid ((Fresh.zero (w0 := w) 9 (Below.refl _ w)).app hr1 hk1 hat1); obtain ⟨A1, c1, rfl, _, _⟩ := hr1.shape; clear hr1 hk1 hat1; have hl1 : ([] ++ elems row).length = row.length := (by simp); rw [hl1] at F1; try rw [hl1]; rw [List.nil_append] at F1; clear hl1)
    | (refine wp_app _ rfl _ _ rfl _ _ (elems row) [.string x] (by rfl) (by rfl) (F1.out.row.alloc _) (Row.one _ _ _) (by simp [Value.oneCell']) (by have := HL.out; simp; omega) ?_; intro v2 w2 hr2 hk2 hat2; have F2 := hid ((F1.out.alloc _).app hr2 hk2 hat2); obtain ⟨A2, c2, rfl, _, _⟩ := hr2.shape; clear hr2 hk2 hat2; have hl2 : (elems row ++ [Value.string x]).length = row.length + 1 := (by simp); rw [hl2] at F2; try rw [hl2]; clear hl2; have hb2 := (F2.out.below.block t lt).trans HH.out.blk; have hf := blk_frozen hb2 0; have hc2 := (blk_cell hb2 0).trans rfl; clear hb2)))

  have hk0 : Keep (fun k => vr.ownBlock = some k) w w2 := Keep.ofBelow F2.out.below
  have hown : ∀ j, (Value.slice A2 (row.length + 1) c2).ownBlock = some j → w.heap.size ≤ j := F2.out.own
  obtain ⟨a1, a2⟩ := HH.out.turn 0 _ 9 _ _ vr _ rfl rfl hk0 F2.out.row (by
    cases h : (Value.slice A2 (row.length + 1) c2).ownBlock with
    | none => exact .inl rfl
    | some b => exact .inr (.inr ⟨b, rfl, hown b h⟩))
  obtain ⟨W, hW⟩ : ∃ W, W = w2.setCell ⟨t, 0, none⟩ (.slice A2 (row.length + 1) c2) := ⟨_, rfl⟩
  rw [← hW] at a1 a2 ⊢
  have hW2 : w2.heap.size = W.heap.size := by rw [hW]; simp [World.setCell]
  rw [hW2] at a1
  obtain ⟨v0, hv0⟩ : ∃ v, v = Value.slice A2 (row.length + 1) c2 := ⟨_, rfl⟩
  have O1 : Hid (Ob 30 W t [v0, va, .int .i64 lev] [(9, elems row ++ [Value.string x]), (3, nats ats)] (fun j => F j ∨ w.heap.size ≤ j ∧ j < W.heap.size)) := hid (by rw [hv0]; exact a1)
  have K1 := hid a2
  clear a1 a2 hk0 hW hW2 F1 F2 hR hc hown hf hc2
  rw [← hv0]
  clear hv0
  have hR := hid (O1.out.row 1 _ _ va rfl rfl)
  have htl := blk_lt O1.out.blk
  have hS := (show ∀ V : World, V.heap[t]? = some (.cells #[v0, va, .int .i64 lev] 30 (0, 0)) → V.cell? ⟨t, 1, none⟩ = some va ∧ V.cell? ⟨t, 2, none⟩ = some (.int .i64 lev) ∧ V.frozen? ⟨t, 1, none⟩ = false from fun V q => ⟨(blk_cell q 1).trans rfl, (blk_cell q 2).trans rfl, blk_frozen q 1⟩)
  have hB : ∀ V : World, Below W.heap.size W V → V.cell? ⟨t, 1, none⟩ = some va ∧ V.cell? ⟨t, 2, none⟩ = some (.int .i64 lev) ∧ V.frozen? ⟨t, 1, none⟩ = false := fun V b => hS V ((b.block t htl).trans O1.out.blk)
  have HB := hid hB
  have b0 : Below W.heap.size W W.drew := ⟨rfl, rfl, rfl, Nat.le_refl _, fun _ _ => rfl⟩
  have HB0 := hid b0
  clear hB hS b0
  refine start_ (n := 16) (S := (fun w' => w'.cell? ⟨t, 1, none⟩ = some va ∧ w'.cell? ⟨t, 2, none⟩ = some (.int .i64 lev) ∧ w'.frozen? ⟨t, 1, none⟩ = false)) (ds := [15]) #[false, false, false, false, false, false, false, false, false, false, false, false, false, false, false, false] (by kernel_rfl) rfl rfl (HB.out _ HB0.out) (fun hHeld => ?_)
  refine take_ (i := 0) (N := some 16) (v := ?_) (a' := ?_) #[true, false, false, false, false, false, false, false, false, false, false, false, false, false, false, false] rfl rfl (by kernel_rfl) (fun _ _ _ h => h) (Or.inl ⟨by rfl, ?_⟩) hHeld ?_ ?_   -- move (%0)
  rotate_left
  · rintro w' ⟨s0, s1, s2⟩
    go_simp
    with_reducible rfl
  rotate_left
  · simp only [Act.put, List.setIfInBounds_toArray, List.set_cons_zero, List.set_cons_succ]
    rfl
  refine take_ (i := 2) (N := some 18) (v := ?_) (a' := ?_) #[true, false, true, false, false, false, false, false, false, false, false, false, false, false, false, false] rfl rfl (by kernel_rfl) (fun _ _ _ h => h) (Or.inl ⟨by rfl, ?_⟩) hHeld ?_ ?_   -- move (%0)
  rotate_left
  · rintro w' ⟨s0, s1, s2⟩
    go_simp
    with_reducible rfl
  rotate_left
  · simp only [Act.put, List.setIfInBounds_toArray, List.set_cons_zero, List.set_cons_succ]
    rfl
  refine take_ (i := 3) (N := some 19) (v := ?_) (a' := ?_) #[true, false, true, true, false, false, false, false, false, false, false, false, false, false, false, false] rfl rfl (by kernel_rfl) (fun _ _ _ h => h) (Or.inl ⟨by rfl, ?_⟩) hHeld ?_ ?_   -- nilCheck (%18)
  rotate_left
  · rintro w' ⟨s0, s1, s2⟩
    go_simp
    with_reducible rfl
  rotate_left
  · simp only [Act.put, List.setIfInBounds_toArray, List.set_cons_zero, List.set_cons_succ]
    rfl
  refine take_ (i := 4) (N := some 20) (v := ?_) (a' := ?_) #[true, false, true, true, true, false, false, false, false, false, false, false, false, false, false, false] rfl rfl (by kernel_rfl) (fun _ _ _ h => h) (Or.inl ⟨by rfl, ?_⟩) hHeld ?_ ?_   -- fieldAddr 30 (%19) 1
  rotate_left
  · rintro w' ⟨s0, s1, s2⟩
    go_simp
    with_reducible rfl
  rotate_left
  · simp only [Act.put, List.setIfInBounds_toArray, List.set_cons_zero, List.set_cons_succ]
    rfl
  refine take_ (i := 5) (N := some 21) (v := ?_) (a' := ?_) #[true, false, true, true, true, true, false, false, false, false, false, false, false, false, false, false] rfl rfl (by kernel_rfl) (fun _ _ _ h => h) (Or.inl ⟨by rfl, ?_⟩) hHeld ?_ ?_   -- load 25 (%20)
  rotate_left
  · rintro w' ⟨s0, s1, s2⟩
    go_simp
    with_reducible rfl
  rotate_left
  · simp only [Act.put, List.setIfInBounds_toArray, List.set_cons_zero, List.set_cons_succ]
    rfl
  refine take_ (i := 7) (N := some 23) (v := ?_) (a' := ?_) #[true, false, true, true, true, true, false, true, false, false, false, false, false, false, false, false] rfl rfl (by kernel_rfl) (fun _ _ _ h => h) (Or.inl ⟨by rfl, ?_⟩) hHeld ?_ ?_   -- move (%0)
  rotate_left
  · rintro w' ⟨s0, s1, s2⟩
    go_simp
    with_reducible rfl
  rotate_left
  · simp only [Act.put, List.setIfInBounds_toArray, List.set_cons_zero, List.set_cons_succ]
    rfl
  refine take_ (i := 8) (N := some 24) (v := ?_) (a' := ?_) #[true, false, true, true, true, true, false, true, true, false, false, false, false, false, false, false] rfl rfl (by kernel_rfl) (fun _ _ _ h => h) (Or.inl ⟨by rfl, ?_⟩) hHeld ?_ ?_   -- nilCheck (%23)
  rotate_left
  · rintro w' ⟨s0, s1, s2⟩
    go_simp
    with_reducible rfl
  rotate_left
  · simp only [Act.put, List.setIfInBounds_toArray, List.set_cons_zero, List.set_cons_succ]
    rfl
  refine take_ (i := 9) (N := some 25) (v := ?_) (a' := ?_) #[true, false, true, true, true, true, false, true, true, true, false, false, false, false, false, false] rfl rfl (by kernel_rfl) (fun _ _ _ h => h) (Or.inl ⟨by rfl, ?_⟩) hHeld ?_ ?_   -- fieldAddr 30 (%24) 2
  rotate_left
  · rintro w' ⟨s0, s1, s2⟩
    go_simp
    with_reducible rfl
  rotate_left
  · simp only [Act.put, List.setIfInBounds_toArray, List.set_cons_zero, List.set_cons_succ]
    rfl
  refine take_ (i := 10) (N := some 26) (v := ?_) (a' := ?_) #[true, false, true, true, true, true, false, true, true, true, true, false, false, false, false, false] rfl rfl (by kernel_rfl) (fun _ _ _ h => h) (Or.inl ⟨by rfl, ?_⟩) hHeld ?_ ?_   -- load 3 (%25)
  rotate_left
  · rintro w' ⟨s0, s1, s2⟩
    go_simp
    with_reducible rfl
  rotate_left
  · simp only [Act.put, List.setIfInBounds_toArray, List.set_cons_zero, List.set_cons_succ]
    rfl
  refine two_ (i := 1) (j := 11) (Ni := some 17) (Nj := some 27) #[true, true, true, true, true, true, false, true, true, true, true, false, false, false, false, false] #[true, false, true, true, true, true, false, true, true, true, true, true, false, false, false, false] rfl rfl rfl rfl (by kernel_rfl) (by decide) (by decide) (fun K hK => ?_) (fun K hK => ?_)
  · refine value_ (by rfl) rfl (v := .slice (some ⟨W.drew.heap.size, 0, none⟩) 0 0) (w1 := W.drew.alloc (.cells #[] 3)) (by go_simp; first | done | rfl) ?_
    have FZ := hid (Fresh.zero (w0 := W) (w := W.drew) 3 HB0.out)
    refine hK.out _ _ (HB.out _ FZ.out.below) (fun hHeld => ?_)
    refine norm_ (a' := ?_) ?_ ?_
    rotate_left
    · simp only [Act.put, List.setIfInBounds_toArray, List.set_cons_zero, List.set_cons_succ]
      rfl
    refine two_ (i := 6) (j := 11) (Ni := some 22) (Nj := some 27) #[true, true, true, true, true, true, true, true, true, true, true, false, false, false, false, false] #[true, true, true, true, true, true, false, true, true, true, true, true, false, false, false, false] rfl rfl rfl rfl (by kernel_rfl) (by decide) (by decide) (fun K hK => ?_) (fun K hK => ?_)
    · refine TS.step_int _ (by rfl) (N := some 22) (by rfl) _ _ (by rfl) _ va [] (nats ats) (by rfl) (by rfl) FZ.out.row (hR.out.keep (Keep.ofBelow (F := fun _ => False) FZ.out.below) (fun _ _ h => h)) (by intro u hu; obtain ⟨y, _, rfl⟩ := List.mem_map.1 hu; rfl) (by have := HA.out; simp; omega) ?_
      intro v22 V22 hr hk hat
      have F22 := hid (FZ.out.app hr hk hat)
      obtain ⟨A22, c22, rfl, _, _⟩ := hr.shape
      clear hr hk hat
      have hl : ([] ++ nats ats).length = ats.length := by simp
      rw [hl, List.nil_append] at F22
      try rw [hl]
      clear hl
      refine hK.out _ _ (HB.out _ F22.out.below) (fun hHeld => ?_)
      refine norm_ (a' := ?_) ?_ ?_
      rotate_left
      · simp only [Act.put, List.setIfInBounds_toArray, List.set_cons_zero, List.set_cons_succ]
        rfl
      refine one_ (i := 11) (N := some 27) #[true, true, true, true, true, true, true, true, true, true, true, true, false, false, false, false] rfl rfl (by kernel_rfl) (by decide) (fun K hK => ?_)
      refine value_ (by rfl) rfl (v := .slice (some ⟨V22.heap.size, 0, none⟩) 1 1) (w1 := V22.alloc (.cells #[.int .i64 lev] 3)) (by go_simp; first | done | rfl) ?_
      have RO := hid (Row.one V22 3 (.int .i64 lev))
      have BO := hid ((F22.out.below).alloc (F22.out.below).size (.cells #[.int .i64 lev] 3))
      refine hK.out _ _ (HB.out _ BO.out) (fun hHeld => ?_)
      refine norm_ (a' := ?_) ?_ ?_
      rotate_left
      · simp only [Act.put, List.setIfInBounds_toArray, List.set_cons_zero, List.set_cons_succ]
        rfl
      have F22' := F22
      have F22 := hid (F22'.out.alloc (.cells #[.int .i64 lev] 3))
      refine one_ (i := 12) (N := some 28) #[true, true, true, true, true, true, true, true, true, true, true, true, true, false, false, false] rfl rfl (by kernel_rfl) (by decide) (fun K hK => ?_)
      refine TS.step_int _ (by rfl) (N := some 28) (by rfl) _ _ (by rfl) _ _ (nats ats) [.int .i64 lev] (by rfl) (by rfl) F22.out.row RO.out (by simp [Value.oneCell']) (by have := HA.out; simp; omega) ?_
      intro v28 V28 hr hk hat
      have F28 := hid (F22.out.app hr hk hat)
      obtain ⟨A28, c28, rfl, _, _⟩ := hr.shape
      clear hr hk hat
      have hl : (nats ats ++ [Value.int .i64 (lev : Nat)]).length = ats.length + 1 := by simp
      rw [hl] at F28
      try rw [hl]
      clear hl
      refine hK.out _ _ (HB.out _ F28.out.below) (fun hHeld => ?_)
      refine norm_ (a' := ?_) ?_ ?_
      rotate_left
      · simp only [Act.put, List.setIfInBounds_toArray, List.set_cons_zero, List.set_cons_succ]
        rfl
      have hf := hHeld.2.2
      have hc1 := hHeld.1
      refine take_ (i := 13) (N := some 29) (v := ?_) (a' := ?_) #[true, true, true, true, true, true, true, true, true, true, true, true, true, true, false, false] rfl rfl (by kernel_rfl) (fun _ _ _ h => h) (Or.inl ⟨by rfl, ?_⟩) hHeld ?_ ?_   -- nilCheck (%16)
      rotate_left
      · rintro w' ⟨s0, s1, s2⟩
        go_simp
        with_reducible rfl
      rotate_left
      · simp only [Act.put, List.setIfInBounds_toArray, List.set_cons_zero, List.set_cons_succ]
        rfl
      refine take_ (i := 14) (N := some 30) (v := ?_) (a' := ?_) #[true, true, true, true, true, true, true, true, true, true, true, true, true, true, true, false] rfl rfl (by kernel_rfl) (fun _ _ _ h => h) (Or.inl ⟨by rfl, ?_⟩) hHeld ?_ ?_   -- fieldAddr 30 (%29) 1
      rotate_left
      · rintro w' ⟨s0, s1, s2⟩
        go_simp
        with_reducible rfl
      rotate_left
      · simp only [Act.put, List.setIfInBounds_toArray, List.set_cons_zero, List.set_cons_succ]
        rfl
      refine last_ (i := 15) (N := none) #[true, true, true, true, true, true, true, true, true, true, true, true, true, true, true, true] rfl rfl (by kernel_rfl) (by decide) (fun K hK => ?_)
      refine skip_ (by rfl) rfl (w1 := V28.setCell ⟨t, 1, none⟩ (.slice A28 (ats.length + 1) c28)) (by go_simp; first | done | rfl) ?_
      refine hK.out _ _ ?_
      refine done_ (by kernel_rfl) ?_
      try simp only [Exit.inBlock, Exit.then]
      refine bodyPost_end (results_none rfl _ _ _) rfl ?_
      have hown : ∀ j, (Value.slice A28 (ats.length + 1) c28).ownBlock = some j → W.heap.size ≤ j := F28.out.own
      obtain ⟨a1, a2⟩ := O1.out.turn 1 _ 3 _ _ va _ rfl rfl (Keep.ofBelow F28.out.below) F28.out.row (by
        cases h : (Value.slice A28 (ats.length + 1) c28).ownBlock with
        | none => exact .inl rfl
        | some b => exact .inr (.inr ⟨b, rfl, hown b h⟩))
      refine ⟨rfl, Left.of a1 (K1.out.trans a2 (fun _ h => h) (fun j h => h.imp id And.left)) (by simp [elems]) (by simp [nats]) (fun j hj => ?_)⟩
      have h1 := K1.out.size
      rcases hj with (h | ⟨h, _⟩) | ⟨h, _⟩
      · exact .inl h
      · exact .inr h
      · exact .inr (Nat.le_trans h1 h)
    · refine value_ (by rfl) rfl (v := .slice (some ⟨(W.drew.alloc (.cells #[] 3)).heap.size, 0, none⟩) 1 1) (w1 := (W.drew.alloc (.cells #[] 3)).alloc (.cells #[.int .i64 lev] 3)) (by go_simp; first | done | rfl) ?_
      have RO := hid (Row.one (W.drew.alloc (.cells #[] 3)) 3 (.int .i64 lev))
      have BO := hid ((FZ.out.below).alloc (FZ.out.below).size (.cells #[.int .i64 lev] 3))
      refine hK.out _ _ (HB.out _ BO.out) (fun hHeld => ?_)
      refine norm_ (a' := ?_) ?_ ?_
      rotate_left
      · simp only [Act.put, List.setIfInBounds_toArray, List.set_cons_zero, List.set_cons_succ]
        rfl
      refine one_ (i := 6) (N := some 22) #[true, true, true, true, true, true, true, true, true, true, true, true, false, false, false, false] rfl rfl (by kernel_rfl) (by decide) (fun K hK => ?_)
      have FZ' := FZ
      have FZ := hid (FZ'.out.alloc (.cells #[.int .i64 lev] 3))
      refine TS.step_int _ (by rfl) (N := some 22) (by rfl) _ _ (by rfl) _ va [] (nats ats) (by rfl) (by rfl) FZ.out.row (hR.out.keep (Keep.ofBelow (F := fun _ => False) FZ.out.below) (fun _ _ h => h)) (by intro u hu; obtain ⟨y, _, rfl⟩ := List.mem_map.1 hu; rfl) (by have := HA.out; simp; omega) ?_
      intro v22 V22 hr hk hat
      have F22 := hid (FZ.out.app hr hk hat)
      have RO' := RO
      have RO := hid (RO'.out.keep hk (fun j hj e => by simp [Value.ownBlock] at hj e; omega))
      obtain ⟨A22, c22, rfl, _, _⟩ := hr.shape
      clear hr hk hat
      have hl : ([] ++ nats ats).length = ats.length := by simp
      rw [hl, List.nil_append] at F22
      try rw [hl]
      clear hl
      refine hK.out _ _ (HB.out _ F22.out.below) (fun hHeld => ?_)
      refine norm_ (a' := ?_) ?_ ?_
      rotate_left
      · simp only [Act.put, List.setIfInBounds_toArray, List.set_cons_zero, List.set_cons_succ]
        rfl
      refine one_ (i := 12) (N := some 28) #[true, true, true, true, true, true, true, true, true, true, true, true, true, false, false, false] rfl rfl (by kernel_rfl) (by decide) (fun K hK => ?_)
      refine TS.step_int _ (by rfl) (N := some 28) (by rfl) _ _ (by rfl) _ _ (nats ats) [.int .i64 lev] (by rfl) (by rfl) F22.out.row RO.out (by simp [Value.oneCell']) (by have := HA.out; simp; omega) ?_
      intro v28 V28 hr hk hat
      have F28 := hid (F22.out.app hr hk hat)
      obtain ⟨A28, c28, rfl, _, _⟩ := hr.shape
      clear hr hk hat
      have hl : (nats ats ++ [Value.int .i64 (lev : Nat)]).length = ats.length + 1 := by simp
      rw [hl] at F28
      try rw [hl]
      clear hl
      refine hK.out _ _ (HB.out _ F28.out.below) (fun hHeld => ?_)
      refine norm_ (a' := ?_) ?_ ?_
      rotate_left
      · simp only [Act.put, List.setIfInBounds_toArray, List.set_cons_zero, List.set_cons_succ]
        rfl
      have hf := hHeld.2.2
      have hc1 := hHeld.1
      refine take_ (i := 13) (N := some 29) (v := ?_) (a' := ?_) #[true, true, true, true, true, true, true, true, true, true, true, true, true, true, false, false] rfl rfl (by kernel_rfl) (fun _ _ _ h => h) (Or.inl ⟨by rfl, ?_⟩) hHeld ?_ ?_   -- nilCheck (%16)
      rotate_left
      · rintro w' ⟨s0, s1, s2⟩
        go_simp
        with_reducible rfl
      rotate_left
      · simp only [Act.put, List.setIfInBounds_toArray, List.set_cons_zero, List.set_cons_succ]
        rfl
      refine take_ (i := 14) (N := some 30) (v := ?_) (a' := ?_) #[true, true, true, true, true, true, true, true, true, true, true, true, true, true, true, false] rfl rfl (by kernel_rfl) (fun _ _ _ h => h) (Or.inl ⟨by rfl, ?_⟩) hHeld ?_ ?_   -- fieldAddr 30 (%29) 1
      rotate_left
      · rintro w' ⟨s0, s1, s2⟩
        go_simp
        with_reducible rfl
      rotate_left
      · simp only [Act.put, List.setIfInBounds_toArray, List.set_cons_zero, List.set_cons_succ]
        rfl
      refine last_ (i := 15) (N := none) #[true, true, true, true, true, true, true, true, true, true, true, true, true, true, true, true] rfl rfl (by kernel_rfl) (by decide) (fun K hK => ?_)
      refine skip_ (by rfl) rfl (w1 := V28.setCell ⟨t, 1, none⟩ (.slice A28 (ats.length + 1) c28)) (by go_simp; first | done | rfl) ?_
      refine hK.out _ _ ?_
      refine done_ (by kernel_rfl) ?_
      try simp only [Exit.inBlock, Exit.then]
      refine bodyPost_end (results_none rfl _ _ _) rfl ?_
      have hown : ∀ j, (Value.slice A28 (ats.length + 1) c28).ownBlock = some j → W.heap.size ≤ j := F28.out.own
      obtain ⟨a1, a2⟩ := O1.out.turn 1 _ 3 _ _ va _ rfl rfl (Keep.ofBelow F28.out.below) F28.out.row (by
        cases h : (Value.slice A28 (ats.length + 1) c28).ownBlock with
        | none => exact .inl rfl
        | some b => exact .inr (.inr ⟨b, rfl, hown b h⟩))
      refine ⟨rfl, Left.of a1 (K1.out.trans a2 (fun _ h => h) (fun j h => h.imp id And.left)) (by simp [elems]) (by simp [nats]) (fun j hj => ?_)⟩
      have h1 := K1.out.size
      rcases hj with (h | ⟨h, _⟩) | ⟨h, _⟩
      · exact .inl h
      · exact .inr h
      · exact .inr (Nat.le_trans h1 h)
  · refine value_ (by rfl) rfl (v := .slice (some ⟨W.drew.heap.size, 0, none⟩) 1 1) (w1 := W.drew.alloc (.cells #[.int .i64 lev] 3)) (by go_simp; first | done | rfl) ?_
    have RO := hid (Row.one W.drew 3 (.int .i64 lev))
    have BO := hid ((HB0.out).alloc (HB0.out).size (.cells #[.int .i64 lev] 3))
    refine hK.out _ _ (HB.out _ BO.out) (fun hHeld => ?_)
    refine norm_ (a' := ?_) ?_ ?_
    rotate_left
    · simp only [Act.put, List.setIfInBounds_toArray, List.set_cons_zero, List.set_cons_succ]
      rfl
    refine one_ (i := 1) (N := some 17) #[true, true, true, true, true, true, false, true, true, true, true, true, false, false, false, false] rfl rfl (by kernel_rfl) (by decide) (fun K hK => ?_)
    refine value_ (by rfl) rfl (v := .slice (some ⟨(W.drew.alloc (.cells #[.int .i64 lev] 3)).heap.size, 0, none⟩) 0 0) (w1 := (W.drew.alloc (.cells #[.int .i64 lev] 3)).alloc (.cells #[] 3)) (by go_simp; first | done | rfl) ?_
    have FZ := hid (Fresh.zero (w0 := W) (w := (W.drew.alloc (.cells #[.int .i64 lev] 3))) 3 BO.out)
    refine hK.out _ _ (HB.out _ FZ.out.below) (fun hHeld => ?_)
    refine norm_ (a' := ?_) ?_ ?_
    rotate_left
    · simp only [Act.put, List.setIfInBounds_toArray, List.set_cons_zero, List.set_cons_succ]
      rfl
    refine one_ (i := 6) (N := some 22) #[true, true, true, true, true, true, true, true, true, true, true, true, false, false, false, false] rfl rfl (by kernel_rfl) (by decide) (fun K hK => ?_)
    have RO' := RO
    have RO := hid (RO'.out.alloc (.cells #[] 3))
    refine TS.step_int _ (by rfl) (N := some 22) (by rfl) _ _ (by rfl) _ va [] (nats ats) (by rfl) (by rfl) FZ.out.row (hR.out.keep (Keep.ofBelow (F := fun _ => False) FZ.out.below) (fun _ _ h => h)) (by intro u hu; obtain ⟨y, _, rfl⟩ := List.mem_map.1 hu; rfl) (by have := HA.out; simp; omega) ?_
    intro v22 V22 hr hk hat
    have F22 := hid (FZ.out.app hr hk hat)
    have RO'' := RO
    have RO := hid (RO''.out.keep hk (fun j hj e => by simp [Value.ownBlock] at hj e; omega))
    obtain ⟨A22, c22, rfl, _, _⟩ := hr.shape
    clear hr hk hat
    have hl : ([] ++ nats ats).length = ats.length := by simp
    rw [hl, List.nil_append] at F22
    try rw [hl]
    clear hl
    refine hK.out _ _ (HB.out _ F22.out.below) (fun hHeld => ?_)
    refine norm_ (a' := ?_) ?_ ?_
    rotate_left
    · simp only [Act.put, List.setIfInBounds_toArray, List.set_cons_zero, List.set_cons_succ]
      rfl
    refine one_ (i := 12) (N := some 28) #[true, true, true, true, true, true, true, true, true, true, true, true, true, false, false, false] rfl rfl (by kernel_rfl) (by decide) (fun K hK => ?_)
    refine TS.step_int _ (by rfl) (N := some 28) (by rfl) _ _ (by rfl) _ _ (nats ats) [.int .i64 lev] (by rfl) (by rfl) F22.out.row RO.out (by simp [Value.oneCell']) (by have := HA.out; simp; omega) ?_
    intro v28 V28 hr hk hat
    have F28 := hid (F22.out.app hr hk hat)
    obtain ⟨A28, c28, rfl, _, _⟩ := hr.shape
    clear hr hk hat
    have hl : (nats ats ++ [Value.int .i64 (lev : Nat)]).length = ats.length + 1 := by simp
    rw [hl] at F28
    try rw [hl]
    clear hl
    refine hK.out _ _ (HB.out _ F28.out.below) (fun hHeld => ?_)
    refine norm_ (a' := ?_) ?_ ?_
    rotate_left
    · simp only [Act.put, List.setIfInBounds_toArray, List.set_cons_zero, List.set_cons_succ]
      rfl
    have hf := hHeld.2.2
    have hc1 := hHeld.1
    refine take_ (i := 13) (N := some 29) (v := ?_) (a' := ?_) #[true, true, true, true, true, true, true, true, true, true, true, true, true, true, false, false] rfl rfl (by kernel_rfl) (fun _ _ _ h => h) (Or.inl ⟨by rfl, ?_⟩) hHeld ?_ ?_   -- nilCheck (%16)
    rotate_left
    · rintro w' ⟨s0, s1, s2⟩
      go_simp
      with_reducible rfl
    rotate_left
    · simp only [Act.put, List.setIfInBounds_toArray, List.set_cons_zero, List.set_cons_succ]
      rfl
    refine take_ (i := 14) (N := some 30) (v := ?_) (a' := ?_) #[true, true, true, true, true, true, true, true, true, true, true, true, true, true, true, false] rfl rfl (by kernel_rfl) (fun _ _ _ h => h) (Or.inl ⟨by rfl, ?_⟩) hHeld ?_ ?_   -- fieldAddr 30 (%29) 1
    rotate_left
    · rintro w' ⟨s0, s1, s2⟩
      go_simp
      with_reducible rfl
    rotate_left
    · simp only [Act.put, List.setIfInBounds_toArray, List.set_cons_zero, List.set_cons_succ]
      rfl
    refine last_ (i := 15) (N := none) #[true, true, true, true, true, true, true, true, true, true, true, true, true, true, true, true] rfl rfl (by kernel_rfl) (by decide) (fun K hK => ?_)
    refine skip_ (by rfl) rfl (w1 := V28.setCell ⟨t, 1, none⟩ (.slice A28 (ats.length + 1) c28)) (by go_simp; first | done | rfl) ?_
    refine hK.out _ _ ?_
    refine done_ (by kernel_rfl) ?_
    try simp only [Exit.inBlock, Exit.then]
    refine bodyPost_end (results_none rfl _ _ _) rfl ?_
    have hown : ∀ j, (Value.slice A28 (ats.length + 1) c28).ownBlock = some j → W.heap.size ≤ j := F28.out.own
    obtain ⟨a1, a2⟩ := O1.out.turn 1 _ 3 _ _ va _ rfl rfl (Keep.ofBelow F28.out.below) F28.out.row (by
      cases h : (Value.slice A28 (ats.length + 1) c28).ownBlock with
      | none => exact .inl rfl
      | some b => exact .inr (.inr ⟨b, rfl, hown b h⟩))
    refine ⟨rfl, Left.of a1 (K1.out.trans a2 (fun _ h => h) (fun j h => h.imp id And.left)) (by simp [elems]) (by simp [nats]) (fun j hj => ?_)⟩
    have h1 := K1.out.size
    rcases hj with (h | ⟨h, _⟩) | ⟨h, _⟩
    · exact .inl h
    · exact .inr h
    · exact .inr (Nat.le_trans h1 h)

theorem Back_none (w : World) (t : Nat) (row : List ByteArray) (ats : List Nat) (lev : Nat) (F : Nat → Prop) (level : Int) (h : Rf w t row ats lev F) (hlv : level < 0 ∨ (lev : Int) ≤ level) :
    Calls Try.prog 14 #[ptr t, .int .i64 level] w fun e w' => e = .returned (.slice none 0 0) ∧ Below w.heap.size w w' := by
  obtain ⟨vr, va, h⟩ := h
  have hc := h.cell 2 _ rfl
  clear h
  by_cases h0 : level < 0
  · clear hlv
    go_enter Try.func14, Try.ntmps14
    go_wp2_with fail
    go_ret
    exact ⟨rfl, Below.refl _ _⟩
  · have h1 : level ≥ (lev : Int) := by omega
    clear hlv
    go_enter Try.func14, Try.ntmps14
    go_wp2_with fail
    go_ret
    exact ⟨rfl, Below.refl _ _⟩
/-- The loop of Back: k have gone. -/
structure BackAt (w : World) (t : Nat) (row : List ByteArray) (ats : List Nat) (lev L : Nat) (F : Nat → Prop) (A A' : Option Addr) (c c' : Nat) (k : Nat) (v : Value) (wr : World) : Prop where
  ob : Ob 30 wr t [.slice A (L - k) c, .slice A' (L - k) c', .int .i64 lev] [(9, elems (row.take (L - k))), (3, nats (ats.take (L - k)))] F
  keep : Keep F w wr
  went : Row wr 9 v (elems (row.reverse.take k))
  own : ∀ j, v.ownBlock = some j → w.heap.size ≤ j
  old : ∀ j, F j → j < w.heap.size
theorem BackAt.below {w wr W : World} {t : Nat} {row : List ByteArray} {ats : List Nat} {lev L : Nat} {F : Nat → Prop} {A A' : Option Addr} {c c' k : Nat} {v : Value} (h : BackAt w t row ats lev L F A A' c c' k v wr) (hb : Below wr.heap.size wr W) : BackAt w t row ats lev L F A A' c c' k v W :=
  ⟨h.ob.below hb, h.keep.trans (Keep.ofBelow (F := F) hb) (fun _ h => h) (fun _ h => .inl h), h.went.keep (Keep.ofBelow (F := fun _ => False) hb) (fun _ _ h => h), h.own, h.old⟩
theorem BackAt.drewN {w wr : World} {t : Nat} {row : List ByteArray} {ats : List Nat} {lev L : Nat} {F : Nat → Prop} {A A' : Option Addr} {c c' k : Nat} {v : Value} (h : BackAt w t row ats lev L F A A' c c' k v wr) (m : Nat) : BackAt w t row ats lev L F A A' c c' k v (wr.drewN m) := h.below (pw_below_drewN (Below.refl _ _) m)
set_option maxRecDepth 100000 in
set_option maxHeartbeats 3200000 in
theorem Back_calls (w : World) (t : Nat) (row : List ByteArray) (ats : List Nat) (lev : Nat) (F : Nat → Prop) (level n : Nat) (h : Rf w t row ats lev F) (hlen : ats.length = row.length) (hlv : level < lev) (hn : n ≤ row.length)
    (hlo : ∀ i, i < n → ats.getD i 0 ≤ level) (hhi : ∀ i, n ≤ i → i < row.length → level < ats.getD i 0) (hrl : row.length < 1000000) :
    Calls Try.prog 14 #[ptr t, .int .i64 level] w fun e w' => ∃ v, e = .returned v ∧ Row w' 9 v (elems (row.drop n).reverse) ∧ (∀ j, v.ownBlock = some j → w.heap.size ≤ j) ∧ Rf w' t (row.take n) (ats.take n) level F ∧ Keep F w w' := by
  obtain ⟨vr, va, h⟩ := h
  obtain ⟨A, c, hvr, hcr, _⟩ := (h.row 0 _ _ vr rfl rfl).shape
  obtain ⟨A', c', hva, hca, _⟩ := (h.row 1 _ _ va rfl rfl).shape
  obtain ⟨L, hL⟩ : ∃ L, L = row.length := ⟨_, rfl⟩
  rw [List.length_map, ← hL] at hvr hcr
  rw [List.length_map, hlen, ← hL] at hva hca
  subst hvr hva
  have hc2 := h.cell 2 _ rfl
  have h0 : ¬ ((level : Int) < 0) := by omega
  have h1 : ¬ ((level : Int) ≥ (lev : Int)) := by omega
  rw [← hL] at hn hhi hrl
  have hlenL : ats.length = L := by omega
  have START : Hid (BackAt w t row ats lev L F A A' c c' 0 (.slice none 0 0) w) := hid ⟨by rw [Nat.sub_zero, List.take_of_length_le (by omega), List.take_of_length_le (by omega)]; exact h, Keep.refl _ _, .nil _ _, (fun j hj => by cases hj), h.old⟩
  have HLO := hid hlo
  have HHI := hid hhi
  have HL := hid hL
  have HLA := hid hlenL
  have htl := blk_lt h.blk
  have HF := hid h.fp
  clear h hlo hhi hL hlen hlenL hlv
  go_enter Try.func14, Try.ntmps14
  go_wp2_with fail
  go_loopg [5] (L - n) (fun left v5 wr => ∃ k : Nat, k + left = L - n ∧ (∃ A5 c5, v5 = .slice A5 k c5) ∧ Hid (BackAt w t row ats lev L F A A' c c' k v5 wr))
  case atStart => exact ⟨0, by omega, ⟨none, 0, rfl⟩, START⟩
  case round =>
    obtain ⟨k, hk, ⟨A5, c5, rfl⟩, U⟩ := hrel
    have hc0' := U.out.ob.cell 0 _ rfl
    have hc1' := U.out.ob.cell 1 _ rfl
    have hc2' := U.out.ob.cell 2 _ rfl
    have hf0 := U.out.ob.frozen 0
    have hf1 := U.out.ob.frozen 1
    have hf2 := U.out.ob.frozen 2
    cases gk with
    | zero =>
      have hkn : L - k = n := by omega
      rw [hkn] at hc0' hc1'
      have hkL : k = L - n := by omega
      have FIN : Hid (∀ m, Row ((wr.drewN m).setCell ⟨t, 2, none⟩ (.int .i64 level)) 9 (.slice A5 k c5) (elems (row.drop n).reverse) ∧ (∀ j, (Value.slice A5 k c5).ownBlock = some j → w.heap.size ≤ j) ∧ Rf ((wr.drewN m).setCell ⟨t, 2, none⟩ (.int .i64 level)) t (row.take n) (ats.take n) level F ∧ Keep F w ((wr.drewN m).setCell ⟨t, 2, none⟩ (.int .i64 level))) := hid (fun m => by
        have hrev : row.reverse.take k = (row.drop n).reverse := by rw [List.reverse_drop, ← HL.out, hkL]
        have V := U.out.drewN m
        have TOB := V.ob.other 2 (by simp) (by simp) (.int .i64 level)
        rw [hkn] at TOB
        refine ⟨?_, V.own, ⟨_, _, TOB.1⟩, V.keep.trans TOB.2 (fun _ h => h) (fun _ h => .inl h)⟩
        rw [← hrev]
        exact V.went.keep TOB.2 (fun j hj hF => by have h1 := V.own j hj; have h2 := V.old j hF; omega))
      have HKN := hid hkn
      have HKL := hid hkL
      clear hkn hkL
      by_cases hn0 : n = 0
      · subst hn0
        go_wp2_with fail
        repeat (go_quiet (fail); try go_wp2)
        go_ret
        exact ⟨_, rfl, FIN.out _⟩
      · obtain ⟨q, hm⟩ : ∃ q, n = q + 1 := ⟨n - 1, by omega⟩
        obtain ⟨g, off, cap, hv, hcap, _, hg, hcells, _⟩ := (U.out.ob.row 1 _ _ _ rfl rfl).cells (by have := HKN.out; have := HLA.out; simp; omega)
        injection hv with hA hA2 hcc
        subst hA hcc
        have hx := hcells q (by have := HKN.out; have := HLA.out; simp; omega)
        obtain ⟨z, hz⟩ : ∃ z, z = ats.getD q 0 := ⟨_, rfl⟩
        rw [show (nats (ats.take (L - k)))[q]? = some (.int .i64 (z : Nat)) from by
          rw [HKN.out, hz, List.getD_eq_getElem?_getD]
          have h1 : q < ats.length := by have := HLA.out; omega
          have h2 : q < n := by omega
          simp [h1, h2]] at hx
        have hzl : ¬ ((z : Int) > (level : Int)) := by have := HLO.out q (by omega); omega
        have em : (n : Int) - 1 = (q : Int) := by omega
        have hqI : (q : Int) < (n : Int) := by omega
        have hmp : decide (0 < n) = true := by simp; omega
        have hzd : decide (level < z) = false := by simp; omega
        have eqw : IntKind.i64.wrap (q : Int) = (q : Int) := by simp [IntKind.wrap, IntKind.signed, IntKind.bits]; omega
        have HM := hid hm
        clear hcells hg hcap hz hA2 hm
        go_wp2_with fail
        repeat (go_quiet (fail); try go_wp2)
        go_ret
        exact ⟨_, rfl, FIN.out _⟩
    | succ left =>
      obtain ⟨q, hq⟩ : ∃ q, q + 1 = L - k := ⟨L - k - 1, by omega⟩
      have HQ := hid hq
      have hqL : q < L := by omega
      have hqr : q < row.length := by rw [← HL.out]; exact hqL
      have hqa : q < ats.length := by rw [HLA.out]; exact hqL
      rw [← hq] at hc0' hc1'
      obtain ⟨g, off, cap, hv, hcap, _, hg, hcells, _⟩ := (U.out.ob.row 1 _ _ _ rfl rfl).cells (by simp; omega)
      injection hv with hA hA2 hcc
      subst hA hcc
      have hx := hcells q (by simp; omega)
      obtain ⟨z, hz⟩ : ∃ z, z = ats.getD q 0 := ⟨_, rfl⟩
      rw [show (nats (ats.take (L - k)))[q]? = some (.int .i64 (z : Nat)) from by
        rw [← hq, hz, List.getD_eq_getElem?_getD]
        simp [hqa]] at hx
      obtain ⟨gr, offr, capr, hv', hcapr, _, hgr, hcellsr, _⟩ := (U.out.ob.row 0 _ _ _ rfl rfl).cells (by simp; omega)
      injection hv' with hA' hA2' hcc'
      subst hA' hcc'
      have hxr := hcellsr q (by simp; omega)
      rw [show (elems (row.take (L - k)))[q]? = some (.string row[q]) from by
        rw [← hq]
        simp [elems, hqr]] at hxr
      have hzl : (z : Int) > (level : Int) := by have := HHI.out q (by omega) hqL; omega
      obtain ⟨m, hm⟩ : ∃ m, m = q + 1 := ⟨_, rfl⟩
      have em : (m : Int) - 1 = (q : Int) := by omega
      have hqI : (q : Int) < (m : Int) := by omega
      have hmp : decide (0 < m) = true := by simp; omega
      have hzd : decide (level < z) = true := by simp; omega
      have eqw : IntKind.i64.wrap (q : Int) = (q : Int) := by simp [IntKind.wrap, IntKind.signed, IntKind.bits]; omega
      have HM := hid hm
      rw [← hm] at hc0' hc1'
      clear hm
      clear hcells hg hcap hz hA2 hcellsr hgr hcapr hA2' hq
      go_wp2_with fail
      go_quiet (fail)
      go_wp2_with fail

      obtain ⟨W, hW⟩ : ∃ W, W = wr.drewN nq := ⟨_, rfl⟩
      have V := hid (U.out.drewN nq)
      rw [← hW] at V ⊢
      have hLk : L - k = m := by have := HQ.out; have := HM.out; omega
      have hc0W := V.out.ob.cell 0 _ rfl
      rw [hLk] at hc0W
      have hxW : W.cell? ⟨gr, offr + q, none⟩ = some (.string row[q]) := by rw [hW]; exact hxr
      have hgrw : gr < w.heap.size := V.out.old _ (V.out.ob.fr 0 _ rfl gr rfl).1
      have hWW : w.heap.size ≤ W.heap.size := V.out.keep.size
      have HS := hid (fun (V : World) (h : Keep (fun j => w.heap.size ≤ j) W V) => (show V.cell? ⟨t, 0, none⟩ = some (.slice (some ⟨gr, offr, none⟩) m c) ∧ V.cell? ⟨gr, offr + q, none⟩ = some (.string row[q]) from
        ⟨(keep_cell (p := ⟨t, 0, none⟩) h (show t < W.heap.size by omega) (show ¬ w.heap.size ≤ t by omega)).trans hc0W, (keep_cell (p := ⟨gr, offr + q, none⟩) h (show gr < W.heap.size by omega) (show ¬ w.heap.size ≤ gr by omega)).trans hxW⟩))
      have HK0 : Hid (Keep (fun j => w.heap.size ≤ j) W W.drew) := hid ⟨rfl, rfl, rfl, Nat.le_refl _, fun _ _ _ => rfl⟩
      have HWW := hid hWW
      have hqc : q ≤ c := by omega
      have hqc' : q ≤ c' := by omega
      have HLK := hid hLk
      have HRV : Hid (elems (row.reverse.take (k + 1)) = elems (row.reverse.take k) ++ [.string row[q]]) := hid (by
        rw [List.take_succ_eq_append_getElem (by have := HL.out; simp; omega), List.getElem_reverse]
        have : row.length - 1 - k = q := by have := HL.out; have := HQ.out; omega
        simp [elems, this])
      have hkb : k + 1 < 1000001 := by omega
      have hlk : (elems (row.reverse.take k)).length = k := by have := HL.out; simp; omega
      have HLN := hid hlk
      clear hW hgrw hLk hx hxr hc0' hc1' hc2' hf0 hf1 hf2 hlk hc0W hxW hWW
      refine start_ (n := 16) (S := (fun w' => w'.cell? ⟨t, 0, none⟩ = some (.slice (some ⟨gr, offr, none⟩) m c) ∧ w'.cell? ⟨gr, offr + q, none⟩ = some (.string row[q]))) (ds := []) #[false, false, false, false, false, false, false, false, false, false, false, false, false, false, false, false] (by kernel_rfl) rfl rfl (HS.out _ HK0.out) (fun hHeld => ?_)
      refine take_ (i := 0) (N := some 38) (v := ?_) (a' := ?_) #[true, false, false, false, false, false, false, false, false, false, false, false, false, false, false, false] rfl rfl (by kernel_rfl) (fun _ _ _ h => h) (Or.inl ⟨by rfl, ?_⟩) hHeld ?_ ?_   -- move (%5)
      rotate_left
      · rintro w' ⟨s0, s1⟩
        go_simp
        with_reducible rfl
      rotate_left
      · simp only [Act.put, List.setIfInBounds_toArray, List.set_cons_zero, List.set_cons_succ]
        rfl
      refine take_ (i := 1) (N := some 39) (v := ?_) (a' := ?_) #[true, true, false, false, false, false, false, false, false, false, false, false, false, false, false, false] rfl rfl (by kernel_rfl) (fun _ _ _ h => h) (Or.inl ⟨by rfl, ?_⟩) hHeld ?_ ?_   -- move (%0)
      rotate_left
      · rintro w' ⟨s0, s1⟩
        go_simp
        with_reducible rfl
      rotate_left
      · simp only [Act.put, List.setIfInBounds_toArray, List.set_cons_zero, List.set_cons_succ]
        rfl
      refine take_ (i := 2) (N := some 40) (v := ?_) (a' := ?_) #[true, true, true, false, false, false, false, false, false, false, false, false, false, false, false, false] rfl rfl (by kernel_rfl) (fun _ _ _ h => h) (Or.inl ⟨by rfl, ?_⟩) hHeld ?_ ?_   -- nilCheck (%39)
      rotate_left
      · rintro w' ⟨s0, s1⟩
        go_simp
        with_reducible rfl
      rotate_left
      · simp only [Act.put, List.setIfInBounds_toArray, List.set_cons_zero, List.set_cons_succ]
        rfl
      refine take_ (i := 3) (N := some 41) (v := ?_) (a' := ?_) #[true, true, true, true, false, false, false, false, false, false, false, false, false, false, false, false] rfl rfl (by kernel_rfl) (fun _ _ _ h => h) (Or.inl ⟨by rfl, ?_⟩) hHeld ?_ ?_   -- fieldAddr 30 (%40) 0
      rotate_left
      · rintro w' ⟨s0, s1⟩
        go_simp
        with_reducible rfl
      rotate_left
      · simp only [Act.put, List.setIfInBounds_toArray, List.set_cons_zero, List.set_cons_succ]
        rfl
      refine take_ (i := 4) (N := some 42) (v := ?_) (a' := ?_) #[true, true, true, true, true, false, false, false, false, false, false, false, false, false, false, false] rfl rfl (by kernel_rfl) (fun _ _ _ h => h) (Or.inl ⟨by rfl, ?_⟩) hHeld ?_ ?_   -- load 24 (%41)
      rotate_left
      · rintro w' ⟨s0, s1⟩
        go_simp
        with_reducible rfl
      rotate_left
      · simp only [Act.put, List.setIfInBounds_toArray, List.set_cons_zero, List.set_cons_succ]
        rfl
      refine take_ (i := 5) (N := some 43) (v := ?_) (a' := ?_) #[true, true, true, true, true, true, false, false, false, false, false, false, false, false, false, false] rfl rfl (by kernel_rfl) (fun _ _ _ h => h) (Or.inl ⟨by rfl, ?_⟩) hHeld ?_ ?_   -- move (%0)
      rotate_left
      · rintro w' ⟨s0, s1⟩
        go_simp
        with_reducible rfl
      rotate_left
      · simp only [Act.put, List.setIfInBounds_toArray, List.set_cons_zero, List.set_cons_succ]
        rfl
      refine take_ (i := 6) (N := some 44) (v := ?_) (a' := ?_) #[true, true, true, true, true, true, true, false, false, false, false, false, false, false, false, false] rfl rfl (by kernel_rfl) (fun _ _ _ h => h) (Or.inl ⟨by rfl, ?_⟩) hHeld ?_ ?_   -- nilCheck (%43)
      rotate_left
      · rintro w' ⟨s0, s1⟩
        go_simp
        with_reducible rfl
      rotate_left
      · simp only [Act.put, List.setIfInBounds_toArray, List.set_cons_zero, List.set_cons_succ]
        rfl
      refine take_ (i := 7) (N := some 45) (v := ?_) (a' := ?_) #[true, true, true, true, true, true, true, true, false, false, false, false, false, false, false, false] rfl rfl (by kernel_rfl) (fun _ _ _ h => h) (Or.inl ⟨by rfl, ?_⟩) hHeld ?_ ?_   -- fieldAddr 30 (%44) 0
      rotate_left
      · rintro w' ⟨s0, s1⟩
        go_simp
        with_reducible rfl
      rotate_left
      · simp only [Act.put, List.setIfInBounds_toArray, List.set_cons_zero, List.set_cons_succ]
        rfl
      refine take_ (i := 8) (N := some 46) (v := ?_) (a' := ?_) #[true, true, true, true, true, true, true, true, true, false, false, false, false, false, false, false] rfl rfl (by kernel_rfl) (fun _ _ _ h => h) (Or.inl ⟨by rfl, ?_⟩) hHeld ?_ ?_   -- load 24 (%45)
      rotate_left
      · rintro w' ⟨s0, s1⟩
        go_simp
        with_reducible rfl
      rotate_left
      · simp only [Act.put, List.setIfInBounds_toArray, List.set_cons_zero, List.set_cons_succ]
        rfl
      refine take_ (i := 9) (N := some 47) (v := ?_) (a' := ?_) #[true, true, true, true, true, true, true, true, true, true, false, false, false, false, false, false] rfl rfl (by kernel_rfl) (fun _ _ _ h => h) (Or.inl ⟨by rfl, ?_⟩) hHeld ?_ ?_   -- call { callee := builtin len, args := #[%46], argTypes := #[
      rotate_left
      · rintro w' ⟨s0, s1⟩
        go_simp
        with_reducible rfl
      rotate_left
      · simp only [Act.put, List.setIfInBounds_toArray, List.set_cons_zero, List.set_cons_succ]
        rfl
      refine take_ (i := 10) (N := some 48) (v := ?_) (a' := ?_) #[true, true, true, true, true, true, true, true, true, true, true, false, false, false, false, false] rfl rfl (by kernel_rfl) (fun _ _ _ h => h) (Or.inl ⟨by rfl, ?_⟩) hHeld ?_ ?_   -- binOp sub 3 (%47) (const (int i64 1)) 3
      rotate_left
      · rintro w' ⟨s0, s1⟩
        go_simp
        with_reducible rfl
      rotate_left
      · simp only [Act.put, List.setIfInBounds_toArray, List.set_cons_zero, List.set_cons_succ]
        rfl
      refine take_ (i := 11) (N := some 49) (v := ?_) (a' := ?_) #[true, true, true, true, true, true, true, true, true, true, true, true, false, false, false, false] rfl rfl (by kernel_rfl) (fun _ _ _ h => h) (Or.inl ⟨by rfl, ?_⟩) hHeld ?_ ?_   -- indexAddr 24 (%42) (%48)
      rotate_left
      · rintro w' ⟨s0, s1⟩
        go_simp
        with_reducible rfl
      rotate_left
      · simp only [Act.put, List.setIfInBounds_toArray, List.set_cons_zero, List.set_cons_succ]
        rfl
      refine take_ (i := 12) (N := some 50) (v := ?_) (a' := ?_) #[true, true, true, true, true, true, true, true, true, true, true, true, true, false, false, false] rfl rfl (by kernel_rfl) (fun _ _ _ h => h) (Or.inl ⟨by rfl, ?_⟩) hHeld ?_ ?_   -- load 9 (%49)
      rotate_left
      · rintro w' ⟨s0, s1⟩
        go_simp
        with_reducible rfl
      rotate_left
      · simp only [Act.put, List.setIfInBounds_toArray, List.set_cons_zero, List.set_cons_succ]
        rfl
      refine one_ (i := 13) (N := some 51) #[true, true, true, true, true, true, true, true, true, true, true, true, true, true, false, false] rfl rfl (by kernel_rfl) (by decide) (fun K hK => ?_)
      refine value_ (by rfl) rfl (v := .slice (some ⟨W.heap.size, 0, none⟩) 1 1) (w1 := W.drew.alloc (.cells #[.string row[q]] 9)) (by go_simp; first | done | rfl) ?_
      have HK1 : Hid (Keep (fun j => w.heap.size ≤ j) W (W.drew.alloc (.cells #[.string row[q]] 9))) := hid ⟨rfl, rfl, rfl, by simp, fun j hj _ => Go.heap_alloc_old W.drew _ hj⟩
      refine hK.out _ _ (HS.out _ HK1.out) (fun hHeld => ?_)
      refine norm_ (a' := ?_) ?_ ?_
      rotate_left
      · simp only [Act.put, List.setIfInBounds_toArray, List.set_cons_zero, List.set_cons_succ]
        rfl
      refine one_ (i := 14) (N := some 52) #[true, true, true, true, true, true, true, true, true, true, true, true, true, true, true, false] rfl rfl (by kernel_rfl) (by decide) (fun K hK => ?_)
      refine step_str _ (by rfl) (N := some 52) (by rfl) _ _ (by rfl) _ _ (elems (row.reverse.take k)) [.string row[q]] (by rfl) (by rfl) (V.out.went.drew.alloc _) (Row.one _ _ _) (by simp [Value.oneCell']) (by rw [HLN.out]; simp; omega) ?_
      intro v5 V5 hr hk2 hat
      have hln : (elems (row.reverse.take k) ++ [Value.string row[q]]).length = k + 1 := by rw [List.length_append, HLN.out]; rfl
      obtain ⟨A3, c3, rfl, _, _⟩ := hr.shape
      have HK5 : Hid (Keep (fun j => w.heap.size ≤ j) W V5) := hid (HK1.out.trans hk2 (fun _ h => h) (fun j h => .inl (V.out.own j h)))
      have HOW : Hid (∀ j, (Value.slice A3 (elems (row.reverse.take k) ++ [Value.string row[q]]).length c3).ownBlock = some j → w.heap.size ≤ j) := hid (fun j hj => by
        rcases hat with e | e
        · exact V.out.own j (e ▸ hj)
        · rw [e] at hj; cases hj; have := HWW.out; simp; omega)
      rw [hln] at hr HOW
      try rw [hln]
      have HR5 := hid hr
      clear hr hk2 hat hln
      refine hK.out _ _ (HS.out _ HK5.out) (fun hHeld => ?_)
      refine norm_ (a' := ?_) ?_ ?_
      rotate_left
      · simp only [Act.put, List.setIfInBounds_toArray, List.set_cons_zero, List.set_cons_succ]
        rfl
      refine take_ (i := 15) (N := some 5) (v := ?_) (a' := ?_) #[true, true, true, true, true, true, true, true, true, true, true, true, true, true, true, true] rfl rfl (by kernel_rfl) (fun _ _ _ h => h) (Or.inl ⟨by rfl, ?_⟩) hHeld ?_ ?_   -- assign (%52)
      rotate_left
      · rintro w' ⟨s0, s1⟩
        go_simp
        with_reducible rfl
      rotate_left
      · simp only [Act.put, List.setIfInBounds_toArray, List.set_cons_zero, List.set_cons_succ]
        rfl
      refine done_ (by kernel_rfl) ?_
      have HO5 := hid (V.out.ob.keep HK5.out (fun j hj h => by have := V.out.old j hj; omega))
      rw [HLK.out] at HO5
      have T0 := HO5.out.drew.turn 1 _ 3 _ ((nats (ats.take m)).take q) _ (.slice (some ⟨g, off, none⟩) q c') rfl rfl (Keep.refl _ _) ((HO5.out.drew.row 1 _ _ _ rfl rfl).front q (by have := HM.out; have := HLA.out; simp; omega)) (.inr (.inl rfl))
      have T1 := T0.1.drew.turn 0 _ 9 _ ((elems (row.take m)).take q) _ (.slice (some ⟨gr, offr, none⟩) q c) rfl rfl (Keep.refl _ _) ((T0.1.drew.row 0 _ _ _ rfl rfl).front q (by have := HM.out; have := HL.out; simp; omega)) (.inr (.inl rfl))
      have HT0 := hid T0
      have HT1 := hid T1
      have hS6 := (show V5.drew.cell? ⟨t, 0, none⟩ = some (.slice (some ⟨gr, offr, none⟩) m c) ∧ V5.drew.cell? ⟨t, 1, none⟩ = some (.slice (some ⟨g, off, none⟩) m c') ∧ V5.drew.frozen? ⟨t, 1, none⟩ = false from ⟨HO5.out.drew.cell 0 _ rfl, HO5.out.drew.cell 1 _ rfl, HO5.out.drew.frozen 1⟩)
      have hS7 := (show ((V5.drew.setCell ⟨t, 1, none⟩ (.slice (some ⟨g, off, none⟩) q c')).drew).cell? ⟨t, 0, none⟩ = some (.slice (some ⟨gr, offr, none⟩) m c) ∧ ((V5.drew.setCell ⟨t, 1, none⟩ (.slice (some ⟨g, off, none⟩) q c')).drew).frozen? ⟨t, 0, none⟩ = false from ⟨T0.1.drew.cell 0 _ rfl, T0.1.drew.frozen 0⟩)
      have HS6 := hid hS6
      have HS7 := hid hS7
      clear T0 T1 hS6 hS7
      go_wp2_with fail
      refine start_ (n := 15) (S := (fun w' => w'.cell? ⟨t, 0, none⟩ = some (.slice (some ⟨gr, offr, none⟩) m c) ∧ w'.cell? ⟨t, 1, none⟩ = some (.slice (some ⟨g, off, none⟩) m c') ∧ w'.frozen? ⟨t, 1, none⟩ = false)) (ds := [14]) #[false, false, false, false, false, false, false, false, false, false, false, false, false, false, false] (by kernel_rfl) rfl rfl HS6.out (fun hHeld => ?_)
      refine take_ (i := 0) (N := some 53) (v := ?_) (a' := ?_) #[true, false, false, false, false, false, false, false, false, false, false, false, false, false, false] rfl rfl (by kernel_rfl) (fun _ _ _ h => h) (Or.inl ⟨by rfl, ?_⟩) hHeld ?_ ?_   -- move (%0)
      rotate_left
      · rintro w' ⟨s0, s1, s2⟩
        go_simp
        with_reducible rfl
      rotate_left
      · simp only [Act.put, List.setIfInBounds_toArray, List.set_cons_zero, List.set_cons_succ]
        rfl
      refine take_ (i := 1) (N := some 54) (v := ?_) (a' := ?_) #[true, true, false, false, false, false, false, false, false, false, false, false, false, false, false] rfl rfl (by kernel_rfl) (fun _ _ _ h => h) (Or.inl ⟨by rfl, ?_⟩) hHeld ?_ ?_   -- move (%0)
      rotate_left
      · rintro w' ⟨s0, s1, s2⟩
        go_simp
        with_reducible rfl
      rotate_left
      · simp only [Act.put, List.setIfInBounds_toArray, List.set_cons_zero, List.set_cons_succ]
        rfl
      refine take_ (i := 2) (N := some 55) (v := ?_) (a' := ?_) #[true, true, true, false, false, false, false, false, false, false, false, false, false, false, false] rfl rfl (by kernel_rfl) (fun _ _ _ h => h) (Or.inl ⟨by rfl, ?_⟩) hHeld ?_ ?_   -- nilCheck (%54)
      rotate_left
      · rintro w' ⟨s0, s1, s2⟩
        go_simp
        with_reducible rfl
      rotate_left
      · simp only [Act.put, List.setIfInBounds_toArray, List.set_cons_zero, List.set_cons_succ]
        rfl
      refine take_ (i := 3) (N := some 56) (v := ?_) (a' := ?_) #[true, true, true, true, false, false, false, false, false, false, false, false, false, false, false] rfl rfl (by kernel_rfl) (fun _ _ _ h => h) (Or.inl ⟨by rfl, ?_⟩) hHeld ?_ ?_   -- fieldAddr 30 (%55) 1
      rotate_left
      · rintro w' ⟨s0, s1, s2⟩
        go_simp
        with_reducible rfl
      rotate_left
      · simp only [Act.put, List.setIfInBounds_toArray, List.set_cons_zero, List.set_cons_succ]
        rfl
      refine take_ (i := 4) (N := some 57) (v := ?_) (a' := ?_) #[true, true, true, true, true, false, false, false, false, false, false, false, false, false, false] rfl rfl (by kernel_rfl) (fun _ _ _ h => h) (Or.inl ⟨by rfl, ?_⟩) hHeld ?_ ?_   -- load 25 (%56)
      rotate_left
      · rintro w' ⟨s0, s1, s2⟩
        go_simp
        with_reducible rfl
      rotate_left
      · simp only [Act.put, List.setIfInBounds_toArray, List.set_cons_zero, List.set_cons_succ]
        rfl
      refine take_ (i := 5) (N := some 58) (v := ?_) (a' := ?_) #[true, true, true, true, true, true, false, false, false, false, false, false, false, false, false] rfl rfl (by kernel_rfl) (fun _ _ _ h => h) (Or.inl ⟨by rfl, ?_⟩) hHeld ?_ ?_   -- move (%0)
      rotate_left
      · rintro w' ⟨s0, s1, s2⟩
        go_simp
        with_reducible rfl
      rotate_left
      · simp only [Act.put, List.setIfInBounds_toArray, List.set_cons_zero, List.set_cons_succ]
        rfl
      refine take_ (i := 6) (N := some 59) (v := ?_) (a' := ?_) #[true, true, true, true, true, true, true, false, false, false, false, false, false, false, false] rfl rfl (by kernel_rfl) (fun _ _ _ h => h) (Or.inl ⟨by rfl, ?_⟩) hHeld ?_ ?_   -- nilCheck (%58)
      rotate_left
      · rintro w' ⟨s0, s1, s2⟩
        go_simp
        with_reducible rfl
      rotate_left
      · simp only [Act.put, List.setIfInBounds_toArray, List.set_cons_zero, List.set_cons_succ]
        rfl
      refine take_ (i := 7) (N := some 60) (v := ?_) (a' := ?_) #[true, true, true, true, true, true, true, true, false, false, false, false, false, false, false] rfl rfl (by kernel_rfl) (fun _ _ _ h => h) (Or.inl ⟨by rfl, ?_⟩) hHeld ?_ ?_   -- fieldAddr 30 (%59) 0
      rotate_left
      · rintro w' ⟨s0, s1, s2⟩
        go_simp
        with_reducible rfl
      rotate_left
      · simp only [Act.put, List.setIfInBounds_toArray, List.set_cons_zero, List.set_cons_succ]
        rfl
      refine take_ (i := 8) (N := some 61) (v := ?_) (a' := ?_) #[true, true, true, true, true, true, true, true, true, false, false, false, false, false, false] rfl rfl (by kernel_rfl) (fun _ _ _ h => h) (Or.inl ⟨by rfl, ?_⟩) hHeld ?_ ?_   -- load 24 (%60)
      rotate_left
      · rintro w' ⟨s0, s1, s2⟩
        go_simp
        with_reducible rfl
      rotate_left
      · simp only [Act.put, List.setIfInBounds_toArray, List.set_cons_zero, List.set_cons_succ]
        rfl
      refine take_ (i := 9) (N := some 62) (v := ?_) (a' := ?_) #[true, true, true, true, true, true, true, true, true, true, false, false, false, false, false] rfl rfl (by kernel_rfl) (fun _ _ _ h => h) (Or.inl ⟨by rfl, ?_⟩) hHeld ?_ ?_   -- call { callee := builtin len, args := #[%61], argTypes := #[
      rotate_left
      · rintro w' ⟨s0, s1, s2⟩
        go_simp
        with_reducible rfl
      rotate_left
      · simp only [Act.put, List.setIfInBounds_toArray, List.set_cons_zero, List.set_cons_succ]
        rfl
      refine take_ (i := 10) (N := some 63) (v := ?_) (a' := ?_) #[true, true, true, true, true, true, true, true, true, true, true, false, false, false, false] rfl rfl (by kernel_rfl) (fun _ _ _ h => h) (Or.inl ⟨by rfl, ?_⟩) hHeld ?_ ?_   -- binOp sub 3 (%62) (const (int i64 1)) 3
      rotate_left
      · rintro w' ⟨s0, s1, s2⟩
        go_simp
        with_reducible rfl
      rotate_left
      · simp only [Act.put, List.setIfInBounds_toArray, List.set_cons_zero, List.set_cons_succ]
        rfl
      refine take_ (i := 11) (N := some 64) (v := ?_) (a' := ?_) #[true, true, true, true, true, true, true, true, true, true, true, true, false, false, false] rfl rfl (by kernel_rfl) (fun _ _ _ h => h) (Or.inl ⟨by rfl, ?_⟩) hHeld ?_ ?_   -- slice 25 (%57) none (some (%63)) none
      rotate_left
      · rintro w' ⟨s0, s1, s2⟩
        go_simp
        with_reducible rfl
      rotate_left
      · simp only [Act.put, List.setIfInBounds_toArray, List.set_cons_zero, List.set_cons_succ]
        rfl
      refine take_ (i := 12) (N := some 65) (v := ?_) (a' := ?_) #[true, true, true, true, true, true, true, true, true, true, true, true, true, false, false] rfl rfl (by kernel_rfl) (fun _ _ _ h => h) (Or.inl ⟨by rfl, ?_⟩) hHeld ?_ ?_   -- nilCheck (%53)
      rotate_left
      · rintro w' ⟨s0, s1, s2⟩
        go_simp
        with_reducible rfl
      rotate_left
      · simp only [Act.put, List.setIfInBounds_toArray, List.set_cons_zero, List.set_cons_succ]
        rfl
      refine take_ (i := 13) (N := some 66) (v := ?_) (a' := ?_) #[true, true, true, true, true, true, true, true, true, true, true, true, true, true, false] rfl rfl (by kernel_rfl) (fun _ _ _ h => h) (Or.inl ⟨by rfl, ?_⟩) hHeld ?_ ?_   -- fieldAddr 30 (%65) 1
      rotate_left
      · rintro w' ⟨s0, s1, s2⟩
        go_simp
        with_reducible rfl
      rotate_left
      · simp only [Act.put, List.setIfInBounds_toArray, List.set_cons_zero, List.set_cons_succ]
        rfl
      refine last_ (i := 14) (N := none) #[true, true, true, true, true, true, true, true, true, true, true, true, true, true, true] rfl rfl (by kernel_rfl) (by decide) (fun K hK => ?_)
      refine skip_ (by rfl) rfl (w1 := V5.drew.setCell ⟨t, 1, none⟩ (.slice (some ⟨g, off, none⟩) q c')) (by have hf := HS6.out.2.2; have hc := HS6.out.2.1; go_simp; first | done | rfl) ?_
      refine hK.out _ _ ?_
      refine done_ (by kernel_rfl) ?_
      go_wp2_with fail
      refine start_ (n := 15) (S := (fun w' => w'.cell? ⟨t, 0, none⟩ = some (.slice (some ⟨gr, offr, none⟩) m c) ∧ w'.frozen? ⟨t, 0, none⟩ = false)) (ds := [14]) #[false, false, false, false, false, false, false, false, false, false, false, false, false, false, false] (by kernel_rfl) rfl rfl HS7.out (fun hHeld => ?_)
      refine take_ (i := 0) (N := some 67) (v := ?_) (a' := ?_) #[true, false, false, false, false, false, false, false, false, false, false, false, false, false, false] rfl rfl (by kernel_rfl) (fun _ _ _ h => h) (Or.inl ⟨by rfl, ?_⟩) hHeld ?_ ?_   -- move (%0)
      rotate_left
      · rintro w' ⟨s0, s1⟩
        go_simp
        with_reducible rfl
      rotate_left
      · simp only [Act.put, List.setIfInBounds_toArray, List.set_cons_zero, List.set_cons_succ]
        rfl
      refine take_ (i := 1) (N := some 68) (v := ?_) (a' := ?_) #[true, true, false, false, false, false, false, false, false, false, false, false, false, false, false] rfl rfl (by kernel_rfl) (fun _ _ _ h => h) (Or.inl ⟨by rfl, ?_⟩) hHeld ?_ ?_   -- move (%0)
      rotate_left
      · rintro w' ⟨s0, s1⟩
        go_simp
        with_reducible rfl
      rotate_left
      · simp only [Act.put, List.setIfInBounds_toArray, List.set_cons_zero, List.set_cons_succ]
        rfl
      refine take_ (i := 2) (N := some 69) (v := ?_) (a' := ?_) #[true, true, true, false, false, false, false, false, false, false, false, false, false, false, false] rfl rfl (by kernel_rfl) (fun _ _ _ h => h) (Or.inl ⟨by rfl, ?_⟩) hHeld ?_ ?_   -- nilCheck (%68)
      rotate_left
      · rintro w' ⟨s0, s1⟩
        go_simp
        with_reducible rfl
      rotate_left
      · simp only [Act.put, List.setIfInBounds_toArray, List.set_cons_zero, List.set_cons_succ]
        rfl
      refine take_ (i := 3) (N := some 70) (v := ?_) (a' := ?_) #[true, true, true, true, false, false, false, false, false, false, false, false, false, false, false] rfl rfl (by kernel_rfl) (fun _ _ _ h => h) (Or.inl ⟨by rfl, ?_⟩) hHeld ?_ ?_   -- fieldAddr 30 (%69) 0
      rotate_left
      · rintro w' ⟨s0, s1⟩
        go_simp
        with_reducible rfl
      rotate_left
      · simp only [Act.put, List.setIfInBounds_toArray, List.set_cons_zero, List.set_cons_succ]
        rfl
      refine take_ (i := 4) (N := some 71) (v := ?_) (a' := ?_) #[true, true, true, true, true, false, false, false, false, false, false, false, false, false, false] rfl rfl (by kernel_rfl) (fun _ _ _ h => h) (Or.inl ⟨by rfl, ?_⟩) hHeld ?_ ?_   -- load 24 (%70)
      rotate_left
      · rintro w' ⟨s0, s1⟩
        go_simp
        with_reducible rfl
      rotate_left
      · simp only [Act.put, List.setIfInBounds_toArray, List.set_cons_zero, List.set_cons_succ]
        rfl
      refine take_ (i := 5) (N := some 72) (v := ?_) (a' := ?_) #[true, true, true, true, true, true, false, false, false, false, false, false, false, false, false] rfl rfl (by kernel_rfl) (fun _ _ _ h => h) (Or.inl ⟨by rfl, ?_⟩) hHeld ?_ ?_   -- move (%0)
      rotate_left
      · rintro w' ⟨s0, s1⟩
        go_simp
        with_reducible rfl
      rotate_left
      · simp only [Act.put, List.setIfInBounds_toArray, List.set_cons_zero, List.set_cons_succ]
        rfl
      refine take_ (i := 6) (N := some 73) (v := ?_) (a' := ?_) #[true, true, true, true, true, true, true, false, false, false, false, false, false, false, false] rfl rfl (by kernel_rfl) (fun _ _ _ h => h) (Or.inl ⟨by rfl, ?_⟩) hHeld ?_ ?_   -- nilCheck (%72)
      rotate_left
      · rintro w' ⟨s0, s1⟩
        go_simp
        with_reducible rfl
      rotate_left
      · simp only [Act.put, List.setIfInBounds_toArray, List.set_cons_zero, List.set_cons_succ]
        rfl
      refine take_ (i := 7) (N := some 74) (v := ?_) (a' := ?_) #[true, true, true, true, true, true, true, true, false, false, false, false, false, false, false] rfl rfl (by kernel_rfl) (fun _ _ _ h => h) (Or.inl ⟨by rfl, ?_⟩) hHeld ?_ ?_   -- fieldAddr 30 (%73) 0
      rotate_left
      · rintro w' ⟨s0, s1⟩
        go_simp
        with_reducible rfl
      rotate_left
      · simp only [Act.put, List.setIfInBounds_toArray, List.set_cons_zero, List.set_cons_succ]
        rfl
      refine take_ (i := 8) (N := some 75) (v := ?_) (a' := ?_) #[true, true, true, true, true, true, true, true, true, false, false, false, false, false, false] rfl rfl (by kernel_rfl) (fun _ _ _ h => h) (Or.inl ⟨by rfl, ?_⟩) hHeld ?_ ?_   -- load 24 (%74)
      rotate_left
      · rintro w' ⟨s0, s1⟩
        go_simp
        with_reducible rfl
      rotate_left
      · simp only [Act.put, List.setIfInBounds_toArray, List.set_cons_zero, List.set_cons_succ]
        rfl
      refine take_ (i := 9) (N := some 76) (v := ?_) (a' := ?_) #[true, true, true, true, true, true, true, true, true, true, false, false, false, false, false] rfl rfl (by kernel_rfl) (fun _ _ _ h => h) (Or.inl ⟨by rfl, ?_⟩) hHeld ?_ ?_   -- call { callee := builtin len, args := #[%75], argTypes := #[
      rotate_left
      · rintro w' ⟨s0, s1⟩
        go_simp
        with_reducible rfl
      rotate_left
      · simp only [Act.put, List.setIfInBounds_toArray, List.set_cons_zero, List.set_cons_succ]
        rfl
      refine take_ (i := 10) (N := some 77) (v := ?_) (a' := ?_) #[true, true, true, true, true, true, true, true, true, true, true, false, false, false, false] rfl rfl (by kernel_rfl) (fun _ _ _ h => h) (Or.inl ⟨by rfl, ?_⟩) hHeld ?_ ?_   -- binOp sub 3 (%76) (const (int i64 1)) 3
      rotate_left
      · rintro w' ⟨s0, s1⟩
        go_simp
        with_reducible rfl
      rotate_left
      · simp only [Act.put, List.setIfInBounds_toArray, List.set_cons_zero, List.set_cons_succ]
        rfl
      refine take_ (i := 11) (N := some 78) (v := ?_) (a' := ?_) #[true, true, true, true, true, true, true, true, true, true, true, true, false, false, false] rfl rfl (by kernel_rfl) (fun _ _ _ h => h) (Or.inl ⟨by rfl, ?_⟩) hHeld ?_ ?_   -- slice 24 (%71) none (some (%77)) none
      rotate_left
      · rintro w' ⟨s0, s1⟩
        go_simp
        with_reducible rfl
      rotate_left
      · simp only [Act.put, List.setIfInBounds_toArray, List.set_cons_zero, List.set_cons_succ]
        rfl
      refine take_ (i := 12) (N := some 79) (v := ?_) (a' := ?_) #[true, true, true, true, true, true, true, true, true, true, true, true, true, false, false] rfl rfl (by kernel_rfl) (fun _ _ _ h => h) (Or.inl ⟨by rfl, ?_⟩) hHeld ?_ ?_   -- nilCheck (%67)
      rotate_left
      · rintro w' ⟨s0, s1⟩
        go_simp
        with_reducible rfl
      rotate_left
      · simp only [Act.put, List.setIfInBounds_toArray, List.set_cons_zero, List.set_cons_succ]
        rfl
      refine take_ (i := 13) (N := some 80) (v := ?_) (a' := ?_) #[true, true, true, true, true, true, true, true, true, true, true, true, true, true, false] rfl rfl (by kernel_rfl) (fun _ _ _ h => h) (Or.inl ⟨by rfl, ?_⟩) hHeld ?_ ?_   -- fieldAddr 30 (%79) 0
      rotate_left
      · rintro w' ⟨s0, s1⟩
        go_simp
        with_reducible rfl
      rotate_left
      · simp only [Act.put, List.setIfInBounds_toArray, List.set_cons_zero, List.set_cons_succ]
        rfl
      refine last_ (i := 14) (N := none) #[true, true, true, true, true, true, true, true, true, true, true, true, true, true, true] rfl rfl (by kernel_rfl) (by decide) (fun K hK => ?_)
      refine skip_ (by rfl) rfl (w1 := (V5.drew.setCell ⟨t, 1, none⟩ (.slice (some ⟨g, off, none⟩) q c')).drew.setCell ⟨t, 0, none⟩ (.slice (some ⟨gr, offr, none⟩) q c)) (by have hf : V5.frozen? ⟨t, 0, none⟩ = false := HO5.out.frozen 0; have hc : V5.cell? ⟨t, 0, none⟩ = some (.slice (some ⟨gr, offr, none⟩) m c) := HO5.out.cell 0 _ rfl; go_simp; first | done | rfl) ?_
      refine hK.out _ _ ?_
      refine done_ (by kernel_rfl) ?_
      go_wp2_with fail
      go_roundg left
      case measure => omega
      case rel =>
        have hkt : Keep F V5 ((V5.drew.setCell ⟨t, 1, none⟩ (.slice (some ⟨g, off, none⟩) q c')).drew.setCell ⟨t, 0, none⟩ (.slice (some ⟨gr, offr, none⟩) q c)) := by
          have h0 : Keep F V5 (V5.drew.setCell ⟨t, 1, none⟩ (.slice (some ⟨g, off, none⟩) q c')).drew := ⟨HT0.out.2.os, HT0.out.2.tape, HT0.out.2.output, HT0.out.2.size, HT0.out.2.block⟩
          exact h0.trans (H := F) HT1.out.2 (fun _ h => h) (fun j (h : F j ∨ _) => h.imp id And.left)
        have hLk1 : L - (k + 1) = q := by have := HQ.out; omega
        have hold := V.out.old
        have hsz : w.heap.size ≤ V5.heap.size := Nat.le_trans HWW.out HK5.out.size
        refine ⟨k + 1, by omega, ⟨A3, c3, rfl⟩, hid ⟨?_, ?_, ?_, HOW.out, hold⟩⟩
        · rw [hLk1]
          have := HT1.out.1.more (G := F) (fun j hj => by
            rcases hj with (hj | ⟨h1, h2⟩) | ⟨h1, h2⟩
            · exact hj
            · exact absurd h2 (by simpa using h1)
            · exact absurd h2 (by simpa using h1)) (fun j hj => by have := hold j hj; have := hkt.size; omega)
          rw [show elems (row.take q) = (elems (row.take m)).take q from by rw [← elems_take, List.take_take, Nat.min_eq_left (by have := HM.out; omega)], show nats (ats.take q) = (nats (ats.take m)).take q from by rw [← nats_take, List.take_take, Nat.min_eq_left (by have := HM.out; omega)]]
          exact this
        · exact ((V.out.keep.trans HK5.out (H := F) (fun _ h => h) (fun j h => .inr h))).trans hkt (fun _ h => h) (fun _ h => .inl h)
        · rw [HRV.out]
          exact HR5.out.keep hkt (fun j hj hF => by have h1 := HOW.out j hj; have h2 := hold j hF; omega)
end Go.Proofs.Ytegcfaohhcjajaa.RT
