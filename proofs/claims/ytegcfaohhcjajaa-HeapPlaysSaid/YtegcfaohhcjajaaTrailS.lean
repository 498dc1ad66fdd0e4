/- Trails of string, in memory: what each call does (printed by wip/tools/trail.py). -/
import Derived.Test.YtegcfaohhcjajaaChecked
import Derived.Test.YtegcfaohhcjajaaOb
import Derived.Test.YtegcfaohhcjajaaWMore
import Derived.Test.YtegcfaohhcjajaaWGuard
import Derived.Test.YtegcfaohhcjajaaWLast
import Derived.WalkKit
import Derived.WalkSpells
import Derived.IntWalk
import Derived.BigQuiet
import Derived.Deep.LoopGhost
import Derived.Deep.DrawnRows
namespace Go.Proofs.Ytegcfaohhcjajaa.TS
open Go.RowKit Go.Proofs.YtegcfaohhcjajaaW.PrintWords Go.Proofs.YtegcfaohhcjajaaW.PrintLast Go.Proofs.YtegcfaohhcjajaaW.PrintMore Go.Proofs.Ytegcfaohhcjajaa.MM
attribute [local go_sem ↓] Go.wp_at_zero Go.wp_at_succ
set_option linter.unusedSimpArgs false
set_option linter.unusedVariables false

abbrev elems (l : List ByteArray) : List Value := l.map Value.string
theorem wrap_in {x : Int} (h : -9223372036854775808 ≤ x) (h' : x ≤ 9223372036854775807) : wrap64 x = x := by unfold wrap64; omega
theorem elems_one (l : List ByteArray) : ∀ u ∈ elems l, u.oneCell' = true := by
  intro u hu
  obtain ⟨x, _, rfl⟩ := List.mem_map.1 hu
  rfl
theorem elems_get (l : List ByteArray) (i : Nat) (h : i < l.length) : (elems l)[i]? = some (Value.string l[i]) := by simp [elems, h]
/-- A trail in memory. -/
abbrev TrO (w : World) (t : Nat) (vr vm : Value) (row : List ByteArray) (marks : List Nat) (F : Nat → Prop) : Prop := Ob 27 w t [vr, vm] [(9, elems row), (3, nats marks)] F
def Tr (w : World) (t : Nat) (row : List ByteArray) (marks : List Nat) (F : Nat → Prop) : Prop := ∃ vr vm, TrO w t vr vm row marks F
/-- What a call leaves: the trail, and all else as it was. -/
def Left (w : World) (t : Nat) (row : List ByteArray) (marks : List Nat) (F : Nat → Prop) (w' : World) : Prop := ∃ F', Tr w' t row marks F' ∧ Keep F w w' ∧ ∀ j, F' j → F j ∨ w.heap.size ≤ j
theorem Left.of {w w' : World} {t n : Nat} {vr vm : Value} {row : List ByteArray} {marks : List Nat} {F : Nat → Prop} {xs ys : List Value} (h1 : Ob 27 w' t [vr, vm] [(9, xs), (3, ys)] (fun j => F j ∨ w.heap.size ≤ j ∧ j < n)) (h2 : Keep F w w') (hx : elems row = xs) (hy : nats marks = ys) : Left w t row marks F w' := by
  subst hx hy
  exact ⟨_, ⟨_, _, h1⟩, h2, fun j hj => hj.imp id And.left⟩
theorem infoT : (Try.prog.info? 9).map (fun i => (i.zero, i.size, i.bytes)) = some (some (.string { data := #[] }), 1, 16) := by kernel_rfl
theorem infoI : (Try.prog.info? 3).map (fun i => (i.zero, i.size, i.bytes)) = some (some (.int .i64 0), 1, 8) := by kernel_rfl
/-- Appending to a row of the trail's things. -/
theorem wp_app (w : World) {ops : Array Oper} {rest : List Oper} {o : Oper} {a : Act} {Q : Exit → Act → World → Prop} (hgd : o.guard = none) (s x : Operand)
    (ho : o.op = .call { callee := .builtin .append, args := #[s, x], argTypes := #[24, 24] })
    (v u : Value) (xs ys : List Value) (hs : a.eval s = v) (hx : a.eval x = u) (h : Row w 9 v xs) (hy : Row w 9 u ys) (h1 : ∀ u ∈ ys, u.oneCell' = true) (hl : xs.length + ys.length < 461168601842)
    (hK : ∀ v' w', Row w' 9 v' (xs ++ ys) → Keep (fun k => v.ownBlock = some k) w w' → (v'.ownBlock = v.ownBlock ∨ v'.ownBlock = some w.heap.size) → wpList Try.prog ops Q rest (a.put o.dst v') w') :
    wpList Try.prog ops Q (o :: rest) a w := by
  obtain ⟨i0, hi0, hz0, hz1, hz2⟩ := info_parts infoT
  exact wpList_append_row hgd s x _ ho _ i0 _ Try.underlying24 hi0 hz0 hz1 rfl v u xs ys hs hx h hy.src h1 (by simp [maxLen]; omega) (by rw [hz2]; omega) hK
theorem step_int (w : World) {ops : Array Oper} {o : Oper} {a : Act} {K : Act → World → Prop} {Q : Exit → Act → World → Prop} {E : Prop} (hgd : o.guard = none) {N : Option Tmp} (hN : o.dst = N) (s x : Operand)
    (ho : o.op = .call { callee := .builtin .append, args := #[s, x], argTypes := #[25, 25] })
    (v u : Value) (xs ys : List Value) (hs : a.eval s = v) (hx : a.eval x = u) (h : Row w 3 v xs) (hy : Row w 3 u ys) (h1 : ∀ u ∈ ys, u.oneCell' = true) (hl : xs.length + ys.length < 461168601842)
    (hK : ∀ v' w', Row w' 3 v' (xs ++ ys) → Keep (fun k => v.ownBlock = some k) w w' → (v'.ownBlock = v.ownBlock ∨ v'.ownBlock = some w.heap.size) → K (a.put N v') w') :
    if Region.wanted o (yielded ops a.tmps) = true then Oper.wp Try.prog o a w K Q else E := by
  subst hN
  obtain ⟨i0, hi0, hz0, hz1, hz2⟩ := info_parts infoI
  exact step_append_row w hgd s x _ ho _ i0 _ Try.underlying25 hi0 hz0 hz1 rfl v u xs ys hs hx h hy.src h1 (by simp [maxLen]; omega) (by rw [hz2]; omega) hK
abbrev ptr (t : Nat) : Value := .pointer (some ⟨t, 0, none⟩)

/-! #### Len, Level -/
theorem Len_calls (w : World) (t : Nat) (row : List ByteArray) (marks : List Nat) (F : Nat → Prop) (h : Tr w t row marks F) :
    Calls Try.prog 16 #[ptr t] w fun e w' => e = .returned (.int .i64 row.length) ∧ Below w.heap.size w w' := by
  obtain ⟨vr, vm, h⟩ := h
  have hc := h.cell 0 vr rfl
  obtain ⟨A, c, hv, _, _⟩ := (h.row 0 _ _ vr rfl rfl).shape
  rw [List.length_map] at hv
  subst hv
  clear h
  go_enter Try.func16, Try.ntmps16
  go_wp2
  go_ret
  exact ⟨rfl, Below.refl _ _⟩
theorem Level_calls (w : World) (t : Nat) (row : List ByteArray) (marks : List Nat) (F : Nat → Prop) (h : Tr w t row marks F) :
    Calls Try.prog 17 #[ptr t] w fun e w' => e = .returned (.int .i64 marks.length) ∧ Below w.heap.size w w' := by
  obtain ⟨vr, vm, h⟩ := h
  have hc := h.cell 1 vm rfl
  obtain ⟨A, c, hv, _, _⟩ := (h.row 1 _ _ vm rfl rfl).shape
  rw [List.length_map] at hv
  subst hv
  clear h
  go_enter Try.func17, Try.ntmps17
  go_wp2
  go_ret
  exact ⟨rfl, Below.refl _ _⟩

/-! #### Push -/
theorem Push_calls (w : World) (t : Nat) (row : List ByteArray) (marks : List Nat) (F : Nat → Prop) (x : ByteArray) (h : Tr w t row marks F) (hl : row.length < 1000000) :
    Calls Try.prog 10 #[ptr t, Value.string x] w fun e w' => e = .returned (.tuple #[]) ∧ Left w t (row ++ [x]) marks F w' := by
  obtain ⟨vr, vm, h⟩ := h
  have hc := h.cell 0 vr rfl
  have hR := hid (h.row 0 _ _ vr rfl rfl)
  have HH := hid h
  have hne : ∀ j, vr.ownBlock = some j → j ≠ t := fun j hj => (h.fr 0 _ rfl j hj).2
  have HNE := hid hne
  have HL := hid hl
  have lt := blk_lt h.blk
  clear h hl hne
  go_enter Try.func10, Try.ntmps10
  go_wp2_with (at_builtin; go_loud (refine wp_app _ rfl _ _ rfl _ _ (elems row) [Value.string x] (by rfl) (by rfl) (hR.out.alloc _) (Row.one _ _ _) (by simp [Value.oneCell']) (by have := HL.out; simp; omega) ?_; intro v' w3 hr hk hat; obtain ⟨A3, c3, rfl, _, _⟩ := hr.shape; have hln : (elems row ++ [Value.string x]).length = row.length + 1 := (by simp); rw [hln] at hr hat; try rw [hln]; have hb3 := hk.blk ((old_alloc _ lt).trans HH.out.blk) (fun e => HNE.out t e rfl); have hf := blk_frozen hb3 0; have hc2 := (blk_cell hb3 0).trans rfl; have HR := hid hr; have HK := hid hk; have HA := hid hat; clear hr hk hat hb3))
  try simp only [Exit.inBlock, Exit.then]
  refine bodyPost_end (results_none rfl _ _ _) rfl ?_
  have hk0 : Keep (fun k => vr.ownBlock = some k) w w3 := (Keep.ofBelow (F := fun k => vr.ownBlock = some k) ((Below.refl w.heap.size w).alloc (Nat.le_refl _) _)).trans HK.out (fun _ h => h) (fun _ h => .inl h)
  obtain ⟨a1, a2⟩ := HH.out.turn 0 _ 9 _ _ vr _ rfl rfl hk0 HR.out (HA.out.elim (fun e => .inr (.inl e)) fun e => .inr (.inr ⟨_, e, by simp⟩))
  exact ⟨rfl, Left.of a1 a2 (by simp [elems]) rfl⟩


/-! #### At -/
theorem At_calls (w : World) (t : Nat) (row : List ByteArray) (marks : List Nat) (F : Nat → Prop) (i : Int) (h : Tr w t row marks F) :
    Calls Try.prog 15 #[ptr t, .int .i64 i] w fun e w' => e = .returned (.tuple (if 0 ≤ i ∧ i < row.length then #[Value.string (row.getD i.toNat ByteArray.empty), .bool true] else #[.string { data := #[] }, .bool false])) ∧ Below w.heap.size w w' := by
  have HLN := hid (Len_calls w t row marks F h)
  obtain ⟨vr, vm, h⟩ := h
  have HH := hid h
  clear h
  by_cases h0 : i < 0
  · rw [if_neg (by omega)]
    go_enter Try.func15, Try.ntmps15
    go_wp2_with fail
    go_ret2
    exact ⟨rfl, Below.refl _ _⟩
  · by_cases h1 : i < row.length
    · rw [if_pos ⟨by omega, h1⟩]
      have hn : ¬ (i ≥ (row.length : Int)) := by omega
      obtain ⟨g, off, cap, hv, hcap, _, hg, hcells, _⟩ := (HH.out.row 0 _ _ vr rfl rfl).cells (by simp; omega)
      rw [List.length_map] at hv hcap
      subst hv
      obtain ⟨m, rfl⟩ : ∃ m : Nat, i = (m : Int) := ⟨i.toNat, by omega⟩
      have hm : m < row.length := by omega
      have hx := hcells m (by simpa using hm)
      rw [elems_get row m hm] at hx
      have HX := hid hx
      rw [show row.getD (m : Int).toNat ByteArray.empty = row[m] from by simp [List.getD_eq_getElem?_getD, hm]]
      have hc := HH.out.cell 0 _ rfl
      have HG := hid hg
      have htl := blk_lt HH.out.blk
      have HC := hid hc
      clear hcells hx hg hc
      go_enter Try.func15, Try.ntmps15
      go_wp2_with fail
      refine HLN.out.mono ?_
      rintro e w1 ⟨rfl, hb1⟩
      have hc1 : w1.cell? ⟨t, 0, none⟩ = _ := (hb1.cell (p := ⟨t, 0, none⟩) htl).trans HC.out
      have hx1 : w1.cell? ⟨g, off + m, none⟩ = _ := (hb1.cell (p := ⟨g, off + m, none⟩) HG.out).trans HX.out
      have HB1 := hid hb1
      clear hb1
      go_wp2
      go_ret2
      exact ⟨rfl, HB1.out⟩
    · rw [if_neg (by omega)]
      have hn : i ≥ (row.length : Int) := by omega
      go_enter Try.func15, Try.ntmps15
      go_wp2_with fail
      refine HLN.out.mono ?_
      rintro e w1 ⟨rfl, hb1⟩
      have HB1 := hid hb1
      clear hb1
      go_wp2
      go_ret2
      exact ⟨rfl, HB1.out⟩


/-! #### Mark -/
theorem Mark_calls (w : World) (t : Nat) (row : List ByteArray) (marks : List Nat) (F : Nat → Prop) (h : Tr w t row marks F) (hl : marks.length < 1000000) (hr : row.length < 1000000) :
    Calls Try.prog 12 #[ptr t] w fun e w' => e = .returned (.int .i64 marks.length) ∧ Left w t row (marks ++ [row.length]) F w' := by
  obtain ⟨vr, vm, h⟩ := h
  obtain ⟨A, c, hv, _, _⟩ := (h.row 0 _ _ vr rfl rfl).shape
  rw [List.length_map] at hv
  subst hv
  have hc0 := h.cell 0 _ rfl
  have hc1 := h.cell 1 vm rfl
  have hf1 := h.frozen 1
  have hR := hid (h.row 1 _ _ vm rfl rfl)
  have HH := hid h
  have hne : ∀ j, vm.ownBlock = some j → j ≠ t := fun j hj => (h.fr 1 _ rfl j hj).2
  have HNE := hid hne
  have lt := blk_lt h.blk
  have HL := hid hl
  clear h hne hl
  have hS := (show ∀ W : World, W.heap[t]? = some (.cells #[.slice A row.length c, vm] 27 (0, 0)) → W.cell? ⟨t, 0, none⟩ = some (.slice A row.length c) ∧ W.cell? ⟨t, 1, none⟩ = some vm ∧ W.frozen? ⟨t, 1, none⟩ = false from fun W q => ⟨(blk_cell q 0).trans rfl, (blk_cell q 1).trans rfl, blk_frozen q 1⟩)
  go_enter Try.func12, Try.ntmps12
  go_wp2_with fail
  refine start_ (n := 15) (S := (fun w' => w'.cell? ⟨t, 0, none⟩ = some (.slice A row.length c) ∧ w'.cell? ⟨t, 1, none⟩ = some vm ∧ w'.frozen? ⟨t, 1, none⟩ = false)) (ds := [14]) #[false, false, false, false, false, false, false, false, false, false, false, false, false, false, false] (by kernel_rfl) rfl rfl ⟨hc0, hc1, hf1⟩ (fun hHeld => ?_)
  refine take_ (i := 0) (N := some 5) (v := ?_) (a' := ?_) #[true, false, false, false, false, false, false, false, false, false, false, false, false, false, false] rfl rfl (by kernel_rfl) (fun _ _ _ h => h) (Or.inl ⟨by rfl, ?_⟩) hHeld ?_ ?_   -- move (%0)
  rotate_left
  · rintro w' ⟨s0, s1, s2⟩
    go_simp
    with_reducible rfl
  rotate_left
  · simp only [Act.put, List.setIfInBounds_toArray, List.set_cons_zero, List.set_cons_succ]
    rfl
  refine take_ (i := 1) (N := some 6) (v := ?_) (a' := ?_) #[true, true, false, false, false, false, false, false, false, false, false, false, false, false, false] rfl rfl (by kernel_rfl) (fun _ _ _ h => h) (Or.inl ⟨by rfl, ?_⟩) hHeld ?_ ?_   -- move (%0)
  rotate_left
  · rintro w' ⟨s0, s1, s2⟩
    go_simp
    with_reducible rfl
  rotate_left
  · simp only [Act.put, List.setIfInBounds_toArray, List.set_cons_zero, List.set_cons_succ]
    rfl
  refine take_ (i := 2) (N := some 7) (v := ?_) (a' := ?_) #[true, true, true, false, false, false, false, false, false, false, false, false, false, false, false] rfl rfl (by kernel_rfl) (fun _ _ _ h => h) (Or.inl ⟨by rfl, ?_⟩) hHeld ?_ ?_   -- nilCheck (%6)
  rotate_left
  · rintro w' ⟨s0, s1, s2⟩
    go_simp
    with_reducible rfl
  rotate_left
  · simp only [Act.put, List.setIfInBounds_toArray, List.set_cons_zero, List.set_cons_succ]
    rfl
  refine take_ (i := 3) (N := some 8) (v := ?_) (a' := ?_) #[true, true, true, true, false, false, false, false, false, false, false, false, false, false, false] rfl rfl (by kernel_rfl) (fun _ _ _ h => h) (Or.inl ⟨by rfl, ?_⟩) hHeld ?_ ?_   -- fieldAddr 27 (%7) 1
  rotate_left
  · rintro w' ⟨s0, s1, s2⟩
    go_simp
    with_reducible rfl
  rotate_left
  · simp only [Act.put, List.setIfInBounds_toArray, List.set_cons_zero, List.set_cons_succ]
    rfl
  refine take_ (i := 4) (N := some 9) (v := ?_) (a' := ?_) #[true, true, true, true, true, false, false, false, false, false, false, false, false, false, false] rfl rfl (by kernel_rfl) (fun _ _ _ h => h) (Or.inl ⟨by rfl, ?_⟩) hHeld ?_ ?_   -- load 25 (%8)
  rotate_left
  · rintro w' ⟨s0, s1, s2⟩
    go_simp
    with_reducible rfl
  rotate_left
  · simp only [Act.put, List.setIfInBounds_toArray, List.set_cons_zero, List.set_cons_succ]
    rfl
  refine take_ (i := 5) (N := some 10) (v := ?_) (a' := ?_) #[true, true, true, true, true, true, false, false, false, false, false, false, false, false, false] rfl rfl (by kernel_rfl) (fun _ _ _ h => h) (Or.inl ⟨by rfl, ?_⟩) hHeld ?_ ?_   -- move (%0)
  rotate_left
  · rintro w' ⟨s0, s1, s2⟩
    go_simp
    with_reducible rfl
  rotate_left
  · simp only [Act.put, List.setIfInBounds_toArray, List.set_cons_zero, List.set_cons_succ]
    rfl
  refine take_ (i := 6) (N := some 11) (v := ?_) (a' := ?_) #[true, true, true, true, true, true, true, false, false, false, false, false, false, false, false] rfl rfl (by kernel_rfl) (fun _ _ _ h => h) (Or.inl ⟨by rfl, ?_⟩) hHeld ?_ ?_   -- nilCheck (%10)
  rotate_left
  · rintro w' ⟨s0, s1, s2⟩
    go_simp
    with_reducible rfl
  rotate_left
  · simp only [Act.put, List.setIfInBounds_toArray, List.set_cons_zero, List.set_cons_succ]
    rfl
  refine take_ (i := 7) (N := some 12) (v := ?_) (a' := ?_) #[true, true, true, true, true, true, true, true, false, false, false, false, false, false, false] rfl rfl (by kernel_rfl) (fun _ _ _ h => h) (Or.inl ⟨by rfl, ?_⟩) hHeld ?_ ?_   -- fieldAddr 27 (%11) 0
  rotate_left
  · rintro w' ⟨s0, s1, s2⟩
    go_simp
    with_reducible rfl
  rotate_left
  · simp only [Act.put, List.setIfInBounds_toArray, List.set_cons_zero, List.set_cons_succ]
    rfl
  refine take_ (i := 8) (N := some 13) (v := ?_) (a' := ?_) #[true, true, true, true, true, true, true, true, true, false, false, false, false, false, false] rfl rfl (by kernel_rfl) (fun _ _ _ h => h) (Or.inl ⟨by rfl, ?_⟩) hHeld ?_ ?_   -- load 24 (%12)
  rotate_left
  · rintro w' ⟨s0, s1, s2⟩
    go_simp
    with_reducible rfl
  rotate_left
  · simp only [Act.put, List.setIfInBounds_toArray, List.set_cons_zero, List.set_cons_succ]
    rfl
  refine take_ (i := 9) (N := some 14) (v := ?_) (a' := ?_) #[true, true, true, true, true, true, true, true, true, true, false, false, false, false, false] rfl rfl (by kernel_rfl) (fun _ _ _ h => h) (Or.inl ⟨by rfl, ?_⟩) hHeld ?_ ?_   -- call { callee := builtin len, args := #[%13], argTypes := #[
  rotate_left
  · rintro w' ⟨s0, s1, s2⟩
    go_simp
    with_reducible rfl
  rotate_left
  · simp only [Act.put, List.setIfInBounds_toArray, List.set_cons_zero, List.set_cons_succ]
    rfl
  refine one_ (i := 10) (N := some 15) #[true, true, true, true, true, true, true, true, true, true, true, false, false, false, false] rfl rfl (by kernel_rfl) (by decide) (fun K hK => ?_)
  refine value_ (by rfl) rfl (v := .slice (some ⟨w.heap.size, 0, none⟩) 1 1) (w1 := w.drew.alloc (.cells #[.int .i64 row.length] 3)) (by go_simp; first | done | rfl) ?_
  refine hK.out _ _ (hS _ ((old_alloc _ lt).trans HH.out.blk)) (fun hHeld => ?_)
  refine norm_ (a' := ?_) ?_ ?_
  rotate_left
  · simp only [Act.put, List.setIfInBounds_toArray, List.set_cons_zero, List.set_cons_succ]
    rfl
  refine one_ (i := 11) (N := some 16) #[true, true, true, true, true, true, true, true, true, true, true, true, false, false, false] rfl rfl (by kernel_rfl) (by decide) (fun K hK => ?_)
  refine step_int _ (by rfl) (N := some 16) (by rfl) _ _ (by rfl) vm _ (nats marks) [.int .i64 row.length] (by rfl) (by rfl) (hR.out.drew.alloc _) (Row.one _ _ _) (by simp [Value.oneCell']) (by have := HL.out; simp; omega) ?_
  intro v1 w3 hr1 hk1 hat1
  obtain ⟨A3, c3, rfl, _, _⟩ := hr1.shape
  have hln : (nats marks ++ [Value.int IntKind.i64 row.length]).length = marks.length + 1 := by simp
  rw [hln] at hr1 hat1
  have hb3 : w3.heap[t]? = some (.cells #[.slice A row.length c, vm] 27 (0, 0)) := hk1.blk ((old_alloc _ lt).trans HH.out.blk) (fun e => HNE.out t e rfl)
  refine hK.out _ _ (hS _ hb3) (fun hHeld => ?_)
  refine norm_ (a' := ?_) ?_ ?_
  rotate_left
  · simp only [Act.put, List.setIfInBounds_toArray, List.set_cons_zero, List.set_cons_succ]
    rfl
  have hc2 : w3.cell? ⟨t, 1, none⟩ = some vm := hHeld.2.1
  have hf2 : w3.frozen? ⟨t, 1, none⟩ = false := hHeld.2.2
  refine take_ (i := 12) (N := some 17) (v := ?_) (a' := ?_) #[true, true, true, true, true, true, true, true, true, true, true, true, true, false, false] rfl rfl (by kernel_rfl) (fun _ _ _ h => h) (Or.inl ⟨by rfl, ?_⟩) hHeld ?_ ?_   -- nilCheck (%5)
  rotate_left
  · rintro w' ⟨s0, s1, s2⟩
    go_simp
    with_reducible rfl
  rotate_left
  · simp only [Act.put, List.setIfInBounds_toArray, List.set_cons_zero, List.set_cons_succ]
    rfl
  refine take_ (i := 13) (N := some 18) (v := ?_) (a' := ?_) #[true, true, true, true, true, true, true, true, true, true, true, true, true, true, false] rfl rfl (by kernel_rfl) (fun _ _ _ h => h) (Or.inl ⟨by rfl, ?_⟩) hHeld ?_ ?_   -- fieldAddr 27 (%17) 1
  rotate_left
  · rintro w' ⟨s0, s1, s2⟩
    go_simp
    with_reducible rfl
  rotate_left
  · simp only [Act.put, List.setIfInBounds_toArray, List.set_cons_zero, List.set_cons_succ]
    rfl
  refine last_ (i := 14) (N := none) #[true, true, true, true, true, true, true, true, true, true, true, true, true, true, true] rfl rfl (by kernel_rfl) (by decide) (fun K hK => ?_)
  refine skip_ (by rfl) rfl (w1 := w3.setCell ⟨t, 1, none⟩ (.slice A3 (marks.length + 1) c3)) (by go_simp; first | done | rfl) ?_
  refine hK.out _ _ ?_
  refine done_ (by kernel_rfl) ?_
  have hk0 : Keep (fun k => vm.ownBlock = some k) w w3 := (⟨rfl, rfl, rfl, by simp, fun q hq _ => old_alloc (w := w) _ hq⟩ : Keep (fun k => vm.ownBlock = some k) w (w.drew.alloc (.cells #[.int .i64 row.length] 3))).trans hk1 (fun _ h => h) (fun _ h => .inl h)
  obtain ⟨a1, a2⟩ := HH.out.turn 1 _ 3 _ _ vm _ rfl rfl hk0 hr1 (hat1.elim (fun e => .inr (.inl e)) fun e => .inr (.inr ⟨_, e, by simp⟩))
  have HA := hid a1
  have HK := hid a2
  have hcc := a1.cell 1 _ rfl
  clear a1 a2 hr1 hk1 hat1 hk0 hb3
  have hw : wrap64 (marks.length : Int) = marks.length := by have := HL.out; unfold wrap64; omega
  go_wp2
  go_ret
  exact ⟨by show Ending.returned (.int .i64 (wrap64 _)) = _; rw [hw], Left.of HA.out HK.out rfl (by simp [nats])⟩


/-! #### Back -/
theorem elems_take (l : List ByteArray) (k : Nat) : elems (l.take k) = (elems l).take k := List.map_take ..
theorem nats_take (l : List Nat) (k : Nat) : nats (l.take k) = (nats l).take k := List.map_take ..
theorem back_none (w : World) (t : Nat) (row : List ByteArray) (marks : List Nat) (F : Nat → Prop) (level : Int) (h : Tr w t row marks F) (hlv : level < 0 ∨ (marks.length : Int) ≤ level) :
    Calls Try.prog 13 #[ptr t, .int .i64 level] w fun e w' => e = .returned (.slice none 0 0) ∧ Below w.heap.size w w' := by
  have HLV := hid (Level_calls w t row marks F h)
  clear h
  by_cases h0 : level < 0
  · clear hlv
    go_enter Try.func13, Try.ntmps13
    go_wp2_with fail
    go_ret
    exact ⟨rfl, Below.refl _ _⟩
  · have h1 : level ≥ (marks.length : Int) := by omega
    clear hlv
    go_enter Try.func13, Try.ntmps13
    go_wp2_with fail
    refine HLV.out.mono ?_
    rintro e w1 ⟨rfl, hb1⟩
    have HB1 := hid hb1
    clear hb1
    go_wp2_with fail
    go_ret
    exact ⟨rfl, HB1.out⟩
set_option maxRecDepth 100000 in
set_option maxHeartbeats 3200000 in
theorem Back_calls (w : World) (t : Nat) (row : List ByteArray) (marks : List Nat) (F : Nat → Prop) (level n : Nat) (h : Tr w t row marks F) (hn : marks[level]? = some n) (hnr : n ≤ row.length) (hrl : row.length < 1000000) (hml : marks.length < 1000000) :
    Calls Try.prog 13 #[ptr t, .int .i64 level] w fun e w' => ∃ v, e = .returned v ∧ Row w' 9 v (elems (row.drop n).reverse) ∧ (∀ j, v.ownBlock = some j → w.heap.size ≤ j) ∧ Tr w' t (row.take n) (marks.take level) F ∧ Keep F w w' := by
  have HLV := hid (Level_calls w t row marks F h)
  obtain ⟨vr, vm, h⟩ := h
  have hlm : level < marks.length := (List.getElem?_eq_some_iff.1 hn).1
  have h0 : ¬ ((level : Int) < 0) := by omega
  have h1 : ¬ ((level : Int) ≥ (marks.length : Int)) := by omega
  obtain ⟨gm, om, cm, hvm, hcm, _, hgm, hcells, _⟩ := (h.row 1 _ _ vm rfl rfl).cells (by simp; omega)
  rw [List.length_map] at hvm hcm
  subst hvm
  obtain ⟨A, c, hvr, hcr, _⟩ := (h.row 0 _ _ vr rfl rfl).shape
  rw [List.length_map] at hvr hcr
  subst hvr
  have hx := hcells level (by simpa using hlm)
  rw [show (nats marks)[level]? = some (.int .i64 (n : Int)) from by rw [List.getElem?_map, hn]; rfl] at hx
  have HX := hid hx
  have HGM := hid hgm
  have HH := hid h
  have HROW := hid (h.row 0 _ _ _ rfl rfl)
  have hc0 := h.cell 0 _ rfl
  have hc1 := h.cell 1 _ rfl
  have HC0 := hid hc0
  have HC1 := hid hc1
  have HF0 := hid (h.frozen 0)
  have HF1 := hid (h.frozen 1)
  have htl := blk_lt h.blk
  obtain ⟨nr, hnrl⟩ : ∃ m, m = row.length := ⟨_, rfl⟩
  obtain ⟨nm, hnml⟩ : ∃ m, m = marks.length := ⟨_, rfl⟩
  rw [← hnrl] at hc0 HC0 hcr HROW HH hnr hrl
  rw [← hnml] at hc1 HC1 hcm HLV HH hml hlm h1
  have HNR := hid hnrl
  have HNM := hid hnml
  clear h hcells hx hgm hnrl hnml hc0 hc1
  go_enter Try.func13, Try.ntmps13
  go_wp2_with fail
  refine HLV.out.mono ?_
  rintro e w1 ⟨rfl, hb1⟩
  have hc1 : w1.cell? ⟨t, 1, none⟩ = some (.slice (some ⟨gm, om, none⟩) nm cm) := (hb1.cell (p := ⟨t, 1, none⟩) htl).trans HC1.out
  have hc0 : w1.cell? ⟨t, 0, none⟩ = some (.slice A nr c) := (hb1.cell (p := ⟨t, 0, none⟩) htl).trans HC0.out
  have hx1 : w1.cell? ⟨gm, om + level, none⟩ = some (.int .i64 n) := (hb1.cell (p := ⟨gm, om + level, none⟩) HGM.out).trans HX.out
  have HB1 := hid hb1
  clear hb1
  have hlm' : (level : Int) < (nm : Int) := by omega
  have hdl : decide (nm ≤ level) = false := by simp; omega
  go_wp2_with fail
  go_loopg [4, 6] (nr - n) (fun left v4 v6 wr => ∃ k : Nat, k + left = nr - n ∧ v6 = .int .i64 ((nr : Int) - 1 - k) ∧ (∃ A4 c4, v4 = .slice A4 k c4) ∧ Hid (Below w1.heap.size w1 wr ∧ Row wr 9 v4 (elems (row.reverse.take k)) ∧ ∀ j, v4.ownBlock = some j → w1.heap.size ≤ j))
  case atStart => exact ⟨0, by omega, by congr 1; omega, ⟨none, 0, rfl⟩, hid ⟨Below.refl _ _, .nil _ _, fun j hj => by cases hj⟩⟩
  case round =>
    obtain ⟨k, hk, rfl, ⟨A4, c4, rfl⟩, R⟩ := hrel
    have htl1 : t < w1.heap.size := Nat.lt_of_lt_of_le htl HB1.out.size
    have hc0' : wr.cell? ⟨t, 0, none⟩ = some (.slice A nr c) := (R.out.1.cell (p := ⟨t, 0, none⟩) htl1).trans hc0
    cases gk with
    | zero =>
      have hlt : ¬ ((nr : Int) - 1 - k ≥ (n : Int)) := by omega
      have hkn : k = nr - n := by omega
      subst hkn
      have hc1' : wr.cell? ⟨t, 1, none⟩ = some (.slice (some ⟨gm, om, none⟩) nm cm) := (R.out.1.cell (p := ⟨t, 1, none⟩) htl1).trans hc1
      have hb : Below w.heap.size w wr := HB1.out.trans (R.out.1.mono HB1.out.size)
      have HO := hid (HH.out.below (w1 := wr) hb)
      have HB := hid hb
      clear hb
      have hS := (show ∀ W : World, W.cell? ⟨t, 1, none⟩ = some (.slice (some ⟨gm, om, none⟩) nm cm) → (∃ cs, W.heap[t]? = some (.cells cs 27 (0, 0))) → W.cell? ⟨t, 1, none⟩ = some (.slice (some ⟨gm, om, none⟩) nm cm) ∧ W.frozen? ⟨t, 1, none⟩ = false ∧ W.frozen? ⟨t, 0, none⟩ = false from fun W q ⟨cs, hcs⟩ => ⟨q, blk_frozen hcs 1, blk_frozen hcs 0⟩)
      have b1 : (n : Int) ≤ (c : Int) := by omega
      have b2 : (level : Int) ≤ (cm : Int) := by omega
      have b3 : n ≤ c := by omega
      have b4 : level ≤ cm := by omega
      have T0 := HO.out.drew.turn 0 _ 9 _ ((elems row).take n) _ (.slice A n n) rfl rfl (Keep.refl _ _) ((HO.out.drew.row 0 _ _ _ rfl rfl).trim n (by simp; have := HNR.out; omega)) (.inr (.inl (by cases A <;> rfl)))
      have T1 := T0.1.turn 1 _ 3 _ ((nats marks).take level) _ (.slice (some ⟨gm, om, none⟩) level cm) rfl rfl (Keep.refl _ _) ((T0.1.row 1 _ _ _ rfl rfl).front level (by simp; have := HNM.out; omega)) (.inr (.inl rfl))
      have hfr1 : wr.frozen? ⟨t, 1, none⟩ = false := HO.out.frozen 1
      have hfr0 : wr.frozen? ⟨t, 0, none⟩ = false := HO.out.frozen 0
      have HT0 := hid T0
      have HT1 := hid T1
      have hk1 := T0.1.cell 1 _ rfl
      have hk2 := T0.1.blk
      have HK1 := hid hk1
      have HK2 := hid hk2
      clear T0 T1 hk1 hk2
      go_wp2_with fail

      refine start_ (n := 21) (S := (fun w' => w'.cell? ⟨t, 1, none⟩ = some (.slice (some ⟨gm, om, none⟩) nm cm) ∧ w'.frozen? ⟨t, 1, none⟩ = false ∧ w'.frozen? ⟨t, 0, none⟩ = false)) (ds := [20]) #[false, false, false, false, false, false, false, false, false, false, false, false, false, false, false, false, false, false, false, false, false] (by kernel_rfl) rfl rfl (hS _ hc1' ⟨_, HO.out.blk⟩) (fun hHeld => ?_)
      refine take_ (i := 0) (N := some 43) (v := ?_) (a' := ?_) #[true, false, false, false, false, false, false, false, false, false, false, false, false, false, false, false, false, false, false, false, false] rfl rfl (by kernel_rfl) (fun _ _ _ h => h) (Or.inl ⟨by rfl, ?_⟩) hHeld ?_ ?_   -- move (%0)
      rotate_left
      · rintro w' ⟨s0, s1, s2⟩
        go_simp
        with_reducible rfl
      rotate_left
      · simp only [Act.put, List.setIfInBounds_toArray, List.set_cons_zero, List.set_cons_succ]
        rfl
      refine take_ (i := 1) (N := some 44) (v := ?_) (a' := ?_) #[true, true, false, false, false, false, false, false, false, false, false, false, false, false, false, false, false, false, false, false, false] rfl rfl (by kernel_rfl) (fun _ _ _ h => h) (Or.inl ⟨by rfl, ?_⟩) hHeld ?_ ?_   -- move (%0)
      rotate_left
      · rintro w' ⟨s0, s1, s2⟩
        go_simp
        with_reducible rfl
      rotate_left
      · simp only [Act.put, List.setIfInBounds_toArray, List.set_cons_zero, List.set_cons_succ]
        rfl
      refine take_ (i := 2) (N := some 45) (v := ?_) (a' := ?_) #[true, true, true, false, false, false, false, false, false, false, false, false, false, false, false, false, false, false, false, false, false] rfl rfl (by kernel_rfl) (fun _ _ _ h => h) (Or.inl ⟨by rfl, ?_⟩) hHeld ?_ ?_   -- move (%0)
      rotate_left
      · rintro w' ⟨s0, s1, s2⟩
        go_simp
        with_reducible rfl
      rotate_left
      · simp only [Act.put, List.setIfInBounds_toArray, List.set_cons_zero, List.set_cons_succ]
        rfl
      refine take_ (i := 3) (N := some 46) (v := ?_) (a' := ?_) #[true, true, true, true, false, false, false, false, false, false, false, false, false, false, false, false, false, false, false, false, false] rfl rfl (by kernel_rfl) (fun _ _ _ h => h) (Or.inl ⟨by rfl, ?_⟩) hHeld ?_ ?_   -- nilCheck (%45)
      rotate_left
      · rintro w' ⟨s0, s1, s2⟩
        go_simp
        with_reducible rfl
      rotate_left
      · simp only [Act.put, List.setIfInBounds_toArray, List.set_cons_zero, List.set_cons_succ]
        rfl
      refine take_ (i := 4) (N := some 47) (v := ?_) (a' := ?_) #[true, true, true, true, true, false, false, false, false, false, false, false, false, false, false, false, false, false, false, false, false] rfl rfl (by kernel_rfl) (fun _ _ _ h => h) (Or.inl ⟨by rfl, ?_⟩) hHeld ?_ ?_   -- fieldAddr 27 (%46) 0
      rotate_left
      · rintro w' ⟨s0, s1, s2⟩
        go_simp
        with_reducible rfl
      rotate_left
      · simp only [Act.put, List.setIfInBounds_toArray, List.set_cons_zero, List.set_cons_succ]
        rfl
      refine take_ (i := 6) (N := some 49) (v := ?_) (a' := ?_) #[true, true, true, true, true, false, true, false, false, false, false, false, false, false, false, false, false, false, false, false, false] rfl rfl (by kernel_rfl) (fun _ _ _ h => h) (Or.inl ⟨by rfl, ?_⟩) hHeld ?_ ?_   -- move (%5)
      rotate_left
      · rintro w' ⟨s0, s1, s2⟩
        go_simp
        with_reducible rfl
      rotate_left
      · simp only [Act.put, List.setIfInBounds_toArray, List.set_cons_zero, List.set_cons_succ]
        rfl
      refine take_ (i := 7) (N := some 50) (v := ?_) (a' := ?_) #[true, true, true, true, true, false, true, true, false, false, false, false, false, false, false, false, false, false, false, false, false] rfl rfl (by kernel_rfl) (fun _ _ _ h => h) (Or.inl ⟨by rfl, ?_⟩) hHeld ?_ ?_   -- move (%5)
      rotate_left
      · rintro w' ⟨s0, s1, s2⟩
        go_simp
        with_reducible rfl
      rotate_left
      · simp only [Act.put, List.setIfInBounds_toArray, List.set_cons_zero, List.set_cons_succ]
        rfl
      refine take_ (i := 9) (N := some 52) (v := ?_) (a' := ?_) #[true, true, true, true, true, false, true, true, false, true, false, false, false, false, false, false, false, false, false, false, false] rfl rfl (by kernel_rfl) (fun _ _ _ h => h) (Or.inl ⟨by rfl, ?_⟩) hHeld ?_ ?_   -- move (%0)
      rotate_left
      · rintro w' ⟨s0, s1, s2⟩
        go_simp
        with_reducible rfl
      rotate_left
      · simp only [Act.put, List.setIfInBounds_toArray, List.set_cons_zero, List.set_cons_succ]
        rfl
      refine take_ (i := 10) (N := some 53) (v := ?_) (a' := ?_) #[true, true, true, true, true, false, true, true, false, true, true, false, false, false, false, false, false, false, false, false, false] rfl rfl (by kernel_rfl) (fun _ _ _ h => h) (Or.inl ⟨by rfl, ?_⟩) hHeld ?_ ?_   -- nilCheck (%52)
      rotate_left
      · rintro w' ⟨s0, s1, s2⟩
        go_simp
        with_reducible rfl
      rotate_left
      · simp only [Act.put, List.setIfInBounds_toArray, List.set_cons_zero, List.set_cons_succ]
        rfl
      refine take_ (i := 11) (N := some 54) (v := ?_) (a' := ?_) #[true, true, true, true, true, false, true, true, false, true, true, true, false, false, false, false, false, false, false, false, false] rfl rfl (by kernel_rfl) (fun _ _ _ h => h) (Or.inl ⟨by rfl, ?_⟩) hHeld ?_ ?_   -- fieldAddr 27 (%53) 1
      rotate_left
      · rintro w' ⟨s0, s1, s2⟩
        go_simp
        with_reducible rfl
      rotate_left
      · simp only [Act.put, List.setIfInBounds_toArray, List.set_cons_zero, List.set_cons_succ]
        rfl
      refine take_ (i := 12) (N := some 55) (v := ?_) (a' := ?_) #[true, true, true, true, true, false, true, true, false, true, true, true, true, false, false, false, false, false, false, false, false] rfl rfl (by kernel_rfl) (fun _ _ _ h => h) (Or.inl ⟨by rfl, ?_⟩) hHeld ?_ ?_   -- load 25 (%54)
      rotate_left
      · rintro w' ⟨s0, s1, s2⟩
        go_simp
        with_reducible rfl
      rotate_left
      · simp only [Act.put, List.setIfInBounds_toArray, List.set_cons_zero, List.set_cons_succ]
        rfl
      refine take_ (i := 13) (N := some 56) (v := ?_) (a' := ?_) #[true, true, true, true, true, false, true, true, false, true, true, true, true, true, false, false, false, false, false, false, false] rfl rfl (by kernel_rfl) (fun _ _ _ h => h) (Or.inl ⟨by rfl, ?_⟩) hHeld ?_ ?_   -- move (%1)
      rotate_left
      · rintro w' ⟨s0, s1, s2⟩
        go_simp
        with_reducible rfl
      rotate_left
      · simp only [Act.put, List.setIfInBounds_toArray, List.set_cons_zero, List.set_cons_succ]
        rfl
      refine take_ (i := 14) (N := some 57) (v := ?_) (a' := ?_) #[true, true, true, true, true, false, true, true, false, true, true, true, true, true, true, false, false, false, false, false, false] rfl rfl (by kernel_rfl) (fun _ _ _ h => h) (Or.inl ⟨by rfl, ?_⟩) hHeld ?_ ?_   -- slice 25 (%55) none (some (%56)) none
      rotate_left
      · rintro w' ⟨s0, s1, s2⟩
        go_simp
        with_reducible rfl
      rotate_left
      · simp only [Act.put, List.setIfInBounds_toArray, List.set_cons_zero, List.set_cons_succ]
        rfl
      refine one_ (i := 5) (N := some 48) #[true, true, true, true, true, true, true, true, false, true, true, true, true, true, true, false, false, false, false, false, false] rfl rfl (by kernel_rfl) (by decide) (fun K hK => ?_)
      refine value_ (by rfl) rfl (v := .slice A nr c) (w1 := _) (by go_simp; first | done | rfl) ?_
      refine hK.out _ _ (hS _ hc1' ⟨_, HO.out.blk⟩) (fun hHeld => ?_)
      refine norm_ (a' := ?_) ?_ ?_
      rotate_left
      · simp only [Act.put, List.setIfInBounds_toArray, List.set_cons_zero, List.set_cons_succ]
        rfl
      refine take_ (i := 8) (N := some 51) (v := ?_) (a' := ?_) #[true, true, true, true, true, true, true, true, true, true, true, true, true, true, true, false, false, false, false, false, false] rfl rfl (by kernel_rfl) (fun _ _ _ h => h) (Or.inl ⟨by rfl, ?_⟩) hHeld ?_ ?_   -- slice 24 (%48) none (some (%49)) (some (%50))
      rotate_left
      · rintro w' ⟨s0, s1, s2⟩
        go_simp
        with_reducible rfl
      rotate_left
      · simp only [Act.put, List.setIfInBounds_toArray, List.set_cons_zero, List.set_cons_succ]
        rfl
      refine take_ (i := 15) (N := some 58) (v := ?_) (a' := ?_) #[true, true, true, true, true, true, true, true, true, true, true, true, true, true, true, true, false, false, false, false, false] rfl rfl (by kernel_rfl) (fun _ _ _ h => h) (Or.inl ⟨by rfl, ?_⟩) hHeld ?_ ?_   -- nilCheck (%43)
      rotate_left
      · rintro w' ⟨s0, s1, s2⟩
        go_simp
        with_reducible rfl
      rotate_left
      · simp only [Act.put, List.setIfInBounds_toArray, List.set_cons_zero, List.set_cons_succ]
        rfl
      refine take_ (i := 16) (N := some 59) (v := ?_) (a' := ?_) #[true, true, true, true, true, true, true, true, true, true, true, true, true, true, true, true, true, false, false, false, false] rfl rfl (by kernel_rfl) (fun _ _ _ h => h) (Or.inl ⟨by rfl, ?_⟩) hHeld ?_ ?_   -- fieldAddr 27 (%58) 0
      rotate_left
      · rintro w' ⟨s0, s1, s2⟩
        go_simp
        with_reducible rfl
      rotate_left
      · simp only [Act.put, List.setIfInBounds_toArray, List.set_cons_zero, List.set_cons_succ]
        rfl
      refine one_ (i := 17) (N := none) #[true, true, true, true, true, true, true, true, true, true, true, true, true, true, true, true, true, true, false, false, false] rfl rfl (by kernel_rfl) (by decide) (fun K hK => ?_)
      refine skip_ (by rfl) rfl (w1 := wr.drew.setCell ⟨t, 0, none⟩ (.slice A n n)) (by go_simp; first | done | rfl) ?_
      refine hK.out _ _ (hS _ HK1.out ⟨_, HK2.out⟩) (fun hHeld => ?_)
      have hf1' := hHeld.2.1
      refine take_ (i := 18) (N := some 60) (v := ?_) (a' := ?_) #[true, true, true, true, true, true, true, true, true, true, true, true, true, true, true, true, true, true, true, false, false] rfl rfl (by kernel_rfl) (fun _ _ _ h => h) (Or.inl ⟨by rfl, ?_⟩) hHeld ?_ ?_   -- nilCheck (%44)
      rotate_left
      · rintro w' ⟨s0, s1, s2⟩
        go_simp
        with_reducible rfl
      rotate_left
      · simp only [Act.put, List.setIfInBounds_toArray, List.set_cons_zero, List.set_cons_succ]
        rfl
      refine take_ (i := 19) (N := some 61) (v := ?_) (a' := ?_) #[true, true, true, true, true, true, true, true, true, true, true, true, true, true, true, true, true, true, true, true, false] rfl rfl (by kernel_rfl) (fun _ _ _ h => h) (Or.inl ⟨by rfl, ?_⟩) hHeld ?_ ?_   -- fieldAddr 27 (%60) 1
      rotate_left
      · rintro w' ⟨s0, s1, s2⟩
        go_simp
        with_reducible rfl
      rotate_left
      · simp only [Act.put, List.setIfInBounds_toArray, List.set_cons_zero, List.set_cons_succ]
        rfl
      refine last_ (i := 20) (N := none) #[true, true, true, true, true, true, true, true, true, true, true, true, true, true, true, true, true, true, true, true, true] rfl rfl (by kernel_rfl) (by decide) (fun K hK => ?_)
      refine skip_ (by rfl) rfl (w1 := (wr.drew.setCell ⟨t, 0, none⟩ (.slice A n n)).setCell ⟨t, 1, none⟩ (.slice (some ⟨gm, om, none⟩) level cm)) (by go_simp; first | done | rfl) ?_
      refine hK.out _ _ ?_
      refine done_ (by kernel_rfl) ?_
      go_wp2
      go_ret
      have hrt := HT0.out.2.trans HT1.out.2 (fun _ h => h) (fun j hj => by
        rcases hj with hj | ⟨h1, h2⟩
        · exact .inl hj
        · exact .inr h1)
      have hrt' : Keep F wr ((wr.drew.setCell ⟨t, 0, none⟩ (.slice A n n)).setCell ⟨t, 1, none⟩ (.slice (some ⟨gm, om, none⟩) level cm)) := ⟨hrt.os, hrt.tape, hrt.output, hrt.size, hrt.block⟩
      have hrev : row.reverse.take (nr - n) = (row.drop n).reverse := by rw [List.reverse_drop, HNR.out]
      have hnF : ∀ j, (Value.slice A4 (nr - n) c4).ownBlock = some j → ¬ F j := fun j hj hF => by
        have h1 := HH.out.old j hF
        have h2 := R.out.2.2 j hj
        have h3 := HB1.out.size
        omega
      have hfin := HT1.out.1.more (G := F) (fun j hj => by
        rcases hj with (hj | ⟨h1, h2⟩) | ⟨h1, h2⟩
        · exact hj
        · omega
        · omega) (fun j hj => Nat.lt_of_lt_of_le (HO.out.old j hj) hrt.size)
      refine ⟨_, rfl, ?_, fun j hj => Nat.le_trans HB1.out.size (R.out.2.2 j hj), ⟨.slice A n n, .slice (some ⟨gm, om, none⟩) level cm, ?_⟩, (Keep.ofBelow (F := F) HB.out).trans hrt' (fun _ h => h) (fun _ h => .inl h)⟩
      · rw [← hrev]
        exact R.out.2.1.keep hrt' hnF
      · show Ob _ _ _ [_, _] [(_, elems (row.take n)), (_, nats (marks.take level))] _
        rw [elems_take, nats_take]
        exact hfin
    | succ left =>
      have hge : ((nr : Int) - 1 - k ≥ (n : Int)) := by omega
      obtain ⟨q, hq⟩ : ∃ q : Nat, q = nr - 1 - k := ⟨_, rfl⟩
      have hqi : (nr : Int) - 1 - k = (q : Int) := by omega
      rw [hqi] at hge ⊢
      have hql : q < row.length := by have := HNR.out; omega
      have hqn : q < nr := by omega
      have hqi0 : (q : Int) < (nr : Int) := by omega
      obtain ⟨g, off, cap, hv, hcap, _, hg, hcells, _⟩ := HROW.out.cells (by simp; omega)
      rw [List.length_map] at hv hcap
      injection hv with hA hA2 hcc
      subst hA hcc
      clear hA2
      have hx := hcells q (by simpa using hql)
      rw [elems_get row q hql] at hx
      have hb : Below w.heap.size w wr := HB1.out.trans (R.out.1.mono HB1.out.size)
      have hxq : wr.cell? ⟨g, off + q, none⟩ = some (Value.string row[q]) := (hb.cell (p := ⟨g, off + q, none⟩) hg).trans hx
      have hrev : elems (row.reverse.take (k + 1)) = elems (row.reverse.take k) ++ [Value.string row[q]] := by
        rw [List.take_succ_eq_append_getElem (by have := HNR.out; simp; omega), List.getElem_reverse]
        have : row.length - 1 - k = q := by have := HNR.out; omega
        simp [elems, this]
      have HREV := hid hrev
      have HQ := hid hq
      clear hcells hx hb hcap hg hrev hq hqi
      have hk1 : k < 1000000 := by omega
      go_wp2_with (at_builtin; go_loud (refine wp_app _ rfl _ _ rfl _ _ (elems (row.reverse.take k)) [Value.string row[q]] (by rfl) (by rfl) (R.out.2.1.alloc _) (Row.one _ _ _) (by simp [Value.oneCell']) (by simp; omega) ?_; intro v' w3 hr hkp hat; obtain ⟨A3, c3, rfl, _, _⟩ := hr.shape; have hln : (elems (row.reverse.take k) ++ [Value.string row[q]]).length = k + 1 := (by have := HNR.out; simp; omega); rw [hln] at hr hat; try rw [hln]; have HR := hid hr; have HK := hid hkp; have HA := hid hat; clear hr hkp hat hln))
      go_roundg left
      case measure => omega
      case rel =>
        refine ⟨k + 1, by omega, by congr 1; have := HQ.out; omega, ⟨A3, c3, rfl⟩, hid ⟨?_, by rw [HREV.out]; exact HR.out, fun j hj => ?_⟩⟩
        · exact (R.out.1.trans (((Below.refl _ _).alloc (Nat.le_refl _) _).mono R.out.1.size)).trans (HK.out.below (fun j hj => R.out.2.2 j hj) (by have := R.out.1.size; simp; omega))
        · rcases HA.out with e | e
          · exact R.out.2.2 j (e ▸ hj)
          · rw [e] at hj
            cases hj
            have := R.out.1.size
            simp
            omega

end Go.Proofs.Ytegcfaohhcjajaa.TS
