/- Walk of the document's All (printed by wip/tools/refa.py). -/
import Derived.Test.YtegcfaohhcjajaaRefN
import Derived.Test.YtegcfaohhcjajaaRefL
namespace Go.Proofs.Ytegcfaohhcjajaa.RH
open Go.RowKit Go.Proofs.YtegcfaohhcjajaaW.PrintWords Go.Proofs.YtegcfaohhcjajaaW.PrintLast Go.Proofs.YtegcfaohhcjajaaW.PrintMore Go.Proofs.Ytegcfaohhcjajaa.MM Go.Proofs.Ytegcfaohhcjajaa.HM
attribute [local go_sem ↓] Go.wp_at_zero Go.wp_at_succ
set_option linter.unusedSimpArgs false
set_option linter.unusedVariables false

theorem step_bool (w : World) {ops : Array Oper} {o : Oper} {a : Act} {K : Act → World → Prop} {Q : Exit → Act → World → Prop} {E : Prop} (hgd : o.guard = none) {N : Option Tmp} (hN : o.dst = N) (s x : Operand)
    (ho : o.op = .call { callee := .builtin .append, args := #[s, x], argTypes := #[58, 58] })
    (v u : Value) (xs ys : List Value) (hs : a.eval s = v) (hx : a.eval x = u) (h : Row w 4 v xs) (hy : Row w 4 u ys) (h1 : ∀ u ∈ ys, u.oneCell' = true) (hl : xs.length + ys.length < 461168601842)
    (hK : ∀ v' w', Row w' 4 v' (xs ++ ys) → Keep (fun k => v.ownBlock = some k) w w' → (v'.ownBlock = v.ownBlock ∨ v'.ownBlock = some w.heap.size) → K (a.put N v') w') :
    if Region.wanted o (yielded ops a.tmps) = true then Oper.wp Try.prog o a w K Q else E := by
  subst hN
  obtain ⟨i0, hi0, hz0, hz1, hz2⟩ := info_parts infoB
  exact step_append_row w hgd s x _ ho _ i0 _ Try.underlying58 hi0 hz0 hz1 rfl v u xs ys hs hx h hy.src h1 (by simp [maxLen]; omega) (by rw [hz2]; omega) hK
theorem empty_row (w : World) (e : TypeId) : Row (w.alloc (.cells #[] e)) e (.slice (some ⟨w.heap.size, 0, none⟩) 0 0) [] :=
  .inr ⟨w.heap.size, 0, 0, #[], rfl, heap_alloc_new w _, by simp, by simp [maxLen], by simp, rfl⟩
theorem copy_rh (w V : World) (vw vi : Value) (W : List Int) (I : List Bool) (hw : Row V 2 vw (lits W)) (hi : Row V 4 vi (bools I)) (ow : ∀ j, vw.ownBlock = some j → j < w.heap.size) (oi : ∀ j, vi.ownBlock = some j → w.heap.size ≤ j) (hW : w.heap.size ≤ V.heap.size) :
    Rh (V.alloc (.cells #[vw, vi] 60)) V.heap.size vw vi W I (fun j => vw.ownBlock = some j ∨ vi.ownBlock = some j ∨ j = V.heap.size) where
  blk := heap_alloc_new V _
  rows := fun i r h => by
    match i, h with
    | 0, h => cases h; exact hw.alloc _
    | 1, h => cases h; exact hi.alloc _
    | n + 2, h => simp at h
  len := by simp
  fp := .inr (.inr rfl)
  fr := fun i r h j hj => by
    match i, h with
    | 0, h => cases h; have h1 := hw.lt j hj; exact ⟨.inl hj, by omega⟩
    | 1, h => cases h; have h1 := hi.lt j hj; exact ⟨.inr (.inl hj), by omega⟩
    | n + 2, h => simp at h
  ap := fun i j ri rj h1 h2 hij g hg hg' => by
    match i, j, h1, h2 with
    | 0, 0, _, _ => exact hij rfl
    | 1, 1, _, _ => exact hij rfl
    | 0, 1, _, _ => have a := ow g hg; have b := oi g hg'; omega
    | 1, 0, _, _ => have a := ow g hg'; have b := oi g hg; omega
    | n + 2, _, h1, _ => simp at h1
    | _, n + 2, _, h2 => simp at h2
  old := fun j hj => by
    simp only [World.size_alloc]
    rcases hj with h | h | h
    · have := ow j h; omega
    · have := hi.lt j h; omega
    · omega
/-- While the copy is emptied. -/
structure AAt (w : World) (C : Nat) (vw vi : Value) (W : List Int) (F : Nat → Prop) (s : HS) (v4 : Value) (l : List Nat) (wr : World) : Prop where
  ob : ∃ I, Rh wr C vw vi W I F ∧ Rel s W I
  own : ∀ j, v4.ownBlock = some j → w.heap.size ≤ j ∧ ¬ F j
  vio : ∀ j, vi.ownBlock = some j → w.heap.size ≤ j
  row : Row wr 3 v4 (nats l)
  bel : Below w.heap.size w wr
  good : HM.Good s
variable {w wr w1 : World} {C : Nat} {vw vi v4 v5 : Value} {W : List Int} {F : Nat → Prop} {s : HS} {l : List Nat}
theorem AAt.none (h : AAt w C vw vi W F s v4 l wr) (h0 : s.r.length = 0) :
    Calls Try.prog 27 #[ptr C] wr fun e w' => e = .returned (.tuple #[.int .i64 0, .bool false]) ∧ AAt w C vw vi W F s v4 l w' := by
  obtain ⟨I, h1, h2⟩ := h.ob
  exact (Pop_none wr C vw vi W I F h1 h2.len (by rw [← h2.w]; exact h.good.wf.big) (h2.none h.good h0)).mono fun e w' ⟨he, hb⟩ => ⟨he, ⟨I, h1.below hb, h2⟩, h.own, h.vio, h.row.keep (F := fun _ => False) (Keep.ofBelow hb) (fun _ _ h => h), below_trans h.bel (below_le hb h.bel.size), h.good⟩
theorem AAt.pop (h : AAt w C vw vi W F s v4 l wr) (h0 : 0 < s.r.length) :
    Calls Try.prog 27 #[ptr C] wr fun e w' => e = .returned (.tuple #[.int .i64 (R s 0 : Nat), .bool true]) ∧ AAt w C vw vi W F (popM s) v4 l w' := by
  obtain ⟨I, h1, h2⟩ := h.ob
  obtain ⟨g1, g2, _, _⟩ := pop_good h.good h0
  have hvF : ∀ j, vi.ownBlock = some j → F j := fun j hj => (h1.fr 1 _ rfl j hj).1
  refine (Pop_calls wr C vw vi W I F (R s 0) h1 h2.len (by rw [← h2.w]; exact h.good.wf.big) (h2.first h.good h0)).mono fun e w' ⟨he, hp, hk⟩ => ⟨he, ⟨_, hp, h2.out _ (by rw [← h2.w]; exact (h.good.row_in h0).1) g2 (fun y _ => popM_in h.good h0 y)⟩, h.own, h.vio, h.row.keep hk (fun j hj hv => (h.own j hj).2 (hvF j hv)), below_trans h.bel ⟨hk.os, hk.tape, hk.output, hk.size, fun j hj => hk.block j (Nat.lt_of_lt_of_le hj h.bel.size) (fun hv => by have := h.vio j hv; omega)⟩, g1⟩
theorem AAt.app (h : AAt w C vw vi W F s v4 l wr) (o : Obj) {x : Nat} (hr1 : Row w1 3 v5 (nats l ++ [.int .i64 (x : Nat)])) (hk : Keep (fun k => v4.ownBlock = some k) (wr.alloc o) w1) (hat : v5.ownBlock = v4.ownBlock ∨ v5.ownBlock = some (wr.alloc o).heap.size) : AAt w C vw vi W F s v5 (l ++ [x]) w1 := by
  have hka : Keep (fun k => v4.ownBlock = some k) wr w1 := (Keep.ofBelow (F := fun _ => False) ((Below.refl wr.heap.size wr).alloc (Nat.le_refl _) o)).trans hk (fun _ h => h.elim) (fun _ h => .inl h)
  obtain ⟨I, h1, h2⟩ := h.ob
  refine ⟨⟨I, h1.keep hka (fun j hF hj => (h.own j hj).2 hF), h2⟩, fun j hj => ?_, h.vio, by rw [show nats (l ++ [x]) = nats l ++ [.int .i64 (x : Nat)] from by simp [nats]]; exact hr1, below_trans h.bel ⟨hka.os, hka.tape, hka.output, hka.size, fun j hj => hka.block j (Nat.lt_of_lt_of_le hj h.bel.size) (fun hF => by have := (h.own j hF).1; omega)⟩, h.good⟩
  rcases hat with e | e
  · exact h.own j (e ▸ hj)
  · rw [e] at hj
    cases hj
    have := h.bel.size
    exact ⟨by simp; omega, fun hF => by have := h1.old _ hF; simp at this; omega⟩
set_option maxRecDepth 100000 in
set_option maxHeartbeats 3200000 in
theorem All_calls (w : World) (t : Nat) (vw vi : Value) (W : List Int) (I : List Bool) (F : Nat → Prop) (s : HS) (h : Rh w t vw vi W I F) (hr : Rel s W I) (hg : HM.Good s) :
    Calls Try.prog 48 #[ptr t] w fun e w' => ∃ v, e = .returned v ∧ Row w' 3 v (nats (allM s.r.length s)) ∧ (∀ j, v.ownBlock = some j → w.heap.size ≤ j) ∧ Below w.heap.size w w' := by
  obtain ⟨Aw, cw, hvw, _, _⟩ := (h.row 0 _ _ vw rfl rfl).shape
  rw [List.length_map] at hvw
  subst hvw
  have hc0 := h.cell 0 _ rfl
  have hc1 := h.cell 1 vi rfl
  have htl := blk_lt h.blk
  have RW := hid (h.row 0 _ _ _ rfl rfl)
  have RI := hid (h.row 1 _ _ vi rfl rfl)
  have HB := hid (fun (V : World) (q : Below w.heap.size w V) => (show V.cell? ⟨t, 0, none⟩ = some (Value.slice Aw W.length cw) ∧ V.cell? ⟨t, 1, none⟩ = some vi from ⟨(q.cell (p := ⟨t, 0, none⟩) htl).trans hc0, (q.cell (p := ⟨t, 1, none⟩) htl).trans hc1⟩))
  have b0 : Below w.heap.size w w.drew := ⟨rfl, rfl, rfl, Nat.le_refl _, fun _ _ => rfl⟩
  have HB0 := hid b0
  have HIL : Hid (I.length ≤ 1048576) := hid (by rw [hr.len, ← hr.w]; exact hg.wf.big)
  have HR := hid hr
  have HG := hid hg
  obtain ⟨all, hall⟩ : ∃ a, a = allM s.r.length s := ⟨_, rfl⟩
  rw [← hall]
  have HALL := hid hall
  clear h hc0 hc1 b0 hr hg hall
  go_enter Try.func48, Try.ntmps48
  go_wp2_with fail

  refine start_ (n := 13) (S := (fun w' => w'.cell? ⟨t, 0, none⟩ = some (Value.slice Aw W.length cw) ∧ w'.cell? ⟨t, 1, none⟩ = some vi)) (ds := []) #[false, false, false, false, false, false, false, false, false, false, false, false, false] (by kernel_rfl) rfl rfl (HB.out _ HB0.out) (fun hHeld => ?_)
  refine take_ (i := 0) (N := some 7) (v := ?_) (a' := ?_) #[true, false, false, false, false, false, false, false, false, false, false, false, false] rfl rfl (by kernel_rfl) (fun _ _ _ h => h) (Or.inl ⟨by rfl, ?_⟩) hHeld ?_ ?_   -- move (%0)
  rotate_left
  · rintro w' ⟨s0, s1⟩
    go_simp
    with_reducible rfl
  rotate_left
  · simp only [Act.put, List.setIfInBounds_toArray, List.set_cons_zero, List.set_cons_succ]
    rfl
  refine take_ (i := 1) (N := some 8) (v := ?_) (a' := ?_) #[true, true, false, false, false, false, false, false, false, false, false, false, false] rfl rfl (by kernel_rfl) (fun _ _ _ h => h) (Or.inl ⟨by rfl, ?_⟩) hHeld ?_ ?_   -- nilCheck (%7)
  rotate_left
  · rintro w' ⟨s0, s1⟩
    go_simp
    with_reducible rfl
  rotate_left
  · simp only [Act.put, List.setIfInBounds_toArray, List.set_cons_zero, List.set_cons_succ]
    rfl
  refine take_ (i := 2) (N := some 9) (v := ?_) (a' := ?_) #[true, true, true, false, false, false, false, false, false, false, false, false, false] rfl rfl (by kernel_rfl) (fun _ _ _ h => h) (Or.inl ⟨by rfl, ?_⟩) hHeld ?_ ?_   -- fieldAddr 60 (%8) 0
  rotate_left
  · rintro w' ⟨s0, s1⟩
    go_simp
    with_reducible rfl
  rotate_left
  · simp only [Act.put, List.setIfInBounds_toArray, List.set_cons_zero, List.set_cons_succ]
    rfl
  refine take_ (i := 3) (N := some 10) (v := ?_) (a' := ?_) #[true, true, true, true, false, false, false, false, false, false, false, false, false] rfl rfl (by kernel_rfl) (fun _ _ _ h => h) (Or.inl ⟨by rfl, ?_⟩) hHeld ?_ ?_   -- load 39 (%9)
  rotate_left
  · rintro w' ⟨s0, s1⟩
    go_simp
    with_reducible rfl
  rotate_left
  · simp only [Act.put, List.setIfInBounds_toArray, List.set_cons_zero, List.set_cons_succ]
    rfl
  refine take_ (i := 5) (N := some 12) (v := ?_) (a' := ?_) #[true, true, true, true, false, true, false, false, false, false, false, false, false] rfl rfl (by kernel_rfl) (fun _ _ _ h => h) (Or.inl ⟨by rfl, ?_⟩) hHeld ?_ ?_   -- move (%0)
  rotate_left
  · rintro w' ⟨s0, s1⟩
    go_simp
    with_reducible rfl
  rotate_left
  · simp only [Act.put, List.setIfInBounds_toArray, List.set_cons_zero, List.set_cons_succ]
    rfl
  refine take_ (i := 6) (N := some 13) (v := ?_) (a' := ?_) #[true, true, true, true, false, true, true, false, false, false, false, false, false] rfl rfl (by kernel_rfl) (fun _ _ _ h => h) (Or.inl ⟨by rfl, ?_⟩) hHeld ?_ ?_   -- nilCheck (%12)
  rotate_left
  · rintro w' ⟨s0, s1⟩
    go_simp
    with_reducible rfl
  rotate_left
  · simp only [Act.put, List.setIfInBounds_toArray, List.set_cons_zero, List.set_cons_succ]
    rfl
  refine take_ (i := 7) (N := some 14) (v := ?_) (a' := ?_) #[true, true, true, true, false, true, true, true, false, false, false, false, false] rfl rfl (by kernel_rfl) (fun _ _ _ h => h) (Or.inl ⟨by rfl, ?_⟩) hHeld ?_ ?_   -- fieldAddr 60 (%13) 1
  rotate_left
  · rintro w' ⟨s0, s1⟩
    go_simp
    with_reducible rfl
  rotate_left
  · simp only [Act.put, List.setIfInBounds_toArray, List.set_cons_zero, List.set_cons_succ]
    rfl
  refine take_ (i := 8) (N := some 15) (v := ?_) (a' := ?_) #[true, true, true, true, false, true, true, true, true, false, false, false, false] rfl rfl (by kernel_rfl) (fun _ _ _ h => h) (Or.inl ⟨by rfl, ?_⟩) hHeld ?_ ?_   -- load 58 (%14)
  rotate_left
  · rintro w' ⟨s0, s1⟩
    go_simp
    with_reducible rfl
  rotate_left
  · simp only [Act.put, List.setIfInBounds_toArray, List.set_cons_zero, List.set_cons_succ]
    rfl
  refine one_ (i := 4) (N := some 11) #[true, true, true, true, true, true, true, true, true, false, false, false, false] rfl rfl (by kernel_rfl) (by decide) (fun K hK => ?_)
  refine value_ (by rfl) rfl (v := .slice (some ⟨w.heap.size, 0, none⟩) 0 0) (w1 := w.drew.alloc (.cells #[] 4)) (by go_simp; first | done | rfl) ?_
  have B1 : Hid (Below w.heap.size w (w.drew.alloc (.cells #[] 4))) := hid (HB0.out.alloc (Nat.le_refl _) _)
  refine hK.out _ _ (HB.out _ B1.out) (fun hHeld => ?_)
  refine norm_ (a' := ?_) ?_ ?_
  rotate_left
  · simp only [Act.put, List.setIfInBounds_toArray, List.set_cons_zero, List.set_cons_succ]
    rfl
  refine one_ (i := 9) (N := some 16) #[true, true, true, true, true, true, true, true, true, true, false, false, false] rfl rfl (by kernel_rfl) (by decide) (fun K hK => ?_)
  refine step_bool _ (by rfl) (N := some 16) (by rfl) _ _ (by rfl) _ vi [] (bools I) (by rfl) (by rfl) (empty_row w.drew _) (RI.out.keep (Keep.ofBelow (F := fun _ => False) B1.out) (fun _ _ h => h)) (by intro u hu; obtain ⟨y, _, rfl⟩ := List.mem_map.1 hu; rfl) (by have := HIL.out; simp; omega) ?_
  intro v16 V16 hr hk hat
  obtain ⟨A16, c16, rfl, _, _⟩ := hr.shape
  have hln : ([] ++ bools I).length = I.length := by simp
  rw [hln] at hr hat
  try rw [hln]
  clear hln
  have B2 : Hid (Below w.heap.size w V16) := hid (below_trans B1.out (hk.below (fun j hj => by cases hj; exact Nat.le_refl _) B1.out.size))
  have OI : Hid (∀ j, (Value.slice A16 I.length c16).ownBlock = some j → w.heap.size ≤ j) := hid (fun j hj => by
    rcases hat with e | e
    · rw [e] at hj; cases hj; exact Nat.le_refl _
    · rw [e] at hj; cases hj; exact B1.out.size)
  rw [List.nil_append] at hr
  have RI2 := hid hr
  clear hr hk hat
  refine hK.out _ _ (HB.out _ B2.out) (fun hHeld => ?_)
  refine norm_ (a' := ?_) ?_ ?_
  rotate_left
  · simp only [Act.put, List.setIfInBounds_toArray, List.set_cons_zero, List.set_cons_succ]
    rfl
  refine take_ (i := 10) (N := some 17) (v := ?_) (a' := ?_) #[true, true, true, true, true, true, true, true, true, true, true, false, false] rfl rfl (by kernel_rfl) (fun _ _ _ h => h) (Or.inl ⟨by rfl, ?_⟩) hHeld ?_ ?_   -- build 60 #[(0, %10), (1, %16)]
  rotate_left
  · rintro w' ⟨s0, s1⟩
    go_simp
    with_reducible rfl
  rotate_left
  · simp only [Act.put, List.setIfInBounds_toArray, List.set_cons_zero, List.set_cons_succ]
    rfl
  refine one_ (i := 11) (N := some 18) #[true, true, true, true, true, true, true, true, true, true, true, true, false] rfl rfl (by kernel_rfl) (by decide) (fun K hK => ?_)
  refine value_ (by rfl) rfl (v := ptr V16.heap.size) (w1 := V16.alloc (.cells #[.slice Aw W.length cw, .slice A16 I.length c16] 60)) (by go_simp; first | done | rfl) ?_
  have OB : Hid (Rh (V16.alloc (.cells #[.slice Aw W.length cw, .slice A16 I.length c16] 60)) V16.heap.size (.slice Aw W.length cw) (.slice A16 I.length c16) W I (fun j => (Value.slice Aw W.length cw).ownBlock = some j ∨ (Value.slice A16 I.length c16).ownBlock = some j ∨ j = V16.heap.size)) := hid (copy_rh w V16 _ _ W I (RW.out.keep (Keep.ofBelow (F := fun _ => False) B2.out) (fun _ _ h => h)) RI2.out (fun j hj => RW.out.lt j hj) OI.out B2.out.size)
  have B3 : Hid (Below w.heap.size w (V16.alloc (.cells #[.slice Aw W.length cw, .slice A16 I.length c16] 60))) := hid (B2.out.alloc B2.out.size _)
  refine hK.out _ _ (HB.out _ B3.out) (fun hHeld => ?_)
  refine norm_ (a' := ?_) ?_ ?_
  rotate_left
  · simp only [Act.put, List.setIfInBounds_toArray, List.set_cons_zero, List.set_cons_succ]
    rfl
  refine take_ (i := 12) (N := some 3) (v := ?_) (a' := ?_) #[true, true, true, true, true, true, true, true, true, true, true, true, true] rfl rfl (by kernel_rfl) (fun _ _ _ h => h) (Or.inl ⟨by rfl, ?_⟩) hHeld ?_ ?_   -- assign (%18)
  rotate_left
  · rintro w' ⟨s0, s1⟩
    go_simp
    with_reducible rfl
  rotate_left
  · simp only [Act.put, List.setIfInBounds_toArray, List.set_cons_zero, List.set_cons_succ]
    rfl
  refine done_ (by kernel_rfl) ?_
  obtain ⟨V, hV⟩ : ∃ V, V = V16.alloc (.cells #[.slice Aw W.length cw, .slice A16 I.length c16] 60) := ⟨_, rfl⟩
  obtain ⟨C, hC⟩ : ∃ C, C = V16.heap.size := ⟨_, rfl⟩
  obtain ⟨G, hG⟩ : ∃ G, G = (fun j => (Value.slice Aw W.length cw).ownBlock = some j ∨ (Value.slice A16 I.length c16).ownBlock = some j ∨ j = V16.heap.size) := ⟨_, rfl⟩
  rw [← hG, ← hV, ← hC] at OB
  rw [← hV] at B3
  rw [← hV, ← hC]
  clear hV hC hG
  obtain ⟨n, hn⟩ : ∃ n, n = s.r.length := ⟨_, rfl⟩
  have START : Hid (AAt w C (.slice Aw W.length cw) (.slice A16 I.length c16) W G s (.slice none 0 0) [] V ∧ n = s.r.length ∧ [] ++ allM n s = all) := hid ⟨⟨⟨I, OB.out, HR.out⟩, (fun j hj => by cases hj), OI.out, .nil _ _, B3.out, HG.out⟩, hn, by rw [hn, HALL.out]; rfl⟩
  have HNB : Hid (n ≤ 1048576) := hid (by rw [hn]; exact HG.out.wf.rbig)
  clear hn OB B1 B2 B3 HB HB0 RW RI RI2 OI HR HG HALL hHeld
  go_wp2_with fail
  go_loopg [4] n (fun left v4 wr => ∃ s l, (∃ A c, v4 = .slice A l.length c) ∧ left ≤ n ∧ Hid (l.length + left = n) ∧ Hid (AAt w C (.slice Aw W.length cw) (.slice A16 I.length c16) W G s v4 l wr ∧ left = s.r.length ∧ l ++ allM left s = all))
  case atStart => exact ⟨s, [], ⟨none, 0, rfl⟩, Nat.le_refl _, hid (by simp), START⟩
  case round =>
    obtain ⟨s, l, ⟨A, c, rfl⟩, hle, HLN, U⟩ := hrel
    clear START
    cases gk with
    | zero =>
      have POP := hid (U.out.1.none U.out.2.1.symm)
      go_wp2_with fail
      refine POP.out.mono ?_
      rintro e w2 ⟨rfl, a2⟩
      have A2 := hid a2
      clear a2
      go_wp2_with fail
      go_ret
      refine ⟨_, rfl, ?_, fun j hj => (A2.out.own j hj).1, A2.out.bel⟩
      rw [← U.out.2.2, allM, List.append_nil]
      exact A2.out.row
    | succ left =>
      have POP := hid (U.out.1.pop (by rw [← U.out.2.1]; omega))
      have HRS : Hid (left = (popM s).r.length ∧ l ++ R s 0 :: allM left (popM s) = all) := hid (by
        have h1 := (pop_good U.out.1.good (by rw [← U.out.2.1]; omega)).2.2.1
        exact ⟨by rw [← U.out.2.1] at h1; omega, U.out.2.2⟩)
      obtain ⟨x, hx⟩ : ∃ x, x = R s 0 := ⟨_, rfl⟩
      rw [← hx] at POP HRS
      clear hx
      obtain ⟨nl, hnl⟩ : ∃ n, n = l.length := ⟨_, rfl⟩
      have HNL := hid hnl
      go_wp2_with fail
      refine POP.out.mono ?_
      rintro e w2 ⟨rfl, a2⟩
      have A2 := hid a2
      clear a2 POP
      rw [← HNL.out] at A2 ⊢
      clear hnl
      go_wp2_with (at_builtin; go_loud (refine wp_app _ rfl _ _ rfl _ _ (nats l) [.int .i64 (x : Nat)] (by rfl) (by rfl) (A2.out.row.alloc _) (Row.one _ _ _) (by simp [Value.oneCell']) (by have := HLN.out; have := HNB.out; simp; omega) ?_; intro v5 w5 hr5 hk5 hat5; have A5 := hid (A2.out.app _ hr5 hk5 hat5); obtain ⟨A6, c6, rfl, _, _⟩ := hr5.shape; have hln : (nats l ++ [Value.int .i64 (x : Nat)]).length = nl + 1 := (by have := HNL.out; simp; omega); rw [hln] at A5; try rw [hln]; clear hr5 hk5 hat5 hln))
      go_roundg left
      case measure => omega
      case rel => exact ⟨popM s, l ++ [x], ⟨A6, c6, by rw [List.length_append, ← HNL.out]; rfl⟩, by omega, hid (by have := HLN.out; simp; omega), hid ⟨A5.out, HRS.out.1, by rw [List.append_assoc]; exact HRS.out.2⟩⟩
end Go.Proofs.Ytegcfaohhcjajaa.RH
