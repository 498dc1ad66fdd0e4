/- The document's heap, in memory: Raise and Halve (printed by wip/tools/refh.py). -/
import Derived.Test.YtegcfaohhcjajaaRefH
namespace Go.Proofs.Ytegcfaohhcjajaa.RH
open Go.RowKit Go.Proofs.YtegcfaohhcjajaaW.PrintWords Go.Proofs.YtegcfaohhcjajaaW.PrintLast Go.Proofs.YtegcfaohhcjajaaW.PrintMore Go.Proofs.Ytegcfaohhcjajaa.MM Go.Proofs.Ytegcfaohhcjajaa.HM
attribute [local go_sem ↓] Go.wp_at_zero Go.wp_at_succ
set_option linter.unusedSimpArgs false
set_option linter.unusedVariables false

set_option maxHeartbeats 1600000 in
theorem Raise_arg (w : World) (t : Nat) (vw vi : Value) (W : List Int) (I : List Bool) (F : Nat → Prop) (i d : Int) (h : Rh w t vw vi W I F) (hk : knownD W i = false ∨ d < 0) :
    Calls Try.prog 28 #[ptr t, .int .i64 i, .int .i64 d] w fun e w' => e = .returned (.int .i64 2) ∧ Below w.heap.size w w' := by
  have HKN := hid (known_calls w t vw vi W I F i h)
  clear h
  cases hk0 : knownD W i with
  | false =>
    rw [hk0] at HKN
    clear hk hk0
    go_enter Try.func28, Try.ntmps28
    go_wp2_with fail
    refine HKN.out.mono ?_
    rintro e w1 ⟨rfl, hb1⟩
    have HB1 := hid hb1
    clear hb1
    go_wp2_with fail
    go_ret
    exact ⟨rfl, HB1.out⟩
  | true =>
    rw [hk0] at HKN
    have hd : d < 0 := hk.resolve_left (by simp [hk0])
    clear hk hk0
    go_enter Try.func28, Try.ntmps28
    go_wp2_with fail
    refine HKN.out.mono ?_
    rintro e w1 ⟨rfl, hb1⟩
    have HB1 := hid hb1
    clear hb1
    go_wp2_with fail
    go_ret
    exact ⟨rfl, HB1.out⟩
set_option maxHeartbeats 1600000 in
theorem Raise_over (w : World) (t : Nat) (vw vi : Value) (W : List Int) (I : List Bool) (F : Nat → Prop) (m : Nat) (d : Int) (h : Rh w t vw vi W I F) (hm : m < W.length) (hd : 0 ≤ d) (h0 : 0 ≤ W.getD m 0) (h1 : W.getD m 0 ≤ 4611686018427387904) (ho : d > 4611686018427387904 - W.getD m 0) :
    Calls Try.prog 28 #[ptr t, .int .i64 m, .int .i64 d] w fun e w' => e = .returned (.int .i64 6) ∧ Below w.heap.size w w' := by
  have HKN := hid (known_calls w t vw vi W I F m h)
  rw [(knownD_iff W m).2 ⟨by omega, by omega⟩] at HKN
  have htl := blk_lt h.blk
  obtain ⟨g, off, cap, hv, hcap, hg, hcells, _⟩ := row_at h 0 _ _ vw rfl rfl (by simp; omega)
  rw [List.length_map] at hv hcap
  subst hv
  have hx := (hcells m (by simpa using hm)).trans (lits_get _ _ hm)
  obtain ⟨x, hx0⟩ : ∃ x, x = W.getD m 0 := ⟨_, rfl⟩
  rw [← hx0] at hx h0 h1 ho
  have HX := hid hx
  have HC := hid (h.cell 0 _ rfl)
  have HG := hid hg
  have hmI : (m : Int) < (W.length : Int) := by omega
  have hd' : ¬ d < 0 := by omega
  have hw : wrap64 (4611686018427387904 - x) = 4611686018427387904 - x := by unfold wrap64; omega
  clear hcells hx hg hx0 h hd h0 h1
  go_enter Try.func28, Try.ntmps28
  go_wp2_with fail
  refine HKN.out.mono ?_
  rintro e w1 ⟨rfl, hb1⟩
  have hc1 : w1.cell? ⟨t, 0, none⟩ = _ := (hb1.cell (p := ⟨t, 0, none⟩) htl).trans HC.out
  have hx1 : w1.cell? ⟨g, off + m, none⟩ = _ := (hb1.cell (p := ⟨g, off + m, none⟩) HG.out).trans HX.out
  have HB1 := hid hb1
  clear hb1
  go_wp2_with fail
  go_ret
  exact ⟨rfl, HB1.out⟩
set_option maxRecDepth 100000 in
set_option maxHeartbeats 3200000 in
theorem Raise_calls (w : World) (t : Nat) (vw vi : Value) (W : List Int) (I : List Bool) (F : Nat → Prop) (m : Nat) (d : Int) (h : Rh w t vw vi W I F) (hm : m < W.length) (hd : 0 ≤ d) (h0 : 0 ≤ W.getD m 0) (h1 : W.getD m 0 ≤ 4611686018427387904) (ho : ¬ d > 4611686018427387904 - W.getD m 0) :
    Calls Try.prog 28 #[ptr t, .int .i64 m, .int .i64 d] w fun e w' => e = .returned (.int .i64 0) ∧ Rh w' t vw vi (W.set m (W.getD m 0 + d)) I F ∧ Keep F w w' := by
  have HKN := hid (known_calls w t vw vi W I F m h)
  rw [(knownD_iff W m).2 ⟨by omega, by omega⟩] at HKN
  have HH := hid h
  obtain ⟨x, hx0⟩ : ∃ x, x = W.getD m 0 := ⟨_, rfl⟩
  obtain ⟨n, hn⟩ : ∃ n, n = W.length := ⟨_, rfl⟩
  have HHM := hid hm
  rw [← hx0] at h0 h1 ho
  rw [← hx0]
  have HX0 := hid hx0
  have HN := hid hn
  have hmI : (m : Int) < (n : Int) := by omega
  have hd' : ¬ d < 0 := by omega
  have hw : wrap64 (4611686018427387904 - x) = 4611686018427387904 - x := by unfold wrap64; omega
  have hw2 : wrap64 (x + d) = x + d := by unfold wrap64; omega
  have hw3 : IntKind.i64.wrap (x + d) = x + d := by simp [IntKind.wrap, IntKind.signed, IntKind.bits]; omega
  clear hx0 h hd h0 h1 hn hm
  go_enter Try.func28, Try.ntmps28
  go_wp2_with fail
  refine HKN.out.mono ?_
  rintro e w1 ⟨rfl, hb1⟩
  have h1 : Rh w1 t vw vi W I F := HH.out.below hb1
  obtain ⟨g, off, cap, hv, hcap, hg, hcells, hfr⟩ := row_at h1 0 _ _ vw rfl rfl (by have := HHM.out; simp; omega)
  rw [List.length_map] at hv hcap
  have hx1 := (hcells m (by simpa using HHM.out)).trans (lits_get _ _ HHM.out)
  rw [← HX0.out] at hx1
  subst hv
  have hc0 := h1.cell 0 _ rfl
  have T1 := h1.put 0 _ _ g off W.length cap rfl rfl m (by simpa using HHM.out) (.int .i64 (x + d))
  rw [← HN.out] at hc0
  have hf1 := hfr (off + m)
  have hfin : Rh (w1.setCell ⟨g, off + m, none⟩ (.int .i64 (x + d))) t (.slice (some ⟨g, off, none⟩) W.length cap) vi (W.set m (x + d)) I F := by
    show Ob _ _ _ _ [(_, lits (W.set m (x + d))), _] _
    rw [lits_set]
    exact T1.1
  have hfin' : Rh (w1.drew.setCell ⟨g, off + m, none⟩ (.int .i64 (x + d))) t (.slice (some ⟨g, off, none⟩) W.length cap) vi (W.set m (x + d)) I F := hfin.drew
  have HFIN := hid hfin'
  have hk1 : Keep F w (w1.drew.setCell ⟨g, off + m, none⟩ (.int .i64 (x + d))) := by
    have := (Keep.ofBelow (F := F) hb1).trans T1.2 (H := F) (fun _ h => h) (fun _ h => .inl h)
    exact ⟨this.os, this.tape, this.output, this.size, this.block⟩
  have HKEEP := hid hk1
  have HS0 := hid (show w1.cell? ⟨t, 0, none⟩ = some (.slice (some ⟨g, off, none⟩) n cap) ∧ w1.cell? ⟨g, off + m, none⟩ = some (.int .i64 x) ∧ w1.frozen? ⟨g, off + m, none⟩ = false from ⟨hc0, hx1, hf1⟩)
  clear hb1 hcells h1 hg hfr hcap hfin hfin' T1 hk1 HH
  go_wp2_with fail

  refine start_ (n := 16) (S := (fun w' => w'.cell? ⟨t, 0, none⟩ = some (.slice (some ⟨g, off, none⟩) n cap) ∧ w'.cell? ⟨g, off + m, none⟩ = some (.int .i64 x) ∧ w'.frozen? ⟨g, off + m, none⟩ = false)) (ds := [15]) #[false, false, false, false, false, false, false, false, false, false, false, false, false, false, false, false] (by kernel_rfl) rfl rfl HS0.out (fun hHeld => ?_)
  refine take_ (i := 0) (N := some 25) (v := ?_) (a' := ?_) #[true, false, false, false, false, false, false, false, false, false, false, false, false, false, false, false] rfl rfl (by kernel_rfl) (fun _ _ _ h => h) (Or.inl ⟨by rfl, ?_⟩) hHeld ?_ ?_   -- move (%0)
  rotate_left
  · rintro w' ⟨s0, s1, s2⟩
    go_simp
    with_reducible rfl
  rotate_left
  · simp only [Act.put, List.setIfInBounds_toArray, List.set_cons_zero, List.set_cons_succ]
    rfl
  refine take_ (i := 1) (N := some 26) (v := ?_) (a' := ?_) #[true, true, false, false, false, false, false, false, false, false, false, false, false, false, false, false] rfl rfl (by kernel_rfl) (fun _ _ _ h => h) (Or.inl ⟨by rfl, ?_⟩) hHeld ?_ ?_   -- nilCheck (%25)
  rotate_left
  · rintro w' ⟨s0, s1, s2⟩
    go_simp
    with_reducible rfl
  rotate_left
  · simp only [Act.put, List.setIfInBounds_toArray, List.set_cons_zero, List.set_cons_succ]
    rfl
  refine take_ (i := 2) (N := some 27) (v := ?_) (a' := ?_) #[true, true, true, false, false, false, false, false, false, false, false, false, false, false, false, false] rfl rfl (by kernel_rfl) (fun _ _ _ h => h) (Or.inl ⟨by rfl, ?_⟩) hHeld ?_ ?_   -- fieldAddr 60 (%26) 0
  rotate_left
  · rintro w' ⟨s0, s1, s2⟩
    go_simp
    with_reducible rfl
  rotate_left
  · simp only [Act.put, List.setIfInBounds_toArray, List.set_cons_zero, List.set_cons_succ]
    rfl
  refine take_ (i := 3) (N := some 28) (v := ?_) (a' := ?_) #[true, true, true, true, false, false, false, false, false, false, false, false, false, false, false, false] rfl rfl (by kernel_rfl) (fun _ _ _ h => h) (Or.inl ⟨by rfl, ?_⟩) hHeld ?_ ?_   -- load 39 (%27)
  rotate_left
  · rintro w' ⟨s0, s1, s2⟩
    go_simp
    with_reducible rfl
  rotate_left
  · simp only [Act.put, List.setIfInBounds_toArray, List.set_cons_zero, List.set_cons_succ]
    rfl
  refine take_ (i := 4) (N := some 29) (v := ?_) (a' := ?_) #[true, true, true, true, true, false, false, false, false, false, false, false, false, false, false, false] rfl rfl (by kernel_rfl) (fun _ _ _ h => h) (Or.inl ⟨by rfl, ?_⟩) hHeld ?_ ?_   -- move (%1)
  rotate_left
  · rintro w' ⟨s0, s1, s2⟩
    go_simp
    with_reducible rfl
  rotate_left
  · simp only [Act.put, List.setIfInBounds_toArray, List.set_cons_zero, List.set_cons_succ]
    rfl
  refine take_ (i := 5) (N := some 30) (v := ?_) (a' := ?_) #[true, true, true, true, true, true, false, false, false, false, false, false, false, false, false, false] rfl rfl (by kernel_rfl) (fun _ _ _ h => h) (Or.inl ⟨by rfl, ?_⟩) hHeld ?_ ?_   -- move (%0)
  rotate_left
  · rintro w' ⟨s0, s1, s2⟩
    go_simp
    with_reducible rfl
  rotate_left
  · simp only [Act.put, List.setIfInBounds_toArray, List.set_cons_zero, List.set_cons_succ]
    rfl
  refine take_ (i := 6) (N := some 31) (v := ?_) (a' := ?_) #[true, true, true, true, true, true, true, false, false, false, false, false, false, false, false, false] rfl rfl (by kernel_rfl) (fun _ _ _ h => h) (Or.inl ⟨by rfl, ?_⟩) hHeld ?_ ?_   -- nilCheck (%30)
  rotate_left
  · rintro w' ⟨s0, s1, s2⟩
    go_simp
    with_reducible rfl
  rotate_left
  · simp only [Act.put, List.setIfInBounds_toArray, List.set_cons_zero, List.set_cons_succ]
    rfl
  refine take_ (i := 7) (N := some 32) (v := ?_) (a' := ?_) #[true, true, true, true, true, true, true, true, false, false, false, false, false, false, false, false] rfl rfl (by kernel_rfl) (fun _ _ _ h => h) (Or.inl ⟨by rfl, ?_⟩) hHeld ?_ ?_   -- fieldAddr 60 (%31) 0
  rotate_left
  · rintro w' ⟨s0, s1, s2⟩
    go_simp
    with_reducible rfl
  rotate_left
  · simp only [Act.put, List.setIfInBounds_toArray, List.set_cons_zero, List.set_cons_succ]
    rfl
  refine take_ (i := 8) (N := some 33) (v := ?_) (a' := ?_) #[true, true, true, true, true, true, true, true, true, false, false, false, false, false, false, false] rfl rfl (by kernel_rfl) (fun _ _ _ h => h) (Or.inl ⟨by rfl, ?_⟩) hHeld ?_ ?_   -- load 39 (%32)
  rotate_left
  · rintro w' ⟨s0, s1, s2⟩
    go_simp
    with_reducible rfl
  rotate_left
  · simp only [Act.put, List.setIfInBounds_toArray, List.set_cons_zero, List.set_cons_succ]
    rfl
  refine take_ (i := 9) (N := some 34) (v := ?_) (a' := ?_) #[true, true, true, true, true, true, true, true, true, true, false, false, false, false, false, false] rfl rfl (by kernel_rfl) (fun _ _ _ h => h) (Or.inl ⟨by rfl, ?_⟩) hHeld ?_ ?_   -- move (%1)
  rotate_left
  · rintro w' ⟨s0, s1, s2⟩
    go_simp
    with_reducible rfl
  rotate_left
  · simp only [Act.put, List.setIfInBounds_toArray, List.set_cons_zero, List.set_cons_succ]
    rfl
  refine take_ (i := 10) (N := some 35) (v := ?_) (a' := ?_) #[true, true, true, true, true, true, true, true, true, true, true, false, false, false, false, false] rfl rfl (by kernel_rfl) (fun _ _ _ h => h) (Or.inl ⟨by rfl, ?_⟩) hHeld ?_ ?_   -- indexAddr 39 (%33) (%34)
  rotate_left
  · rintro w' ⟨s0, s1, s2⟩
    go_simp
    with_reducible rfl
  rotate_left
  · simp only [Act.put, List.setIfInBounds_toArray, List.set_cons_zero, List.set_cons_succ]
    rfl
  refine take_ (i := 11) (N := some 36) (v := ?_) (a' := ?_) #[true, true, true, true, true, true, true, true, true, true, true, true, false, false, false, false] rfl rfl (by kernel_rfl) (fun _ _ _ h => h) (Or.inl ⟨by rfl, ?_⟩) hHeld ?_ ?_   -- load 2 (%35)
  rotate_left
  · rintro w' ⟨s0, s1, s2⟩
    go_simp
    with_reducible rfl
  rotate_left
  · simp only [Act.put, List.setIfInBounds_toArray, List.set_cons_zero, List.set_cons_succ]
    rfl
  refine take_ (i := 12) (N := some 37) (v := ?_) (a' := ?_) #[true, true, true, true, true, true, true, true, true, true, true, true, true, false, false, false] rfl rfl (by kernel_rfl) (fun _ _ _ h => h) (Or.inl ⟨by rfl, ?_⟩) hHeld ?_ ?_   -- move (%2)
  rotate_left
  · rintro w' ⟨s0, s1, s2⟩
    go_simp
    with_reducible rfl
  rotate_left
  · simp only [Act.put, List.setIfInBounds_toArray, List.set_cons_zero, List.set_cons_succ]
    rfl
  refine take_ (i := 13) (N := some 38) (v := ?_) (a' := ?_) #[true, true, true, true, true, true, true, true, true, true, true, true, true, true, false, false] rfl rfl (by kernel_rfl) (fun _ _ _ h => h) (Or.inl ⟨by rfl, ?_⟩) hHeld ?_ ?_   -- binOp add 2 (%36) (%37) 2
  rotate_left
  · rintro w' ⟨s0, s1, s2⟩
    go_simp
    with_reducible rfl
  rotate_left
  · simp only [Act.put, List.setIfInBounds_toArray, List.set_cons_zero, List.set_cons_succ]
    rfl
  refine take_ (i := 14) (N := some 39) (v := ?_) (a' := ?_) #[true, true, true, true, true, true, true, true, true, true, true, true, true, true, true, false] rfl rfl (by kernel_rfl) (fun _ _ _ h => h) (Or.inl ⟨by rfl, ?_⟩) hHeld ?_ ?_   -- indexAddr 39 (%28) (%29)
  rotate_left
  · rintro w' ⟨s0, s1, s2⟩
    go_simp
    with_reducible rfl
  rotate_left
  · simp only [Act.put, List.setIfInBounds_toArray, List.set_cons_zero, List.set_cons_succ]
    rfl
  refine last_ (i := 15) (N := none) #[true, true, true, true, true, true, true, true, true, true, true, true, true, true, true, true] rfl rfl (by kernel_rfl) (by decide) (fun K hK => ?_)
  refine skip_ (by rfl) rfl (w1 := w1.drew.setCell ⟨g, off + m, none⟩ (.int .i64 (x + d))) (by go_simp; first | done | rfl) ?_
  refine hK.out _ _ ?_
  refine done_ (by kernel_rfl) ?_
  go_wp2_with fail
  go_ret
  exact ⟨rfl, HFIN.out, HKEEP.out⟩
/-! #### Halve -/
structure HlAt (w : World) (t : Nat) (vw vi : Value) (W W' : List Int) (I : List Bool) (F : Nat → Prop) (n k : Nat) (wr : World) : Prop where
  ob : Rh wr t vw vi W' I F
  keep : Keep F w wr
  kn : k ≤ n
  len : W'.length = n
  len0 : W.length = n
  get : ∀ j, j < n → W'.getD j 0 = if j < k then (W.getD j 0).tdiv 2 else W.getD j 0
theorem HlAt.done {w wr : World} {t n : Nat} {vw vi : Value} {W W' : List Int} {I : List Bool} {F : Nat → Prop} (h : HlAt w t vw vi W W' I F n n wr) : W' = W.map (fun x => x.tdiv 2) := by
  apply List.ext_getElem
  · simp [h.len, h.len0]
  · intro j h1 h2
    have := h.get j (by rw [← h.len]; exact h1)
    rw [if_pos (by rw [← h.len]; exact h1)] at this
    have h3 : j < W.length := by rw [h.len0, ← h.len]; exact h1
    simp only [List.getD_eq_getElem?_getD, List.getElem?_eq_getElem h1, List.getElem?_eq_getElem h3, Option.getD_some] at this
    simp [this]
theorem HlAt.next {w wr wr' : World} {t n k : Nat} {vw vi : Value} {W W' : List Int} {I : List Bool} {F : Nat → Prop} (h : HlAt w t vw vi W W' I F n k wr) (hk : k < n) (hp : Rh wr' t vw vi (W'.set k ((W'.getD k 0).tdiv 2)) I F) (hkp : Keep F wr wr') : HlAt w t vw vi W (W'.set k ((W'.getD k 0).tdiv 2)) I F n (k + 1) wr' where
  ob := hp
  keep := h.keep.trans hkp (fun _ h => h) (fun _ h => .inl h)
  kn := hk
  len := by simp [h.len]
  len0 := h.len0
  get := fun j hj => by
    have hg := h.get j hj
    have h3 : k < W'.length := by rw [h.len]; exact hk
    by_cases e : j = k
    · subst e
      rw [if_neg (by omega)] at hg
      rw [if_pos (by omega), ← hg]
      simp [List.getD_eq_getElem?_getD, h3]
    · have : (W'.set k ((W'.getD k 0).tdiv 2)).getD j 0 = W'.getD j 0 := by
        rw [List.getD_eq_getElem?_getD, List.getElem?_set_ne (fun q => e q.symm), ← List.getD_eq_getElem?_getD]
      rw [this, hg]
      by_cases hjk : j < k
      · rw [if_pos hjk, if_pos (by omega)]
      · rw [if_neg hjk, if_neg (by omega)]
set_option maxRecDepth 100000 in
set_option maxHeartbeats 3200000 in
theorem Halve_calls (w : World) (t : Nat) (vw vi : Value) (W : List Int) (I : List Bool) (F : Nat → Prop) (h : Rh w t vw vi W I F) (hbig : W.length ≤ 1048576) (h0 : ∀ x ∈ W, 0 ≤ x ∧ x ≤ 4611686018427387904) :
    Calls Try.prog 30 #[ptr t] w fun e w' => e = .returned (.tuple #[]) ∧ Rh w' t vw vi (W.map (fun x => x.tdiv 2)) I F ∧ Keep F w w' := by
  obtain ⟨A, c, rfl, hc⟩ := wcell h
  obtain ⟨n, hn⟩ : ∃ n, n = W.length := ⟨_, rfl⟩
  have START : Hid (HlAt w t (.slice A W.length c) vi W W I F n 0 w) := hid ⟨h, Keep.refl _ _, Nat.zero_le _, hn.symm, hn.symm, fun j hj => by rw [if_neg (by omega)]⟩
  have HN := hid hn
  have HW0 := hid h0
  rw [← hn] at hc hbig
  clear h hn h0
  go_enter Try.func30, Try.ntmps30
  go_wp2_with fail
  go_loopg [2] n (fun left v2 wr => ∃ k W', left + k = n ∧ v2 = .int .i64 (k : Int) ∧ Hid (HlAt w t (.slice A W.length c) vi W W' I F n k wr))
  case atStart => exact ⟨0, W, by omega, rfl, START⟩
  case round =>
    obtain ⟨k, W', hlk, rfl, U⟩ := hrel
    clear START
    have hc0 : wr.cell? ⟨t, 0, none⟩ = some (.slice A W.length c) := U.out.ob.cell 0 _ rfl
    rw [← HN.out] at hc0
    by_cases hkn : k < n
    · have hkI : (k : Int) < (n : Int) := by omega
      have hkl : k < W'.length := by rw [U.out.len]; exact hkn
      obtain ⟨g, off, cap, hv, hcap, hg, hcells, hfr⟩ := row_at U.out.ob 0 _ _ _ rfl rfl (by simp; omega)
      injection hv with hA _ hcc
      subst hA hcc
      obtain ⟨x, hx0⟩ : ∃ x, x = W'.getD k 0 := ⟨_, rfl⟩
      have hx := (hcells k (by simpa using hkl)).trans (lits_get _ _ hkl)
      rw [← hx0] at hx
      have hx1 : 0 ≤ x ∧ x ≤ 4611686018427387904 := by
        have h1 := U.out.get k hkn
        rw [if_neg (by omega)] at h1
        rw [hx0, h1, List.getD_eq_getElem?_getD, List.getElem?_eq_getElem (by rw [U.out.len0]; exact hkn)]
        exact HW0.out _ (List.getElem_mem _)
      have hw : wrap64 (x.tdiv 2) = x.tdiv 2 := by
        rw [Int.tdiv_eq_ediv_of_nonneg hx1.1]
        exact wrap_in (by omega) (by omega)
      have hw3 : IntKind.i64.wrap (x.tdiv 2) = x.tdiv 2 := by
        rw [Int.tdiv_eq_ediv_of_nonneg hx1.1]
        simp [IntKind.wrap, IntKind.signed, IntKind.bits]; omega
      have hw2 : wrap64 ((k : Int) + 1) = ((k + 1 : Nat) : Int) := by unfold wrap64; omega
      have hf0 := hfr (off + k)
      have T1 := U.out.ob.put 0 _ _ g off W.length c rfl rfl k (by simpa using hkl) (.int .i64 (x.tdiv 2))
      have hfin : Rh (wr.drew.setCell ⟨g, off + k, none⟩ (.int .i64 (x.tdiv 2))) t (.slice (some ⟨g, off, none⟩) W.length c) vi (W'.set k (x.tdiv 2)) I F := by
        show Ob _ _ _ _ [(_, lits (W'.set k (x.tdiv 2))), _] _
        rw [lits_set]
        exact T1.1.drew
      have HFIN := hid hfin
      have HKEEP : Hid (Keep F wr (wr.drew.setCell ⟨g, off + k, none⟩ (.int .i64 (x.tdiv 2)))) := hid ⟨T1.2.os, T1.2.tape, T1.2.output, T1.2.size, T1.2.block⟩
      have HX0 := hid hx0
      have HS0 := hid (show wr.cell? ⟨t, 0, none⟩ = some (.slice (some ⟨g, off, none⟩) n c) ∧ wr.cell? ⟨g, off + k, none⟩ = some (.int .i64 x) ∧ wr.frozen? ⟨g, off + k, none⟩ = false from ⟨hc0, hx, hf0⟩)
      clear hcells hfr hcap hg hx0 hx1 T1 hfin hkl
      cases gk with
      | zero => omega
      | succ left =>
        go_wp2_with fail
        refine start_ (n := 15) (S := (fun w' => w'.cell? ⟨t, 0, none⟩ = some (.slice (some ⟨g, off, none⟩) n c) ∧ w'.cell? ⟨g, off + k, none⟩ = some (.int .i64 x) ∧ w'.frozen? ⟨g, off + k, none⟩ = false)) (ds := [14]) #[false, false, false, false, false, false, false, false, false, false, false, false, false, false, false] (by kernel_rfl) rfl rfl HS0.out (fun hHeld => ?_)
        refine take_ (i := 0) (N := some 12) (v := ?_) (a' := ?_) #[true, false, false, false, false, false, false, false, false, false, false, false, false, false, false] rfl rfl (by kernel_rfl) (fun _ _ _ h => h) (Or.inl ⟨by rfl, ?_⟩) hHeld ?_ ?_   -- move (%0)
        rotate_left
        · rintro w' ⟨s0, s1, s2⟩
          go_simp
          with_reducible rfl
        rotate_left
        · simp only [Act.put, List.setIfInBounds_toArray, List.set_cons_zero, List.set_cons_succ]
          rfl
        refine take_ (i := 1) (N := some 13) (v := ?_) (a' := ?_) #[true, true, false, false, false, false, false, false, false, false, false, false, false, false, false] rfl rfl (by kernel_rfl) (fun _ _ _ h => h) (Or.inl ⟨by rfl, ?_⟩) hHeld ?_ ?_   -- nilCheck (%12)
        rotate_left
        · rintro w' ⟨s0, s1, s2⟩
          go_simp
          with_reducible rfl
        rotate_left
        · simp only [Act.put, List.setIfInBounds_toArray, List.set_cons_zero, List.set_cons_succ]
          rfl
        refine take_ (i := 2) (N := some 14) (v := ?_) (a' := ?_) #[true, true, true, false, false, false, false, false, false, false, false, false, false, false, false] rfl rfl (by kernel_rfl) (fun _ _ _ h => h) (Or.inl ⟨by rfl, ?_⟩) hHeld ?_ ?_   -- fieldAddr 60 (%13) 0
        rotate_left
        · rintro w' ⟨s0, s1, s2⟩
          go_simp
          with_reducible rfl
        rotate_left
        · simp only [Act.put, List.setIfInBounds_toArray, List.set_cons_zero, List.set_cons_succ]
          rfl
        refine take_ (i := 3) (N := some 15) (v := ?_) (a' := ?_) #[true, true, true, true, false, false, false, false, false, false, false, false, false, false, false] rfl rfl (by kernel_rfl) (fun _ _ _ h => h) (Or.inl ⟨by rfl, ?_⟩) hHeld ?_ ?_   -- load 39 (%14)
        rotate_left
        · rintro w' ⟨s0, s1, s2⟩
          go_simp
          with_reducible rfl
        rotate_left
        · simp only [Act.put, List.setIfInBounds_toArray, List.set_cons_zero, List.set_cons_succ]
          rfl
        refine take_ (i := 4) (N := some 16) (v := ?_) (a' := ?_) #[true, true, true, true, true, false, false, false, false, false, false, false, false, false, false] rfl rfl (by kernel_rfl) (fun _ _ _ h => h) (Or.inl ⟨by rfl, ?_⟩) hHeld ?_ ?_   -- move (%2)
        rotate_left
        · rintro w' ⟨s0, s1, s2⟩
          go_simp
          with_reducible rfl
        rotate_left
        · simp only [Act.put, List.setIfInBounds_toArray, List.set_cons_zero, List.set_cons_succ]
          rfl
        refine take_ (i := 5) (N := some 17) (v := ?_) (a' := ?_) #[true, true, true, true, true, true, false, false, false, false, false, false, false, false, false] rfl rfl (by kernel_rfl) (fun _ _ _ h => h) (Or.inl ⟨by rfl, ?_⟩) hHeld ?_ ?_   -- move (%0)
        rotate_left
        · rintro w' ⟨s0, s1, s2⟩
          go_simp
          with_reducible rfl
        rotate_left
        · simp only [Act.put, List.setIfInBounds_toArray, List.set_cons_zero, List.set_cons_succ]
          rfl
        refine take_ (i := 6) (N := some 18) (v := ?_) (a' := ?_) #[true, true, true, true, true, true, true, false, false, false, false, false, false, false, false] rfl rfl (by kernel_rfl) (fun _ _ _ h => h) (Or.inl ⟨by rfl, ?_⟩) hHeld ?_ ?_   -- nilCheck (%17)
        rotate_left
        · rintro w' ⟨s0, s1, s2⟩
          go_simp
          with_reducible rfl
        rotate_left
        · simp only [Act.put, List.setIfInBounds_toArray, List.set_cons_zero, List.set_cons_succ]
          rfl
        refine take_ (i := 7) (N := some 19) (v := ?_) (a' := ?_) #[true, true, true, true, true, true, true, true, false, false, false, false, false, false, false] rfl rfl (by kernel_rfl) (fun _ _ _ h => h) (Or.inl ⟨by rfl, ?_⟩) hHeld ?_ ?_   -- fieldAddr 60 (%18) 0
        rotate_left
        · rintro w' ⟨s0, s1, s2⟩
          go_simp
          with_reducible rfl
        rotate_left
        · simp only [Act.put, List.setIfInBounds_toArray, List.set_cons_zero, List.set_cons_succ]
          rfl
        refine take_ (i := 8) (N := some 20) (v := ?_) (a' := ?_) #[true, true, true, true, true, true, true, true, true, false, false, false, false, false, false] rfl rfl (by kernel_rfl) (fun _ _ _ h => h) (Or.inl ⟨by rfl, ?_⟩) hHeld ?_ ?_   -- load 39 (%19)
        rotate_left
        · rintro w' ⟨s0, s1, s2⟩
          go_simp
          with_reducible rfl
        rotate_left
        · simp only [Act.put, List.setIfInBounds_toArray, List.set_cons_zero, List.set_cons_succ]
          rfl
        refine take_ (i := 9) (N := some 21) (v := ?_) (a' := ?_) #[true, true, true, true, true, true, true, true, true, true, false, false, false, false, false] rfl rfl (by kernel_rfl) (fun _ _ _ h => h) (Or.inl ⟨by rfl, ?_⟩) hHeld ?_ ?_   -- move (%2)
        rotate_left
        · rintro w' ⟨s0, s1, s2⟩
          go_simp
          with_reducible rfl
        rotate_left
        · simp only [Act.put, List.setIfInBounds_toArray, List.set_cons_zero, List.set_cons_succ]
          rfl
        refine take_ (i := 10) (N := some 22) (v := ?_) (a' := ?_) #[true, true, true, true, true, true, true, true, true, true, true, false, false, false, false] rfl rfl (by kernel_rfl) (fun _ _ _ h => h) (Or.inl ⟨by rfl, ?_⟩) hHeld ?_ ?_   -- indexAddr 39 (%20) (%21)
        rotate_left
        · rintro w' ⟨s0, s1, s2⟩
          go_simp
          with_reducible rfl
        rotate_left
        · simp only [Act.put, List.setIfInBounds_toArray, List.set_cons_zero, List.set_cons_succ]
          rfl
        refine take_ (i := 11) (N := some 23) (v := ?_) (a' := ?_) #[true, true, true, true, true, true, true, true, true, true, true, true, false, false, false] rfl rfl (by kernel_rfl) (fun _ _ _ h => h) (Or.inl ⟨by rfl, ?_⟩) hHeld ?_ ?_   -- load 2 (%22)
        rotate_left
        · rintro w' ⟨s0, s1, s2⟩
          go_simp
          with_reducible rfl
        rotate_left
        · simp only [Act.put, List.setIfInBounds_toArray, List.set_cons_zero, List.set_cons_succ]
          rfl
        refine take_ (i := 12) (N := some 24) (v := ?_) (a' := ?_) #[true, true, true, true, true, true, true, true, true, true, true, true, true, false, false] rfl rfl (by kernel_rfl) (fun _ _ _ h => h) (Or.inl ⟨by rfl, ?_⟩) hHeld ?_ ?_   -- binOp quo 2 (%23) (const (int i64 2)) 2
        rotate_left
        · rintro w' ⟨s0, s1, s2⟩
          go_simp
          with_reducible rfl
        rotate_left
        · simp only [Act.put, List.setIfInBounds_toArray, List.set_cons_zero, List.set_cons_succ]
          rfl
        refine take_ (i := 13) (N := some 25) (v := ?_) (a' := ?_) #[true, true, true, true, true, true, true, true, true, true, true, true, true, true, false] rfl rfl (by kernel_rfl) (fun _ _ _ h => h) (Or.inl ⟨by rfl, ?_⟩) hHeld ?_ ?_   -- indexAddr 39 (%15) (%16)
        rotate_left
        · rintro w' ⟨s0, s1, s2⟩
          go_simp
          with_reducible rfl
        rotate_left
        · simp only [Act.put, List.setIfInBounds_toArray, List.set_cons_zero, List.set_cons_succ]
          rfl
        refine last_ (i := 14) (N := none) #[true, true, true, true, true, true, true, true, true, true, true, true, true, true, true] rfl rfl (by kernel_rfl) (by decide) (fun K hK => ?_)
        refine skip_ (by rfl) rfl (w1 := wr.drew.setCell ⟨g, off + k, none⟩ (.int .i64 (x.tdiv 2))) (by go_simp; first | done | rfl) ?_
        refine hK.out _ _ ?_
        refine done_ (by kernel_rfl) ?_
        go_wp2_with fail
        go_roundg left
        case measure => omega
        case rel =>
          refine ⟨k + 1, W'.set k (x.tdiv 2), by omega, rfl, hid ?_⟩
          have := U.out.next hkn (wr' := wr.drew.setCell ⟨g, off + k, none⟩ (.int .i64 (x.tdiv 2)))
          rw [← HX0.out] at this
          exact this HFIN.out HKEEP.out
    · obtain rfl : k = n := by have := U.out.kn; omega
      have e0 := U.out.done
      subst e0
      go_wp2_with fail
      try simp only [Exit.inBlock, Exit.then]
      refine bodyPost_end (results_none rfl _ _ _) rfl ?_
      exact ⟨rfl, U.out.ob, U.out.keep⟩
end Go.Proofs.Ytegcfaohhcjajaa.RH
