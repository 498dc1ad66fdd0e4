/- The document's heap, in memory: its calls that turn nothing, Push and Pop. -/
import Derived.Test.YtegcfaohhcjajaaHeapN
import Derived.Test.YtegcfaohhcjajaaHeapJ
namespace Go.Proofs.Ytegcfaohhcjajaa.RH
open Go.RowKit Go.Proofs.YtegcfaohhcjajaaW.PrintWords Go.Proofs.YtegcfaohhcjajaaW.PrintLast Go.Proofs.YtegcfaohhcjajaaW.PrintMore Go.Proofs.Ytegcfaohhcjajaa.MM Go.Proofs.Ytegcfaohhcjajaa.HM
attribute [local go_sem ↓] Go.wp_at_zero Go.wp_at_succ
set_option linter.unusedSimpArgs false
set_option linter.unusedVariables false

abbrev bools (l : List Bool) : List Value := l.map Value.bool
abbrev Rh (w : World) (t : Nat) (vw vi : Value) (W : List Int) (I : List Bool) (F : Nat → Prop) : Prop := Ob 60 w t [vw, vi] [(2, lits W), (4, bools I)] F
variable {w : World} {t : Nat} {vw vi : Value} {W : List Int} {I : List Bool} {F : Nat → Prop}
theorem bools_get (l : List Bool) (i : Nat) (h : i < l.length) : (bools l)[i]? = some (.bool (l.getD i false)) := by simp [bools, h]
theorem bools_set (l : List Bool) (i : Nat) (x : Bool) : bools (l.set i x) = (bools l).set i (.bool x) := List.map_set ..
def knownD (W : List Int) (i : Int) : Bool := decide (0 ≤ i) && decide (i < (W.length : Int))
theorem knownD_iff (W : List Int) (i : Int) : knownD W i = true ↔ 0 ≤ i ∧ i < (W.length : Int) := by simp [knownD]
theorem wcell (h : Rh w t vw vi W I F) : ∃ A c, vw = .slice A W.length c ∧ w.cell? ⟨t, 0, none⟩ = some (.slice A W.length c) := by
  have hc := h.cell 0 vw rfl
  obtain ⟨A, c, hv, _, _⟩ := (h.row 0 _ _ vw rfl rfl).shape
  rw [List.length_map] at hv
  subst hv
  exact ⟨A, c, rfl, hc⟩
set_option maxHeartbeats 1600000 in
theorem known_calls (w : World) (t : Nat) (vw vi : Value) (W : List Int) (I : List Bool) (F : Nat → Prop) (i : Int) (h : Rh w t vw vi W I F) :
    Calls Try.prog 47 #[ptr t, .int .i64 i] w fun e w' => e = .returned (.bool (knownD W i)) ∧ Below w.heap.size w w' := by
  obtain ⟨A, c, rfl, hc⟩ := wcell h
  clear h
  unfold knownD
  obtain ⟨n, hn⟩ : ∃ n, n = W.length := ⟨_, rfl⟩
  rw [← hn] at hc ⊢
  clear hn
  by_cases h0 : 0 ≤ i
  · have h0' : i ≥ 0 := h0
    by_cases h1 : i < (n : Int)
    · rw [decide_eq_true h0, decide_eq_true h1]
      go_enter Try.func47, Try.ntmps47
      go_wp2
      go_ret
      exact ⟨rfl, Below.refl _ _⟩
    · rw [decide_eq_true h0, decide_eq_false h1]
      have e1 : decide (i < (n : Int)) = false := decide_eq_false h1
      go_enter Try.func47, Try.ntmps47
      go_wp2
      go_ret
      exact ⟨rfl, Below.refl _ _⟩
  · rw [decide_eq_false h0]
    have h0' : ¬ i ≥ 0 := h0
    go_enter Try.func47, Try.ntmps47
    go_wp2
    go_ret
    exact ⟨rfl, Below.refl _ _⟩
def weightD (W : List Int) (i : Int) : Int := if knownD W i then W.getD i.toNat 0 else 0
set_option maxHeartbeats 1600000 in
theorem Weight_calls (w : World) (t : Nat) (vw vi : Value) (W : List Int) (I : List Bool) (F : Nat → Prop) (i : Int) (h : Rh w t vw vi W I F) :
    Calls Try.prog 33 #[ptr t, .int .i64 i] w fun e w' => e = .returned (.int .i64 (weightD W i)) ∧ Below w.heap.size w w' := by
  have HKN := hid (known_calls w t vw vi W I F i h)
  have HH := hid h
  have htl := blk_lt h.blk
  clear h
  unfold weightD
  cases hk : knownD W i with
  | true =>
    rw [hk] at HKN
    rw [if_pos rfl]
    obtain ⟨h0, h1⟩ := (knownD_iff W i).1 hk
    obtain ⟨m, rfl⟩ : ∃ m : Nat, i = (m : Int) := ⟨i.toNat, by omega⟩
    have hm : m < W.length := by omega
    rw [Int.toNat_natCast]
    obtain ⟨g, off, cap, hv, hcap, hg, hcells, _⟩ := row_at HH.out 0 _ _ vw rfl rfl (by simp; omega)
    rw [List.length_map] at hv hcap
    subst hv
    have hx := (hcells m (by simpa using hm)).trans (lits_get _ _ hm)
    obtain ⟨x, hx0⟩ : ∃ x, x = W.getD m 0 := ⟨_, rfl⟩
    rw [← hx0] at hx ⊢
    have HX := hid hx
    have hc := HH.out.cell 0 _ rfl
    have HC := hid hc
    have HG := hid hg
    clear hcells hx hc hg hx0 HH hk h0
    go_enter Try.func33, Try.ntmps33
    go_wp2_with fail
    refine HKN.out.mono ?_
    rintro e w1 ⟨rfl, hb1⟩
    have hc1 : w1.cell? ⟨t, 0, none⟩ = _ := (hb1.cell (p := ⟨t, 0, none⟩) htl).trans HC.out
    have hx1 : w1.cell? ⟨g, off + m, none⟩ = _ := (hb1.cell (p := ⟨g, off + m, none⟩) HG.out).trans HX.out
    have HB1 := hid hb1
    clear hb1
    go_wp2
    go_ret
    exact ⟨rfl, HB1.out⟩
  | false =>
    rw [hk] at HKN
    rw [if_neg (by simp)]
    clear HH hk
    go_enter Try.func33, Try.ntmps33
    go_wp2_with fail
    refine HKN.out.mono ?_
    rintro e w1 ⟨rfl, hb1⟩
    have HB1 := hid hb1
    clear hb1
    go_wp2
    go_ret
    exact ⟨rfl, HB1.out⟩
def hasD (W : List Int) (I : List Bool) (i : Int) : Bool := knownD W i && I.getD i.toNat false
set_option maxHeartbeats 1600000 in
theorem Has_calls (w : World) (t : Nat) (vw vi : Value) (W : List Int) (I : List Bool) (F : Nat → Prop) (i : Int) (h : Rh w t vw vi W I F) (hlen : I.length = W.length) :
    Calls Try.prog 35 #[ptr t, .int .i64 i] w fun e w' => e = .returned (.bool (hasD W I i)) ∧ Below w.heap.size w w' := by
  have HKN := hid (known_calls w t vw vi W I F i h)
  have HH := hid h
  have htl := blk_lt h.blk
  clear h
  unfold hasD
  cases hk : knownD W i with
  | true =>
    rw [hk] at HKN
    rw [Bool.true_and]
    obtain ⟨h0, h1⟩ := (knownD_iff W i).1 hk
    obtain ⟨m, rfl⟩ : ∃ m : Nat, i = (m : Int) := ⟨i.toNat, by omega⟩
    have hm : m < I.length := by omega
    rw [Int.toNat_natCast]
    obtain ⟨g, off, cap, hv, hcap, hg, hcells, _⟩ := row_at HH.out 1 _ _ vi rfl rfl (by simp; omega)
    rw [List.length_map] at hv hcap
    subst hv
    have hx := (hcells m (by simpa using hm)).trans (bools_get _ _ hm)
    obtain ⟨x, hx0⟩ : ∃ x, x = I.getD m false := ⟨_, rfl⟩
    rw [← hx0] at hx ⊢
    have HX := hid hx
    have hc := HH.out.cell 1 _ rfl
    have HC := hid hc
    have HG := hid hg
    obtain ⟨n, hn⟩ : ∃ n, n = I.length := ⟨_, rfl⟩
    rw [← hn] at HC
    have hmI : (m : Int) < (n : Int) := by omega
    clear hcells hx hc hg hx0 HH hk h0 h1 hlen hn hcap
    go_enter Try.func35, Try.ntmps35
    go_wp2_with fail
    refine HKN.out.mono ?_
    rintro e w1 ⟨rfl, hb1⟩
    have hc1 : w1.cell? ⟨t, 1, none⟩ = _ := (hb1.cell (p := ⟨t, 1, none⟩) htl).trans HC.out
    have hx1 : w1.cell? ⟨g, off + m, none⟩ = _ := (hb1.cell (p := ⟨g, off + m, none⟩) HG.out).trans HX.out
    have HB1 := hid hb1
    clear hb1
    go_wp2
    go_ret
    exact ⟨rfl, HB1.out⟩
  | false =>
    rw [hk] at HKN
    rw [Bool.false_and]
    clear HH hk
    go_enter Try.func35, Try.ntmps35
    go_wp2_with fail
    refine HKN.out.mono ?_
    rintro e w1 ⟨rfl, hb1⟩
    have HB1 := hid hb1
    clear hb1
    go_wp2
    go_ret
    exact ⟨rfl, HB1.out⟩
/-! #### Push -/
set_option maxHeartbeats 1600000 in
theorem Push_unknown (w : World) (t : Nat) (vw vi : Value) (W : List Int) (I : List Bool) (F : Nat → Prop) (i : Int) (h : Rh w t vw vi W I F) (hk : knownD W i = false) :
    Calls Try.prog 26 #[ptr t, .int .i64 i] w fun e w' => e = .returned (.int .i64 2) ∧ Below w.heap.size w w' := by
  have HKN := hid (known_calls w t vw vi W I F i h)
  rw [hk] at HKN
  clear h hk
  go_enter Try.func26, Try.ntmps26
  go_wp2_with fail
  refine HKN.out.mono ?_
  rintro e w1 ⟨rfl, hb1⟩
  have HB1 := hid hb1
  clear hb1
  go_wp2_with fail
  go_ret
  exact ⟨rfl, HB1.out⟩
set_option maxHeartbeats 1600000 in
theorem Push_twice (w : World) (t : Nat) (vw vi : Value) (W : List Int) (I : List Bool) (F : Nat → Prop) (m : Nat) (h : Rh w t vw vi W I F) (hlen : I.length = W.length) (hm : m < W.length) (hi : I.getD m false = true) :
    Calls Try.prog 26 #[ptr t, .int .i64 m] w fun e w' => e = .returned (.int .i64 8) ∧ Below w.heap.size w w' := by
  have HKN := hid (known_calls w t vw vi W I F m h)
  rw [(knownD_iff W m).2 ⟨by omega, by omega⟩] at HKN
  have htl := blk_lt h.blk
  obtain ⟨g, off, cap, hv, hcap, hg, hcells, _⟩ := row_at h 1 _ _ vi rfl rfl (by simp; omega)
  rw [List.length_map] at hv hcap
  subst hv
  have hx := (hcells m (by simp; omega)).trans (bools_get _ _ (by omega))
  rw [hi] at hx
  have HX := hid hx
  obtain ⟨n, hn⟩ : ∃ n, n = I.length := ⟨_, rfl⟩
  rw [← hn] at h hcap
  have HC := hid (h.cell 1 _ rfl)
  have HG := hid hg
  have hmI : (m : Int) < (n : Int) := by omega
  clear hcells hx hg h hlen hn hcap hi
  go_enter Try.func26, Try.ntmps26
  go_wp2_with fail
  refine HKN.out.mono ?_
  rintro e w1 ⟨rfl, hb1⟩
  have hc1 : w1.cell? ⟨t, 1, none⟩ = _ := (hb1.cell (p := ⟨t, 1, none⟩) htl).trans HC.out
  have hx1 : w1.cell? ⟨g, off + m, none⟩ = _ := (hb1.cell (p := ⟨g, off + m, none⟩) HG.out).trans HX.out
  have HB1 := hid hb1
  clear hb1
  go_wp2_with fail
  go_ret
  exact ⟨rfl, HB1.out⟩
set_option maxHeartbeats 1600000 in
theorem Push_new (w : World) (t : Nat) (vw vi : Value) (W : List Int) (I : List Bool) (F : Nat → Prop) (m : Nat) (h : Rh w t vw vi W I F) (hlen : I.length = W.length) (hm : m < W.length) (hi : I.getD m false = false) :
    Calls Try.prog 26 #[ptr t, .int .i64 m] w fun e w' => e = .returned (.int .i64 0) ∧ Rh w' t vw vi W (I.set m true) F ∧ Keep F w w' := by
  have HKN := hid (known_calls w t vw vi W I F m h)
  rw [(knownD_iff W m).2 ⟨by omega, by omega⟩] at HKN
  have HH := hid h
  have HI := hid hi
  have HL := hid hlen
  have HM := hid hm
  clear h hlen hm hi
  go_enter Try.func26, Try.ntmps26
  go_wp2_with fail
  refine HKN.out.mono ?_
  rintro e w1 ⟨rfl, hb1⟩
  have h1 : Rh w1 t vw vi W I F := HH.out.below hb1
  obtain ⟨g, off, cap, hv, hcap, hg, hcells, hfr⟩ := row_at h1 1 _ _ vi rfl rfl (by have := HL.out; have := HM.out; simp; omega)
  rw [List.length_map] at hv hcap
  subst hv
  have hx := (hcells m (by have := HL.out; have := HM.out; simp; omega)).trans (bools_get _ _ (by have := HL.out; have := HM.out; omega))
  rw [HI.out] at hx
  obtain ⟨n, hn⟩ : ∃ n, n = I.length := ⟨_, rfl⟩
  have hmI : (m : Int) < (n : Int) := by have := HL.out; have := HM.out; omega
  have hc1 := h1.cell 1 _ rfl
  have hf1 := hfr (off + m)
  have T1 := h1.put 1 _ _ g off I.length cap rfl rfl m (by have := HL.out; have := HM.out; simp; omega) (.bool true)
  have hfin : Rh (w1.setCell ⟨g, off + m, none⟩ (.bool true)) t vw (.slice (some ⟨g, off, none⟩) I.length cap) W (I.set m true) F := by
    show Ob _ _ _ _ [_, (_, bools (I.set m true))] _
    rw [bools_set]
    exact T1.1
  rw [← hn] at hc1
  have HFIN := hid hfin
  have HKEEP := hid ((Keep.ofBelow (F := F) hb1).trans T1.2 (H := F) (fun _ h => h) (fun _ h => .inl h))
  clear T1 hfin hb1 h1 hcells hfr hg hcap hn HH
  go_wp2_with fail
  go_ret
  exact ⟨rfl, HFIN.out, HKEEP.out⟩
end Go.Proofs.Ytegcfaohhcjajaa.RH
