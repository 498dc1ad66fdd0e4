/- Walks of heap.Len, Size, known, First, Weight, Has. -/
import Derived.Test.YtegcfaohhcjajaaHeapD
namespace Go.Proofs.Ytegcfaohhcjajaa.HM
open Go.RowKit Go.Proofs.YtegcfaohhcjajaaW.PrintWords Go.Proofs.YtegcfaohhcjajaaW.PrintLast Go.Proofs.YtegcfaohhcjajaaW.PrintMore Go.Proofs.Ytegcfaohhcjajaa.MM
attribute [local go_sem ↓] Go.wp_at_zero Go.wp_at_succ
set_option linter.unusedSimpArgs false
set_option linter.unusedVariables false

theorem Len_calls (w : World) (t : Nat) (s : HS) (F : Nat → Prop) (h : Hp w t s F) :
    Calls Try.prog 37 #[ptr t] w fun e w' => e = .returned (.int .i64 s.r.length) ∧ Below w.heap.size w w' := by
  obtain ⟨vw, vp, vr, h, HV⟩ := h
  have hc := h.cell 2 vr rfl
  obtain ⟨A, c, hv, _, _⟩ := (h.row 2 _ _ vr rfl rfl).shape
  rw [List.length_map] at hv
  subst hv
  clear h
  go_enter Try.func37, Try.ntmps37
  go_wp2
  go_ret
  exact ⟨rfl, Below.refl _ _⟩
theorem Size_calls (w : World) (t : Nat) (s : HS) (F : Nat → Prop) (h : Hp w t s F) :
    Calls Try.prog 25 #[ptr t] w fun e w' => e = .returned (.int .i64 s.w.length) ∧ Below w.heap.size w w' := by
  obtain ⟨vw, vp, vr, h, HV⟩ := h
  have hc := h.cell 0 vw rfl
  obtain ⟨A, c, hv, _, _⟩ := (h.row 0 _ _ vw rfl rfl).shape
  rw [List.length_map] at hv
  subst hv
  clear h
  go_enter Try.func25, Try.ntmps25
  go_wp2
  go_ret
  exact ⟨rfl, Below.refl _ _⟩
def knownM (s : HS) (i : Int) : Bool := decide (0 ≤ i) && decide (i < (s.w.length : Int))
set_option maxHeartbeats 1600000 in
theorem known_calls (w : World) (t : Nat) (s : HS) (F : Nat → Prop) (i : Int) (h : Hp w t s F) :
    Calls Try.prog 42 #[ptr t, .int .i64 i] w fun e w' => e = .returned (.bool (knownM s i)) ∧ Below w.heap.size w w' := by
  obtain ⟨vw, vp, vr, h, HV⟩ := h
  have hc := h.cell 0 vw rfl
  obtain ⟨A, c, hv, _, _⟩ := (h.row 0 _ _ vw rfl rfl).shape
  rw [List.length_map] at hv
  subst hv
  clear h
  unfold knownM
  obtain ⟨n, hn⟩ : ∃ n, n = s.w.length := ⟨_, rfl⟩
  rw [← hn] at hc ⊢
  clear hn
  by_cases h0 : 0 ≤ i
  · have h0' : i ≥ 0 := h0
    by_cases h1 : i < (n : Int)
    · rw [decide_eq_true h0, decide_eq_true h1]
      go_enter Try.func42, Try.ntmps42
      go_wp2
      go_ret
      exact ⟨rfl, Below.refl _ _⟩
    · rw [decide_eq_true h0, decide_eq_false h1]
      have e1 : decide (i < (n : Int)) = false := decide_eq_false h1
      go_enter Try.func42, Try.ntmps42
      go_wp2
      go_ret
      exact ⟨rfl, Below.refl _ _⟩
  · rw [decide_eq_false h0]
    have h0' : ¬ i ≥ 0 := h0
    go_enter Try.func42, Try.ntmps42
    go_wp2
    go_ret
    exact ⟨rfl, Below.refl _ _⟩
theorem known_iff (s : HS) (i : Int) : knownM s i = true ↔ 0 ≤ i ∧ i < (s.w.length : Int) := by simp [knownM]
set_option maxHeartbeats 1600000 in
theorem First_calls (w : World) (t : Nat) (s : HS) (F : Nat → Prop) (h : Hp w t s F) :
    Calls Try.prog 31 #[ptr t] w fun e w' => e = .returned (.tuple (if 0 < s.r.length then #[.int .i64 (s.r.getD 0 0 : Nat), .bool true] else #[.int .i64 0, .bool false])) ∧ Below w.heap.size w w' := by
  have HLN := hid (Len_calls w t s F h)
  obtain ⟨vw, vp, vr, h, HV⟩ := h
  have HH := hid h
  have htl := blk_lt h.blk
  clear h
  by_cases h0 : 0 < s.r.length
  · rw [if_pos h0]
    obtain ⟨g, off, cap, hv, hcap, hg, hcells, _⟩ := row_at HH.out 2 _ _ vr rfl rfl (by simpa using h0)
    rw [List.length_map] at hv hcap
    subst hv
    have hx := (hcells 0 (by simpa using h0)).trans (nats_get _ _ h0)
    obtain ⟨x, hx0⟩ : ∃ x, x = s.r.getD 0 0 := ⟨_, rfl⟩
    rw [← hx0] at hx ⊢
    have HX := hid hx
    have hc := HH.out.cell 2 _ rfl
    have HC := hid hc
    have HG := hid hg
    obtain ⟨n, hn⟩ : ∃ n, n = s.r.length := ⟨_, rfl⟩
    rw [← hn] at HC HLN h0
    have hne : ((n : Int) == 0) = false := by simp; omega
    clear hcells hx hc hg hx0 hn HH
    go_enter Try.func31, Try.ntmps31
    go_wp2_with fail
    refine HLN.out.mono ?_
    rintro e w1 ⟨rfl, hb1⟩
    have hc1 : w1.cell? ⟨t, 2, none⟩ = _ := (hb1.cell (p := ⟨t, 2, none⟩) htl).trans HC.out
    have hx1 : w1.cell? ⟨g, off + 0, none⟩ = _ := (hb1.cell (p := ⟨g, off + 0, none⟩) HG.out).trans HX.out
    rw [Nat.add_zero] at hx1
    have HB1 := hid hb1
    clear hb1
    go_wp2
    go_ret2
    exact ⟨rfl, HB1.out⟩
  · rw [if_neg h0]
    obtain h0 : s.r.length = 0 := by omega
    rw [h0] at HLN
    clear HH
    go_enter Try.func31, Try.ntmps31
    go_wp2_with fail
    refine HLN.out.mono ?_
    rintro e w1 ⟨rfl, hb1⟩
    have HB1 := hid hb1
    clear hb1
    go_wp2
    go_ret2
    exact ⟨rfl, HB1.out⟩
def weightM (s : HS) (i : Int) : Int := if knownM s i then s.w.getD i.toNat 0 else 0
set_option maxHeartbeats 1600000 in
theorem Weight_calls (w : World) (t : Nat) (s : HS) (F : Nat → Prop) (i : Int) (h : Hp w t s F) :
    Calls Try.prog 22 #[ptr t, .int .i64 i] w fun e w' => e = .returned (.int .i64 (weightM s i)) ∧ Below w.heap.size w w' := by
  have HKN := hid (known_calls w t s F i h)
  obtain ⟨vw, vp, vr, h, HV⟩ := h
  have HH := hid h
  have htl := blk_lt h.blk
  clear h
  unfold weightM
  cases hk : knownM s i with
  | true =>
    rw [hk] at HKN
    rw [if_pos rfl]
    obtain ⟨h0, h1⟩ := (known_iff s i).1 hk
    obtain ⟨m, rfl⟩ : ∃ m : Nat, i = (m : Int) := ⟨i.toNat, by omega⟩
    have hm : m < s.w.length := by omega
    rw [Int.toNat_natCast]
    obtain ⟨g, off, cap, hv, hcap, hg, hcells, _⟩ := row_at HH.out 0 _ _ vw rfl rfl (by simp; omega)
    rw [List.length_map] at hv hcap
    subst hv
    have hx := (hcells m (by simpa using hm)).trans (lits_get _ _ hm)
    obtain ⟨x, hx0⟩ : ∃ x, x = s.w.getD m 0 := ⟨_, rfl⟩
    rw [← hx0] at hx ⊢
    have HX := hid hx
    have hc := HH.out.cell 0 _ rfl
    have HC := hid hc
    have HG := hid hg
    clear hcells hx hc hg hx0 HH hk h0
    go_enter Try.func22, Try.ntmps22
    go_wp2_with fail
    refine HKN.out.mono ?_
    rintro e w1 ⟨rfl, hb1⟩
    have hc1 : w1.cell? ⟨t, 0, none⟩ = _ := (hb1.cell (p := ⟨t, 0, none⟩) htl).trans HC.out
    have hx1 : w1.cell? ⟨g, off + m, none⟩ = _ := (hb1.cell (p := ⟨g, off + m, none⟩) HG.out).trans HX.out
    have HB1 := hid hb1
    clear hb1
    go_wp2
    go_ret
    exact ⟨rfl, HB1.out⟩
  | false =>
    rw [hk] at HKN
    rw [if_neg (by simp)]
    clear HH hk
    go_enter Try.func22, Try.ntmps22
    go_wp2_with fail
    refine HKN.out.mono ?_
    rintro e w1 ⟨rfl, hb1⟩
    have HB1 := hid hb1
    clear hb1
    go_wp2
    go_ret
    exact ⟨rfl, HB1.out⟩
def hasM (s : HS) (i : Int) : Bool := knownM s i && decide (0 ≤ s.p.getD i.toNat 0)
set_option maxHeartbeats 1600000 in
theorem Has_calls (w : World) (t : Nat) (s : HS) (F : Nat → Prop) (i : Int) (h : Hp w t s F) (hlen : s.p.length = s.w.length) :
    Calls Try.prog 34 #[ptr t, .int .i64 i] w fun e w' => e = .returned (.bool (hasM s i)) ∧ Below w.heap.size w w' := by
  have HKN := hid (known_calls w t s F i h)
  obtain ⟨vw, vp, vr, h, HV⟩ := h
  have HH := hid h
  have htl := blk_lt h.blk
  clear h
  unfold hasM
  cases hk : knownM s i with
  | true =>
    rw [hk] at HKN
    rw [Bool.true_and]
    obtain ⟨h0, h1⟩ := (known_iff s i).1 hk
    obtain ⟨m, rfl⟩ : ∃ m : Nat, i = (m : Int) := ⟨i.toNat, by omega⟩
    have hm : m < s.p.length := by omega
    rw [Int.toNat_natCast]
    obtain ⟨g, off, cap, hv, hcap, hg, hcells, _⟩ := row_at HH.out 1 _ _ vp rfl rfl (by simp; omega)
    rw [List.length_map] at hv hcap
    subst hv
    have hx := (hcells m (by simpa using hm)).trans (lits_get _ _ hm)
    obtain ⟨x, hx0⟩ : ∃ x, x = s.p.getD m 0 := ⟨_, rfl⟩
    rw [← hx0] at hx ⊢
    have HX := hid hx
    have hc := HH.out.cell 1 _ rfl
    have HC := hid hc
    have HG := hid hg
    have hmI : (m : Int) < (s.p.length : Int) := by omega
    obtain ⟨b, hb⟩ : ∃ b, b = decide (0 ≤ x) := ⟨_, rfl⟩
    have hb' : decide (x ≥ 0) = b := hb.symm
    rw [← hb]
    clear hcells hx hc hg hx0 HH hk h0 hb h1 hlen
    go_enter Try.func34, Try.ntmps34
    go_wp2_with fail
    refine HKN.out.mono ?_
    rintro e w1 ⟨rfl, hb1⟩
    have hc1 : w1.cell? ⟨t, 1, none⟩ = _ := (hb1.cell (p := ⟨t, 1, none⟩) htl).trans HC.out
    have hx1 : w1.cell? ⟨g, off + m, none⟩ = _ := (hb1.cell (p := ⟨g, off + m, none⟩) HG.out).trans HX.out
    have HB1 := hid hb1
    clear hb1
    go_wp2
    go_ret
    exact ⟨by simp [← hb'], HB1.out⟩
  | false =>
    rw [hk] at HKN
    rw [Bool.false_and]
    clear HH hk
    go_enter Try.func34, Try.ntmps34
    go_wp2_with fail
    refine HKN.out.mono ?_
    rintro e w1 ⟨rfl, hb1⟩
    have HB1 := hid hb1
    clear hb1
    go_wp2
    go_ret
    exact ⟨rfl, HB1.out⟩
end Go.Proofs.Ytegcfaohhcjajaa.HM
