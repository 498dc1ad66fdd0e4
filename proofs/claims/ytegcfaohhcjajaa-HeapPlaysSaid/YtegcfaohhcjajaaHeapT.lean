/- Walk of heap.Raise. -/
import Derived.Test.YtegcfaohhcjajaaHeapR
namespace Go.Proofs.Ytegcfaohhcjajaa.HM
open Go.RowKit Go.Proofs.YtegcfaohhcjajaaW.PrintWords Go.Proofs.YtegcfaohhcjajaaW.PrintLast Go.Proofs.YtegcfaohhcjajaaW.PrintMore Go.Proofs.Ytegcfaohhcjajaa.MM
attribute [local go_sem ↓] Go.wp_at_zero Go.wp_at_succ
set_option linter.unusedSimpArgs false
set_option linter.unusedVariables false

def heavM (s : HS) (m : Nat) (d : Int) : HS := { s with w := s.w.set m (s.w.getD m 0 + d) }
def raiseM (s : HS) (m : Nat) (d : Int) : HS := if 0 ≤ s.p.getD m 0 then upM (heavM s m d) (s.p.getD m 0).toNat else heavM s m d
theorem Wf.heav {s : HS} (h : Wf s) (m : Nat) (d : Int) : Wf (heavM s m d) := ⟨by simpa [heavM] using h.len, by simpa [heavM] using h.big, h.rbig, fun x hx => by simpa [heavM] using h.row x hx⟩
set_option maxHeartbeats 1600000 in
theorem Raise_arg (w : World) (t : Nat) (s : HS) (F : Nat → Prop) (i d : Int) (h : Hp w t s F) (hk : knownM s i = false ∨ d < 0) :
    Calls Try.prog 20 #[ptr t, .int .i64 i, .int .i64 d] w fun e w' => e = .returned (.int .i64 2) ∧ Below w.heap.size w w' := by
  have HKN := hid (known_calls w t s F i h)
  clear h
  cases hk0 : knownM s i with
  | false =>
    rw [hk0] at HKN
    clear hk hk0
    go_enter Try.func20, Try.ntmps20
    go_wp2_with fail
    refine HKN.out.mono ?_
    rintro e w1 ⟨rfl, hb1⟩
    have HB1 := hid hb1
    clear hb1
    go_wp2_with fail
    go_ret
    exact ⟨rfl, HB1.out⟩
  | true =>
    rw [hk0] at HKN
    have hd : d < 0 := hk.resolve_left (by simp [hk0])
    clear hk hk0
    go_enter Try.func20, Try.ntmps20
    go_wp2_with fail
    refine HKN.out.mono ?_
    rintro e w1 ⟨rfl, hb1⟩
    have HB1 := hid hb1
    clear hb1
    go_wp2_with fail
    go_ret
    exact ⟨rfl, HB1.out⟩
set_option maxHeartbeats 1600000 in
theorem Raise_over (w : World) (t : Nat) (s : HS) (F : Nat → Prop) (m : Nat) (d : Int) (h : Hp w t s F) (hm : m < s.w.length) (hd : 0 ≤ d) (h0 : 0 ≤ s.w.getD m 0) (h1 : s.w.getD m 0 ≤ 4611686018427387904) (ho : d > 4611686018427387904 - s.w.getD m 0) :
    Calls Try.prog 20 #[ptr t, .int .i64 m, .int .i64 d] w fun e w' => e = .returned (.int .i64 6) ∧ Below w.heap.size w w' := by
  have HKN := hid (known_calls w t s F m h)
  rw [(known_iff s m).2 ⟨by omega, by omega⟩] at HKN
  obtain ⟨vw, vp, vr, h, HV⟩ := h
  have htl := blk_lt h.blk
  obtain ⟨g, off, cap, hv, hcap, hg, hcells, _⟩ := row_at h 0 _ _ vw rfl rfl (by simp; omega)
  rw [List.length_map] at hv hcap
  subst hv
  have hx := (hcells m (by simpa using hm)).trans (lits_get _ _ hm)
  obtain ⟨x, hx0⟩ : ∃ x, x = s.w.getD m 0 := ⟨_, rfl⟩
  rw [← hx0] at hx h0 h1 ho
  have HX := hid hx
  have HC := hid (h.cell 0 _ rfl)
  have HG := hid hg
  have hmI : (m : Int) < (s.w.length : Int) := by omega
  have hd' : ¬ d < 0 := by omega
  have hw : wrap64 (4611686018427387904 - x) = 4611686018427387904 - x := by unfold wrap64; omega
  clear hcells hx hg hx0 h hd h0 h1
  go_enter Try.func20, Try.ntmps20
  go_wp2_with fail
  refine HKN.out.mono ?_
  rintro e w1 ⟨rfl, hb1⟩
  have hc1 : w1.cell? ⟨t, 0, none⟩ = _ := (hb1.cell (p := ⟨t, 0, none⟩) htl).trans HC.out
  have hx1 : w1.cell? ⟨g, off + m, none⟩ = _ := (hb1.cell (p := ⟨g, off + m, none⟩) HG.out).trans HX.out
  have HB1 := hid hb1
  clear hb1
  go_wp2_with fail
  go_ret
  exact ⟨rfl, HB1.out⟩
set_option maxRecDepth 100000 in
set_option maxHeartbeats 3200000 in
theorem Raise_calls (w : World) (t : Nat) (s : HS) (F : Nat → Prop) (m : Nat) (d : Int) (h : Hp w t s F) (wf : Wf s) (hm : m < s.w.length) (hd : 0 ≤ d) (h0 : 0 ≤ s.w.getD m 0) (h1 : s.w.getD m 0 ≤ 4611686018427387904) (ho : ¬ d > 4611686018427387904 - s.w.getD m 0) (hpl : 0 ≤ s.p.getD m 0 → s.p.getD m 0 < s.r.length) :
    Calls Try.prog 20 #[ptr t, .int .i64 m, .int .i64 d] w fun e w' => e = .returned (.int .i64 0) ∧ Left w t (raiseM s m d) F w' := by
  have HKN := hid (known_calls w t s F m h)
  rw [(known_iff s m).2 ⟨by omega, by omega⟩] at HKN
  have HH := hid h
  have HWF := hid wf
  obtain ⟨x, hx0⟩ : ∃ x, x = s.w.getD m 0 := ⟨_, rfl⟩
  obtain ⟨n, hn⟩ : ∃ n, n = s.w.length := ⟨_, rfl⟩
  obtain ⟨q, hq⟩ : ∃ q, q = s.p.getD m 0 := ⟨_, rfl⟩
  have HHM := hid hm
  rw [← hx0] at h0 h1 ho
  rw [← hq] at hpl
  have HX0 := hid hx0
  have HN := hid hn
  have HQ := hid hq
  have HPL := hid hpl
  have hmI : (m : Int) < (n : Int) := by omega
  have hd' : ¬ d < 0 := by omega
  have hw : wrap64 (4611686018427387904 - x) = 4611686018427387904 - x := by unfold wrap64; omega
  have hw2 : wrap64 (x + d) = x + d := by unfold wrap64; omega
  clear hx0 h hd h0 h1 hn hm hq wf hpl
  go_enter Try.func20, Try.ntmps20
  go_wp2_with fail
  refine HKN.out.mono ?_
  rintro e w1 ⟨rfl, hb1⟩
  have HB1 := hid hb1
  obtain ⟨vw, vp, vr, h1, HV⟩ := HH.out.below hb1
  obtain ⟨g, off, cap, hv, hcap, hg, hcells, hfr⟩ := row_at h1 0 _ _ vw rfl rfl (by have := HHM.out; simp; omega)
  rw [List.length_map, ← HN.out] at hv hcap
  subst hv
  have hc0 := h1.cell 0 _ rfl
  have hx1 := (hcells m (by simpa using HHM.out)).trans (lits_get _ _ HHM.out)
  rw [← HX0.out] at hx1
  have hf1 := hfr (off + m)
  have hmp : m < s.p.length := by rw [HWF.out.len]; exact HHM.out
  obtain ⟨np, hnp⟩ : ∃ n, n = s.p.length := ⟨_, rfl⟩
  obtain ⟨gp, op, cp, hv, hcp, hgp, hcells2, _⟩ := row_at h1 1 _ _ vp rfl rfl (by simp; omega)
  rw [List.length_map, ← hnp] at hv hcp
  subst hv
  have hc1 := h1.cell 1 _ rfl
  have hx2 := (hcells2 m (by simpa using hmp)).trans (lits_get _ _ hmp)
  rw [← HQ.out] at hx2
  have hmpI : (m : Int) < (np : Int) := by omega
  have hne : g ≠ t := (h1.fr 0 _ rfl g rfl).2
  have hne' : t ≠ g := fun e => hne e.symm
  have hgg : g ≠ gp := fun e => h1.ap 0 1 _ _ rfl rfl (by decide) g rfl (by rw [e]; rfl)
  have hgg' : gp ≠ g := fun e => hgg e.symm
  have T1 := h1.put 0 _ _ g off n cap rfl rfl m (by simpa using HHM.out) (.int .i64 (x + d))
  have hfin : HpO (w1.setCell ⟨g, off + m, none⟩ (.int .i64 (x + d))) t (.slice (some ⟨g, off, none⟩) n cap) (.slice (some ⟨gp, op, none⟩) np cp) vr (heavM s m d) F := by
    show Ob _ _ _ _ [(_, lits (s.w.set m (s.w.getD m 0 + d))), _, _] _
    rw [lits_set, ← HX0.out]
    exact T1.1
  have HFIN := hid hfin
  have HKEEP := hid ((Keep.ofBelow (F := F) HB1.out).trans T1.2 (H := F) (fun _ h => h) (fun _ h => .inl h))
  clear hb1 hcells hcells2 h1 hg hgp hfr hcap hcp hnp hmp hfin T1
  by_cases hq0 : q ≥ 0
  · obtain ⟨k, rfl⟩ : ∃ k : Nat, q = (k : Int) := ⟨q.toNat, by omega⟩
    have hkr : k < s.r.length := by have := HPL.out hq0; omega
    have UP := hid (up_calls _ t (heavM s m d) _ k ⟨_, _, _, HFIN.out, HV⟩ (HWF.out.heav m d) hkr)
    clear hkr
    go_wp2_with fail
    refine UP.out.mono ?_
    rintro e w5 ⟨rfl, hp5, hk5⟩
    have HP5 := hid hp5
    have HK5 := hid hk5
    clear hp5 hk5
    go_wp2_with fail
    go_ret
    refine ⟨rfl, F, ?_, HKEEP.out.trans HK5.out (fun _ h => h) (fun j h => .inl h), fun j hj => .inl hj⟩
    rw [raiseM, ← HQ.out, if_pos (by omega), Int.toNat_natCast]
    exact HP5.out
  · go_wp2_with fail
    go_ret
    refine ⟨rfl, F, ?_, HKEEP.out, fun j hj => .inl hj⟩
    rw [raiseM, ← HQ.out, if_neg (by omega)]
    exact ⟨_, _, _, HFIN.out, HV⟩
end Go.Proofs.Ytegcfaohhcjajaa.HM
