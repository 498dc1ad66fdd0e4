/- The document's heap, in memory: First and Pop. -/
import Derived.Test.YtegcfaohhcjajaaRefH
namespace Go.Proofs.Ytegcfaohhcjajaa.RH
open Go.RowKit Go.Proofs.YtegcfaohhcjajaaW.PrintWords Go.Proofs.YtegcfaohhcjajaaW.PrintLast Go.Proofs.YtegcfaohhcjajaaW.PrintMore Go.Proofs.Ytegcfaohhcjajaa.MM Go.Proofs.Ytegcfaohhcjajaa.HM
attribute [local go_sem ↓] Go.wp_at_zero Go.wp_at_succ
set_option linter.unusedSimpArgs false
set_option linter.unusedVariables false

/-- The first among k numbers; -1: there is none. -/
def firstD (W : List Int) (I : List Bool) : Nat → Int
  | 0 => -1
  | k + 1 => if I.getD k false = true ∧ (firstD W I k < 0 ∨ W.getD k 0 > W.getD (firstD W I k).toNat 0) then (k : Int) else firstD W I k
theorem firstD_rng (W : List Int) (I : List Bool) (k : Nat) : firstD W I k = -1 ∨ ∃ j : Nat, firstD W I k = (j : Int) ∧ j < k := by
  induction k with
  | zero => exact .inl rfl
  | succ k ih =>
    rw [firstD]
    split
    · exact .inr ⟨k, rfl, by omega⟩
    · exact ih.imp id fun ⟨j, h1, h2⟩ => ⟨j, h1, by omega⟩
/-- The loop. -/
structure FAt (w : World) (t : Nat) (vw vi : Value) (W : List Int) (I : List Bool) (F : Nat → Prop) (wr : World) : Prop where
  ob : Rh wr t vw vi W I F
  below : Below w.heap.size w wr
theorem FAt.drewN {w wr : World} {t : Nat} {vw vi : Value} {W : List Int} {I : List Bool} {F : Nat → Prop} (h : FAt w t vw vi W I F wr) (m : Nat) : FAt w t vw vi W I F (wr.drewN m) :=
  ⟨h.ob.below (pw_below_drewN (Below.refl _ _) m), pw_below_drewN h.below m⟩
set_option maxRecDepth 100000 in
set_option maxHeartbeats 3200000 in
theorem First_calls (w : World) (t : Nat) (vw vi : Value) (W : List Int) (I : List Bool) (F : Nat → Prop) (h : Rh w t vw vi W I F) (hlen : I.length = W.length) (hbig : W.length ≤ 1048576) :
    Calls Try.prog 32 #[ptr t] w fun e w' => e = .returned (.tuple (if 0 ≤ firstD W I W.length then #[.int .i64 (firstD W I W.length), .bool true] else #[.int .i64 0, .bool false])) ∧ Below w.heap.size w w' := by
  obtain ⟨A, c, rfl, hc⟩ := wcell h
  obtain ⟨n, hn⟩ : ∃ n, n = W.length := ⟨_, rfl⟩
  have START : Hid (FAt w t (.slice A W.length c) vi W I F w) := hid ⟨h, Below.refl _ _⟩
  rw [← hn] at hc hbig ⊢
  have HN := hid hn
  have HL := hid hlen
  obtain ⟨res, hres⟩ : ∃ r, r = (if 0 ≤ firstD W I n then #[Value.int .i64 (firstD W I n), .bool true] else #[.int .i64 0, .bool false]) := ⟨_, rfl⟩
  rw [← hres]
  have HRES := hid hres
  clear h hn hlen hres
  go_enter Try.func32, Try.ntmps32
  go_wp2_with fail
  go_loopg [4, 5] n (fun left v4 v5 wr => ∃ k z, left + k = n ∧ v5 = .int .i64 (k : Int) ∧ v4 = .int .i64 z ∧ Hid (z = firstD W I k) ∧ Hid (FAt w t (.slice A W.length c) vi W I F wr))
  case atStart => exact ⟨0, -1, by omega, rfl, rfl, hid rfl, START⟩
  case round =>
    obtain ⟨k, z, hk, rfl, rfl, HZ, U⟩ := hrel
    clear START
    have hc0 : wr.cell? ⟨t, 0, none⟩ = some (.slice A W.length c) := U.out.ob.cell 0 _ rfl
    rw [← HN.out] at hc0
    by_cases hkn : k < n
    · have hkI : (k : Int) < (n : Int) := by omega
      have hkW : k < W.length := by rw [← HN.out]; exact hkn
      have hkL : k < I.length := by rw [HL.out]; exact hkW
      obtain ⟨g, off, cap, hv, _, _, hcells, _⟩ := row_at U.out.ob 0 _ _ _ rfl rfl (by simp; omega)
      injection hv with hA _ hcc
      subst hA hcc
      obtain ⟨gi, oi, capi, hvi, _, _, hcellsi, _⟩ := row_at U.out.ob 1 _ _ vi rfl rfl (by simp; omega)
      rw [List.length_map] at hvi
      subst hvi
      obtain ⟨ni, hni⟩ : ∃ n, n = I.length := ⟨_, rfl⟩
      have hc1 : wr.cell? ⟨t, 1, none⟩ = some (.slice (some ⟨gi, oi, none⟩) I.length capi) := U.out.ob.cell 1 _ rfl
      have hb := (hcellsi k (by simpa using hkL)).trans (bools_get _ _ hkL)
      have hx := (hcells k (by simpa using hkW)).trans (lits_get _ _ hkW)
      obtain ⟨b, hbb⟩ : ∃ b, b = I.getD k false := ⟨_, rfl⟩
      obtain ⟨x, hxx⟩ : ∃ x, x = W.getD k 0 := ⟨_, rfl⟩
      rw [← hni] at hc1
      rw [← hbb] at hb
      rw [← hxx] at hx
      have hki : k < ni := by omega
      have hkiI : (k : Int) < (ni : Int) := by omega
      have HBB := hid hbb
      have HXX := hid hxx
      have NXT : Hid (firstD W I (k + 1) = if b = true ∧ (z < 0 ∨ x > W.getD z.toNat 0) then (k : Int) else z) := hid (by rw [firstD, HBB.out, HXX.out, HZ.out])
      have hsm : (k : Int) < 9223372036854775807 := by omega
      have eqw : IntKind.i64.wrap (k : Int) = (k : Int) := by simp [IntKind.wrap, IntKind.signed, IntKind.bits]; omega
      have hcellsW := hid hcells
      clear hbb hxx hcells hcellsi hni hkW hkL
      cases gk with
      | zero => omega
      | succ left =>
        cases b with
        | false =>
          go_wp2_with fail
          go_quiet (fail)
          have UN := hid (FAt.drewN U.out nq)
          obtain ⟨W1, hW1⟩ : ∃ V, V = wr.drewN nq := ⟨_, rfl⟩
          rw [← hW1] at UN ⊢
          clear hW1
          go_wp2_with fail
          go_roundg left
          case measure => omega
          case rel => exact ⟨k + 1, _, by omega, rfl, rfl, hid (by rw [NXT.out, if_neg (by simp)]), UN⟩
        | true =>
          rcases firstD_rng W I k with hz | ⟨j, hz, hjk⟩
          · have hz0 : z = -1 := HZ.out.trans hz
            subst hz0
            clear hz
            go_wp2_with fail
            go_quiet (fail)
            have UN := hid (FAt.drewN U.out nq)
            obtain ⟨W1, hW1⟩ : ∃ V, V = wr.drewN nq := ⟨_, rfl⟩
            rw [← hW1] at UN ⊢
            clear hW1
            go_wp2_with fail
            go_roundg left
            case measure => omega
            case rel => exact ⟨k + 1, _, by omega, rfl, rfl, hid (by rw [NXT.out, if_pos ⟨by simp, .inl (by decide)⟩]), UN⟩
          · have hz0 : z = (j : Int) := HZ.out.trans hz
            subst hz0
            have hjW : j < W.length := by rw [← HN.out]; omega
            have hy := (hcellsW.out j (by simpa using hjW)).trans (lits_get _ _ hjW)
            obtain ⟨y, hyy⟩ : ∃ y, y = W.getD j 0 := ⟨_, rfl⟩
            rw [← hyy] at hy
            have HYY := hid hyy
            have hjn : j < n := by omega
            have hjI : (j : Int) < (n : Int) := by omega
            have hj0 : decide ((j : Int) < 0) = false := by simp
            have eqj : IntKind.i64.wrap (j : Int) = (j : Int) := by simp [IntKind.wrap, IntKind.signed, IntKind.bits]; omega
            clear hz hyy hjW
            by_cases hxy : x > y
            · have hxd : decide (y < x) = true := by simpa using hxy
              go_wp2_with fail
              go_quiet (fail)
              have UN := hid (FAt.drewN U.out nq)
              obtain ⟨W1, hW1⟩ : ∃ V, V = wr.drewN nq := ⟨_, rfl⟩
              rw [← hW1] at UN ⊢
              clear hW1
              go_wp2_with fail
              go_roundg left
              case measure => omega
              case rel => exact ⟨k + 1, _, by omega, rfl, rfl, hid (by rw [NXT.out, if_pos ⟨by simp, .inr (by rw [Int.toNat_natCast, ← HYY.out]; exact hxy)⟩]), UN⟩
            · have hxd : decide (y < x) = false := by simpa using hxy
              have HXY := hid hxy
              clear hxy
              go_wp2_with fail
              go_quiet (fail)
              have UN := hid (FAt.drewN U.out nq)
              obtain ⟨W1, hW1⟩ : ∃ V, V = wr.drewN nq := ⟨_, rfl⟩
              rw [← hW1] at UN ⊢
              clear hW1
              go_wp2_with fail
              go_roundg left
              case measure => omega
              case rel => exact ⟨k + 1, _, by omega, rfl, rfl, hid (by rw [NXT.out, if_neg (fun q => q.2.elim (fun q => absurd q (by omega)) (fun q => by have := HXY.out; rw [Int.toNat_natCast, ← HYY.out] at q; omega))]), UN⟩
    · obtain rfl : k = n := by omega
      rcases firstD_rng W I k with hz | ⟨j, hz, hjk⟩
      · have hz0 : z = -1 := HZ.out.trans hz
        subst hz0
        have HZ1 := hid hz
        clear hz
        go_wp2_with fail
        go_ret2
        exact ⟨by rw [HRES.out, HZ1.out, if_neg (by decide)]; rfl, U.out.below⟩
      · have hz0 : z = (j : Int) := HZ.out.trans hz
        subst hz0
        have hj0 : ¬ ((j : Int) < 0) := by omega
        have HZ1 := hid hz
        clear hz
        go_wp2_with fail
        go_ret2
        exact ⟨by rw [HRES.out, HZ1.out, if_pos (by omega)]; rfl, U.out.below⟩
set_option maxHeartbeats 1600000 in
theorem Pop_none (w : World) (t : Nat) (vw vi : Value) (W : List Int) (I : List Bool) (F : Nat → Prop) (h : Rh w t vw vi W I F) (hlen : I.length = W.length) (hbig : W.length ≤ 1048576) (h0 : firstD W I W.length = -1) :
    Calls Try.prog 27 #[ptr t] w fun e w' => e = .returned (.tuple #[.int .i64 0, .bool false]) ∧ Below w.heap.size w w' := by
  have FC := First_calls w t vw vi W I F h hlen hbig
  rw [h0, if_neg (by decide)] at FC
  have HFC := hid FC
  clear h h0 FC
  go_enter Try.func27, Try.ntmps27
  go_wp2_with fail
  refine HFC.out.mono ?_
  rintro e w1 ⟨rfl, hb1⟩
  have HB1 := hid hb1
  clear hb1
  go_wp2_with fail
  go_ret2
  exact ⟨rfl, HB1.out⟩
set_option maxHeartbeats 1600000 in
/-- It stores in the block of what is in it alone. -/
theorem Pop_calls (w : World) (t : Nat) (vw vi : Value) (W : List Int) (I : List Bool) (F : Nat → Prop) (m : Nat) (h : Rh w t vw vi W I F) (hlen : I.length = W.length) (hbig : W.length ≤ 1048576) (h0 : firstD W I W.length = (m : Int)) :
    Calls Try.prog 27 #[ptr t] w fun e w' => e = .returned (.tuple #[.int .i64 m, .bool true]) ∧ Rh w' t vw vi W (I.set m false) F ∧ Keep (fun j => vi.ownBlock = some j) w w' := by
  have FC := First_calls w t vw vi W I F h hlen hbig
  rw [h0, if_pos (by omega)] at FC
  have hm : m < W.length := by
    rcases firstD_rng W I W.length with e | ⟨j, e, hj⟩
    · rw [h0] at e; omega
    · rw [h0] at e; omega
  have HFC := hid FC
  have HH := hid h
  have HL := hid hlen
  have HM := hid hm
  clear h h0 FC hlen hm
  go_enter Try.func27, Try.ntmps27
  go_wp2_with fail
  refine HFC.out.mono ?_
  rintro e w1 ⟨rfl, hb1⟩
  have h1 : Rh w1 t vw vi W I F := HH.out.below hb1
  obtain ⟨g, off, cap, hv, hcap, hg, hcells, hfr⟩ := row_at h1 1 _ _ vi rfl rfl (by have := HL.out; have := HM.out; simp; omega)
  rw [List.length_map] at hv hcap
  subst hv
  have hx := (hcells m (by have := HL.out; have := HM.out; simp; omega)).trans (bools_get _ _ (by have := HL.out; have := HM.out; omega))
  obtain ⟨b, hb⟩ : ∃ b, b = I.getD m false := ⟨_, rfl⟩
  rw [← hb] at hx
  obtain ⟨n, hn⟩ : ∃ n, n = I.length := ⟨_, rfl⟩
  have hmI : (m : Int) < (n : Int) := by have := HL.out; have := HM.out; omega
  have hc1 := h1.cell 1 _ rfl
  have hf1 := hfr (off + m)
  have T1 := h1.put 1 _ _ g off I.length cap rfl rfl m (by have := HL.out; have := HM.out; simp; omega) (.bool false)
  have hfin : Rh (w1.setCell ⟨g, off + m, none⟩ (.bool false)) t vw (.slice (some ⟨g, off, none⟩) I.length cap) W (I.set m false) F := by
    show Ob _ _ _ _ [_, (_, bools (I.set m false))] _
    rw [bools_set]
    exact T1.1
  rw [← hn] at hc1
  have HFIN := hid hfin
  have hks : Keep (fun j => (Value.slice (some ⟨g, off, none⟩) I.length cap).ownBlock = some j) w1 (w1.setCell ⟨g, off + m, none⟩ (.bool false)) := (setCell_keep w1 g (off + m) (.bool false)).mono (fun j hj => by rw [show j = g from hj]; rfl)
  have HKEEP := hid ((Keep.ofBelow hb1).trans hks (fun _ h => h) (fun _ h => .inl h))
  clear T1 hfin hb1 h1 hcells hfr hg hcap hn HH hks hb
  go_wp2_with fail
  go_ret2
  exact ⟨rfl, HFIN.out, HKEEP.out⟩
end Go.Proofs.Ytegcfaohhcjajaa.RH
