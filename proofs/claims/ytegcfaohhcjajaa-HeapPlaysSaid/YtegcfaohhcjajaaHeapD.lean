/- Walk of heap.down (printed by wip/tools/heapd.py). -/
import Derived.Test.YtegcfaohhcjajaaHeapU
namespace Go.Proofs.Ytegcfaohhcjajaa.HM
open Go.RowKit Go.Proofs.YtegcfaohhcjajaaW.PrintWords Go.Proofs.YtegcfaohhcjajaaW.PrintLast Go.Proofs.YtegcfaohhcjajaaW.PrintMore Go.Proofs.Ytegcfaohhcjajaa.MM
attribute [local go_sem ↓] Go.wp_at_zero Go.wp_at_succ
set_option linter.unusedSimpArgs false
set_option linter.unusedVariables false

theorem downL_v (k : Nat) (s : HS) (i a : Nat) : (downL k s i a).v = s.v := by
  induction k generalizing s a with
  | zero => rfl
  | succ k ih =>
    rw [downL]
    split
    · rw [ih]; rfl
    · rfl
structure DownAt (w : World) (t : Nat) (F : Nat → Prop) (s : HS) (i n : Nat) (R : HS) (k a : Nat) (wr : World) : Prop where
  hp : Hp wr t s F
  keep : Keep (Fv R F) w wr
  wf : Wf s
  len : s.r.length = n
  fuel : n ≤ k + a
  lt : a < n
  res : downL k s i a = R
  inb : i < s.w.length
set_option maxRecDepth 100000 in
set_option maxHeartbeats 800000 in
theorem down_calls (w : World) (t : Nat) (s : HS) (F : Nat → Prop) (at_ : Nat) (h : Hp w t s F) (wf : Wf s) (ha : at_ < s.r.length) :
    Calls Try.prog 45 #[ptr t, .int .i64 at_] w fun e w' => e = .returned (.tuple #[]) ∧ Hp w' t (downM s at_) F ∧ Keep (Fv s F) w w' := by
  have H0 := h
  obtain ⟨vw, vp, vr, h, HV⟩ := h
  obtain ⟨g, off, cap, hv, hcap, hg, hcells, _⟩ := row_at h 2 _ _ vr rfl rfl (by simp; omega)
  rw [List.length_map] at hv hcap
  subst hv
  have hc2 := h.cell 2 _ rfl
  have hx := (hcells at_ (by simpa using ha)).trans (nats_get _ _ ha)
  obtain ⟨i, hi⟩ : ∃ i, i = s.r.getD at_ 0 := ⟨_, rfl⟩
  obtain ⟨n, hn⟩ : ∃ n, n = s.r.length := ⟨_, rfl⟩
  obtain ⟨R, hR⟩ : ∃ R, R = downM s at_ := ⟨_, rfl⟩
  rw [← hi] at hx
  rw [← hn] at hc2
  rw [← hR]
  rw [show Fv s F = Fv R F from by show (fun j => F j ∧ s.v.ownBlock ≠ some j) = fun j => F j ∧ R.v.ownBlock ≠ some j; rw [hR, downM, downL_v]]
  have ha' : at_ < n := by omega
  have haI : (at_ : Int) < (n : Int) := by omega
  have START : Hid (DownAt w t F s i n R n at_ w) := hid ⟨H0, Keep.refl _ _, wf, hn.symm, by omega, ha', by rw [hR, hi, hn]; rfl, by rw [hi]; exact wf.at ha⟩
  have hbig : n ≤ 1048576 := by rw [hn]; exact wf.rbig
  clear h hcells H0 hi hn hR wf ha hcap hg
  go_enter Try.func45, Try.ntmps45
  go_wp2_with fail
  go_loopg [1, 5] n (fun left v1 v5 wr => ∃ a k s', n ≤ left + a ∧ v1 = .int .i64 (a : Int) ∧ Hid (DownAt w t F s' i n R k a wr))
  case atStart => exact ⟨at_, n, s, by omega, rfl, START⟩
  case round =>
    obtain ⟨a, k, s', hal, rfl, U⟩ := hrel
    have han : a < n := U.out.lt
    cases gk with
    | zero => omega
    | succ left =>
    have FIN := hid (fun (W : World) (hW : Below wr.heap.size wr W) => set_calls W t s' F a i (U.out.hp.below hW) (by have := U.out.len; have := U.out.lt; omega) (by have := U.out.wf.len; have := U.out.inb; omega))
    have hk0 : ∃ k', k = k' + 1 := ⟨k - 1, by have := U.out.fuel; omega⟩
    obtain ⟨k', rfl⟩ := hk0
    have hres := U.out.res
    rw [downL, U.out.len] at hres
    have HRES := hid hres
    clear hres
    obtain ⟨vw', vp', vr', h', HV'⟩ := U.out.hp
    have hlr := U.out.len
    obtain ⟨g', off', cap', hv, _, hg', hcells', _⟩ := row_at h' 2 _ _ vr' rfl rfl (by simp; omega)
    rw [List.length_map, hlr] at hv
    subst hv
    have hcs := h'.cell 2 _ rfl
    have HCELL := hid (fun (q : Nat) (hq : q < n) => (hcells' q (by simp; omega)).trans (nats_get _ _ (by omega)))
    have HG := hid hg'
    have htl := blk_lt h'.blk
    have HLR := hid hlr
    obtain ⟨q1, hq1⟩ : ∃ q, q = 2 * a + 1 := ⟨_, rfl⟩
    obtain ⟨q2, hq2⟩ : ∃ q, q = 2 * a + 2 := ⟨_, rfl⟩
    have eq1 : 2 * (a : Int) + 1 = (q1 : Int) := by omega
    have eq2 : (q1 : Int) + 1 = (q2 : Int) := by omega
    have eqw : IntKind.i64.wrap (q2 : Int) = (q2 : Int) := by simp [IntKind.wrap, IntKind.signed, IntKind.bits]; omega
    have HQ1 := hid hq1
    have HQ2 := hid hq2
    rw [← hq1] at HRES
    clear hq1 hq2
    clear h' hcells' hlr hg'
    rcases Nat.lt_or_ge q1 n with hin | hout
    · have hinI : ¬ ((q1 : Int) ≥ (n : Int)) := by omega
      rcases Nat.lt_or_ge q2 n with hin2 | hout2
      · have hin2I : (q2 : Int) < (n : Int) := by omega
        obtain ⟨y, hy'⟩ : ∃ y, y = s'.r.getD q1 0 := ⟨_, rfl⟩
        obtain ⟨z, hz'⟩ : ∃ z, z = s'.r.getD q2 0 := ⟨_, rfl⟩
        have hyc := HCELL.out q1 hin
        have hzc := HCELL.out q2 hin2
        rw [← hy'] at hyc
        rw [← hz'] at hzc
        have hyi : y < s'.w.length := by rw [hy']; exact U.out.wf.at (by have := HLR.out; omega)
        have hzi : z < s'.w.length := by rw [hz']; exact U.out.wf.at (by have := HLR.out; omega)
        obtain ⟨cc, hcc⟩ : ∃ cc, cc = aheadM s'.w z y := ⟨_, rfl⟩
        have AQ := hid (fun (m : Nat) => ahead_quiet (wr.drewN m) t s' F z y (U.out.hp.drewN m) hzi hyi)
        rw [← hcc] at AQ
        have hnx : nextM s' a = if cc = true then q2 else q1 := by
          unfold nextM
          rw [HLR.out, ← HQ1.out, ← HQ2.out, ← hy', ← hz', ← hcc]
          by_cases e : cc = true
          · rw [if_pos ⟨hin2, e⟩, if_pos e]
          · rw [if_neg (fun h => e h.2), if_neg e]
        have HY := hid hy'
        have HZ := hid hz'
        clear hy' hz' hyi hzi hcc
        have QH := hid hyc
        have hinI2 : (q1 : Int) < (n : Int) := by omega
        cases cc with
        | true =>
          have HNX : Hid (nextM s' a = q2) := hid (by rw [hnx, if_pos rfl])
          clear hnx
          have hqn : q2 < n := by omega
          have hqI : (((q2 : Nat)) : Int) < (n : Int) := by omega
          have hx' := HZ.out
          have hxc := hzc
          have hxi : z < s'.w.length := by rw [hx']; exact U.out.wf.at (by have := HLR.out; omega)
          obtain ⟨bb, hbb⟩ : ∃ bb, bb = aheadM s'.w z i := ⟨_, rfl⟩
          have AH := hid (fun (W : World) (hW : Below wr.heap.size wr W) => ahead_calls W t s' F z i (U.out.hp.below hW) hxi U.out.inb)
          rw [← hbb] at AH
          have hnx' := HNX.out
          have hres := HRES.out
          rw [hnx', ← hx', ← hbb] at hres
          have HRES := hid hres
          have SET := hid (fun (W : World) (hW : Below wr.heap.size wr W) => set_calls W t s' F a z (U.out.hp.below hW) (by have := HLR.out; omega) (by have := U.out.wf.len; omega))
          have HXI := hid hxi
          clear hx' hbb hnx' hres hxi
          go_wp2_with fail
          go_quiet (exact Calls.quiet_of (AQ.out _))
          go_wp2_with fail
          refine (AH.out _ (by exact (pw_below_drewN (Below.refl _ _) _))).mono ?_
          rintro e wa ⟨rfl, hb1⟩
          have HB1 : Hid (Below wr.heap.size wr wa) := hid ((pw_below_drewN (Below.refl _ _) _).trans hb1)
          have hcs1 : wa.cell? ⟨t, 2, none⟩ = _ := (HB1.out.cell (p := ⟨t, 2, none⟩) htl).trans hcs
          have hxc1 : wa.cell? ⟨g', off' + (q2), none⟩ = _ := (HB1.out.cell (p := ⟨g', off' + (q2), none⟩) HG.out).trans hxc
          clear hb1
          cases bb with
          | false =>
            go_wp2_with fail
            refine (FIN.out wa HB1.out).mono ?_
            rintro e wz ⟨rfl, hp1, hk1⟩
            have HP1 := hid hp1
            have HK1 := hid (hk1.mono fun _ h => (⟨h.1, by rw [← U.out.res, downL_v]; exact h.2⟩ : Fv R F _))
            clear hp1 hk1
            go_wp2_with fail
            try simp only [Exit.inBlock, Exit.then]
            refine bodyPost_end (results_none rfl _ _ _) rfl ?_
            have hres := HRES.out
            rw [if_neg (by simp)] at hres
            exact ⟨rfl, by rw [← hres]; exact HP1.out, (U.out.keep.trans (Keep.ofBelow (F := fun _ => False) HB1.out) (fun _ h => h) (fun _ h => h.elim)).trans HK1.out (fun _ h => h) (fun _ h => .inl h)⟩
          | true =>
            go_wp2_with fail
            refine (SET.out wa HB1.out).mono ?_
            rintro e wz ⟨rfl, hp1, hk1⟩
            have HP1 := hid hp1
            have HK1 := hid (hk1.mono fun _ h => (⟨h.1, by rw [← U.out.res, downL_v]; exact h.2⟩ : Fv R F _))
            clear hp1 hk1
            go_wp2_with fail
            go_roundg left
            case measure => omega
            case rel =>
              have hres := HRES.out
              rw [if_pos ⟨by omega, by simp⟩] at hres
              exact ⟨q2, k', setM s' a z, by have := HQ1.out; have := HQ2.out; omega, rfl, hid ⟨HP1.out, (U.out.keep.trans (Keep.ofBelow (F := fun _ => False) HB1.out) (fun _ h => h) (fun _ h => h.elim)).trans HK1.out (fun _ h => h) (fun _ h => .inl h), U.out.wf.set HXI.out, by rw [setM_rlen]; exact U.out.len, by have := U.out.fuel; have := HQ1.out; have := HQ2.out; omega, hqn, hres, U.out.inb⟩⟩
        | false =>
          have HNX : Hid (nextM s' a = q1) := hid (by rw [hnx, if_neg (by simp)])
          clear hnx
          have hqn : q1 < n := by omega
          have hqI : (((q1 : Nat)) : Int) < (n : Int) := by omega
          have hx' := HY.out
          have hxc := hyc
          have hxi : y < s'.w.length := by rw [hx']; exact U.out.wf.at (by have := HLR.out; omega)
          obtain ⟨bb, hbb⟩ : ∃ bb, bb = aheadM s'.w y i := ⟨_, rfl⟩
          have AH := hid (fun (W : World) (hW : Below wr.heap.size wr W) => ahead_calls W t s' F y i (U.out.hp.below hW) hxi U.out.inb)
          rw [← hbb] at AH
          have hnx' := HNX.out
          have hres := HRES.out
          rw [hnx', ← hx', ← hbb] at hres
          have HRES := hid hres
          have SET := hid (fun (W : World) (hW : Below wr.heap.size wr W) => set_calls W t s' F a y (U.out.hp.below hW) (by have := HLR.out; omega) (by have := U.out.wf.len; omega))
          have HXI := hid hxi
          clear hx' hbb hnx' hres hxi
          go_wp2_with fail
          go_quiet (exact Calls.quiet_of (AQ.out _))
          go_wp2_with fail
          refine (AH.out _ (by exact (pw_below_drewN (Below.refl _ _) _))).mono ?_
          rintro e wa ⟨rfl, hb1⟩
          have HB1 : Hid (Below wr.heap.size wr wa) := hid ((pw_below_drewN (Below.refl _ _) _).trans hb1)
          have hcs1 : wa.cell? ⟨t, 2, none⟩ = _ := (HB1.out.cell (p := ⟨t, 2, none⟩) htl).trans hcs
          have hxc1 : wa.cell? ⟨g', off' + (q1), none⟩ = _ := (HB1.out.cell (p := ⟨g', off' + (q1), none⟩) HG.out).trans hxc
          clear hb1
          cases bb with
          | false =>
            go_wp2_with fail
            refine (FIN.out wa HB1.out).mono ?_
            rintro e wz ⟨rfl, hp1, hk1⟩
            have HP1 := hid hp1
            have HK1 := hid (hk1.mono fun _ h => (⟨h.1, by rw [← U.out.res, downL_v]; exact h.2⟩ : Fv R F _))
            clear hp1 hk1
            go_wp2_with fail
            try simp only [Exit.inBlock, Exit.then]
            refine bodyPost_end (results_none rfl _ _ _) rfl ?_
            have hres := HRES.out
            rw [if_neg (by simp)] at hres
            exact ⟨rfl, by rw [← hres]; exact HP1.out, (U.out.keep.trans (Keep.ofBelow (F := fun _ => False) HB1.out) (fun _ h => h) (fun _ h => h.elim)).trans HK1.out (fun _ h => h) (fun _ h => .inl h)⟩
          | true =>
            go_wp2_with fail
            refine (SET.out wa HB1.out).mono ?_
            rintro e wz ⟨rfl, hp1, hk1⟩
            have HP1 := hid hp1
            have HK1 := hid (hk1.mono fun _ h => (⟨h.1, by rw [← U.out.res, downL_v]; exact h.2⟩ : Fv R F _))
            clear hp1 hk1
            go_wp2_with fail
            go_roundg left
            case measure => omega
            case rel =>
              have hres := HRES.out
              rw [if_pos ⟨by omega, by simp⟩] at hres
              exact ⟨q1, k', setM s' a y, by have := HQ1.out; have := HQ2.out; omega, rfl, hid ⟨HP1.out, (U.out.keep.trans (Keep.ofBelow (F := fun _ => False) HB1.out) (fun _ h => h) (fun _ h => h.elim)).trans HK1.out (fun _ h => h) (fun _ h => .inl h), U.out.wf.set HXI.out, by rw [setM_rlen]; exact U.out.len, by have := U.out.fuel; have := HQ1.out; have := HQ2.out; omega, hqn, hres, U.out.inb⟩⟩
      · have hout2I : ¬ ((q2 : Int) < (n : Int)) := by omega
        have hd2 : decide ((q2 : Int) < (n : Int)) = false := decide_eq_false hout2I
        have hd3 : decide (q2 < n) = false := decide_eq_false (by omega)
        have HNX : Hid (nextM s' a = q1) := hid (by unfold nextM; rw [HLR.out, ← HQ1.out, ← HQ2.out, if_neg (by omega)])
        have hqn : q1 < n := by omega
        have hqI : (((q1 : Nat)) : Int) < (n : Int) := by omega
        obtain ⟨x, hx'⟩ : ∃ x, x = s'.r.getD (q1) 0 := ⟨_, rfl⟩
        have hxc := HCELL.out (q1) hqn
        rw [← hx'] at hxc
        have hxi : x < s'.w.length := by rw [hx']; exact U.out.wf.at (by have := HLR.out; omega)
        obtain ⟨bb, hbb⟩ : ∃ bb, bb = aheadM s'.w x i := ⟨_, rfl⟩
        have AH := hid (fun (W : World) (hW : Below wr.heap.size wr W) => ahead_calls W t s' F x i (U.out.hp.below hW) hxi U.out.inb)
        rw [← hbb] at AH
        have hnx' := HNX.out
        have hres := HRES.out
        rw [hnx', ← hx', ← hbb] at hres
        have HRES := hid hres
        have SET := hid (fun (W : World) (hW : Below wr.heap.size wr W) => set_calls W t s' F a x (U.out.hp.below hW) (by have := HLR.out; omega) (by have := U.out.wf.len; omega))
        have HXI := hid hxi
        clear hx' hbb hnx' hres hxi
        go_wp2_with fail
        go_quiet (fail)
        go_wp2_with fail
        refine (AH.out _ (by exact (pw_below_drewN (Below.refl _ _) _))).mono ?_
        rintro e wa ⟨rfl, hb1⟩
        have HB1 : Hid (Below wr.heap.size wr wa) := hid ((pw_below_drewN (Below.refl _ _) _).trans hb1)
        have hcs1 : wa.cell? ⟨t, 2, none⟩ = _ := (HB1.out.cell (p := ⟨t, 2, none⟩) htl).trans hcs
        have hxc1 : wa.cell? ⟨g', off' + (q1), none⟩ = _ := (HB1.out.cell (p := ⟨g', off' + (q1), none⟩) HG.out).trans hxc
        clear hb1
        cases bb with
        | false =>
          go_wp2_with fail
          refine (FIN.out wa HB1.out).mono ?_
          rintro e wz ⟨rfl, hp1, hk1⟩
          have HP1 := hid hp1
          have HK1 := hid (hk1.mono fun _ h => (⟨h.1, by rw [← U.out.res, downL_v]; exact h.2⟩ : Fv R F _))
          clear hp1 hk1
          go_wp2_with fail
          try simp only [Exit.inBlock, Exit.then]
          refine bodyPost_end (results_none rfl _ _ _) rfl ?_
          have hres := HRES.out
          rw [if_neg (by simp)] at hres
          exact ⟨rfl, by rw [← hres]; exact HP1.out, (U.out.keep.trans (Keep.ofBelow (F := fun _ => False) HB1.out) (fun _ h => h) (fun _ h => h.elim)).trans HK1.out (fun _ h => h) (fun _ h => .inl h)⟩
        | true =>
          go_wp2_with fail
          refine (SET.out wa HB1.out).mono ?_
          rintro e wz ⟨rfl, hp1, hk1⟩
          have HP1 := hid hp1
          have HK1 := hid (hk1.mono fun _ h => (⟨h.1, by rw [← U.out.res, downL_v]; exact h.2⟩ : Fv R F _))
          clear hp1 hk1
          go_wp2_with fail
          go_roundg left
          case measure => omega
          case rel =>
            have hres := HRES.out
            rw [if_pos ⟨by omega, by simp⟩] at hres
            exact ⟨q1, k', setM s' a x, by have := HQ1.out; have := HQ2.out; omega, rfl, hid ⟨HP1.out, (U.out.keep.trans (Keep.ofBelow (F := fun _ => False) HB1.out) (fun _ h => h) (fun _ h => h.elim)).trans HK1.out (fun _ h => h) (fun _ h => .inl h), U.out.wf.set HXI.out, by rw [setM_rlen]; exact U.out.len, by have := U.out.fuel; have := HQ1.out; have := HQ2.out; omega, hqn, hres, U.out.inb⟩⟩
    · have houtI : (q1 : Int) ≥ (n : Int) := by omega
      go_wp2_with fail
      refine (FIN.out wr (Below.refl _ _)).mono ?_
      rintro e wz ⟨rfl, hp1, hk1⟩
      have HP1 := hid hp1
      have HK1 := hid (hk1.mono fun _ h => (⟨h.1, by rw [← U.out.res, downL_v]; exact h.2⟩ : Fv R F _))
      clear hp1 hk1
      go_wp2_with fail
      try simp only [Exit.inBlock, Exit.then]
      refine bodyPost_end (results_none rfl _ _ _) rfl ?_
      have hres := HRES.out
      rw [if_neg (by omega)] at hres
      exact ⟨rfl, by rw [← hres]; exact HP1.out, (U.out.keep.trans (Keep.ofBelow (F := fun _ => False) (Below.refl _ _)) (fun _ h => h) (fun _ h => h.elim)).trans HK1.out (fun _ h => h) (fun _ h => .inl h)⟩
end Go.Proofs.Ytegcfaohhcjajaa.HM
