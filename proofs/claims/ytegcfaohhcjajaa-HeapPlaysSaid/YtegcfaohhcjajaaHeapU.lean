/- Walk of heap.up. -/
import Derived.Test.YtegcfaohhcjajaaHeapS
namespace Go.Proofs.Ytegcfaohhcjajaa.HM
open Go.RowKit Go.Proofs.YtegcfaohhcjajaaW.PrintWords Go.Proofs.YtegcfaohhcjajaaW.PrintLast Go.Proofs.YtegcfaohhcjajaaW.PrintMore Go.Proofs.Ytegcfaohhcjajaa.MM
attribute [local go_sem ↓] Go.wp_at_zero Go.wp_at_succ
set_option linter.unusedSimpArgs false
set_option linter.unusedVariables false

theorem upL_zero (k : Nat) (s : HS) (i : Nat) : upL k s i 0 = setM s 0 i := by cases k <;> simp [upL]
/-- The loop of up. -/
structure UpAt (w : World) (t : Nat) (F : Nat → Prop) (s : HS) (i n : Nat) (R : HS) (k a : Nat) (wr : World) : Prop where
  hp : Hp wr t s F
  keep : Keep F w wr
  wf : Wf s
  len : s.r.length = n
  fuel : a ≤ k
  lt : a < n
  res : upL k s i a = R
  inb : i < s.w.length
set_option maxRecDepth 100000 in
set_option maxHeartbeats 3200000 in
theorem up_calls (w : World) (t : Nat) (s : HS) (F : Nat → Prop) (at_ : Nat) (h : Hp w t s F) (wf : Wf s) (ha : at_ < s.r.length) :
    Calls Try.prog 43 #[ptr t, .int .i64 at_] w fun e w' => e = .returned (.tuple #[]) ∧ Hp w' t (upM s at_) F ∧ Keep F w w' := by
  have H0 := h
  obtain ⟨vw, vp, vr, h, HV⟩ := h
  obtain ⟨g, off, cap, hv, hcap, hg, hcells, _⟩ := row_at h 2 _ _ vr rfl rfl (by simp; omega)
  rw [List.length_map] at hv hcap
  subst hv
  have hc2 := h.cell 2 _ rfl
  have hx := (hcells at_ (by simpa using ha)).trans (nats_get _ _ ha)
  obtain ⟨i, hi⟩ : ∃ i, i = s.r.getD at_ 0 := ⟨_, rfl⟩
  obtain ⟨n, hn⟩ : ∃ n, n = s.r.length := ⟨_, rfl⟩
  obtain ⟨R, hR⟩ : ∃ R, R = upM s at_ := ⟨_, rfl⟩
  rw [← hi] at hx
  rw [← hn] at hc2
  rw [← hR]
  have ha' : at_ < n := by omega
  have haI : (at_ : Int) < (n : Int) := by omega
  have START : Hid (UpAt w t F s i n R at_ at_ w) := hid ⟨H0, Keep.refl _ _, wf, hn.symm, Nat.le_refl _, ha', by rw [hR, hi]; rfl, by rw [hi]; exact wf.at ha⟩
  have hbig : n ≤ 1048576 := by rw [hn]; exact wf.rbig
  clear h hcells H0 hi hn hR wf ha hcap hg
  go_enter Try.func43, Try.ntmps43
  go_wp2_with fail
  go_loopg [1, 5] n (fun left v1 v5 wr => ∃ a k s', a ≤ left ∧ v1 = .int .i64 (a : Int) ∧ Hid (UpAt w t F s' i n R k a wr))
  case atStart => exact ⟨at_, at_, s, by omega, rfl, START⟩
  case round =>
    obtain ⟨a, k, s', hal, rfl, U⟩ := hrel
    have FIN := hid (fun (W : World) (hW : Below wr.heap.size wr W) => set_calls W t s' F a i (U.out.hp.below hW) (by have := U.out.len; have := U.out.lt; omega) (by have := U.out.wf.len; have := U.out.inb; omega))
    rcases Nat.eq_zero_or_pos a with rfl | hpos
    · have HST := hid ((upL_zero k s' i).symm.trans U.out.res)
      go_wp2_with fail
      refine (FIN.out wr (Below.refl _ _)).mono ?_
      rintro e w1 ⟨rfl, hp1, hk1⟩
      have HP1 := hid hp1
      have HK1 := hid (hk1.mono fun _ h => h.1)
      clear hp1 hk1
      go_wp2_with fail
      try simp only [Exit.inBlock, Exit.then]
      refine bodyPost_end (results_none rfl _ _ _) rfl ?_
      exact ⟨rfl, by rw [← HST.out]; exact HP1.out, U.out.keep.trans HK1.out (fun _ h => h) (fun _ h => .inl h)⟩
    · obtain ⟨b, rfl⟩ : ∃ b, a = b + 1 := ⟨a - 1, by omega⟩
      cases gk with
      | zero => omega
      | succ left =>
        have hpos' : (0 : Int) < ((b + 1 : Nat) : Int) := by omega
        obtain ⟨c, hc⟩ : ∃ c, c = b / 2 := ⟨_, rfl⟩
        have hbn : b + 1 < n := U.out.lt
        have hcn : c < n := by omega
        have hcb : c ≤ b := by omega
        have hcI : (c : Int) < (n : Int) := by omega
        have hq : wrap64 ((wrap64 (b : Int)).tdiv 2) = (c : Int) := by
          have h1 : wrap64 (b : Int) = (b : Int) := by unfold wrap64; omega
          have h2 : ((b : Int)).tdiv 2 = ((b / 2 : Nat) : Int) := (Int.ofNat_tdiv b 2).symm
          rw [h1, h2, ← hc]
          unfold wrap64
          omega
        have hq2 : (b : Int) / 2 = (c : Int) := by omega
        have HC := hid hc
        obtain ⟨vw', vp', vr', h', HV'⟩ := U.out.hp
        have hlr := U.out.len
        obtain ⟨g', off', cap', hv, _, hg', hcells', _⟩ := row_at h' 2 _ _ vr' rfl rfl (by simp; omega)
        rw [List.length_map, hlr] at hv
        subst hv
        obtain ⟨x, hx'⟩ : ∃ x, x = s'.r.getD c 0 := ⟨_, rfl⟩
        have hxc := (hcells' c (by simp; omega)).trans (nats_get _ _ (by omega))
        rw [← hx'] at hxc
        have hxi : x < s'.w.length := by rw [hx']; exact U.out.wf.at (by omega)
        have hcs := h'.cell 2 _ rfl
        have HX := hid hx'
        have HG := hid hg'
        have htl := blk_lt h'.blk
        obtain ⟨bb, hbb⟩ : ∃ bb, bb = aheadM s'.w i x := ⟨_, rfl⟩
        have AH := hid (ahead_calls wr t s' F i x U.out.hp U.out.inb hxi)
        rw [← hbb] at AH
        have HBB := hid hbb
        have SET := hid (fun (W : World) (hW : Below wr.heap.size wr W) => set_calls W t s' F (b + 1) x (U.out.hp.below hW) (by omega) (by have := U.out.wf.len; omega))
        have HXI := hid hxi
        clear h' hcells' hx' hg' hbb hc hlr hxi
        go_wp2_with fail
        refine AH.out.mono ?_
        rintro e w1 ⟨rfl, hb1⟩
        have hcs1 : w1.cell? ⟨t, 2, none⟩ = _ := (hb1.cell (p := ⟨t, 2, none⟩) htl).trans hcs
        have hxc1 : w1.cell? ⟨g', off' + c, none⟩ = _ := (hb1.cell (p := ⟨g', off' + c, none⟩) HG.out).trans hxc
        have HB1 := hid hb1
        clear hb1
        have hk0 : ∃ k', k = k' + 1 := ⟨k - 1, by have := U.out.fuel; omega⟩
        obtain ⟨k', rfl⟩ := hk0
        have e2 : (b + 1 - 1) / 2 = c := by rw [HC.out]; rfl
        have hres := U.out.res
        rw [upL, e2, ← HX.out, ← HBB.out] at hres
        have HRES := hid hres
        clear hres
        cases bb with
        | false =>
          go_wp2_with fail
          refine (FIN.out w1 HB1.out).mono ?_
          rintro e w2 ⟨rfl, hp1, hk1⟩
          have HP1 := hid hp1
          have HK1 := hid (hk1.mono fun _ h => h.1)
          clear hp1 hk1
          go_wp2_with fail
          try simp only [Exit.inBlock, Exit.then]
          refine bodyPost_end (results_none rfl _ _ _) rfl ?_
          have hres := HRES.out
          rw [if_neg (by simp)] at hres
          exact ⟨rfl, by rw [← hres]; exact HP1.out, (U.out.keep.trans (Keep.ofBelow (F := F) HB1.out) (fun _ h => h) (fun _ h => .inl h)).trans HK1.out (fun _ h => h) (fun _ h => .inl h)⟩
        | true =>
          go_wp2_with fail
          refine (SET.out w1 HB1.out).mono ?_
          rintro e w2 ⟨rfl, hp1, hk1⟩
          have HP1 := hid hp1
          have HK1 := hid (hk1.mono fun _ h => h.1)
          clear hp1 hk1
          go_wp2_with fail
          go_roundg left
          case measure => omega
          case rel =>
            have hres := HRES.out
            rw [if_pos (by simp)] at hres
            exact ⟨c, k', setM s' (b + 1) x, by omega, rfl, hid ⟨HP1.out, (U.out.keep.trans (Keep.ofBelow (F := F) HB1.out) (fun _ h => h) (fun _ h => .inl h)).trans HK1.out (fun _ h => h) (fun _ h => .inl h), U.out.wf.set HXI.out, by rw [setM_rlen]; exact U.out.len, by have := U.out.fuel; omega, by omega, hres, U.out.inb⟩⟩
end Go.Proofs.Ytegcfaohhcjajaa.HM
