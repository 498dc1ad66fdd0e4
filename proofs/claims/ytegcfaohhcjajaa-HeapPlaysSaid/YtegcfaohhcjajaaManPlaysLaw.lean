/- Walk of the law HeapPlays (printed by wip/tools/plays.py). -/
import Derived.Test.YtegcfaohhcjajaaBoth
import Derived.Test.YtegcfaohhcjajaaHkx0
import Derived.Test.YtegcfaohhcjajaaHeapK
namespace Go.Proofs.Ytegcfaohhcjajaa.Hk
open Go.RowKit Go.Proofs.YtegcfaohhcjajaaW.PrintWords Go.Proofs.YtegcfaohhcjajaaW.PrintLast Go.Proofs.YtegcfaohhcjajaaW.PrintMore Go.Proofs.Ytegcfaohhcjajaa.MM Go.Proofs.Ytegcfaohhcjajaa.TW Go.Proofs.Ytegcfaohhcjajaa.TWO
attribute [local go_sem ↓] Go.wp_at_zero Go.wp_at_succ
set_option linter.unusedSimpArgs false
set_option linter.unusedVariables false

theorem ops_open {w : World} {A : Option Addr} {n : Nat} {xs : List S62} (h : Kd.C k62 w A n xs) (h0 : 0 < xs.length) : ∃ b off, A = some ⟨b, off, none⟩ := by
  have hn := h.1
  obtain ⟨ad, e, hc, _⟩ := at_T62 h 0 (by omega) (by omega)
  obtain ⟨b, off, sp⟩ := ad
  have hsp : sp = none := by
    unfold World.cell? at hc
    simp only [Addr.add] at hc
    cases sp with
    | none => rfl
    | some s => split at hc <;> simp at hc
  subst hsp
  exact ⟨b, off, e⟩
theorem ops_cell {w : World} {b off n : Nat} {xs : List S62} (h : Kd.C k62 w (some ⟨b, off, none⟩) n xs) (i : Nat) (hi : i < xs.length) :
    w.cell? ⟨b, off + i * 3, none⟩ = some (.int .i64 (xs.getD i z62).f0) ∧ w.cell? ⟨b, off + i * 3 + 1, none⟩ = some (.int .i64 (xs.getD i z62).f1) ∧ w.cell? ⟨b, off + i * 3 + 2, none⟩ = some (.int .i64 (xs.getD i z62).f2) := by
  have hn := h.1
  obtain ⟨ad, e, h1, h2, h3⟩ := at_T62 h (i : Int) (by omega) (by omega)
  cases e
  rw [Int.toNat_natCast, Addr.add_lit] at h1 h2 h3
  unfold rd_T62 at h1 h2 h3
  rw [Int.toNat_natCast] at h1 h2 h3
  exact ⟨h1, h2, h3⟩
/-- The loop. -/
structure PA (w : World) (t u : Nat) (s : HM.HS) (k : Nat) (wr : World) : Prop where
  two : Two2 w t u s s Side.nothing wr
  good : HM.Good s
  rl : s.r.length ≤ k
set_option maxRecDepth 100000 in
set_option maxHeartbeats 12800000 in
theorem plays_main (w : World) (a0 : Int) (A0 : Option Addr) (c0 : Nat) (l0 : List S62) (h0 : Kd.C k62 w A0 l0.length l0) (ga : a0 ≤ 300) (g0 : l0.length ≤ 400) :
    Calls Try.prog 7 #[.int .i64 a0, .slice A0 l0.length c0] w fun e w' => e = .returned (.bool true) ∧ Below w.heap.size w w' := by
  obtain ⟨n0, hn0⟩ : ∃ n, n = l0.length := ⟨_, rfl⟩
  rw [← hn0] at h0 g0 ⊢
  have d1 : ¬ (a0 > 300) := by omega
  have d0 : ¬ ((n0 : Int) > 400) := by omega
  have HC0 := hid h0
  have HN0 := hid hn0
  have NEW := hid (HM.own_new (w := w) a0)
  obtain ⟨m, hm⟩ : ∃ m, m = HM.sizeN a0 := ⟨_, rfl⟩
  have HM0 := hid hm
  have HMB : Hid (m ≤ 1048576) := hid (by rw [hm]; exact Nat.min_le_right _ _)
  rw [← hm] at NEW
  clear h0 hn0 ga hm
  go_enter Try.func7, Try.ntmps7
  go_wp2_with fail
  refine NEW.out.mono ?_
  rintro e W1 ⟨t, v, rfl, o1⟩
  have O1 := hid o1
  have DNEW := hid (RH.New_calls W1 a0)
  rw [← HM0.out] at DNEW
  clear o1 NEW
  go_wp2_with fail
  refine DNEW.out.mono ?_
  rintro e W2 ⟨u, vw, vi, G, rfl, h2, hG, hb⟩
  have T0 : Hid (Two2 w t u (HM.newM m v) (HM.newM m v) Side.nothing W2) := hid (two2_new O1.out h2 hG hb)
  clear O1 DNEW h2 hG hb
  obtain ⟨Aw, cw, hcw⟩ := T0.out.wcell
  have SZ := hid (fun i => (T0.out.drewN i).size)
  rw [show (HM.newM m v).w.length = m from by simp [HM.newM]] at hcw SZ
  go_wp2_with fail
  go_quiet (exact Calls.quiet_of_same (SZ.out _))
  have R0 : Hid (PA w t u (HM.newM m v) 0 (W2.drewN nq)) := hid ⟨T0.out.drewN _, HM.good_new m v HMB.out, by simp [HM.newM]⟩
  obtain ⟨W3, hW3⟩ : ∃ W, W = W2.drewN nq := ⟨_, rfl⟩
  rw [← hW3] at R0 ⊢
  clear hW3 T0 hcw SZ
  go_wp2_with fail
  go_loopg [44] n0 (fun left v44 wr => ∃ k s, left + k = n0 ∧ v44 = .int .i64 (k : Int) ∧ Hid (PA w t u s k wr))
  case atStart => exact ⟨0, _, by omega, rfl, R0⟩
  case round =>
    obtain ⟨k, s, hk, rfl, U⟩ := hrel
    clear R0
    by_cases hkn : k < n0
    · have hkI : (k : Int) < (n0 : Int) := by omega
      have hkl : k < l0.length := by rw [← HN0.out]; exact hkn
      obtain ⟨b, off, rfl⟩ := ops_open HC0.out (by omega)
      obtain ⟨x0, x1, x2⟩ := ops_cell (Kd.C_below HC0.out U.out.two.bel) k hkl
      obtain ⟨⟨f0, f1, f2⟩, hxx⟩ : ∃ x, x = l0.getD k z62 := ⟨_, rfl⟩
      rw [← hxx] at x0 x1 x2
      replace x0 : wr.cell? ⟨b, off + k * 3, none⟩ = some (.int .i64 f0) := x0
      replace x1 : wr.cell? ⟨b, off + k * 3 + 1, none⟩ = some (.int .i64 f1) := x1
      replace x2 : wr.cell? ⟨b, off + k * 3 + 2, none⟩ = some (.int .i64 f2) := x2
      have hrl : s.r.length < 1048576 := by have := U.out.rl; omega
      have HRL := hid hrl
      have HGD := hid U.out.good
      clear hxx hkl hrl
      cases gk with
      | zero => omega
      | succ left =>
        by_cases k1 : f0 = 1
        · subst k1
          go_wp2_with fail
          obtain ⟨W1, hW1⟩ : ∃ W, W = wr.alloc (.cells #[.int .i64 1, .int .i64 f1, .int .i64 f2] 62) := ⟨_, rfl⟩
          obtain ⟨Xb, hXb⟩ : ∃ b, b = wr.heap.size := ⟨_, rfl⟩
          have T1 : Hid (Two2 w t u s s (Side.obj Xb (.cells #[.int .i64 1, .int .i64 f1, .int .i64 f2] 62 (0, 0))) W1) := hid (by
            rw [hW1, hXb]
            exact U.out.two.obj ((Below.refl _ _).alloc (Nat.le_refl _) _) _ _ (heap_alloc_new wr _) (Nat.le_refl _))
          rw [← hW1, ← hXb]
          clear hW1 hXb
          have HXC := hid (fun (W : World) (h : W.heap[Xb]? = some (.cells #[.int .i64 1, .int .i64 f1, .int .i64 f2] 62 (0, 0))) => (show W.cell? ⟨Xb, 1, none⟩ = some (.int .i64 f1) ∧ W.cell? ⟨Xb, 2, none⟩ = some (.int .i64 f2) from ⟨(blk_cell h 1).trans rfl, (blk_cell h 2).trans rfl⟩))
          have x1 := (HXC.out _ T1.out.side).1
          have x2 := (HXC.out _ T1.out.side).2
          have x3 : W1.cell? ⟨Xb, 0, none⟩ = some (.int .i64 1) := (blk_cell T1.out.side 0).trans rfl
          have T1d := hid (T1.out.drewN 1)
          have CH := hid (both_push T1d.out HGD.out HRL.out f1)
          go_wp2_with fail
          refine start_ (n := 10) (S := (fun w' => w'.cell? ⟨Xb, 1, none⟩ = some (.int .i64 f1) ∧ w'.cell? ⟨Xb, 2, none⟩ = some (.int .i64 f2))) (ds := []) #[false, false, false, false, false, false, false, false, false, false] (by kernel_rfl) rfl rfl (HXC.out _ T1d.out.side) (fun hHeld => ?_)
          refine take_ (i := 0) (N := some 64) (v := ?_) (a' := ?_) #[true, false, false, false, false, false, false, false, false, false] rfl rfl (by kernel_rfl) (fun _ _ _ h => h) (Or.inl ⟨by rfl, ?_⟩) hHeld ?_ ?_   -- move (%5)
          rotate_left
          · rintro w' ⟨s0, s1⟩
            go_simp
            with_reducible rfl
          rotate_left
          · simp only [Act.put, List.setIfInBounds_toArray, List.set_cons_zero, List.set_cons_succ]
            rfl
          refine take_ (i := 1) (N := some 65) (v := ?_) (a' := ?_) #[true, true, false, false, false, false, false, false, false, false] rfl rfl (by kernel_rfl) (fun _ _ _ h => h) (Or.inl ⟨by rfl, ?_⟩) hHeld ?_ ?_   -- fieldAddr 62 (%8) 1
          rotate_left
          · rintro w' ⟨s0, s1⟩
            go_simp
            with_reducible rfl
          rotate_left
          · simp only [Act.put, List.setIfInBounds_toArray, List.set_cons_zero, List.set_cons_succ]
            rfl
          refine take_ (i := 2) (N := some 66) (v := ?_) (a' := ?_) #[true, true, true, false, false, false, false, false, false, false] rfl rfl (by kernel_rfl) (fun _ _ _ h => h) (Or.inl ⟨by rfl, ?_⟩) hHeld ?_ ?_   -- load 3 (%65)
          rotate_left
          · rintro w' ⟨s0, s1⟩
            go_simp
            with_reducible rfl
          rotate_left
          · simp only [Act.put, List.setIfInBounds_toArray, List.set_cons_zero, List.set_cons_succ]
            rfl
          refine take_ (i := 4) (N := some 68) (v := ?_) (a' := ?_) #[true, true, true, false, true, false, false, false, false, false] rfl rfl (by kernel_rfl) (fun _ _ _ h => h) (Or.inl ⟨by rfl, ?_⟩) hHeld ?_ ?_   -- move (%6)
          rotate_left
          · rintro w' ⟨s0, s1⟩
            go_simp
            with_reducible rfl
          rotate_left
          · simp only [Act.put, List.setIfInBounds_toArray, List.set_cons_zero, List.set_cons_succ]
            rfl
          refine take_ (i := 5) (N := some 69) (v := ?_) (a' := ?_) #[true, true, true, false, true, true, false, false, false, false] rfl rfl (by kernel_rfl) (fun _ _ _ h => h) (Or.inl ⟨by rfl, ?_⟩) hHeld ?_ ?_   -- fieldAddr 62 (%8) 1
          rotate_left
          · rintro w' ⟨s0, s1⟩
            go_simp
            with_reducible rfl
          rotate_left
          · simp only [Act.put, List.setIfInBounds_toArray, List.set_cons_zero, List.set_cons_succ]
            rfl
          refine take_ (i := 6) (N := some 70) (v := ?_) (a' := ?_) #[true, true, true, false, true, true, true, false, false, false] rfl rfl (by kernel_rfl) (fun _ _ _ h => h) (Or.inl ⟨by rfl, ?_⟩) hHeld ?_ ?_   -- load 3 (%69)
          rotate_left
          · rintro w' ⟨s0, s1⟩
            go_simp
            with_reducible rfl
          rotate_left
          · simp only [Act.put, List.setIfInBounds_toArray, List.set_cons_zero, List.set_cons_succ]
            rfl
          refine one_ (i := 3) (N := some 67) #[true, true, true, true, true, true, true, false, false, false] rfl rfl (by kernel_rfl) (by decide) (fun K hK => ?_)
          refine call_ 19 #[HM.ptr t, .int .i64 f1] (by rfl) rfl (by go_simp; first | done | rfl) ?_
          refine (CH.out).mono ?_
          rintro e W2 ⟨s3, ⟨v3, ⟨c3, rfl⟩, rfl, g3, _, rl3, dc⟩, t2⟩
          have T2 := hid t2
          have DC := hid dc
          have G3 := hid g3
          have RL3 := hid rl3
          clear t2 dc g3 rl3
          refine ⟨_, rfl, hK.out _ _ (HXC.out _ T2.out.side) (fun hHeld => ?_)⟩
          refine norm_ (a' := ?_) ?_ ?_
          rotate_left
          · simp only [Act.put, List.setIfInBounds_toArray, List.set_cons_zero, List.set_cons_succ]
            rfl
          refine one_ (i := 7) (N := some 71) #[true, true, true, true, true, true, true, true, false, false] rfl rfl (by kernel_rfl) (by decide) (fun K hK => ?_)
          refine call_ 26 #[HM.ptr u, .int .i64 f1] (by rfl) rfl (by go_simp; first | done | rfl) ?_
          refine (DC.out _ T2.out).mono ?_
          rintro e W3 ⟨rfl, t3⟩
          have T3 := hid t3
          clear t3
          refine ⟨_, rfl, hK.out _ _ (HXC.out _ T3.out.side) (fun hHeld => ?_)⟩
          refine norm_ (a' := ?_) ?_ ?_
          rotate_left
          · simp only [Act.put, List.setIfInBounds_toArray, List.set_cons_zero, List.set_cons_succ]
            rfl
          refine take_ (i := 8) (N := some 72) (v := ?_) (a' := ?_) #[true, true, true, true, true, true, true, true, true, false] rfl rfl (by kernel_rfl) (fun _ _ _ h => h) (Or.inl ⟨by rfl, ?_⟩) hHeld ?_ ?_   -- binOp eql 43 (%67) (%71) 43
          rotate_left
          · rintro w' ⟨s0, s1⟩
            go_simp
            with_reducible rfl
          rotate_left
          · simp only [Act.put, List.setIfInBounds_toArray, List.set_cons_zero, List.set_cons_succ]
            rfl
          refine take_ (i := 9) (N := some 9) (v := ?_) (a' := ?_) #[true, true, true, true, true, true, true, true, true, true] rfl rfl (by kernel_rfl) (fun _ _ _ h => h) (Or.inl ⟨by rfl, ?_⟩) hHeld ?_ ?_   -- assign (%72)
          rotate_left
          · rintro w' ⟨s0, s1⟩
            go_simp
            with_reducible rfl
          rotate_left
          · simp only [Act.put, List.setIfInBounds_toArray, List.set_cons_zero, List.set_cons_succ]
            rfl
          refine done_ (by kernel_rfl) ?_
          clear x0 x1 x2
          have SAME := hid (both_same T3.out G3.out)
          go_wp2_with fail
          refine SAME.out.mono ?_
          rintro e W4 ⟨rfl, t4⟩
          have T4 := hid t4
          clear t4
          go_wp2_with fail
          go_roundg left
          case measure => omega
          case rel => exact ⟨k + 1, s3, by omega, rfl, hid ⟨T4.out.off, G3.out, by have := RL3.out; have := U.out.rl; omega⟩⟩
        · have e1 : (f0 == 1) = false := by simpa using k1
          by_cases k2 : f0 = 2
          · subst k2
            clear k1
            go_wp2_with fail
            obtain ⟨W1, hW1⟩ : ∃ W, W = wr.alloc (.cells #[.int .i64 2, .int .i64 f1, .int .i64 f2] 62) := ⟨_, rfl⟩
            obtain ⟨Xb, hXb⟩ : ∃ b, b = wr.heap.size := ⟨_, rfl⟩
            have T1 : Hid (Two2 w t u s s (Side.obj Xb (.cells #[.int .i64 2, .int .i64 f1, .int .i64 f2] 62 (0, 0))) W1) := hid (by
              rw [hW1, hXb]
              exact U.out.two.obj ((Below.refl _ _).alloc (Nat.le_refl _) _) _ _ (heap_alloc_new wr _) (Nat.le_refl _))
            rw [← hW1, ← hXb]
            clear hW1 hXb
            have HXC := hid (fun (W : World) (h : W.heap[Xb]? = some (.cells #[.int .i64 2, .int .i64 f1, .int .i64 f2] 62 (0, 0))) => (show W.cell? ⟨Xb, 1, none⟩ = some (.int .i64 f1) ∧ W.cell? ⟨Xb, 2, none⟩ = some (.int .i64 f2) from ⟨(blk_cell h 1).trans rfl, (blk_cell h 2).trans rfl⟩))
            have x1 := (HXC.out _ T1.out.side).1
            have x2 := (HXC.out _ T1.out.side).2
            have x3 : W1.cell? ⟨Xb, 0, none⟩ = some (.int .i64 2) := (blk_cell T1.out.side 0).trans rfl
            have CH := hid (both_pop T1.out HGD.out)
            go_wp2_with fail
            refine CH.out.mono ?_
            rintro e W2 ⟨s3, ⟨v3, ⟨q3, p3, rfl⟩, rfl, g3, _, rl3, dc⟩, t2⟩
            have T2 := hid t2
            have DC := hid dc
            have G3 := hid g3
            have RL3 := hid rl3
            clear t2 dc g3 rl3
            go_wp2_with fail
            refine (DC.out _ T2.out).mono ?_
            rintro e W3 ⟨rfl, t3⟩
            have T3 := hid t3
            clear t3
            clear x0 x1 x2
            have SAME := hid (both_same T3.out G3.out)
            go_wp2_with fail
            refine SAME.out.mono ?_
            rintro e W4 ⟨rfl, t4⟩
            have T4 := hid t4
            clear t4
            go_wp2_with fail
            go_roundg left
            case measure => omega
            case rel => exact ⟨k + 1, s3, by omega, rfl, hid ⟨T4.out.off, G3.out, by have := RL3.out; have := U.out.rl; omega⟩⟩
          · have e2 : (f0 == 2) = false := by simpa using k2
            by_cases k3 : f0 = 3
            · subst k3
              clear k1 k2
              go_wp2_with fail
              obtain ⟨W1, hW1⟩ : ∃ W, W = wr.alloc (.cells #[.int .i64 3, .int .i64 f1, .int .i64 f2] 62) := ⟨_, rfl⟩
              obtain ⟨Xb, hXb⟩ : ∃ b, b = wr.heap.size := ⟨_, rfl⟩
              have T1 : Hid (Two2 w t u s s (Side.obj Xb (.cells #[.int .i64 3, .int .i64 f1, .int .i64 f2] 62 (0, 0))) W1) := hid (by
                rw [hW1, hXb]
                exact U.out.two.obj ((Below.refl _ _).alloc (Nat.le_refl _) _) _ _ (heap_alloc_new wr _) (Nat.le_refl _))
              rw [← hW1, ← hXb]
              clear hW1 hXb
              have HXC := hid (fun (W : World) (h : W.heap[Xb]? = some (.cells #[.int .i64 3, .int .i64 f1, .int .i64 f2] 62 (0, 0))) => (show W.cell? ⟨Xb, 1, none⟩ = some (.int .i64 f1) ∧ W.cell? ⟨Xb, 2, none⟩ = some (.int .i64 f2) from ⟨(blk_cell h 1).trans rfl, (blk_cell h 2).trans rfl⟩))
              have x1 := (HXC.out _ T1.out.side).1
              have x2 := (HXC.out _ T1.out.side).2
              have x3 : W1.cell? ⟨Xb, 0, none⟩ = some (.int .i64 3) := (blk_cell T1.out.side 0).trans rfl
              have T1d := hid (T1.out.drewN 1)
              have CH := hid (both_raise T1d.out HGD.out f1 f2)
              go_wp2_with fail
              refine start_ (n := 14) (S := (fun w' => w'.cell? ⟨Xb, 1, none⟩ = some (.int .i64 f1) ∧ w'.cell? ⟨Xb, 2, none⟩ = some (.int .i64 f2))) (ds := []) #[false, false, false, false, false, false, false, false, false, false, false, false, false, false] (by kernel_rfl) rfl rfl (HXC.out _ T1d.out.side) (fun hHeld => ?_)
              refine take_ (i := 0) (N := some 95) (v := ?_) (a' := ?_) #[true, false, false, false, false, false, false, false, false, false, false, false, false, false] rfl rfl (by kernel_rfl) (fun _ _ _ h => h) (Or.inl ⟨by rfl, ?_⟩) hHeld ?_ ?_   -- move (%5)
              rotate_left
              · rintro w' ⟨s0, s1⟩
                go_simp
                with_reducible rfl
              rotate_left
              · simp only [Act.put, List.setIfInBounds_toArray, List.set_cons_zero, List.set_cons_succ]
                rfl
              refine take_ (i := 1) (N := some 96) (v := ?_) (a' := ?_) #[true, true, false, false, false, false, false, false, false, false, false, false, false, false] rfl rfl (by kernel_rfl) (fun _ _ _ h => h) (Or.inl ⟨by rfl, ?_⟩) hHeld ?_ ?_   -- fieldAddr 62 (%8) 1
              rotate_left
              · rintro w' ⟨s0, s1⟩
                go_simp
                with_reducible rfl
              rotate_left
              · simp only [Act.put, List.setIfInBounds_toArray, List.set_cons_zero, List.set_cons_succ]
                rfl
              refine take_ (i := 2) (N := some 97) (v := ?_) (a' := ?_) #[true, true, true, false, false, false, false, false, false, false, false, false, false, false] rfl rfl (by kernel_rfl) (fun _ _ _ h => h) (Or.inl ⟨by rfl, ?_⟩) hHeld ?_ ?_   -- load 3 (%96)
              rotate_left
              · rintro w' ⟨s0, s1⟩
                go_simp
                with_reducible rfl
              rotate_left
              · simp only [Act.put, List.setIfInBounds_toArray, List.set_cons_zero, List.set_cons_succ]
                rfl
              refine take_ (i := 3) (N := some 98) (v := ?_) (a' := ?_) #[true, true, true, true, false, false, false, false, false, false, false, false, false, false] rfl rfl (by kernel_rfl) (fun _ _ _ h => h) (Or.inl ⟨by rfl, ?_⟩) hHeld ?_ ?_   -- fieldAddr 62 (%8) 2
              rotate_left
              · rintro w' ⟨s0, s1⟩
                go_simp
                with_reducible rfl
              rotate_left
              · simp only [Act.put, List.setIfInBounds_toArray, List.set_cons_zero, List.set_cons_succ]
                rfl
              refine take_ (i := 4) (N := some 99) (v := ?_) (a' := ?_) #[true, true, true, true, true, false, false, false, false, false, false, false, false, false] rfl rfl (by kernel_rfl) (fun _ _ _ h => h) (Or.inl ⟨by rfl, ?_⟩) hHeld ?_ ?_   -- load 2 (%98)
              rotate_left
              · rintro w' ⟨s0, s1⟩
                go_simp
                with_reducible rfl
              rotate_left
              · simp only [Act.put, List.setIfInBounds_toArray, List.set_cons_zero, List.set_cons_succ]
                rfl
              refine take_ (i := 6) (N := some 101) (v := ?_) (a' := ?_) #[true, true, true, true, true, false, true, false, false, false, false, false, false, false] rfl rfl (by kernel_rfl) (fun _ _ _ h => h) (Or.inl ⟨by rfl, ?_⟩) hHeld ?_ ?_   -- move (%6)
              rotate_left
              · rintro w' ⟨s0, s1⟩
                go_simp
                with_reducible rfl
              rotate_left
              · simp only [Act.put, List.setIfInBounds_toArray, List.set_cons_zero, List.set_cons_succ]
                rfl
              refine take_ (i := 7) (N := some 102) (v := ?_) (a' := ?_) #[true, true, true, true, true, false, true, true, false, false, false, false, false, false] rfl rfl (by kernel_rfl) (fun _ _ _ h => h) (Or.inl ⟨by rfl, ?_⟩) hHeld ?_ ?_   -- fieldAddr 62 (%8) 1
              rotate_left
              · rintro w' ⟨s0, s1⟩
                go_simp
                with_reducible rfl
              rotate_left
              · simp only [Act.put, List.setIfInBounds_toArray, List.set_cons_zero, List.set_cons_succ]
                rfl
              refine take_ (i := 8) (N := some 103) (v := ?_) (a' := ?_) #[true, true, true, true, true, false, true, true, true, false, false, false, false, false] rfl rfl (by kernel_rfl) (fun _ _ _ h => h) (Or.inl ⟨by rfl, ?_⟩) hHeld ?_ ?_   -- load 3 (%102)
              rotate_left
              · rintro w' ⟨s0, s1⟩
                go_simp
                with_reducible rfl
              rotate_left
              · simp only [Act.put, List.setIfInBounds_toArray, List.set_cons_zero, List.set_cons_succ]
                rfl
              refine take_ (i := 9) (N := some 104) (v := ?_) (a' := ?_) #[true, true, true, true, true, false, true, true, true, true, false, false, false, false] rfl rfl (by kernel_rfl) (fun _ _ _ h => h) (Or.inl ⟨by rfl, ?_⟩) hHeld ?_ ?_   -- fieldAddr 62 (%8) 2
              rotate_left
              · rintro w' ⟨s0, s1⟩
                go_simp
                with_reducible rfl
              rotate_left
              · simp only [Act.put, List.setIfInBounds_toArray, List.set_cons_zero, List.set_cons_succ]
                rfl
              refine take_ (i := 10) (N := some 105) (v := ?_) (a' := ?_) #[true, true, true, true, true, false, true, true, true, true, true, false, false, false] rfl rfl (by kernel_rfl) (fun _ _ _ h => h) (Or.inl ⟨by rfl, ?_⟩) hHeld ?_ ?_   -- load 2 (%104)
              rotate_left
              · rintro w' ⟨s0, s1⟩
                go_simp
                with_reducible rfl
              rotate_left
              · simp only [Act.put, List.setIfInBounds_toArray, List.set_cons_zero, List.set_cons_succ]
                rfl
              refine one_ (i := 5) (N := some 100) #[true, true, true, true, true, true, true, true, true, true, true, false, false, false] rfl rfl (by kernel_rfl) (by decide) (fun K hK => ?_)
              refine call_ 20 #[HM.ptr t, .int .i64 f1, .int .i64 f2] (by rfl) rfl (by go_simp; first | done | rfl) ?_
              refine (CH.out).mono ?_
              rintro e W2 ⟨s3, ⟨v3, ⟨c3, rfl⟩, rfl, g3, _, rl3, dc⟩, t2⟩
              have T2 := hid t2
              have DC := hid dc
              have G3 := hid g3
              have RL3 := hid rl3
              clear t2 dc g3 rl3
              refine ⟨_, rfl, hK.out _ _ (HXC.out _ T2.out.side) (fun hHeld => ?_)⟩
              refine norm_ (a' := ?_) ?_ ?_
              rotate_left
              · simp only [Act.put, List.setIfInBounds_toArray, List.set_cons_zero, List.set_cons_succ]
                rfl
              refine one_ (i := 11) (N := some 106) #[true, true, true, true, true, true, true, true, true, true, true, true, false, false] rfl rfl (by kernel_rfl) (by decide) (fun K hK => ?_)
              refine call_ 28 #[HM.ptr u, .int .i64 f1, .int .i64 f2] (by rfl) rfl (by go_simp; first | done | rfl) ?_
              refine (DC.out _ T2.out).mono ?_
              rintro e W3 ⟨rfl, t3⟩
              have T3 := hid t3
              clear t3
              refine ⟨_, rfl, hK.out _ _ (HXC.out _ T3.out.side) (fun hHeld => ?_)⟩
              refine norm_ (a' := ?_) ?_ ?_
              rotate_left
              · simp only [Act.put, List.setIfInBounds_toArray, List.set_cons_zero, List.set_cons_succ]
                rfl
              refine take_ (i := 12) (N := some 107) (v := ?_) (a' := ?_) #[true, true, true, true, true, true, true, true, true, true, true, true, true, false] rfl rfl (by kernel_rfl) (fun _ _ _ h => h) (Or.inl ⟨by rfl, ?_⟩) hHeld ?_ ?_   -- binOp eql 43 (%100) (%106) 43
              rotate_left
              · rintro w' ⟨s0, s1⟩
                go_simp
                with_reducible rfl
              rotate_left
              · simp only [Act.put, List.setIfInBounds_toArray, List.set_cons_zero, List.set_cons_succ]
                rfl
              refine take_ (i := 13) (N := some 9) (v := ?_) (a' := ?_) #[true, true, true, true, true, true, true, true, true, true, true, true, true, true] rfl rfl (by kernel_rfl) (fun _ _ _ h => h) (Or.inl ⟨by rfl, ?_⟩) hHeld ?_ ?_   -- assign (%107)
              rotate_left
              · rintro w' ⟨s0, s1⟩
                go_simp
                with_reducible rfl
              rotate_left
              · simp only [Act.put, List.setIfInBounds_toArray, List.set_cons_zero, List.set_cons_succ]
                rfl
              refine done_ (by kernel_rfl) ?_
              clear x0 x1 x2
              have SAME := hid (both_same T3.out G3.out)
              go_wp2_with fail
              refine SAME.out.mono ?_
              rintro e W4 ⟨rfl, t4⟩
              have T4 := hid t4
              clear t4
              go_wp2_with fail
              go_roundg left
              case measure => omega
              case rel => exact ⟨k + 1, s3, by omega, rfl, hid ⟨T4.out.off, G3.out, by have := RL3.out; have := U.out.rl; omega⟩⟩
            · have e3 : (f0 == 3) = false := by simpa using k3
              by_cases k4 : f0 = 4
              · subst k4
                clear k1 k2 k3
                go_wp2_with fail
                obtain ⟨W1, hW1⟩ : ∃ W, W = wr.alloc (.cells #[.int .i64 4, .int .i64 f1, .int .i64 f2] 62) := ⟨_, rfl⟩
                obtain ⟨Xb, hXb⟩ : ∃ b, b = wr.heap.size := ⟨_, rfl⟩
                have T1 : Hid (Two2 w t u s s (Side.obj Xb (.cells #[.int .i64 4, .int .i64 f1, .int .i64 f2] 62 (0, 0))) W1) := hid (by
                  rw [hW1, hXb]
                  exact U.out.two.obj ((Below.refl _ _).alloc (Nat.le_refl _) _) _ _ (heap_alloc_new wr _) (Nat.le_refl _))
                rw [← hW1, ← hXb]
                clear hW1 hXb
                have HXC := hid (fun (W : World) (h : W.heap[Xb]? = some (.cells #[.int .i64 4, .int .i64 f1, .int .i64 f2] 62 (0, 0))) => (show W.cell? ⟨Xb, 1, none⟩ = some (.int .i64 f1) ∧ W.cell? ⟨Xb, 2, none⟩ = some (.int .i64 f2) from ⟨(blk_cell h 1).trans rfl, (blk_cell h 2).trans rfl⟩))
                have x1 := (HXC.out _ T1.out.side).1
                have x2 := (HXC.out _ T1.out.side).2
                have x3 : W1.cell? ⟨Xb, 0, none⟩ = some (.int .i64 4) := (blk_cell T1.out.side 0).trans rfl
                have CH := hid (both_halve T1.out HGD.out)
                go_wp2_with fail
                refine CH.out.mono ?_
                rintro e W2 ⟨s3, ⟨v3, rfl, rfl, g3, _, rl3, dc⟩, t2⟩
                have T2 := hid t2
                have DC := hid dc
                have G3 := hid g3
                have RL3 := hid rl3
                clear t2 dc g3 rl3
                go_wp2_with fail
                refine (DC.out _ T2.out).mono ?_
                rintro e W3 ⟨rfl, t3⟩
                have T3 := hid t3
                clear t3
                clear x0 x1 x2
                have SAME := hid (both_same T3.out G3.out)
                go_wp2_with fail
                refine SAME.out.mono ?_
                rintro e W4 ⟨rfl, t4⟩
                have T4 := hid t4
                clear t4
                go_wp2_with fail
                go_roundg left
                case measure => omega
                case rel => exact ⟨k + 1, s3, by omega, rfl, hid ⟨T4.out.off, G3.out, by have := RL3.out; have := U.out.rl; omega⟩⟩
              · have e4 : (f0 == 4) = false := by simpa using k4
                by_cases k5 : f0 = 5
                · subst k5
                  clear k1 k2 k3 k4
                  go_wp2_with fail
                  obtain ⟨W1, hW1⟩ : ∃ W, W = wr.alloc (.cells #[.int .i64 5, .int .i64 f1, .int .i64 f2] 62) := ⟨_, rfl⟩
                  obtain ⟨Xb, hXb⟩ : ∃ b, b = wr.heap.size := ⟨_, rfl⟩
                  have T1 : Hid (Two2 w t u s s (Side.obj Xb (.cells #[.int .i64 5, .int .i64 f1, .int .i64 f2] 62 (0, 0))) W1) := hid (by
                    rw [hW1, hXb]
                    exact U.out.two.obj ((Below.refl _ _).alloc (Nat.le_refl _) _) _ _ (heap_alloc_new wr _) (Nat.le_refl _))
                  rw [← hW1, ← hXb]
                  clear hW1 hXb
                  have HXC := hid (fun (W : World) (h : W.heap[Xb]? = some (.cells #[.int .i64 5, .int .i64 f1, .int .i64 f2] 62 (0, 0))) => (show W.cell? ⟨Xb, 1, none⟩ = some (.int .i64 f1) ∧ W.cell? ⟨Xb, 2, none⟩ = some (.int .i64 f2) from ⟨(blk_cell h 1).trans rfl, (blk_cell h 2).trans rfl⟩))
                  have x1 := (HXC.out _ T1.out.side).1
                  have x2 := (HXC.out _ T1.out.side).2
                  have x3 : W1.cell? ⟨Xb, 0, none⟩ = some (.int .i64 5) := (blk_cell T1.out.side 0).trans rfl
                  have CH := hid (both_first T1.out HGD.out)
                  go_wp2_with fail
                  refine CH.out.mono ?_
                  rintro e W2 ⟨s3, ⟨v3, ⟨q3, p3, rfl⟩, rfl, g3, _, rl3, dc⟩, t2⟩
                  have T2 := hid t2
                  have DC := hid dc
                  have G3 := hid g3
                  have RL3 := hid rl3
                  clear t2 dc g3 rl3
                  go_wp2_with fail
                  refine (DC.out _ T2.out).mono ?_
                  rintro e W3 ⟨rfl, t3⟩
                  have T3 := hid t3
                  clear t3
                  clear x0 x1 x2
                  have SAME := hid (both_same T3.out G3.out)
                  go_wp2_with fail
                  refine SAME.out.mono ?_
                  rintro e W4 ⟨rfl, t4⟩
                  have T4 := hid t4
                  clear t4
                  go_wp2_with fail
                  go_roundg left
                  case measure => omega
                  case rel => exact ⟨k + 1, s3, by omega, rfl, hid ⟨T4.out.off, G3.out, by have := RL3.out; have := U.out.rl; omega⟩⟩
                · have e5 : (f0 == 5) = false := by simpa using k5
                  by_cases k6 : f0 = 6
                  · subst k6
                    clear k1 k2 k3 k4 k5
                    go_wp2_with fail
                    obtain ⟨W1, hW1⟩ : ∃ W, W = wr.alloc (.cells #[.int .i64 6, .int .i64 f1, .int .i64 f2] 62) := ⟨_, rfl⟩
                    obtain ⟨Xb, hXb⟩ : ∃ b, b = wr.heap.size := ⟨_, rfl⟩
                    have T1 : Hid (Two2 w t u s s (Side.obj Xb (.cells #[.int .i64 6, .int .i64 f1, .int .i64 f2] 62 (0, 0))) W1) := hid (by
                      rw [hW1, hXb]
                      exact U.out.two.obj ((Below.refl _ _).alloc (Nat.le_refl _) _) _ _ (heap_alloc_new wr _) (Nat.le_refl _))
                    rw [← hW1, ← hXb]
                    clear hW1 hXb
                    have HXC := hid (fun (W : World) (h : W.heap[Xb]? = some (.cells #[.int .i64 6, .int .i64 f1, .int .i64 f2] 62 (0, 0))) => (show W.cell? ⟨Xb, 1, none⟩ = some (.int .i64 f1) ∧ W.cell? ⟨Xb, 2, none⟩ = some (.int .i64 f2) from ⟨(blk_cell h 1).trans rfl, (blk_cell h 2).trans rfl⟩))
                    have x1 := (HXC.out _ T1.out.side).1
                    have x2 := (HXC.out _ T1.out.side).2
                    have x3 : W1.cell? ⟨Xb, 0, none⟩ = some (.int .i64 6) := (blk_cell T1.out.side 0).trans rfl
                    have T1d := hid (T1.out.drewN 1)
                    have CH := hid (both_weight T1d.out HGD.out f1)
                    go_wp2_with fail
                    refine start_ (n := 10) (S := (fun w' => w'.cell? ⟨Xb, 1, none⟩ = some (.int .i64 f1) ∧ w'.cell? ⟨Xb, 2, none⟩ = some (.int .i64 f2))) (ds := []) #[false, false, false, false, false, false, false, false, false, false] (by kernel_rfl) rfl rfl (HXC.out _ T1d.out.side) (fun hHeld => ?_)
                    refine take_ (i := 0) (N := some 136) (v := ?_) (a' := ?_) #[true, false, false, false, false, false, false, false, false, false] rfl rfl (by kernel_rfl) (fun _ _ _ h => h) (Or.inl ⟨by rfl, ?_⟩) hHeld ?_ ?_   -- move (%5)
                    rotate_left
                    · rintro w' ⟨s0, s1⟩
                      go_simp
                      with_reducible rfl
                    rotate_left
                    · simp only [Act.put, List.setIfInBounds_toArray, List.set_cons_zero, List.set_cons_succ]
                      rfl
                    refine take_ (i := 1) (N := some 137) (v := ?_) (a' := ?_) #[true, true, false, false, false, false, false, false, false, false] rfl rfl (by kernel_rfl) (fun _ _ _ h => h) (Or.inl ⟨by rfl, ?_⟩) hHeld ?_ ?_   -- fieldAddr 62 (%8) 1
                    rotate_left
                    · rintro w' ⟨s0, s1⟩
                      go_simp
                      with_reducible rfl
                    rotate_left
                    · simp only [Act.put, List.setIfInBounds_toArray, List.set_cons_zero, List.set_cons_succ]
                      rfl
                    refine take_ (i := 2) (N := some 138) (v := ?_) (a' := ?_) #[true, true, true, false, false, false, false, false, false, false] rfl rfl (by kernel_rfl) (fun _ _ _ h => h) (Or.inl ⟨by rfl, ?_⟩) hHeld ?_ ?_   -- load 3 (%137)
                    rotate_left
                    · rintro w' ⟨s0, s1⟩
                      go_simp
                      with_reducible rfl
                    rotate_left
                    · simp only [Act.put, List.setIfInBounds_toArray, List.set_cons_zero, List.set_cons_succ]
                      rfl
                    refine take_ (i := 4) (N := some 140) (v := ?_) (a' := ?_) #[true, true, true, false, true, false, false, false, false, false] rfl rfl (by kernel_rfl) (fun _ _ _ h => h) (Or.inl ⟨by rfl, ?_⟩) hHeld ?_ ?_   -- move (%6)
                    rotate_left
                    · rintro w' ⟨s0, s1⟩
                      go_simp
                      with_reducible rfl
                    rotate_left
                    · simp only [Act.put, List.setIfInBounds_toArray, List.set_cons_zero, List.set_cons_succ]
                      rfl
                    refine take_ (i := 5) (N := some 141) (v := ?_) (a' := ?_) #[true, true, true, false, true, true, false, false, false, false] rfl rfl (by kernel_rfl) (fun _ _ _ h => h) (Or.inl ⟨by rfl, ?_⟩) hHeld ?_ ?_   -- fieldAddr 62 (%8) 1
                    rotate_left
                    · rintro w' ⟨s0, s1⟩
                      go_simp
                      with_reducible rfl
                    rotate_left
                    · simp only [Act.put, List.setIfInBounds_toArray, List.set_cons_zero, List.set_cons_succ]
                      rfl
                    refine take_ (i := 6) (N := some 142) (v := ?_) (a' := ?_) #[true, true, true, false, true, true, true, false, false, false] rfl rfl (by kernel_rfl) (fun _ _ _ h => h) (Or.inl ⟨by rfl, ?_⟩) hHeld ?_ ?_   -- load 3 (%141)
                    rotate_left
                    · rintro w' ⟨s0, s1⟩
                      go_simp
                      with_reducible rfl
                    rotate_left
                    · simp only [Act.put, List.setIfInBounds_toArray, List.set_cons_zero, List.set_cons_succ]
                      rfl
                    refine one_ (i := 3) (N := some 139) #[true, true, true, true, true, true, true, false, false, false] rfl rfl (by kernel_rfl) (by decide) (fun K hK => ?_)
                    refine call_ 22 #[HM.ptr t, .int .i64 f1] (by rfl) rfl (by go_simp; first | done | rfl) ?_
                    refine (CH.out).mono ?_
                    rintro e W2 ⟨s3, ⟨v3, ⟨c3, rfl⟩, rfl, g3, _, rl3, dc⟩, t2⟩
                    have T2 := hid t2
                    have DC := hid dc
                    have G3 := hid g3
                    have RL3 := hid rl3
                    clear t2 dc g3 rl3
                    refine ⟨_, rfl, hK.out _ _ (HXC.out _ T2.out.side) (fun hHeld => ?_)⟩
                    refine norm_ (a' := ?_) ?_ ?_
                    rotate_left
                    · simp only [Act.put, List.setIfInBounds_toArray, List.set_cons_zero, List.set_cons_succ]
                      rfl
                    refine one_ (i := 7) (N := some 143) #[true, true, true, true, true, true, true, true, false, false] rfl rfl (by kernel_rfl) (by decide) (fun K hK => ?_)
                    refine call_ 33 #[HM.ptr u, .int .i64 f1] (by rfl) rfl (by go_simp; first | done | rfl) ?_
                    refine (DC.out _ T2.out).mono ?_
                    rintro e W3 ⟨rfl, t3⟩
                    have T3 := hid t3
                    clear t3
                    refine ⟨_, rfl, hK.out _ _ (HXC.out _ T3.out.side) (fun hHeld => ?_)⟩
                    refine norm_ (a' := ?_) ?_ ?_
                    rotate_left
                    · simp only [Act.put, List.setIfInBounds_toArray, List.set_cons_zero, List.set_cons_succ]
                      rfl
                    refine take_ (i := 8) (N := some 144) (v := ?_) (a' := ?_) #[true, true, true, true, true, true, true, true, true, false] rfl rfl (by kernel_rfl) (fun _ _ _ h => h) (Or.inl ⟨by rfl, ?_⟩) hHeld ?_ ?_   -- binOp eql 2 (%139) (%143) 2
                    rotate_left
                    · rintro w' ⟨s0, s1⟩
                      go_simp
                      with_reducible rfl
                    rotate_left
                    · simp only [Act.put, List.setIfInBounds_toArray, List.set_cons_zero, List.set_cons_succ]
                      rfl
                    refine take_ (i := 9) (N := some 9) (v := ?_) (a' := ?_) #[true, true, true, true, true, true, true, true, true, true] rfl rfl (by kernel_rfl) (fun _ _ _ h => h) (Or.inl ⟨by rfl, ?_⟩) hHeld ?_ ?_   -- assign (%144)
                    rotate_left
                    · rintro w' ⟨s0, s1⟩
                      go_simp
                      with_reducible rfl
                    rotate_left
                    · simp only [Act.put, List.setIfInBounds_toArray, List.set_cons_zero, List.set_cons_succ]
                      rfl
                    refine done_ (by kernel_rfl) ?_
                    clear x0 x1 x2
                    have SAME := hid (both_same T3.out G3.out)
                    go_wp2_with fail
                    refine SAME.out.mono ?_
                    rintro e W4 ⟨rfl, t4⟩
                    have T4 := hid t4
                    clear t4
                    go_wp2_with fail
                    go_roundg left
                    case measure => omega
                    case rel => exact ⟨k + 1, s3, by omega, rfl, hid ⟨T4.out.off, G3.out, by have := RL3.out; have := U.out.rl; omega⟩⟩
                  · have e6 : (f0 == 6) = false := by simpa using k6
                    clear k1 k2 k3 k4 k5 k6
                    go_wp2_with fail
                    obtain ⟨W1, hW1⟩ : ∃ W, W = wr.alloc (.cells #[.int .i64 f0, .int .i64 f1, .int .i64 f2] 62) := ⟨_, rfl⟩
                    obtain ⟨Xb, hXb⟩ : ∃ b, b = wr.heap.size := ⟨_, rfl⟩
                    have T1 : Hid (Two2 w t u s s (Side.obj Xb (.cells #[.int .i64 f0, .int .i64 f1, .int .i64 f2] 62 (0, 0))) W1) := hid (by
                      rw [hW1, hXb]
                      exact U.out.two.obj ((Below.refl _ _).alloc (Nat.le_refl _) _) _ _ (heap_alloc_new wr _) (Nat.le_refl _))
                    rw [← hW1, ← hXb]
                    clear hW1 hXb
                    have HXC := hid (fun (W : World) (h : W.heap[Xb]? = some (.cells #[.int .i64 f0, .int .i64 f1, .int .i64 f2] 62 (0, 0))) => (show W.cell? ⟨Xb, 1, none⟩ = some (.int .i64 f1) ∧ W.cell? ⟨Xb, 2, none⟩ = some (.int .i64 f2) from ⟨(blk_cell h 1).trans rfl, (blk_cell h 2).trans rfl⟩))
                    have x1 := (HXC.out _ T1.out.side).1
                    have x2 := (HXC.out _ T1.out.side).2
                    have x3 : W1.cell? ⟨Xb, 0, none⟩ = some (.int .i64 f0) := (blk_cell T1.out.side 0).trans rfl
                    have T1d := hid (T1.out.drewN 1)
                    have CH := hid (both_has T1d.out HGD.out f1)
                    go_wp2_with fail
                    refine start_ (n := 10) (S := (fun w' => w'.cell? ⟨Xb, 1, none⟩ = some (.int .i64 f1) ∧ w'.cell? ⟨Xb, 2, none⟩ = some (.int .i64 f2))) (ds := []) #[false, false, false, false, false, false, false, false, false, false] (by kernel_rfl) rfl rfl (HXC.out _ T1d.out.side) (fun hHeld => ?_)
                    refine take_ (i := 0) (N := some 53) (v := ?_) (a' := ?_) #[true, false, false, false, false, false, false, false, false, false] rfl rfl (by kernel_rfl) (fun _ _ _ h => h) (Or.inl ⟨by rfl, ?_⟩) hHeld ?_ ?_   -- move (%5)
                    rotate_left
                    · rintro w' ⟨s0, s1⟩
                      go_simp
                      with_reducible rfl
                    rotate_left
                    · simp only [Act.put, List.setIfInBounds_toArray, List.set_cons_zero, List.set_cons_succ]
                      rfl
                    refine take_ (i := 1) (N := some 54) (v := ?_) (a' := ?_) #[true, true, false, false, false, false, false, false, false, false] rfl rfl (by kernel_rfl) (fun _ _ _ h => h) (Or.inl ⟨by rfl, ?_⟩) hHeld ?_ ?_   -- fieldAddr 62 (%8) 1
                    rotate_left
                    · rintro w' ⟨s0, s1⟩
                      go_simp
                      with_reducible rfl
                    rotate_left
                    · simp only [Act.put, List.setIfInBounds_toArray, List.set_cons_zero, List.set_cons_succ]
                      rfl
                    refine take_ (i := 2) (N := some 55) (v := ?_) (a' := ?_) #[true, true, true, false, false, false, false, false, false, false] rfl rfl (by kernel_rfl) (fun _ _ _ h => h) (Or.inl ⟨by rfl, ?_⟩) hHeld ?_ ?_   -- load 3 (%54)
                    rotate_left
                    · rintro w' ⟨s0, s1⟩
                      go_simp
                      with_reducible rfl
                    rotate_left
                    · simp only [Act.put, List.setIfInBounds_toArray, List.set_cons_zero, List.set_cons_succ]
                      rfl
                    refine take_ (i := 4) (N := some 57) (v := ?_) (a' := ?_) #[true, true, true, false, true, false, false, false, false, false] rfl rfl (by kernel_rfl) (fun _ _ _ h => h) (Or.inl ⟨by rfl, ?_⟩) hHeld ?_ ?_   -- move (%6)
                    rotate_left
                    · rintro w' ⟨s0, s1⟩
                      go_simp
                      with_reducible rfl
                    rotate_left
                    · simp only [Act.put, List.setIfInBounds_toArray, List.set_cons_zero, List.set_cons_succ]
                      rfl
                    refine take_ (i := 5) (N := some 58) (v := ?_) (a' := ?_) #[true, true, true, false, true, true, false, false, false, false] rfl rfl (by kernel_rfl) (fun _ _ _ h => h) (Or.inl ⟨by rfl, ?_⟩) hHeld ?_ ?_   -- fieldAddr 62 (%8) 1
                    rotate_left
                    · rintro w' ⟨s0, s1⟩
                      go_simp
                      with_reducible rfl
                    rotate_left
                    · simp only [Act.put, List.setIfInBounds_toArray, List.set_cons_zero, List.set_cons_succ]
                      rfl
                    refine take_ (i := 6) (N := some 59) (v := ?_) (a' := ?_) #[true, true, true, false, true, true, true, false, false, false] rfl rfl (by kernel_rfl) (fun _ _ _ h => h) (Or.inl ⟨by rfl, ?_⟩) hHeld ?_ ?_   -- load 3 (%58)
                    rotate_left
                    · rintro w' ⟨s0, s1⟩
                      go_simp
                      with_reducible rfl
                    rotate_left
                    · simp only [Act.put, List.setIfInBounds_toArray, List.set_cons_zero, List.set_cons_succ]
                      rfl
                    refine one_ (i := 3) (N := some 56) #[true, true, true, true, true, true, true, false, false, false] rfl rfl (by kernel_rfl) (by decide) (fun K hK => ?_)
                    refine call_ 34 #[HM.ptr t, .int .i64 f1] (by rfl) rfl (by go_simp; first | done | rfl) ?_
                    refine (CH.out).mono ?_
                    rintro e W2 ⟨s3, ⟨v3, ⟨c3, rfl⟩, rfl, g3, _, rl3, dc⟩, t2⟩
                    have T2 := hid t2
                    have DC := hid dc
                    have G3 := hid g3
                    have RL3 := hid rl3
                    clear t2 dc g3 rl3
                    refine ⟨_, rfl, hK.out _ _ (HXC.out _ T2.out.side) (fun hHeld => ?_)⟩
                    refine norm_ (a' := ?_) ?_ ?_
                    rotate_left
                    · simp only [Act.put, List.setIfInBounds_toArray, List.set_cons_zero, List.set_cons_succ]
                      rfl
                    refine one_ (i := 7) (N := some 60) #[true, true, true, true, true, true, true, true, false, false] rfl rfl (by kernel_rfl) (by decide) (fun K hK => ?_)
                    refine call_ 35 #[HM.ptr u, .int .i64 f1] (by rfl) rfl (by go_simp; first | done | rfl) ?_
                    refine (DC.out _ T2.out).mono ?_
                    rintro e W3 ⟨rfl, t3⟩
                    have T3 := hid t3
                    clear t3
                    refine ⟨_, rfl, hK.out _ _ (HXC.out _ T3.out.side) (fun hHeld => ?_)⟩
                    refine norm_ (a' := ?_) ?_ ?_
                    rotate_left
                    · simp only [Act.put, List.setIfInBounds_toArray, List.set_cons_zero, List.set_cons_succ]
                      rfl
                    refine take_ (i := 8) (N := some 61) (v := ?_) (a' := ?_) #[true, true, true, true, true, true, true, true, true, false] rfl rfl (by kernel_rfl) (fun _ _ _ h => h) (Or.inl ⟨by rfl, ?_⟩) hHeld ?_ ?_   -- binOp eql 4 (%56) (%60) 4
                    rotate_left
                    · rintro w' ⟨s0, s1⟩
                      go_simp
                      with_reducible rfl
                    rotate_left
                    · simp only [Act.put, List.setIfInBounds_toArray, List.set_cons_zero, List.set_cons_succ]
                      rfl
                    refine take_ (i := 9) (N := some 9) (v := ?_) (a' := ?_) #[true, true, true, true, true, true, true, true, true, true] rfl rfl (by kernel_rfl) (fun _ _ _ h => h) (Or.inl ⟨by rfl, ?_⟩) hHeld ?_ ?_   -- assign (%61)
                    rotate_left
                    · rintro w' ⟨s0, s1⟩
                      go_simp
                      with_reducible rfl
                    rotate_left
                    · simp only [Act.put, List.setIfInBounds_toArray, List.set_cons_zero, List.set_cons_succ]
                      rfl
                    refine done_ (by kernel_rfl) ?_
                    clear x0 x1 x2
                    have SAME := hid (both_same T3.out G3.out)
                    go_wp2_with fail
                    refine SAME.out.mono ?_
                    rintro e W4 ⟨rfl, t4⟩
                    have T4 := hid t4
                    clear t4
                    go_wp2_with fail
                    go_roundg left
                    case measure => omega
                    case rel => exact ⟨k + 1, s3, by omega, rfl, hid ⟨T4.out.off, G3.out, by have := RL3.out; have := U.out.rl; omega⟩⟩
    · obtain rfl : k = n0 := by omega
      have KN := hid (HM.known_calls0 wr)
      have BL := hid U.out.two.bel
      clear U
      go_wp2_with fail
      refine KN.out.mono ?_
      rintro e w9 ⟨rfl, b9⟩
      have B9 := hid b9
      clear b9
      go_wp2_with fail
      go_ret
      exact ⟨rfl, HM.below_trans BL.out (HM.below_le B9.out BL.out.size)⟩
set_option maxRecDepth 100000 in
set_option maxHeartbeats 1600000 in
theorem plays_walk (w : World) (a0 : Int) (A0 : Option Addr) (c0 : Nat) (l0 : List S62) (h0 : Kd.C k62 w A0 l0.length l0) :
    Calls Try.prog 7 #[.int .i64 a0, .slice A0 l0.length c0] w fun e w' => e = .returned (.bool true) ∧ Below w.heap.size w w' := by
  by_cases ga : a0 ≤ 300
  · by_cases g0 : l0.length ≤ 400
    · exact plays_main w a0 A0 c0 l0 h0 ga g0
    · have d1 : ¬ (a0 > 300) := by omega
      have d0 : (l0.length : Int) > 400 := by omega
      have KN := hid (HM.known_calls0 w)
      clear h0 g0 ga
      go_enter Try.func7, Try.ntmps7
      go_wp2_with fail
      refine KN.out.mono ?_
      rintro e w9 ⟨rfl, b9⟩
      go_wp2_with fail
      go_ret
      exact ⟨rfl, b9⟩
  · have d1 : a0 > 300 := by omega
    have KN := hid (HM.known_calls0 w)
    clear h0 ga
    go_enter Try.func7, Try.ntmps7
    go_wp2_with fail
    refine KN.out.mono ?_
    rintro e w9 ⟨rfl, b9⟩
    go_wp2_with fail
    go_ret
    exact ⟨rfl, b9⟩
def juristlaw02_HeapPlays.f (_a0 : Int) (_l1 : List S62) : Option Bool := some true
theorem juristlaw02_HeapPlays.calls (a0 : Int) (A1 : Option Addr) (c1 : Nat) (l1 : List S62) (r : Bool) (w : World) (h1 : Kd.C k62 w A1 l1.length l1) (_ : l1.length ≤ c1) (h : juristlaw02_HeapPlays.f a0 l1 = some r) :
    Calls Try.prog 7 #[.int .i64 a0, .slice A1 l1.length c1] w fun e w' => e = .returned (.bool r) ∧ Below w.heap.size w w' := by
  cases h
  exact plays_walk w a0 A1 c1 l1 h1
end Go.Proofs.Ytegcfaohhcjajaa.Hk
