/- Walk of the law TermsOnce (printed by wip/tools/once.py). -/
import Derived.Test.YtmgbodmpjholiaaOpsAt
import Derived.Test.YtmgbodmpjholiaaOnceU
import Derived.Test.YtmgbodmpjholiaaTermPG
import Derived.Deep.Cut
namespace Go.Proofs.Ytmgbodmpjholiaa.Hk
open Go.RowKit Go.Maps Go.Shelf Go.Lib Go.Proofs.YtmgbodmpjholiaaW.PrintWords Go.Proofs.YtmgbodmpjholiaaW.PrintLast Go.Proofs.YtmgbodmpjholiaaW.PrintMore Go.Proofs.Ytmgbodmpjholiaa.MM Go.Proofs.Ytmgbodmpjholiaa.KM Go.Proofs.Ytmgbodmpjholiaa.TM Go.Proofs.Ytmgbodmpjholiaa.RT Go.Proofs.Ytmgbodmpjholiaa.TW Go.Proofs.Ytmgbodmpjholiaa.BT
attribute [local go_sem ↓] Go.wp_at_zero Go.wp_at_succ
set_option linter.unusedSimpArgs false
set_option linter.unusedVariables false

set_option maxRecDepth 100000 in
set_option maxHeartbeats 25600000 in
theorem once_main (w : World) (A : Option Addr) (c : Nat) (xs : List S45) (h0 : Kd.C k45 w A xs.length xs) (ht : tameB xs 100 = true) (hb : ∀ x ∈ xs, x.f4.length ≤ 17592186043904) (hw : ∀ x ∈ xs, WfO (opOf x)) :
    Calls Try.prog 5 #[.slice A xs.length c] w fun e w' => e = .returned (.bool true) ∧ Below w.heap.size w w' := by
  obtain ⟨N, hN⟩ : ∃ N, N = xs.length := ⟨_, rfl⟩
  have HC := hid h0
  have HN := hid hN
  have hNb : N ≤ 100 := by
    unfold tameB at ht
    simp at ht
    omega
  have HTAME := hid (tame_calls w A c xs 100 h0 (by omega) hb)
  rw [ht, ← hN] at HTAME
  have HNEW := hid (New_at w)
  have HW := hid hw
  rw [← hN]
  clear h0 hN ht hb hw
  go_enter Try.func5, Try.ntmps5
  go_wp2_with fail
  refine HTAME.out.mono ?_
  rintro e w1 ⟨rfl, hb1⟩
  have HB1 := hid hb1
  have HNEW1 := hid (New_at w1)
  clear hb1 HTAME HNEW
  go_wp2_with fail
  refine HNEW1.out.mono ?_
  rintro e w2 ⟨s, rfl, h2⟩
  have HS2 := hid (two_start h2)
  clear h2 HNEW1
  go_wp2_with fail
  refine HS2.out.mono ?_
  rintro e w3 ⟨u, rfl, h3⟩
  have T3 := hid (show TwoAt Side.nothing w w3 s u newM newM 6000 from ⟨TM.bel HB1.out h3.bel, (by
    obtain ⟨F, G, a1, a2, a3, a4⟩ := h3.st
    exact ⟨F, G, a1, a2, fun j hj => ⟨Nat.le_trans HB1.out.size (a3 j hj).1, (a3 j hj).2⟩, fun j hj => ⟨Nat.le_trans HB1.out.size (a4 j hj).1, (a4 j hj).2⟩⟩), trivial⟩)
  clear h3 HS2
  go_wp2_with fail
  go_loopg [5, 6, 7] N (fun left v5 v6 v7 wr => ∃ (i KT : Nat) (S : List NodeM) (T : List (OpM × Int)) (ax : Option Addr) (cx : Nat) (ac : Option Addr) (cc : Nat), left + i = N ∧ v5 = .slice ax KT cx ∧ v6 = .slice ac KT cc ∧ v7 = .int .i64 (i : Int) ∧ Hid (KT = T.length ∧ OnceAt w s u i S T (.slice ax KT cx) (.slice ac KT cc) wr))
  case atStart => exact ⟨0, 0, newM, [], none, 0, none, 0, by omega, rfl, rfl, rfl, hid ⟨rfl, OnceAt.start T3.out⟩⟩
  case round =>
    obtain ⟨i, KT, S, T, ax, cx, ac, cc, hi, rfl, rfl, rfl, U⟩ := hrel
    clear T3
    by_cases hiN : i < N
    · have hiI : (i : Int) < (N : Int) := by omega
      cases gk with
      | zero => omega
      | succ left =>
      have hil : i < xs.length := by rw [← HN.out]; exact hiN
      obtain ⟨b, off, A4, c4, rfl, hat⟩ := ops_at HC.out i hil hil
      obtain ⟨Ag, t1, dx, bx, bo⟩ := U.out.2.two
      have HWO := hid (HW.out xs[i] (List.getElem_mem hil))
      generalize opOf xs[i] = o at hat HWO
      have HAT := hid hat
      have T1 := hid t1
      have HDX := hid (And.intro dx (And.intro bx bo))
      have hat2 := hat.below t1.bel
      have c0 := hat2.k0
      have c1 := hat2.k1
      have c2 := hat2.k2
      have c3 := hat2.k3
      have c4' := hat2.k4
      have c5 := hat2.k5
      have c6 := hat2.k6
      have c7 := hat2.k7
      have c8 := hat2.k8
      obtain ⟨L, hL⟩ : ∃ L, L = o.L.length := ⟨_, rfl⟩
      rw [← hL] at c4'
      have HL := hid hL
      have HSB := hid t1.wf.high
      have hSI : (S.length : Int) ≤ 20000 := by have := t1.wf.high; omega
      obtain ⟨au, cu, hcu, hult⟩ : ∃ a c, wr.cell? ⟨u, 0, none⟩ = some (.slice a S.length c) ∧ u < wr.heap.size := by
        obtain ⟨F, G, h1, h2, h3, h4⟩ := t1.st
        exact rs_at h2
      clear hat hat2 t1 dx bx bo hL hil hiN
      go_upto_region 12 with fail
      obtain ⟨W5, hW5⟩ : ∃ W, W = wr.alloc (.cells #[.int .i64 o.kd, .int .i64 o.a, .int .i64 o.b, .int .i64 o.c, .slice A4 L c4, .int .i64 o.fn, .int .i64 o.so, .int .i64 o.n, .bool o.m] 45) := ⟨_, rfl⟩
      obtain ⟨p, hp⟩ : ∃ p, p = wr.heap.size := ⟨_, rfl⟩
      have hb5 : Below wr.heap.size wr W5 := by rw [hW5]; exact (Below.refl _ _).alloc (Nat.le_refl _) _
      have hx5 : W5.heap[p]? = some (.cells #[.int .i64 o.kd, .int .i64 o.a, .int .i64 o.b, .int .i64 o.c, .slice A4 L c4, .int .i64 o.fn, .int .i64 o.so, .int .i64 o.n, .bool o.m] 45 (0, 0)) := by rw [hW5, hp]; exact heap_alloc_new _ _
      rw [← hW5, ← hp]
      have p1 : W5.cell? ⟨p, 1, none⟩ = some (.int .i64 o.a) := (blk_cell hx5 1).trans rfl
      have p2 : W5.cell? ⟨p, 2, none⟩ = some (.int .i64 o.b) := (blk_cell hx5 2).trans rfl
      have p3 : W5.cell? ⟨p, 3, none⟩ = some (.int .i64 o.c) := (blk_cell hx5 3).trans rfl
      have p8 : W5.cell? ⟨p, 8, none⟩ = some (.bool o.m) := (blk_cell hx5 8).trans rfl
      have f1 : W5.frozen? ⟨p, 1, none⟩ = false := blk_frozen hx5 1
      have f2 : W5.frozen? ⟨p, 2, none⟩ = false := blk_frozen hx5 2
      have f3 : W5.frozen? ⟨p, 3, none⟩ = false := blk_frozen hx5 3
      have HX5 := hid hx5
      have HB5 := hid hb5
      have HP := hid hp
      clear hx5 hb5 hp hW5 c0 c1 c2 c3 c4' c5 c6 c7 c8 hcu hult
      refine wp_region_noPanic ?_
      refine start_ (n := 24) (S := (fun w' => w'.cell? ⟨p, 1, none⟩ = some (.int .i64 o.a) ∧ w'.cell? ⟨p, 2, none⟩ = some (.int .i64 o.b) ∧ w'.cell? ⟨p, 3, none⟩ = some (.int .i64 o.c) ∧ w'.cell? ⟨p, 8, none⟩ = some (.bool o.m) ∧ True)) (ds := [19, 21, 23]) #[false, false, false, false, false, false, false, false, false, false, false, false, false, false, false, false, false, false, false, false, false, false, false, false] (by kernel_rfl) rfl rfl ⟨p1, p2, p3, p8, trivial⟩ (fun hHeld => ?_)
      refine take_ (i := 0) (N := some 46) (v := ?_) (a' := ?_) #[true, false, false, false, false, false, false, false, false, false, false, false, false, false, false, false, false, false, false, false, false, false, false, false] rfl rfl (by kernel_rfl) (fun _ _ _ h => h) (Or.inl ⟨by rfl, ?_⟩) hHeld ?_ ?_   -- fieldAddr 45 (%8) 1
      rotate_left
      · rintro w' ⟨s0, s1, s2, s3, s4⟩
        go_simp
        with_reducible rfl
      rotate_left
      · simp only [Act.put, List.setIfInBounds_toArray, List.set_cons_zero, List.set_cons_succ]
        rfl
      refine take_ (i := 1) (N := some 47) (v := ?_) (a' := ?_) #[true, true, false, false, false, false, false, false, false, false, false, false, false, false, false, false, false, false, false, false, false, false, false, false] rfl rfl (by kernel_rfl) (fun _ _ _ h => h) (Or.inl ⟨by rfl, ?_⟩) hHeld ?_ ?_   -- load 26 (%46)
      rotate_left
      · rintro w' ⟨s0, s1, s2, s3, s4⟩
        go_simp
        with_reducible rfl
      rotate_left
      · simp only [Act.put, List.setIfInBounds_toArray, List.set_cons_zero, List.set_cons_succ]
        rfl
      refine take_ (i := 2) (N := some 48) (v := ?_) (a' := ?_) #[true, true, true, false, false, false, false, false, false, false, false, false, false, false, false, false, false, false, false, false, false, false, false, false] rfl rfl (by kernel_rfl) (fun _ _ _ h => h) (Or.inl ⟨by rfl, ?_⟩) hHeld ?_ ?_   -- move (%9)
      rotate_left
      · rintro w' ⟨s0, s1, s2, s3, s4⟩
        go_simp
        with_reducible rfl
      rotate_left
      · simp only [Act.put, List.setIfInBounds_toArray, List.set_cons_zero, List.set_cons_succ]
        rfl
      refine take_ (i := 3) (N := some 49) (v := ?_) (a' := ?_) #[true, true, true, true, false, false, false, false, false, false, false, false, false, false, false, false, false, false, false, false, false, false, false, false] rfl rfl (by kernel_rfl) (fun _ _ _ h => h) (Or.inl ⟨by rfl, ?_⟩) hHeld ?_ ?_   -- fieldAddr 45 (%8) 8
      rotate_left
      · rintro w' ⟨s0, s1, s2, s3, s4⟩
        go_simp
        with_reducible rfl
      rotate_left
      · simp only [Act.put, List.setIfInBounds_toArray, List.set_cons_zero, List.set_cons_succ]
        rfl
      refine take_ (i := 4) (N := some 50) (v := ?_) (a' := ?_) #[true, true, true, true, true, false, false, false, false, false, false, false, false, false, false, false, false, false, false, false, false, false, false, false] rfl rfl (by kernel_rfl) (fun _ _ _ h => h) (Or.inl ⟨by rfl, ?_⟩) hHeld ?_ ?_   -- load 4 (%49)
      rotate_left
      · rintro w' ⟨s0, s1, s2, s3, s4⟩
        go_simp
        with_reducible rfl
      rotate_left
      · simp only [Act.put, List.setIfInBounds_toArray, List.set_cons_zero, List.set_cons_succ]
        rfl
      refine take_ (i := 6) (N := some 52) (v := ?_) (a' := ?_) #[true, true, true, true, true, false, true, false, false, false, false, false, false, false, false, false, false, false, false, false, false, false, false, false] rfl rfl (by kernel_rfl) (fun _ _ _ h => h) (Or.inl ⟨by rfl, ?_⟩) hHeld ?_ ?_   -- fieldAddr 45 (%8) 2
      rotate_left
      · rintro w' ⟨s0, s1, s2, s3, s4⟩
        go_simp
        with_reducible rfl
      rotate_left
      · simp only [Act.put, List.setIfInBounds_toArray, List.set_cons_zero, List.set_cons_succ]
        rfl
      refine take_ (i := 7) (N := some 53) (v := ?_) (a' := ?_) #[true, true, true, true, true, false, true, true, false, false, false, false, false, false, false, false, false, false, false, false, false, false, false, false] rfl rfl (by kernel_rfl) (fun _ _ _ h => h) (Or.inl ⟨by rfl, ?_⟩) hHeld ?_ ?_   -- load 26 (%52)
      rotate_left
      · rintro w' ⟨s0, s1, s2, s3, s4⟩
        go_simp
        with_reducible rfl
      rotate_left
      · simp only [Act.put, List.setIfInBounds_toArray, List.set_cons_zero, List.set_cons_succ]
        rfl
      refine take_ (i := 8) (N := some 54) (v := ?_) (a' := ?_) #[true, true, true, true, true, false, true, true, true, false, false, false, false, false, false, false, false, false, false, false, false, false, false, false] rfl rfl (by kernel_rfl) (fun _ _ _ h => h) (Or.inl ⟨by rfl, ?_⟩) hHeld ?_ ?_   -- move (%9)
      rotate_left
      · rintro w' ⟨s0, s1, s2, s3, s4⟩
        go_simp
        with_reducible rfl
      rotate_left
      · simp only [Act.put, List.setIfInBounds_toArray, List.set_cons_zero, List.set_cons_succ]
        rfl
      refine take_ (i := 9) (N := some 55) (v := ?_) (a' := ?_) #[true, true, true, true, true, false, true, true, true, true, false, false, false, false, false, false, false, false, false, false, false, false, false, false] rfl rfl (by kernel_rfl) (fun _ _ _ h => h) (Or.inl ⟨by rfl, ?_⟩) hHeld ?_ ?_   -- fieldAddr 45 (%8) 8
      rotate_left
      · rintro w' ⟨s0, s1, s2, s3, s4⟩
        go_simp
        with_reducible rfl
      rotate_left
      · simp only [Act.put, List.setIfInBounds_toArray, List.set_cons_zero, List.set_cons_succ]
        rfl
      refine take_ (i := 10) (N := some 56) (v := ?_) (a' := ?_) #[true, true, true, true, true, false, true, true, true, true, true, false, false, false, false, false, false, false, false, false, false, false, false, false] rfl rfl (by kernel_rfl) (fun _ _ _ h => h) (Or.inl ⟨by rfl, ?_⟩) hHeld ?_ ?_   -- load 4 (%55)
      rotate_left
      · rintro w' ⟨s0, s1, s2, s3, s4⟩
        go_simp
        with_reducible rfl
      rotate_left
      · simp only [Act.put, List.setIfInBounds_toArray, List.set_cons_zero, List.set_cons_succ]
        rfl
      refine take_ (i := 12) (N := some 58) (v := ?_) (a' := ?_) #[true, true, true, true, true, false, true, true, true, true, true, false, true, false, false, false, false, false, false, false, false, false, false, false] rfl rfl (by kernel_rfl) (fun _ _ _ h => h) (Or.inl ⟨by rfl, ?_⟩) hHeld ?_ ?_   -- fieldAddr 45 (%8) 3
      rotate_left
      · rintro w' ⟨s0, s1, s2, s3, s4⟩
        go_simp
        with_reducible rfl
      rotate_left
      · simp only [Act.put, List.setIfInBounds_toArray, List.set_cons_zero, List.set_cons_succ]
        rfl
      refine take_ (i := 13) (N := some 59) (v := ?_) (a' := ?_) #[true, true, true, true, true, false, true, true, true, true, true, false, true, true, false, false, false, false, false, false, false, false, false, false] rfl rfl (by kernel_rfl) (fun _ _ _ h => h) (Or.inl ⟨by rfl, ?_⟩) hHeld ?_ ?_   -- load 26 (%58)
      rotate_left
      · rintro w' ⟨s0, s1, s2, s3, s4⟩
        go_simp
        with_reducible rfl
      rotate_left
      · simp only [Act.put, List.setIfInBounds_toArray, List.set_cons_zero, List.set_cons_succ]
        rfl
      refine take_ (i := 14) (N := some 60) (v := ?_) (a' := ?_) #[true, true, true, true, true, false, true, true, true, true, true, false, true, true, true, false, false, false, false, false, false, false, false, false] rfl rfl (by kernel_rfl) (fun _ _ _ h => h) (Or.inl ⟨by rfl, ?_⟩) hHeld ?_ ?_   -- move (%9)
      rotate_left
      · rintro w' ⟨s0, s1, s2, s3, s4⟩
        go_simp
        with_reducible rfl
      rotate_left
      · simp only [Act.put, List.setIfInBounds_toArray, List.set_cons_zero, List.set_cons_succ]
        rfl
      refine take_ (i := 15) (N := some 61) (v := ?_) (a' := ?_) #[true, true, true, true, true, false, true, true, true, true, true, false, true, true, true, true, false, false, false, false, false, false, false, false] rfl rfl (by kernel_rfl) (fun _ _ _ h => h) (Or.inl ⟨by rfl, ?_⟩) hHeld ?_ ?_   -- fieldAddr 45 (%8) 8
      rotate_left
      · rintro w' ⟨s0, s1, s2, s3, s4⟩
        go_simp
        with_reducible rfl
      rotate_left
      · simp only [Act.put, List.setIfInBounds_toArray, List.set_cons_zero, List.set_cons_succ]
        rfl
      refine take_ (i := 16) (N := some 62) (v := ?_) (a' := ?_) #[true, true, true, true, true, false, true, true, true, true, true, false, true, true, true, true, true, false, false, false, false, false, false, false] rfl rfl (by kernel_rfl) (fun _ _ _ h => h) (Or.inl ⟨by rfl, ?_⟩) hHeld ?_ ?_   -- load 4 (%61)
      rotate_left
      · rintro w' ⟨s0, s1, s2, s3, s4⟩
        go_simp
        with_reducible rfl
      rotate_left
      · simp only [Act.put, List.setIfInBounds_toArray, List.set_cons_zero, List.set_cons_succ]
        rfl
      refine one_ (i := 5) (N := some 51) #[true, true, true, true, true, true, true, true, true, true, true, false, true, true, true, true, true, false, false, false, false, false, false, false] rfl rfl (by kernel_rfl) (by decide) (fun K hK => ?_)
      refine call_ 18 #[.int .i64 o.a, .int .i64 S.length, .bool o.m] (by rfl) rfl (by go_simp; first | done | rfl) ?_
      refine (near_calls _ o.a S.length o.m HSB.out).mono ?_
      rintro e w' ⟨rfl, hw'⟩
      obtain rfl := hw'
      refine ⟨_, rfl, ?_⟩
      refine hK.out _ _ ⟨p1, p2, p3, p8, trivial⟩ (fun hHeld => ?_)
      refine norm_ (a' := ?_) ?_ ?_
      rotate_left
      · simp only [Act.put, List.setIfInBounds_toArray, List.set_cons_zero, List.set_cons_succ]
        rfl
      refine pure_ (i := 18) (N := some 64) (v := ?_) (a' := ?_) #[true, true, true, true, true, true, true, true, true, true, true, false, true, true, true, true, true, false, true, false, false, false, false, false] rfl rfl (by kernel_rfl) (fun _ _ _ h => h) (Or.inl ⟨by rfl, ?_⟩) ?_ ?_   -- fieldAddr 45 (%8) 1
      rotate_left
      · intro w'
        go_simp
        with_reducible rfl
      rotate_left
      · simp only [Act.put, List.setIfInBounds_toArray, List.set_cons_zero, List.set_cons_succ]
        rfl
      refine one_ (i := 11) (N := some 57) #[true, true, true, true, true, true, true, true, true, true, true, true, true, true, true, true, true, false, true, false, false, false, false, false] rfl rfl (by kernel_rfl) (by decide) (fun K hK => ?_)
      refine call_ 18 #[.int .i64 o.b, .int .i64 S.length, .bool o.m] (by rfl) rfl (by go_simp; first | done | rfl) ?_
      refine (near_calls _ o.b S.length o.m HSB.out).mono ?_
      rintro e w' ⟨rfl, hw'⟩
      obtain rfl := hw'
      refine ⟨_, rfl, ?_⟩
      refine hK.out _ _ ⟨p1, p2, p3, p8, trivial⟩ (fun hHeld => ?_)
      refine norm_ (a' := ?_) ?_ ?_
      rotate_left
      · simp only [Act.put, List.setIfInBounds_toArray, List.set_cons_zero, List.set_cons_succ]
        rfl
      refine one_ (i := 17) (N := some 63) #[true, true, true, true, true, true, true, true, true, true, true, true, true, true, true, true, true, true, true, false, false, false, false, false] rfl rfl (by kernel_rfl) (by decide) (fun K hK => ?_)
      refine call_ 18 #[.int .i64 o.c, .int .i64 S.length, .bool o.m] (by rfl) rfl (by go_simp; first | done | rfl) ?_
      refine (near_calls _ o.c S.length o.m HSB.out).mono ?_
      rintro e w' ⟨rfl, hw'⟩
      obtain rfl := hw'
      refine ⟨_, rfl, ?_⟩
      refine hK.out _ _ ⟨p1, p2, p3, p8, trivial⟩ (fun hHeld => ?_)
      refine norm_ (a' := ?_) ?_ ?_
      rotate_left
      · simp only [Act.put, List.setIfInBounds_toArray, List.set_cons_zero, List.set_cons_succ]
        rfl
      refine last_ (i := 19) (N := none) #[true, true, true, true, true, true, true, true, true, true, true, true, true, true, true, true, true, true, true, true, false, false, false, false] rfl rfl (by kernel_rfl) (by decide) (fun K hK => ?_)
      refine skip_ (by rfl) rfl (w1 := (W5.drew.setCell ⟨p, 1, none⟩ (.int .i64 (near1 S o o.a)))) (by go_simp; first | done | rfl) ?_
      refine hK.out _ _ ?_
      refine pure_ (i := 20) (N := some 65) (v := ?_) (a' := ?_) #[true, true, true, true, true, true, true, true, true, true, true, true, true, true, true, true, true, true, true, true, true, false, false, false] rfl rfl (by kernel_rfl) (fun _ _ _ h => h) (Or.inl ⟨by rfl, ?_⟩) ?_ ?_   -- fieldAddr 45 (%8) 2
      rotate_left
      · intro w'
        go_simp
        with_reducible rfl
      rotate_left
      · simp only [Act.put, List.setIfInBounds_toArray, List.set_cons_zero, List.set_cons_succ]
        rfl
      refine last_ (i := 21) (N := none) #[true, true, true, true, true, true, true, true, true, true, true, true, true, true, true, true, true, true, true, true, true, true, false, false] rfl rfl (by kernel_rfl) (by decide) (fun K hK => ?_)
      refine skip_ (by rfl) rfl (w1 := ((W5.drew.setCell ⟨p, 1, none⟩ (.int .i64 (near1 S o o.a))).setCell ⟨p, 2, none⟩ (.int .i64 (near1 S o o.b)))) (by go_simp; first | done | rfl) ?_
      refine hK.out _ _ ?_
      refine pure_ (i := 22) (N := some 66) (v := ?_) (a' := ?_) #[true, true, true, true, true, true, true, true, true, true, true, true, true, true, true, true, true, true, true, true, true, true, true, false] rfl rfl (by kernel_rfl) (fun _ _ _ h => h) (Or.inl ⟨by rfl, ?_⟩) ?_ ?_   -- fieldAddr 45 (%8) 3
      rotate_left
      · intro w'
        go_simp
        with_reducible rfl
      rotate_left
      · simp only [Act.put, List.setIfInBounds_toArray, List.set_cons_zero, List.set_cons_succ]
        rfl
      refine last_ (i := 23) (N := none) #[true, true, true, true, true, true, true, true, true, true, true, true, true, true, true, true, true, true, true, true, true, true, true, true] rfl rfl (by kernel_rfl) (by decide) (fun K hK => ?_)
      refine skip_ (by rfl) rfl (w1 := (((W5.drew.setCell ⟨p, 1, none⟩ (.int .i64 (near1 S o o.a))).setCell ⟨p, 2, none⟩ (.int .i64 (near1 S o o.b))).setCell ⟨p, 3, none⟩ (.int .i64 (near1 S o o.c)))) (by go_simp; first | done | rfl) ?_
      refine hK.out _ _ ?_
      refine done_ (by kernel_rfl) ?_
      try simp only [NoPanic, Exit.then]
      obtain ⟨W12, hW12⟩ : ∃ W, W = (((W5.drew.setCell ⟨p, 1, none⟩ (.int .i64 (near1 S o o.a))).setCell ⟨p, 2, none⟩ (.int .i64 (near1 S o o.b))).setCell ⟨p, 3, none⟩ (.int .i64 (near1 S o o.c))) := ⟨_, rfl⟩
      rw [← hW12]
      have hx12 : W12.heap[p]? = some (.cells #[.int .i64 o.kd, .int .i64 (near1 S o o.a), .int .i64 (near1 S o o.b), .int .i64 (near1 S o o.c), .slice A4 L c4, .int .i64 o.fn, .int .i64 o.so, .int .i64 o.n, .bool o.m] 45 (0, 0)) := by
        rw [hW12]
        exact (blk_set (blk_set (blk_set (w := W5.drew) HX5.out 1 _) 2 _) 3 _).trans (by simp)
      have hb12 : Below wr.heap.size wr W12 := by
        rw [hW12]
        have hd : Below wr.heap.size wr W5.drew := HB5.out.trans ⟨rfl, rfl, rfl, Nat.le_refl _, fun _ _ => rfl⟩
        have hpp : wr.heap.size ≤ p := Nat.le_of_eq HP.out.symm
        exact below_set (below_set (below_set hd hpp 1 _) hpp 2 _) hpp 3 _
      have f4 : W12.frozen? ⟨p, 4, none⟩ = false := blk_frozen hx12 4
      have f8 : W12.frozen? ⟨p, 8, none⟩ = false := blk_frozen hx12 8
      have z4 : W12.cell? ⟨p, 4, none⟩ = some (.slice A4 L c4) := (blk_cell hx12 4).trans rfl
      obtain ⟨sdO, hsdO⟩ : ∃ sd, sd = sideOnce (.slice ax KT cx) (.slice ac KT cc) T Ag := ⟨_, rfl⟩
      have HSDO := hid hsdO
      have TD := hid (show ToldAt sdO w s u S (6000 + 2000 * i) o p 0 (.slice none 0 0) (W12.setCell ⟨p, 4, none⟩ (.slice none 0 0)) from by
        rw [HP.out, hsdO]
        refine told_start T1.out ?_ ?_
        · exact below_set hb12 (Nat.le_refl _) 4 _
        · have h1 := blk_set hx12 4 (.slice none 0 0)
          rw [HP.out] at h1
          exact h1.trans (by simp [half]))
      clear hx12 hb12 hW12 hHeld p1 p2 p3 p8 f1 f2 f3 T1 hsdO
      go_wp2_with fail
      go_loopg [10] L (fun left v10 wr => ∃ (k : Nat) (Av : Option Addr) (cv : Nat), left + k = L ∧ v10 = .int .i64 (k : Int) ∧ Hid (ToldAt sdO w s u S (6000 + 2000 * i) o p k (.slice Av k cv) wr))
      case atStart => exact ⟨0, none, 0, by omega, rfl, TD⟩
      case round =>
        obtain ⟨k, Av, cv, hk, rfl, V⟩ := hrel
        clear TD f4 f8 z4
        have hat2 := HAT.out.below V.out.two.bel
        have c4' := hat2.k4
        have c8 := hat2.k8
        have hrd := hat2.rd
        rw [← HL.out] at c4' hrd
        have hbox := V.out.box
        have p4 : wr.cell? ⟨p, 4, none⟩ = some (.slice Av k cv) := (blk_cell hbox 4).trans rfl
        by_cases hkL : k < L
        · have hkI : (k : Int) < (L : Int) := by omega
          cases gk with
          | zero => omega
          | succ left2 =>
          have hLb : L ≤ 6000 := by rw [HL.out]; exact HWO.out.len
          have HLL := hid (show (o.L.take k).length ≤ 6000 from by rw [List.length_take]; omega)
          have HKL := hid (show k < o.L.length from by rw [← HL.out]; exact hkL)
          obtain ⟨AL', cL', hv, hrd⟩ := hrd
          injection hv with z1 z2 z3
          subst z1 z3
          obtain ⟨gL, oL, rfl, hgL, hcells⟩ := hrd (by have := HKL.out; omega)
          obtain ⟨x, hx⟩ : ∃ x, x = o.L.getD k 0 := ⟨_, rfl⟩
          have hxc := hcells k HKL.out
          rw [← hx] at hxc
          have HX := hid hx
          have HS := hid (show ∀ W : World, (∀ b, b < wr.heap.size → W.heap[b]? = wr.heap[b]?) → W.cell? ⟨p, 4, none⟩ = some (.slice Av k cv) ∧ W.cell? ⟨b, off + i * 9 + 4, none⟩ = some (.slice (some ⟨gL, oL, none⟩) L c4) ∧ W.cell? ⟨gL, oL + k, none⟩ = some (.int .i64 x) ∧ W.cell? ⟨b, off + i * 9 + 8, none⟩ = some (.bool o.m) ∧ W.frozen? ⟨p, 4, none⟩ = false ∧ True from fun W hW =>
            ⟨(World.cell?_of_block (hW p (blk_lt hbox))).trans p4, (World.cell?_of_block (hW b hat2.lt)).trans c4', (World.cell?_of_block (hW gL hgL)).trans hxc, (World.cell?_of_block (hW b hat2.lt)).trans c8, blk_frozen ((hW p (blk_lt hbox)).trans hbox) 4, trivial⟩)
          have HS2 := hid (show ∀ W : World, Keep (fun g => (Value.slice Av k cv).ownBlock = some g) wr W → W.cell? ⟨p, 4, none⟩ = some (.slice Av k cv) ∧ W.cell? ⟨b, off + i * 9 + 4, none⟩ = some (.slice (some ⟨gL, oL, none⟩) L c4) ∧ W.cell? ⟨gL, oL + k, none⟩ = some (.int .i64 x) ∧ W.cell? ⟨b, off + i * 9 + 8, none⟩ = some (.bool o.m) ∧ W.frozen? ⟨p, 4, none⟩ = false ∧ True from fun W hW => (by
            have hfr : ∀ g, (Value.slice Av k cv).ownBlock = some g → p < g := V.out.fresh
            have hbw : b < w.heap.size := HAT.out.lt
            have hgw : gL < w.heap.size := HAT.out.rd.lt (by have := HKL.out; omega) gL rfl
            have hpw : w.heap.size ≤ p := V.out.base
            have nb : (Value.slice Av k cv).ownBlock ≠ some b := fun e => by have := hfr b e; omega
            have ng : (Value.slice Av k cv).ownBlock ≠ some gL := fun e => by have := hfr gL e; omega
            have np : (Value.slice Av k cv).ownBlock ≠ some p := fun e => by have := hfr p e; omega
            exact ⟨(World.cell?_of_block (hW.block p (blk_lt hbox) np)).trans p4, (World.cell?_of_block (hW.block b hat2.lt nb)).trans c4', (World.cell?_of_block (hW.block gL hgL ng)).trans hxc, (World.cell?_of_block (hW.block b hat2.lt nb)).trans c8, blk_frozen ((hW.block p (blk_lt hbox) np).trans hbox) 4, trivial⟩))
          clear hx hcells z2 hbox hat2 hrd
          go_upto_region 17 with fail
          clear c4' c8 hxc p4
          refine wp_region_noPanic ?_
          refine start_ (n := 21) (S := (fun w' => w'.cell? ⟨p, 4, none⟩ = some (.slice Av k cv) ∧ w'.cell? ⟨b, off + i * 9 + 4, none⟩ = some (.slice (some ⟨gL, oL, none⟩) L c4) ∧ w'.cell? ⟨gL, oL + k, none⟩ = some (.int .i64 x) ∧ w'.cell? ⟨b, off + i * 9 + 8, none⟩ = some (.bool o.m) ∧ w'.frozen? ⟨p, 4, none⟩ = false ∧ True)) (ds := [20]) #[false, false, false, false, false, false, false, false, false, false, false, false, false, false, false, false, false, false, false, false, false] (by kernel_rfl) rfl rfl (HS.out _ (fun b hb => rfl)) (fun hHeld => ?_)
          refine take_ (i := 0) (N := some 78) (v := ?_) (a' := ?_) #[true, false, false, false, false, false, false, false, false, false, false, false, false, false, false, false, false, false, false, false, false] rfl rfl (by kernel_rfl) (fun _ _ _ h => h) (Or.inl ⟨by rfl, ?_⟩) hHeld ?_ ?_   -- fieldAddr 45 (%8) 4
          rotate_left
          · rintro w' ⟨s0, s1, s2, s3, s4, s5⟩
            go_simp
            with_reducible rfl
          rotate_left
          · simp only [Act.put, List.setIfInBounds_toArray, List.set_cons_zero, List.set_cons_succ]
            rfl
          refine take_ (i := 1) (N := some 79) (v := ?_) (a' := ?_) #[true, true, false, false, false, false, false, false, false, false, false, false, false, false, false, false, false, false, false, false, false] rfl rfl (by kernel_rfl) (fun _ _ _ h => h) (Or.inl ⟨by rfl, ?_⟩) hHeld ?_ ?_   -- load 43 (%78)
          rotate_left
          · rintro w' ⟨s0, s1, s2, s3, s4, s5⟩
            go_simp
            with_reducible rfl
          rotate_left
          · simp only [Act.put, List.setIfInBounds_toArray, List.set_cons_zero, List.set_cons_succ]
            rfl
          refine take_ (i := 2) (N := some 80) (v := ?_) (a' := ?_) #[true, true, true, false, false, false, false, false, false, false, false, false, false, false, false, false, false, false, false, false, false] rfl rfl (by kernel_rfl) (fun _ _ _ h => h) (Or.inl ⟨by rfl, ?_⟩) hHeld ?_ ?_   -- move (%0)
          rotate_left
          · rintro w' ⟨s0, s1, s2, s3, s4, s5⟩
            go_simp
            with_reducible rfl
          rotate_left
          · simp only [Act.put, List.setIfInBounds_toArray, List.set_cons_zero, List.set_cons_succ]
            rfl
          refine take_ (i := 3) (N := some 81) (v := ?_) (a' := ?_) #[true, true, true, true, false, false, false, false, false, false, false, false, false, false, false, false, false, false, false, false, false] rfl rfl (by kernel_rfl) (fun _ _ _ h => h) (Or.inl ⟨by rfl, ?_⟩) hHeld ?_ ?_   -- move (%7)
          rotate_left
          · rintro w' ⟨s0, s1, s2, s3, s4, s5⟩
            go_simp
            with_reducible rfl
          rotate_left
          · simp only [Act.put, List.setIfInBounds_toArray, List.set_cons_zero, List.set_cons_succ]
            rfl
          refine take_ (i := 4) (N := some 82) (v := ?_) (a' := ?_) #[true, true, true, true, true, false, false, false, false, false, false, false, false, false, false, false, false, false, false, false, false] rfl rfl (by kernel_rfl) (fun _ _ _ h => h) (Or.inl ⟨by rfl, ?_⟩) hHeld ?_ ?_   -- indexAddr 39 (%80) (%81)
          rotate_left
          · rintro w' ⟨s0, s1, s2, s3, s4, s5⟩
            go_simp
            with_reducible rfl
          rotate_left
          · simp only [Act.put, List.setIfInBounds_toArray, List.set_cons_zero, List.set_cons_succ]
            rfl
          refine take_ (i := 5) (N := some 83) (v := ?_) (a' := ?_) #[true, true, true, true, true, true, false, false, false, false, false, false, false, false, false, false, false, false, false, false, false] rfl rfl (by kernel_rfl) (fun _ _ _ h => h) (Or.inl ⟨by rfl, ?_⟩) hHeld ?_ ?_   -- fieldAddr 45 (%82) 4
          rotate_left
          · rintro w' ⟨s0, s1, s2, s3, s4, s5⟩
            go_simp
            with_reducible rfl
          rotate_left
          · simp only [Act.put, List.setIfInBounds_toArray, List.set_cons_zero, List.set_cons_succ]
            rfl
          refine take_ (i := 6) (N := some 84) (v := ?_) (a' := ?_) #[true, true, true, true, true, true, true, false, false, false, false, false, false, false, false, false, false, false, false, false, false] rfl rfl (by kernel_rfl) (fun _ _ _ h => h) (Or.inl ⟨by rfl, ?_⟩) hHeld ?_ ?_   -- load 43 (%83)
          rotate_left
          · rintro w' ⟨s0, s1, s2, s3, s4, s5⟩
            go_simp
            with_reducible rfl
          rotate_left
          · simp only [Act.put, List.setIfInBounds_toArray, List.set_cons_zero, List.set_cons_succ]
            rfl
          refine take_ (i := 7) (N := some 85) (v := ?_) (a' := ?_) #[true, true, true, true, true, true, true, true, false, false, false, false, false, false, false, false, false, false, false, false, false] rfl rfl (by kernel_rfl) (fun _ _ _ h => h) (Or.inl ⟨by rfl, ?_⟩) hHeld ?_ ?_   -- move (%10)
          rotate_left
          · rintro w' ⟨s0, s1, s2, s3, s4, s5⟩
            go_simp
            with_reducible rfl
          rotate_left
          · simp only [Act.put, List.setIfInBounds_toArray, List.set_cons_zero, List.set_cons_succ]
            rfl
          refine take_ (i := 8) (N := some 86) (v := ?_) (a' := ?_) #[true, true, true, true, true, true, true, true, true, false, false, false, false, false, false, false, false, false, false, false, false] rfl rfl (by kernel_rfl) (fun _ _ _ h => h) (Or.inl ⟨by rfl, ?_⟩) hHeld ?_ ?_   -- indexAddr 43 (%84) (%85)
          rotate_left
          · rintro w' ⟨s0, s1, s2, s3, s4, s5⟩
            go_simp
            with_reducible rfl
          rotate_left
          · simp only [Act.put, List.setIfInBounds_toArray, List.set_cons_zero, List.set_cons_succ]
            rfl
          refine take_ (i := 9) (N := some 87) (v := ?_) (a' := ?_) #[true, true, true, true, true, true, true, true, true, true, false, false, false, false, false, false, false, false, false, false, false] rfl rfl (by kernel_rfl) (fun _ _ _ h => h) (Or.inl ⟨by rfl, ?_⟩) hHeld ?_ ?_   -- load 26 (%86)
          rotate_left
          · rintro w' ⟨s0, s1, s2, s3, s4, s5⟩
            go_simp
            with_reducible rfl
          rotate_left
          · simp only [Act.put, List.setIfInBounds_toArray, List.set_cons_zero, List.set_cons_succ]
            rfl
          refine take_ (i := 10) (N := some 88) (v := ?_) (a' := ?_) #[true, true, true, true, true, true, true, true, true, true, true, false, false, false, false, false, false, false, false, false, false] rfl rfl (by kernel_rfl) (fun _ _ _ h => h) (Or.inl ⟨by rfl, ?_⟩) hHeld ?_ ?_   -- move (%9)
          rotate_left
          · rintro w' ⟨s0, s1, s2, s3, s4, s5⟩
            go_simp
            with_reducible rfl
          rotate_left
          · simp only [Act.put, List.setIfInBounds_toArray, List.set_cons_zero, List.set_cons_succ]
            rfl
          refine take_ (i := 11) (N := some 89) (v := ?_) (a' := ?_) #[true, true, true, true, true, true, true, true, true, true, true, true, false, false, false, false, false, false, false, false, false] rfl rfl (by kernel_rfl) (fun _ _ _ h => h) (Or.inl ⟨by rfl, ?_⟩) hHeld ?_ ?_   -- move (%0)
          rotate_left
          · rintro w' ⟨s0, s1, s2, s3, s4, s5⟩
            go_simp
            with_reducible rfl
          rotate_left
          · simp only [Act.put, List.setIfInBounds_toArray, List.set_cons_zero, List.set_cons_succ]
            rfl
          refine take_ (i := 12) (N := some 90) (v := ?_) (a' := ?_) #[true, true, true, true, true, true, true, true, true, true, true, true, true, false, false, false, false, false, false, false, false] rfl rfl (by kernel_rfl) (fun _ _ _ h => h) (Or.inl ⟨by rfl, ?_⟩) hHeld ?_ ?_   -- move (%7)
          rotate_left
          · rintro w' ⟨s0, s1, s2, s3, s4, s5⟩
            go_simp
            with_reducible rfl
          rotate_left
          · simp only [Act.put, List.setIfInBounds_toArray, List.set_cons_zero, List.set_cons_succ]
            rfl
          refine take_ (i := 13) (N := some 91) (v := ?_) (a' := ?_) #[true, true, true, true, true, true, true, true, true, true, true, true, true, true, false, false, false, false, false, false, false] rfl rfl (by kernel_rfl) (fun _ _ _ h => h) (Or.inl ⟨by rfl, ?_⟩) hHeld ?_ ?_   -- indexAddr 39 (%89) (%90)
          rotate_left
          · rintro w' ⟨s0, s1, s2, s3, s4, s5⟩
            go_simp
            with_reducible rfl
          rotate_left
          · simp only [Act.put, List.setIfInBounds_toArray, List.set_cons_zero, List.set_cons_succ]
            rfl
          refine take_ (i := 14) (N := some 92) (v := ?_) (a' := ?_) #[true, true, true, true, true, true, true, true, true, true, true, true, true, true, true, false, false, false, false, false, false] rfl rfl (by kernel_rfl) (fun _ _ _ h => h) (Or.inl ⟨by rfl, ?_⟩) hHeld ?_ ?_   -- fieldAddr 45 (%91) 8
          rotate_left
          · rintro w' ⟨s0, s1, s2, s3, s4, s5⟩
            go_simp
            with_reducible rfl
          rotate_left
          · simp only [Act.put, List.setIfInBounds_toArray, List.set_cons_zero, List.set_cons_succ]
            rfl
          refine take_ (i := 15) (N := some 93) (v := ?_) (a' := ?_) #[true, true, true, true, true, true, true, true, true, true, true, true, true, true, true, true, false, false, false, false, false] rfl rfl (by kernel_rfl) (fun _ _ _ h => h) (Or.inl ⟨by rfl, ?_⟩) hHeld ?_ ?_   -- load 4 (%92)
          rotate_left
          · rintro w' ⟨s0, s1, s2, s3, s4, s5⟩
            go_simp
            with_reducible rfl
          rotate_left
          · simp only [Act.put, List.setIfInBounds_toArray, List.set_cons_zero, List.set_cons_succ]
            rfl
          refine one_ (i := 16) (N := some 94) #[true, true, true, true, true, true, true, true, true, true, true, true, true, true, true, true, true, false, false, false, false] rfl rfl (by kernel_rfl) (by decide) (fun K hK => ?_)
          refine call_ 18 #[.int .i64 x, .int .i64 S.length, .bool o.m] (by rfl) rfl (by go_simp; first | done | rfl) ?_
          refine (near_calls _ x S.length o.m HSB.out).mono ?_
          rintro e w' ⟨rfl, hw'⟩
          obtain rfl := hw'
          refine ⟨_, rfl, ?_⟩
          refine hK.out _ _ (HS.out _ (fun b hb => rfl)) (fun hHeld => ?_)
          refine norm_ (a' := ?_) ?_ ?_
          rotate_left
          · simp only [Act.put, List.setIfInBounds_toArray, List.set_cons_zero, List.set_cons_succ]
            rfl
          refine one_ (i := 17) (N := some 95) #[true, true, true, true, true, true, true, true, true, true, true, true, true, true, true, true, true, true, false, false, false] rfl rfl (by kernel_rfl) (by decide) (fun K hK => ?_)
          refine value_ (by rfl) rfl (v := .slice (some ⟨wr.heap.size, 0, none⟩) 1 1) (w1 := wr.drew.alloc (.cells #[.int .i64 (near1 S o x)] 26)) (by go_simp; first | done | rfl) ?_
          refine hK.out _ _ (HS.out _ (fun b hb => old_alloc (w := wr) _ hb)) (fun hHeld => ?_)
          refine norm_ (a' := ?_) ?_ ?_
          rotate_left
          · simp only [Act.put, List.setIfInBounds_toArray, List.set_cons_zero, List.set_cons_succ]
            rfl
          refine one_ (i := 18) (N := some 96) #[true, true, true, true, true, true, true, true, true, true, true, true, true, true, true, true, true, true, true, false, false] rfl rfl (by kernel_rfl) (by decide) (fun K hK => ?_)
          refine step_T _ (by rfl) (N := some 96) (by rfl) _ _ (by rfl) (.slice Av k cv) _ (lits (nearL S o (o.L.take k))) [.int .i64 (near1 S o x)] (by rfl) (by rfl) (V.out.row.drew.alloc _) (Row.one _ _ _) (by simp [Value.oneCell']) (by have := HLL.out; simp [nearL_len]; omega) ?_
          intro v2 w2 hr2 hk2 hat2
          obtain ⟨A2, c2, rfl, _⟩ := hr2.shape
          have hl2 : (lits (nearL S o (o.L.take k)) ++ [Value.int .i64 (near1 S o x)]).length = k + 1 := by have := HKL.out; simp [nearL_len]; omega
          rw [hl2] at hr2 hat2
          rw [hl2]
          have hkw : Keep (fun g => (Value.slice Av k cv).ownBlock = some g) wr w2 := (⟨rfl, rfl, rfl, by simp, fun q hq _ => old_alloc (w := wr) _ hq⟩ : Keep (fun g => (Value.slice Av k cv).ownBlock = some g) wr (wr.drew.alloc (.cells #[.int .i64 (near1 S o x)] 26))).trans hk2 (fun _ h => h) (fun _ h => .inl h)
          refine hK.out _ _ (HS2.out _ hkw) (fun hHeld => ?_)
          refine norm_ (a' := ?_) ?_ ?_
          rotate_left
          · simp only [Act.put, List.setIfInBounds_toArray, List.set_cons_zero, List.set_cons_succ]
            rfl
          refine pure_ (i := 19) (N := some 97) (v := ?_) (a' := ?_) #[true, true, true, true, true, true, true, true, true, true, true, true, true, true, true, true, true, true, true, true, false] rfl rfl (by kernel_rfl) (fun _ _ _ h => h) (Or.inl ⟨by rfl, ?_⟩) ?_ ?_   -- fieldAddr 45 (%8) 4
          rotate_left
          · intro w'
            go_simp
            with_reducible rfl
          rotate_left
          · simp only [Act.put, List.setIfInBounds_toArray, List.set_cons_zero, List.set_cons_succ]
            rfl
          refine last_ (i := 20) (N := none) #[true, true, true, true, true, true, true, true, true, true, true, true, true, true, true, true, true, true, true, true, true] rfl rfl (by kernel_rfl) (by decide) (fun K hK => ?_)
          refine skip_ (by rfl) rfl (w1 := w2.setCell ⟨p, 4, none⟩ (.slice A2 (k + 1) c2)) (by have hf0 := hHeld.2.2.2.2.1; have hz0 := hHeld.1; go_simp; first | done | rfl) ?_
          refine hK.out _ _ ?_
          refine done_ (by kernel_rfl) ?_
          try simp only [NoPanic, Exit.then]
          have NX := hid (V.out.step HKL.out (by rw [nearL_snoc _ _ _ HKL.out, ← HX.out]; exact hr2) hkw (fun g hg => by
            rcases hat2 with e | e
            · exact .inl (by rw [← e]; exact hg)
            · right
              rw [hg] at e
              have := Option.some.inj e
              simp at this
              omega))
          clear hr2 hkw hk2 hat2 hHeld
          go_wp2_with fail
          go_roundg left2
          case measure => omega
          case rel => exact ⟨k + 1, A2, c2, by omega, by go_num, NX⟩
        · obtain rfl : k = L := by have := V.out.kl; have := HL.out; omega
          have T4 := hid (V.out.done HL.out)
          have p0 : wr.cell? ⟨p, 0, none⟩ = some (.int .i64 o.kd) := (blk_cell hbox 0).trans rfl
          have p1 : wr.cell? ⟨p, 1, none⟩ = some (.int .i64 (near1 S o o.a)) := (blk_cell hbox 1).trans rfl
          have p2 : wr.cell? ⟨p, 2, none⟩ = some (.int .i64 (near1 S o o.b)) := (blk_cell hbox 2).trans rfl
          have p3 : wr.cell? ⟨p, 3, none⟩ = some (.int .i64 (near1 S o o.c)) := (blk_cell hbox 3).trans rfl
          have p5 : wr.cell? ⟨p, 5, none⟩ = some (.int .i64 o.fn) := (blk_cell hbox 5).trans rfl
          have p6 : wr.cell? ⟨p, 6, none⟩ = some (.int .i64 o.so) := (blk_cell hbox 6).trans rfl
          have p7 : wr.cell? ⟨p, 7, none⟩ = some (.int .i64 o.n) := (blk_cell hbox 7).trans rfl
          have p8 : wr.cell? ⟨p, 8, none⟩ = some (.bool o.m) := (blk_cell hbox 8).trans rfl
          have f8 : wr.frozen? ⟨p, 8, none⟩ = false := blk_frozen hbox 8
          have HMADE := hid (made_calls _ w (wr.setCell ⟨p, 8, none⟩ (.bool false)) s u S _ (toldO S o) (.slice Av k cv) T4.out (Reads.ofRow T4.out.side.1.2) (toldO.wf HWO.out HSB.out) (by omega))
          clear hkL hk hrd hbox hat2
          go_wp2_with fail
          refine HMADE.out.mono ?_
          rintro e w4 ⟨rfl, h4⟩
          obtain ⟨o', ho'⟩ : ∃ o', o' = toldO S o := ⟨_, rfl⟩
          rw [← ho'] at h4 ⊢
          have hm' := hid (show o'.m = false from by rw [ho']; rfl)
          have hw' := hid (show WfO o' from by rw [ho']; exact toldO.wf HWO.out HSB.out)
          obtain ⟨t, ht⟩ : ∃ t, t = (madeM S o').1 := ⟨_, rfl⟩
          obtain ⟨e9, he9⟩ : ∃ e, e = (madeM S o').2.1 := ⟨_, rfl⟩
          rw [← ht, ← he9]
          rw [HSDO.out] at h4
          have H4 := hid h4
          have HT := hid ht
          have HE9 := hid he9
          have hbx := h4.side.2
          have p0 : w4.cell? ⟨p, 0, none⟩ = some (.int .i64 o'.kd) := (blk_cell hbx 0).trans rfl
          have HSD := hid (show (∀ j, (sideOnce (.slice ax KT cx) (.slice ac KT cc) T Ag).D j → j < p) ∧ w.heap.size ≤ p ∧ ∀ g, (Value.slice Av k cv).ownBlock = some g → p < g from ⟨by rw [← HSDO.out]; exact V.out.sdb, V.out.base, V.out.fresh⟩)
          have HBX := hid hbx
          have HSKIP := hid (show OnceAt w s u (i + 1) (madeM S o').2.2 T (.slice ax KT cx) (.slice ac KT cc) w4 from U.out.2.skip (H4.out.more (by omega)) HDX.out.1 HDX.out.2.2 HDX.out.2.1)
          clear h4 ht he9 HMADE T4 ho' hbx V p1 p2 p3 p4 p5 p6 p7 p8 f8
          by_cases h0 : e9 = 0
          · have HE := hid (show (madeM S o').2.1 = 0 from by rw [← HE9.out]; exact h0)
            subst h0
            by_cases k0 : 0 ≤ o'.kd
            · have k0' : o'.kd ≥ 0 := k0
              by_cases k8 : o'.kd ≤ 8
              · have HX4 := hid (show Row w4 26 (.slice ax KT cx) (lits (T.map (·.2))) from H4.out.side.1.1.1)
                obtain ⟨vs, a1, a2, a3⟩ := (show Opers w4 (.slice ac KT cc) (T.map (·.1)) Ag from H4.out.side.1.1.2).own
                have HKT := hid U.out.1
                have hTl : KT ≤ i := by rw [U.out.1]; exact U.out.2.len
                rw [List.length_map, ← HKT.out] at a2
                have hlt0 : ∀ g, (Value.slice ac KT cc).ownBlock = some g → g < w4.heap.size := fun g hg => (a2.lt g hg).2
                have HOWN := hid (And.intro a1 (And.intro a2 a3))
                have hp4 := blk_lt HBX.out
                have HLT0 := hid hlt0
                clear a1 a2 a3 hlt0
                go_upto_region 24 with (at_builtin; go_loud (refine wp_appT _ rfl _ _ rfl (.slice ax KT cx) _ (lits (T.map (·.2))) [.int .i64 t] (by rfl) (by rfl) (HX4.out.alloc _) (Row.one _ _ _) (by simp [Value.oneCell']) (by have := HKT.out; simp; omega) ?_; intro v2 w6 hr6 hk6 hat6; obtain ⟨A2, c2, rfl, _⟩ := hr6.shape; have hl6 : (lits (T.map (·.2)) ++ [Value.int .i64 t]).length = KT + 1 := (by have := HKT.out; simp; omega); rw [hl6] at hr6 hat6; try rw [hl6]))
                clear p0
                have hat6' : ∀ g, (Value.slice A2 (KT + 1) c2).ownBlock = some g → (Value.slice ax KT cx).ownBlock = some g ∨ (w4.alloc (.cells #[.int .i64 t] 26)).heap.size ≤ g := fun g hg => by
                  rcases hat6 with e | e
                  · exact .inl (by rw [← e]; exact hg)
                  · rw [hg] at e
                    exact .inr (Nat.le_of_eq (Option.some.inj e).symm)
                have hbx6 : w6.heap[p]? = some (.cells (opCells o' (.slice Av k cv)).toArray 45 (0, 0)) := hk6.blk ((old_alloc _ hp4).trans HBX.out) (fun e => by have := HSD.out.1 p (.inl e); omega)
                have p0 : w6.cell? ⟨p, 0, none⟩ = some (.int .i64 o'.kd) := (blk_cell hbx6 0).trans rfl
                have p1 : w6.cell? ⟨p, 1, none⟩ = some (.int .i64 o'.a) := (blk_cell hbx6 1).trans rfl
                have p2 : w6.cell? ⟨p, 2, none⟩ = some (.int .i64 o'.b) := (blk_cell hbx6 2).trans rfl
                have p3 : w6.cell? ⟨p, 3, none⟩ = some (.int .i64 o'.c) := (blk_cell hbx6 3).trans rfl
                have p4 : w6.cell? ⟨p, 4, none⟩ = some (.slice Av k cv) := (blk_cell hbx6 4).trans rfl
                have p5 : w6.cell? ⟨p, 5, none⟩ = some (.int .i64 o'.fn) := (blk_cell hbx6 5).trans rfl
                have p6 : w6.cell? ⟨p, 6, none⟩ = some (.int .i64 o'.so) := (blk_cell hbx6 6).trans rfl
                have p7 : w6.cell? ⟨p, 7, none⟩ = some (.int .i64 o'.n) := (blk_cell hbx6 7).trans rfl
                have p8 : w6.cell? ⟨p, 8, none⟩ = some (.bool o'.m) := (blk_cell hbx6 8).trans rfl
                have HR6 := hid hr6
                have HK6 := hid hk6
                have HAT6 := hid hat6'
                have HOWN7 := hid (show (w6.alloc (.cells (opCells o' (.slice Av k cv)).toArray 45)).ownsRow 0 45 9 (.slice ac KT cc) KT (flatO (T.map (·.1)) vs) from TM.own_move HOWN.out.2.1 (fun g hg => by
                  have h1 := HLT0.out g hg
                  have h2 : (w4.alloc (.cells #[.int .i64 t] 26)).heap.size = w4.heap.size + 1 := by simp
                  have h3 := HK6.out.size
                  exact (old_alloc _ (by omega)).trans ((HK6.out.block g (by omega) (fun e => HDX.out.1 g e (.inl hg))).trans (old_alloc _ h1))))
                clear hr6 hk6 hat6 hat6' hbx6 hp4
                go_wp2_with (at_builtin; go_loud (refine wp_app_op _ rfl _ _ rfl (.slice ac KT cc) KT (flatO (T.map (·.1)) vs) w6.heap.size (opCells o' (.slice Av k cv)) (by rfl) (by rfl) HOWN7.out rfl (fun j u hj => (blk_cell (heap_alloc_new w6 _) j).trans (by simpa using hj)) (by simp [Value.oneCell']) (by omega) ?_; intro v3 w8 ho8 hg8 hat8; obtain ⟨a9, c9, rfl⟩ := own_shape ho8; have HO8 := hid ho8; have HG8 := hid hg8; have HAT8 := hid hat8; clear ho8 hg8 hat8))
                have NX := hid (U.out.2.push (H4.out.more (by omega)) HDX.out.1 HDX.out.2.2 HDX.out.2.1 HSD.out.1 HSD.out.2.1 HSD.out.2.2 hm'.out hw'.out HE.out ((Below.refl w4.heap.size w4).alloc (Nat.le_refl _) _) (by rw [← HT.out]; exact HR6.out) HK6.out HAT6.out ((Below.refl w6.heap.size w6).alloc (Nat.le_refl _) _) (by rw [HOWN.out.1, List.length_map]) HOWN.out.2.2 (by rw [← HKT.out]; exact HO8.out) (Keep.ofGrown HG8.out fun j hj => hj) HAT8.out)
                go_roundg left
                case measure => omega
                case rel => exact ⟨i + 1, KT + 1, _, T ++ [(o', (madeM S o').1)], A2, c2, a9, c9, by omega, rfl, rfl, by go_num, hid ⟨by rw [List.length_append, List.length_singleton, HKT.out], NX.out⟩⟩
              · have k8' : decide (o'.kd ≤ 8) = false := by simpa using k8
                go_wp2_with fail
                go_roundg left
                case measure => omega
                case rel => exact ⟨i + 1, KT, _, T, ax, cx, ac, cc, by omega, rfl, rfl, by go_num, hid ⟨U.out.1, HSKIP.out⟩⟩
            · have k0' : decide (o'.kd ≥ 0) = false := by simpa using k0
              go_wp2_with fail
              go_roundg left
              case measure => omega
              case rel => exact ⟨i + 1, KT, _, T, ax, cx, ac, cc, by omega, rfl, rfl, by go_num, hid ⟨U.out.1, HSKIP.out⟩⟩
          · have h0' : (e9 == 0) = false := by simpa using h0
            go_wp2_with fail
            go_roundg left
            case measure => omega
            case rel => exact ⟨i + 1, KT, _, T, ax, cx, ac, cc, by omega, rfl, rfl, by go_num, hid ⟨U.out.1, HSKIP.out⟩⟩
    · obtain rfl : i = N := by omega
      obtain ⟨Ag, t1, dx, bx, bo⟩ := U.out.2.two
      have HTOLD := hid U.out.2.told
      have HWF := hid U.out.2.wf
      have HGOOD := hid U.out.2.good
      have HKT := hid U.out.1
      have hKb : KT ≤ 100 := by have := U.out.2.len; have := U.out.1; omega
      obtain ⟨q, hq⟩ : ∃ q, q = 6000 + 2000 * i := ⟨_, rfl⟩
      rw [← hq] at t1
      have hqb : q ≤ 206000 := by omega
      have T1 := hid t1
      obtain ⟨M, hM⟩ : ∃ M, M = S.length := ⟨_, rfl⟩
      have HM := hid hM
      have hSb : (M : Int) ≤ 20000 := by have := t1.wf.high; omega
      have HLEN := hid (t1.readS (P := fun e _ => e = .returned (.int .i64 M)) fun F h => by rw [HM.out]; exact Len_calls wr s S q F h)
      clear hiN U t1 dx bx bo hM hq
      go_wp2_with fail
      refine HLEN.out.mono ?_
      rintro e w5 ⟨rfl, hb5, h5⟩
      have T5 := hid h5
      clear hb5 h5 HLEN T1
      go_wp2_with fail
      go_loopg [15] KT (fun left v15 wr => ∃ j : Nat, left + j = KT ∧ v15 = .int .i64 (j : Int) ∧ Hid (TwoAt (sideOnce (.slice ax KT cx) (.slice ac KT cc) T Ag) w wr s u S S (q + 2000 * j)))
      case atStart => exact ⟨0, by omega, rfl, T5⟩
      case round =>
        obtain ⟨j, hj, rfl, X⟩ := hrel
        clear T5
        by_cases hjK : j < KT
        · have hjI : (j : Int) < (KT : Int) := by omega
          cases gk with
          | zero => omega
          | succ left =>
          have hjT : j < T.length := by rw [← HKT.out]; exact hjK
          obtain ⟨pr, hpr⟩ : ∃ pr, pr = T[j] := ⟨_, rfl⟩
          have hmem : pr ∈ T := by rw [hpr]; exact List.getElem_mem hjT
          have hgf : (T.map (·.1))[j]? = some pr.1 := by simp [hjT, hpr]
          have hgs : (lits (T.map (·.2)))[j]? = some (.int .i64 pr.2) := by simp [lits, hjT, hpr]
          have hAG := (HTOLD.out pr hmem).again
          have hwf := HWF.out pr hmem
          obtain ⟨o, t⟩ := pr
          obtain ⟨g, cap, x, hv, _, hcs, hrx, _⟩ := (show Opers wr (.slice ac KT cc) (T.map (·.1)) Ag from X.out.side.2).cells hgf
          injection hv with z1 z2 z3
          subst z1 z3
          obtain ⟨Ax, cx2, rfl, _⟩ := hrx.shape
          obtain ⟨LL, hLL⟩ : ∃ LL, LL = (lits (o, t).1.L).length := ⟨_, rfl⟩
          rw [← hLL] at hcs hrx
          have q0 := hcs 0 _ rfl
          have q1 := hcs 1 _ rfl
          have q2 := hcs 2 _ rfl
          have q3 := hcs 3 _ rfl
          have q4 := hcs 4 _ rfl
          have q5 := hcs 5 _ rfl
          have q6 := hcs 6 _ rfl
          have q7 := hcs 7 _ rfl
          have q8 := hcs 8 _ rfl
          simp only [Nat.add_zero] at q0
          have hmade := made_calls _ w wr s u S _ o (.slice Ax LL cx2) X.out (Reads.ofRow hrx) hwf (by omega)
          rw [hAG] at hmade
          have HMADE := hid hmade
          have HGS := hid hgs
          have HJT := hid hjT
          clear hmade hcs hrx hwf hAG hmem hpr hgf hgs hjT z2 hLL
          go_wp2_with fail
          refine HMADE.out.mono ?_
          rintro e w4 ⟨rfl, h4⟩
          obtain ⟨gx, ox, cpx, hvx, _, _, _, hcx, _⟩ := (show Row w4 26 (.slice ax KT cx) (lits (T.map (·.2))) from h4.side.1).cells (by have := HJT.out; simp; omega)
          injection hvx with z4 z5 z6
          subst z4 z6
          have hxc := (hcx j (by have := HJT.out; simpa using this)).trans HGS.out
          have H4 := hid (show TwoAt (sideOnce (.slice (some ⟨gx, ox, none⟩) KT cx) (.slice (some ⟨g, 0, none⟩) KT cc) T Ag) w w4 s u S S (q + 2000 * (j + 1)) from h4.more (by omega))
          clear hcx h4 z5 HMADE X q0 q1 q2 q3 q4 q5 q6 q7 q8
          have et : (t != t) = false := by simp
          go_wp2_with fail
          go_roundg left
          case measure => omega
          case rel => exact ⟨j + 1, by omega, by go_num, H4⟩
        · obtain rfl : j = KT := by omega
          have HLEN := hid (X.out.readS (P := fun e _ => e = .returned (.int .i64 M)) fun F h => by rw [HM.out]; exact Len_calls wr s S _ F h)
          have hge : ¬ (j : Int) < (j : Int) := by omega
          clear hjK hj
          go_wp2_with fail
          refine HLEN.out.mono ?_
          rintro e w5 ⟨rfl, hb5, h5⟩
          obtain ⟨Q, hQ⟩ : ∃ Q, Q = q + 2000 * j := ⟨_, rfl⟩
          have hQb : Q ≤ 500000 := by omega
          rw [← hQ] at h5
          have T6 := hid (show TwoAt Side.nothing w w5 s u S S Q from h5.conv (fun _ => trivial) (fun _ h => h.elim))
          clear hb5 h5 HLEN X hQ
          have eM : ((M : Int) != (M : Int)) = false := by simp
          go_wp2_with fail
          go_loopg [19, 20] M (fun left v19 v20 wr => ∃ (i : Nat) (Aa : Option Addr) (ca : Nat), left + i = M ∧ v19 = .slice Aa i ca ∧ v20 = .int .i64 (i : Int) ∧ Hid (AllAt w s u S Q i (.slice Aa i ca) wr))
          case atStart => exact ⟨0, none, 0, by omega, rfl, rfl, hid (AllAt.start T6.out)⟩
          case round =>
            obtain ⟨i2, Aa, ca, hi2, rfl, rfl, Y⟩ := hrel
            clear T6 eM
            by_cases hiM : i2 < M
            · have hiI : (i2 : Int) < (M : Int) := by omega
              cases gk with
              | zero => omega
              | succ left2 =>
              obtain ⟨Ab, y1, y2⟩ := Y.out.two
              have hhas : hasM S (i2 : Int) = true := has_of (by rw [← HM.out]; exact hiM)
              have hnd1 : S[i2]? = some (nodeM S (i2 : Int)) := by have := nodes_get hhas; rwa [Int.toNat_natCast] at this
              have HNODE := hid (y1.readS (P := ShowN wr (nodeE S (i2 : Int)) (hasE S (i2 : Int))) fun F h => (Node_calls wr s S Q F (i2 : Int) h).mono fun e w' hh => ⟨hh, (by obtain ⟨x, _, _, _, hb⟩ := hh; exact hb)⟩)
              rw [show nodeE S (i2 : Int) = nodeM S (i2 : Int) from if_pos hhas, show hasE S (i2 : Int) = 0 from if_pos hhas] at HNODE
              have HLOW := hid (HGOOD.out.low i2 _ hnd1)
              have HWN := hid (y1.wf.has hhas)
              have HND1 := hid hnd1
              have HONE := hid (show ∀ k, k < i2 → sameM (nodeM S (i2 : Int)) (nodeM S (k : Int)) = false from fun k hk => sameM_ne fun e => by
                have hk2 : S[k]? = some (nodeM S (k : Int)) := by have := nodes_get (has_of (S := S) (i := k) (by have := HM.out; omega)); rwa [Int.toNat_natCast] at this
                rw [← e] at hk2
                have := HGOOD.out.one i2 k _ hnd1 hk2
                omega)
              obtain ⟨nd, hnd⟩ : ∃ nd, nd = nodeM S (i2 : Int) := ⟨_, rfl⟩
              rw [← hnd] at HNODE HLOW HWN HND1 HONE
              obtain ⟨no, nf, nn, ns, args⟩ := nd
              obtain ⟨K, hK⟩ : ∃ K, K = args.length := ⟨_, rfl⟩
              have HK := hid hK
              have hKb2 : K ≤ 2000 := by have := HWN.out.len; rw [hK]; exact this
              have HY2 := hid y2
              have Y1 := hid y1
              clear hnd hK hhas hiM hnd1 y1 y2
              go_wp2_with fail
              refine HNODE.out.mono ?_
              rintro e w6 ⟨⟨x, rfl, hrx, hfx, hb6⟩, _, h6⟩
              obtain ⟨ax, cx, rfl, _⟩ := hrx.shape
              rw [show (lits args).length = K from by simp [HK.out]] at hrx hfx
              rw [show (lits (NodeM.mk no nf nn ns args).args).length = K from by simp [HK.out]]
              have HRX := hid hrx
              have HFX := hid hfx
              have HB6 := hid hb6
              clear hrx hfx hb6 h6 HNODE
              have hbw7 : Below wr.heap.size wr (w6.alloc (.cells #[.int .u8 no, .int .i64 nf, .int .i64 nn, .int .i64 ns, .slice ax K cx] 54)) := HB6.out.alloc HB6.out.size _
              have A7 := hid (show TwoAt (sideAll (.slice Aa i2 ca) S i2 Ab w6.heap.size ⟨no, nf, nn, ns, args⟩ (.slice ax K cx)) w _ s u S S Q from
                Y1.out.beside hbw7 (sd2 := (Side.obj w6.heap.size (.cells (head ⟨no, nf, nn, ns, args⟩ (.slice ax K cx)).toArray 54 (0, 0))).and (Side.row 26 (.slice ax K cx) (lits args))) ⟨heap_alloc_new w6 _, HRX.out.alloc _⟩ (fun j hj => hj.elim (fun e => by rw [show j = w6.heap.size from e]; exact HB6.out.size) (fun e => HFX.out j e)))
              have HDP := hid (show (∀ j, (sideNs (.slice Aa i2 ca) (S.take i2) Ab).D j → j < w6.heap.size) ∧ (∀ g, (Value.slice ax K cx).ownBlock = some g → w.heap.size ≤ g) ∧ ∀ g, (Value.slice ax K cx).ownBlock = some g → (Value.slice Aa i2 ca).ownBlock ≠ some g from
                ⟨fun j hj => Nat.lt_of_lt_of_le ((sideNs (.slice Aa i2 ca) (S.take i2) Ab).lt _ Y1.out.side j hj) HB6.out.size, fun g hg => Nat.le_trans Y1.out.bel.size (HFX.out g hg), fun g hg e => by
                  have h1 := HFX.out g hg
                  have h2 := (sideNs (.slice Aa i2 ca) (S.take i2) Ab).lt _ Y1.out.side g (.inl e)
                  omega⟩)
              have hbx7 := A7.out.side.2.1
              have p4 : (w6.alloc (.cells #[.int .u8 no, .int .i64 nf, .int .i64 nn, .int .i64 ns, .slice ax K cx] 54)).cell? ⟨w6.heap.size, 4, none⟩ = some (.slice ax K cx) := (blk_cell hbx7 4).trans rfl
              have HROW := hid A7.out.side.2.2
              clear hbw7 hbx7 HRX HFX HB6 Y1
              obtain ⟨W7, hW7⟩ : ∃ W, W = w6.alloc (.cells #[.int .u8 no, .int .i64 nf, .int .i64 nn, .int .i64 ns, .slice ax K cx] 54) := ⟨_, rfl⟩
              obtain ⟨p, hp⟩ : ∃ p, p = w6.heap.size := ⟨_, rfl⟩
              go_upto_region 41 with fail
              rw [← hW7, ← hp]
              rw [← hW7, ← hp] at p4
              rw [show (w6.alloc (.cells (head ⟨no, nf, nn, ns, args⟩ (.slice ax K cx)).toArray 54)) = W7 from hW7.symm, ← hp] at A7
              rw [← hW7] at HROW
              rw [← hp] at HDP
              clear hW7 hp
              go_wp2_with fail
              go_loop [23] (fun v23 => ∃ k : Nat, v23 = .int .i64 (k : Int) ∧ k ≤ K) (fun v23 => K - (intOf v23).toNat)
              case atStart => exact ⟨0, rfl, by omega⟩
              case round =>
                obtain ⟨k, rfl, hk⟩ := hrel
                by_cases hkK : k < K
                · have hkI : (k : Int) < (K : Int) := by omega
                  have hkl : k < args.length := by rw [← HK.out]; exact hkK
                  obtain ⟨gx, ox, cpx, hvx, _, _, _, hcx, _⟩ := (show Row W7 26 (.slice ax K cx) (lits args) from HROW.out).cells (by simp; omega)
                  injection hvx with z4 z5 z6
                  subst z4 z6
                  obtain ⟨y, hy⟩ : ∃ y, y = args.getD k 0 := ⟨_, rfl⟩
                  have hyc := (hcx k (by simpa using hkl)).trans (lits_get _ _ hkl)
                  rw [← hy] at hyc
                  have hlow := HLOW.out y (show y ∈ args from by rw [hy]; exact TM.getD_in hkl)
                  have e1 : decide (y ≥ (i2 : Int)) = false := by simp; omega
                  have e2 : decide (y < 0) = false := by simp; omega
                  have e3 : ¬ (y ≥ (i2 : Int)) := by omega
                  have e4 : ¬ (y < 0) := by omega
                  clear hcx z5 hy hlow hkl
                  go_wp2_with fail
                  go_round
                  case rel => exact ⟨k + 1, by go_num, by omega⟩
                  case measure => simp [intOf]; omega
                · obtain rfl : k = K := by omega
                  have hge3 : ¬ (k : Int) < (k : Int) := by omega
                  clear hkK hk
                  go_wp2_with fail
                  go_loopg [24] i2 (fun left v24 wr => ∃ k2 : Nat, left + k2 = i2 ∧ v24 = .int .i64 (k2 : Int) ∧ Hid (TwoAt (sideAll (.slice Aa i2 ca) S i2 Ab p ⟨no, nf, nn, ns, args⟩ (.slice ax k cx)) w wr s u S S Q))
                  case atStart => exact ⟨0, by omega, rfl, A7⟩
                  case round =>
                    obtain ⟨k2, hk2, rfl, Z⟩ := hrel
                    clear A7 HROW p4 hge3
                    have hbox := Z.out.side.2.1
                    have q0 : wr.cell? ⟨p, 0, none⟩ = some (.int .u8 no) := (blk_cell hbox 0).trans rfl
                    have q1 : wr.cell? ⟨p, 1, none⟩ = some (.int .i64 nf) := (blk_cell hbox 1).trans rfl
                    have q2 : wr.cell? ⟨p, 2, none⟩ = some (.int .i64 nn) := (blk_cell hbox 2).trans rfl
                    have q3 : wr.cell? ⟨p, 3, none⟩ = some (.int .i64 ns) := (blk_cell hbox 3).trans rfl
                    have q4 : wr.cell? ⟨p, 4, none⟩ = some (.slice ax k cx) := (blk_cell hbox 4).trans rfl
                    clear hbox
                    have hil2 : i2 < S.length := by rw [← HM.out]; omega
                    have hlen2 : (S.take i2).length = i2 := by rw [List.length_take]; omega
                    by_cases hki : k2 < i2
                    · have hkI : (k2 : Int) < (i2 : Int) := by omega
                      cases gk with
                      | zero => omega
                      | succ left3 =>
                      have hg2 : (S.take i2)[k2]? = some (nodeM S (k2 : Int)) := by
                        have := nodes_get (has_of (S := S) (i := k2) (by omega))
                        rw [Int.toNat_natCast] at this
                        rw [List.getElem?_take, if_pos hki]
                        exact this
                      obtain ⟨ga, cpa, z, hv, _, hca, hrz, _⟩ := (show Nodes wr (.slice Aa i2 ca) (S.take i2) Ab from Z.out.side.1).cells hg2
                      rw [hlen2] at hv
                      injection hv with z1 z2 z3
                      subst z1 z3
                      have hone := HONE.out k2 hki
                      obtain ⟨m, hm⟩ : ∃ m, m = nodeM S (k2 : Int) := ⟨_, rfl⟩
                      rw [← hm] at hca hrz hone
                      obtain ⟨mo, mf, mn, ms, margs⟩ := m
                      obtain ⟨az, cz, rfl, _⟩ := hrz.shape
                      obtain ⟨LZ, hLZ⟩ : ∃ LZ, LZ = (lits (NodeM.mk mo mf mn ms margs).args).length := ⟨_, rfl⟩
                      rw [← hLZ] at hca hrz
                      have m0 := hca 0 _ rfl
                      have m1 := hca 1 _ rfl
                      have m2 := hca 2 _ rfl
                      have m3 := hca 3 _ rfl
                      have m4 := hca 4 _ rfl
                      simp only [Nat.add_zero] at m0
                      have HSAME := hid (fun (W : World) (hW : Below wr.heap.size wr W) => (by
                        have h1 := same_calls W ⟨no, nf, nn, ns, args⟩ ⟨mo, mf, mn, ms, margs⟩ (.slice ax k cx) (.slice az LZ cz) (Row.bel Z.out.side.2.2 hW) (Row.bel hrz hW)
                        rw [hone] at h1
                        exact h1 : Calls Try.prog 21 #[nodeV ⟨no, nf, nn, ns, args⟩ (.slice ax k cx), nodeV ⟨mo, mf, mn, ms, margs⟩ (.slice az LZ cz)] W fun e w' => e = .returned (.bool false) ∧ Below W.heap.size W w'))
                      clear hca hrz hone hm hLZ z2 hg2 hlen2 hil2
                      go_wp2_with fail
                      go_still_tail 5, (by kernel_rfl)
                      change wpList _ _ _ _ _ wr.drew
                      have hbd : Below wr.heap.size wr wr.drew := ⟨rfl, rfl, rfl, Nat.le_refl _, fun _ _ => rfl⟩
                      have HS1 := hid (HSAME.out wr.drew hbd)
                      have HBD := hid hbd
                      clear hbd HSAME
                      go_wp2_with fail
                      refine HS1.out.mono ?_
                      rintro e w8 ⟨rfl, hb8⟩
                      have ZN := hid (Z.out.below (TM.bel HBD.out hb8))
                      clear hb8 HS1 q0 q1 q2 q3 q4 m0 m1 m2 m3 m4
                      go_wp2_with fail
                      go_roundg left3
                      case measure => omega
                      case rel => exact ⟨k2 + 1, by omega, by go_num, ZN⟩
                    · obtain rfl : k2 = i2 := by omega
                      have hge4 : ¬ (k2 : Int) < (k2 : Int) := by omega
                      obtain ⟨vs, a1, a2, a3⟩ := (show Nodes wr (.slice Aa k2 ca) (S.take k2) Ab from Z.out.side.1).own
                      rw [hlen2] at a1 a2
                      have HOWN2 := hid (show (wr.alloc (.cells (head ⟨no, nf, nn, ns, args⟩ (.slice ax k cx)).toArray 54)).ownsRow 0 54 5 (.slice Aa k2 ca) k2 (flat (S.take k2) vs) from TM.own_move a2 (fun g hg => old_alloc _ (a2.lt g hg).2))
                      have HOWN := hid (And.intro a1 a3)
                      clear a1 a2 a3 hki hk2 hlen2 hil2
                      go_wp2_with (at_builtin; go_loud (refine wp_app_nd _ rfl _ _ rfl (.slice Aa k2 ca) k2 (flat (S.take k2) vs) wr.heap.size (head ⟨no, nf, nn, ns, args⟩ (.slice ax k cx)) (by rfl) (by rfl) HOWN2.out rfl (fun j u hj => (blk_cell (heap_alloc_new wr _) j).trans (by simpa using hj)) (by simp [Value.oneCell']) (by omega) ?_; intro v3 w8 ho8 hg8 hat8; obtain ⟨a9, c9, rfl⟩ := own_shape ho8; have HO8 := hid ho8; have HG8 := hid hg8; have HAT8 := hid hat8; clear ho8 hg8 hat8))
                      have NX := hid (AllAt.step Z.out HY2.out HDP.out.1 HDP.out.2.1 HDP.out.2.2 HND1.out ((Below.refl wr.heap.size wr).alloc (Nat.le_refl _) _) HOWN.out.1 HOWN.out.2 HO8.out (Keep.ofGrown HG8.out fun j hj => hj) HAT8.out)
                      go_roundg left2
                      case measure => omega
                      case rel => exact ⟨k2 + 1, a9, c9, by omega, rfl, by go_num, NX⟩
            · obtain rfl : i2 = M := by omega
              have HEND := hid (show Below w.heap.size w wr from by obtain ⟨Ab, y1, y2⟩ := Y.out.two; exact y1.bel)
              have HKN := hid (known_calls wr)
              have hge2 : ¬ (i2 : Int) < (i2 : Int) := by omega
              clear hiM Y
              go_wp2_with fail
              refine HKN.out.mono ?_
              rintro e w9 ⟨rfl, b9⟩
              go_wp2_with fail
              go_ret
              exact ⟨rfl, TM.bel HEND.out b9⟩
end Go.Proofs.Ytmgbodmpjholiaa.Hk
