/- Walk of the law HeapTrails. -/
import Derived.Test.YtegcfaohhcjajaaTwo
namespace Go.Proofs.Ytegcfaohhcjajaa.Hk
open Go.RowKit Go.Proofs.YtegcfaohhcjajaaW.PrintWords Go.Proofs.YtegcfaohhcjajaaW.PrintLast Go.Proofs.YtegcfaohhcjajaaW.PrintMore Go.Proofs.Ytegcfaohhcjajaa.MM Go.Proofs.Ytegcfaohhcjajaa.TW
attribute [local go_sem ↓] Go.wp_at_zero Go.wp_at_succ
set_option linter.unusedSimpArgs false
set_option linter.unusedVariables false

/-- How a trail and the document's one hang together. -/
structure Inv (row : List ByteArray) (marks ats : List Nat) (lev : Nat) : Prop where
  levE : lev = marks.length
  len : ats.length = row.length
  top : ∀ i, i < row.length → ats.getD i 0 ≤ lev
  le : ∀ (j n : Nat), marks[j]? = some n → n ≤ row.length
  lo : ∀ (j n : Nat), marks[j]? = some n → ∀ i, i < n → ats.getD i 0 ≤ j
  hi : ∀ (j n : Nat), marks[j]? = some n → ∀ i, n ≤ i → i < row.length → j < ats.getD i 0
theorem Inv.zero : Inv [] [] [] 0 := ⟨rfl, rfl, by simp, by simp, by simp, by simp⟩
theorem getD_snoc (l : List Nat) (x i : Nat) : (l ++ [x]).getD i 0 = if i < l.length then l.getD i 0 else if i = l.length then x else 0 := by
  simp only [List.getD_eq_getElem?_getD, List.getElem?_append]
  by_cases h : i < l.length
  · rw [if_pos h, if_pos h]
  · rw [if_neg h, if_neg h]
    by_cases e : i = l.length
    · subst e; simp
    · rw [if_neg e, List.getElem?_eq_none (by simp; omega)]; rfl
theorem Inv.push {row : List ByteArray} {marks ats : List Nat} {lev : Nat} (h : Inv row marks ats lev) (x : ByteArray) : Inv (row ++ [x]) marks (ats ++ [lev]) lev where
  levE := h.levE
  len := by simp [h.len]
  top := fun i hi => by
    rw [getD_snoc, h.len]
    split
    · rename_i h1; exact h.top i h1
    · split <;> omega
  le := fun j n hj => by have := h.le j n hj; simp; omega
  lo := fun j n hj i hi => by
    have h1 := h.le j n hj
    rw [getD_snoc, h.len, if_pos (by omega)]
    exact h.lo j n hj i hi
  hi := fun j n hj i hn hi => by
    rw [getD_snoc, h.len]
    have hjl : j < marks.length := (List.getElem?_eq_some_iff.1 hj).1
    by_cases h1 : i < row.length
    · rw [if_pos h1]; exact h.hi j n hj i hn h1
    · rw [if_neg h1, if_pos (by simp at hi; omega), h.levE]; exact hjl
theorem Inv.mark {row : List ByteArray} {marks ats : List Nat} {lev : Nat} (h : Inv row marks ats lev) : Inv row (marks ++ [row.length]) ats (lev + 1) := by
  have key : ∀ j n, (marks ++ [row.length])[j]? = some n → marks[j]? = some n ∨ (j = lev ∧ n = row.length) := by
    intro j n hj
    rw [List.getElem?_append] at hj
    split at hj
    · exact .inl hj
    · rename_i h1
      have h2 : j - marks.length = 0 := by
        have := (List.getElem?_eq_some_iff.1 hj).1
        simpa using this
      rw [h2] at hj
      have h3 : row.length = n := by simpa using hj
      exact .inr ⟨by rw [h.levE]; omega, h3.symm⟩
  refine ⟨by simp [h.levE], h.len, fun i hi => Nat.le_succ_of_le (h.top i hi), fun j n hj => ?_, fun j n hj i hi => ?_, fun j n hj i hn hi => ?_⟩
  · rcases key j n hj with k | ⟨_, rfl⟩
    · exact h.le j n k
    · exact Nat.le_refl _
  · rcases key j n hj with k | ⟨rfl, rfl⟩
    · exact h.lo j n k i hi
    · exact h.top i hi
  · rcases key j n hj with k | ⟨rfl, rfl⟩
    · exact h.hi j n k i hn hi
    · omega
theorem getD_take (l : List Nat) (n i : Nat) (h : i < n) : (l.take n).getD i 0 = l.getD i 0 := by
  simp only [List.getD_eq_getElem?_getD, List.getElem?_take, if_pos h]
theorem Inv.back {row : List ByteArray} {marks ats : List Nat} {lev : Nat} (h : Inv row marks ats lev) {level n : Nat} (hn : marks[level]? = some n) : Inv (row.take n) (marks.take level) (ats.take n) level := by
  have hl := (List.getElem?_eq_some_iff.1 hn).1
  have hnr := h.le _ _ hn
  have key : ∀ j m, (marks.take level)[j]? = some m → marks[j]? = some m ∧ j < level := by
    intro j m hj
    rw [List.getElem?_take] at hj
    split at hj
    · rename_i h1; exact ⟨hj, h1⟩
    · cases hj
  refine ⟨by simp; omega, by simp [h.len], fun i hi => ?_, fun j m hj => ?_, fun j m hj i hi => ?_, fun j m hj i hm hi => ?_⟩
  · have hin : i < n := by simp at hi; omega
    rw [getD_take _ _ _ hin]
    exact h.lo _ _ hn i hin
  · obtain ⟨hj, hjl⟩ := key j m hj
    have h1 := h.le _ _ hj
    simp only [List.length_take]
    refine Nat.le_min.2 ⟨Nat.le_of_not_lt fun hc => ?_, h1⟩
    have h2 := h.hi _ _ hn n (Nat.le_refl _) (by omega)
    have h3 := h.lo _ _ hj n hc
    omega
  · obtain ⟨hj, hjl⟩ := key j m hj
    by_cases hin : i < n
    · rw [getD_take _ _ _ hin]
      exact h.lo _ _ hj i hi
    · rw [List.getD_eq_getElem?_getD, List.getElem?_take, if_neg hin]
      exact Nat.zero_le _
  · obtain ⟨hj, hjl⟩ := key j m hj
    have hin : i < n := by simp at hi; omega
    rw [getD_take _ _ _ hin]
    exact h.hi _ _ hj i hm (by omega)

/-- Both go back. -/
theorem back_both {w0 : World} {t u : Nat} {row : List ByteArray} {marks ats : List Nat} {lev : Nat} (hI : Inv row marks ats lev) (f1 : Int) (hrl : row.length < 1000000) (hml : marks.length < 1000000) :
    ∃ (went rowN : List ByteArray) (marksN atsN : List Nat) (levN : Nat), Inv rowN marksN atsN levN ∧ rowN.length ≤ row.length ∧ marksN.length ≤ marks.length ∧ went.length ≤ row.length ∧
      (∀ S W, Two w0 t u row marks row ats lev S W → Calls Try.prog 13 #[TS.ptr t, .int .i64 f1] W fun e w' => ∃ A c, e = .returned (.slice A went.length c) ∧ Two w0 t u rowN marksN row ats lev (S.and (Side.row 9 (.slice A went.length c) (TS.elems went))) w') ∧
      (∀ S W, Two w0 t u rowN marksN row ats lev S W → Calls Try.prog 14 #[TS.ptr u, .int .i64 f1] W fun e w' => ∃ A c, e = .returned (.slice A went.length c) ∧ Two w0 t u rowN marksN rowN atsN levN (S.and (Side.row 9 (.slice A went.length c) (TS.elems went))) w') := by
  by_cases hv : 0 ≤ f1 ∧ f1 < marks.length
  · obtain ⟨l, rfl⟩ : ∃ l : Nat, f1 = (l : Int) := ⟨f1.toNat, by omega⟩
    have hl : l < marks.length := by omega
    have hn := List.getElem?_eq_getElem hl
    generalize marks[l] = n at hn
    have hle := hI.le _ _ hn
    refine ⟨(row.drop n).reverse, row.take n, marks.take l, ats.take n, l, hI.back hn, by simp; omega, by simp; omega, by simp, fun S W h => ?_, fun S W h => ?_⟩
    · refine (h.row1 (Q := fun _ => True) (row' := row.take n) (marks' := marks.take l) (e := 9) (xs := TS.elems (row.drop n).reverse) (fun F hF => TS.Back_calls W t row marks F l n hF hn hle hrl hml)).mono fun e w' ⟨v, he, h2⟩ => ?_
      have hr : Row w' 9 v (TS.elems (row.drop n).reverse) := h2.side.2
      obtain ⟨A, c, rfl, _, _⟩ := hr.shape
      rw [List.length_map] at he h2
      exact ⟨A, c, he, h2⟩
    · refine (h.row2_ (row2' := row.take n) (ats' := ats.take n) (lev' := l) (e := 9) (xs := TS.elems (row.drop n).reverse) (fun F hF => RT.Back_calls W u row ats lev F l n hF hI.len (by rw [hI.levE]; exact hl) hle (fun i hi => hI.lo _ _ hn i hi) (fun i h1 h2 => hI.hi _ _ hn i h1 h2) hrl)).mono fun e w' ⟨v, he, h2⟩ => ?_
      have hr : Row w' 9 v (TS.elems (row.drop n).reverse) := h2.side.2
      obtain ⟨A, c, rfl, _, _⟩ := hr.shape
      rw [List.length_map] at he h2
      exact ⟨A, c, he, h2⟩
  · refine ⟨[], row, marks, ats, lev, hI, Nat.le_refl _, Nat.le_refl _, Nat.zero_le _, fun S W h => ?_, fun S W h => ?_⟩
    · refine (h.quiet (Q := fun e _ => e = .returned (.slice none 0 0)) (fun F hF => TS.back_none W t row marks F f1 hF (by omega))).mono fun e w' ⟨he, h2⟩ => ⟨none, 0, he, h2.nilRow _⟩
    · refine (h.quiet2 (Q := fun e _ => e = .returned (.slice none 0 0)) (fun F hF => RT.Back_none W u row ats lev F f1 hF (by rw [hI.levE]; omega))).mono fun e w' ⟨he, h2⟩ => ⟨none, 0, he, h2.nilRow _⟩
/-- The loop over the calls. -/
structure At (w : World) (t u : Nat) (row : List ByteArray) (marks ats : List Nat) (lev k : Nat) (wr : World) : Prop where
  two : Two w t u row marks row ats lev Side.nothing wr
  inv : Inv row marks ats lev
  rk : row.length ≤ k
  mkk : marks.length ≤ k
theorem steps_open {w : World} {A : Option Addr} {n : Nat} {xs : List S32} (h : Kd.C k32 w A n xs) (h0 : 0 < xs.length) : ∃ b off, A = some ⟨b, off, none⟩ := by
  have hn := h.1
  obtain ⟨ad, e, hc, _⟩ := at_T32 h 0 (by omega) (by omega)
  obtain ⟨b, off, sp⟩ := ad
  have hsp : sp = none := by
    unfold World.cell? at hc
    simp only [Addr.add] at hc
    cases sp with
    | none => rfl
    | some s => split at hc <;> simp at hc
  subst hsp
  exact ⟨b, off, e⟩
theorem steps_cell {w : World} {b off n : Nat} {xs : List S32} (h : Kd.C k32 w (some ⟨b, off, none⟩) n xs) (i : Nat) (hi : i < xs.length) :
    w.cell? ⟨b, off + i * 3, none⟩ = some (.int .i64 (xs.getD i z32).f0) ∧ w.cell? ⟨b, off + i * 3 + 1, none⟩ = some (.int .i64 (xs.getD i z32).f1) ∧ w.cell? ⟨b, off + i * 3 + 2, none⟩ = some (.string (xs.getD i z32).f2) := by
  have hn := h.1
  obtain ⟨ad, e, h1, h2, h3⟩ := at_T32 h (i : Int) (by omega) (by omega)
  cases e
  rw [Int.toNat_natCast, Addr.add_lit] at h1 h2 h3
  unfold rd_T32 at h1 h2 h3
  rw [Int.toNat_natCast] at h1 h2 h3
  exact ⟨h1, h2, h3⟩
set_option maxRecDepth 100000 in
set_option maxHeartbeats 3200000 in
theorem trails_main (w : World) (A0 : Option Addr) (c0 : Nat) (l0 : List S32) (h0 : Kd.C k32 w A0 l0.length l0) (g0 : l0.length ≤ 500) :
    Calls Try.prog 3 #[.slice A0 l0.length c0] w fun e w' => e = .returned (.bool true) ∧ Below w.heap.size w w' := by
  obtain ⟨n0, hn0⟩ : ∃ n, n = l0.length := ⟨_, rfl⟩
  rw [← hn0] at h0 g0 ⊢
  have d0 : ¬ ((n0 : Int) > 500) := by omega
  have HC0 := hid h0
  have HN0 := hid hn0
  clear h0 hn0
  go_enter Try.func3, Try.ntmps3
  go_wp2_with fail
  obtain ⟨W0, hW0⟩ : ∃ W, W = ((w.alloc (.cells #[.slice none 0 0, .slice none 0 0] 27)).alloc (.cells #[.slice none 0 0, .slice none 0 0, .int .i64 0] 30)) := ⟨_, rfl⟩
  have Z := hid (two_zero w)
  rw [← hW0] at Z ⊢
  obtain ⟨t, ht⟩ : ∃ t, t = w.heap.size := ⟨_, rfl⟩
  obtain ⟨u, hu⟩ : ∃ u, u = w.heap.size + 1 := ⟨_, rfl⟩
  rw [← hu, ← ht] at Z ⊢
  clear hW0 ht hu
  go_loopg [24] n0 (fun left v24 wr => ∃ k row marks ats lev, left + k = n0 ∧ v24 = .int .i64 (k : Int) ∧ Hid (At w t u row marks ats lev k wr))
  case atStart => exact ⟨0, [], [], [], 0, by omega, rfl, hid ⟨Z.out, Inv.zero, by simp, by simp⟩⟩
  case round =>
    obtain ⟨k, row, marks, ats, lev, hk, rfl, U⟩ := hrel
    clear Z
    by_cases hkn : k < n0
    · have hkI : (k : Int) < (n0 : Int) := by omega
      have hkl : k < l0.length := by rw [← HN0.out]; exact hkn
      obtain ⟨b, off, rfl⟩ := steps_open HC0.out (by omega)
      obtain ⟨x0, x1, x2⟩ := steps_cell (Kd.C_below HC0.out U.out.two.bel) k hkl
      obtain ⟨⟨f0, f1, f2⟩, hxx⟩ : ∃ x, x = l0.getD k z32 := ⟨_, rfl⟩
      rw [← hxx] at x0 x1 x2
      replace x0 : wr.cell? ⟨b, off + k * 3, none⟩ = some (.int .i64 f0) := x0
      replace x1 : wr.cell? ⟨b, off + k * 3 + 1, none⟩ = some (.int .i64 f1) := x1
      replace x2 : wr.cell? ⟨b, off + k * 3 + 2, none⟩ = some (.string f2) := x2
      clear hxx hkl
      have hrow : row.length < 1000000 := by have := U.out.rk; omega
      have hmrk : marks.length < 1000000 := by have := U.out.mkk; omega
      have HROW := hid hrow
      have HMRK := hid hmrk
      clear hrow hmrk
      cases gk with
      | zero => omega
      | succ left =>
      by_cases k1 : f0 = 1
      · subst k1
        go_wp2_with fail
        obtain ⟨W1, hW1⟩ : ∃ W, W = wr.alloc (.cells #[.int .i64 1, .int .i64 f1, .string f2] 32) := ⟨_, rfl⟩
        obtain ⟨Xb, hXb⟩ : ∃ b, b = wr.heap.size := ⟨_, rfl⟩
        have T1 : Hid (Two w t u row marks row ats lev (Side.nothing.and (Side.obj Xb (.cells #[.int .i64 1, .int .i64 f1, .string f2] 32 (0, 0)))) W1) := hid (by
          rw [hW1, hXb]
          exact U.out.two.new ((Below.refl _ _).alloc (Nat.le_refl _) _) _ (heap_alloc_new wr _) (fun j hj => by rw [show j = wr.heap.size from hj]; exact Nat.le_refl _))
        rw [← hW1, ← hXb]
        clear hW1 hXb
        have HXC := hid (fun (W : World) (h : W.heap[Xb]? = some (.cells #[.int .i64 1, .int .i64 f1, .string f2] 32 (0, 0))) => (show W.cell? ⟨Xb, 1, none⟩ = some (.int .i64 f1) ∧ W.cell? ⟨Xb, 2, none⟩ = some (.string f2) from ⟨(blk_cell h 1).trans rfl, (blk_cell h 2).trans rfl⟩))
        have x1 := (HXC.out _ T1.out.side.2).1
        have x2 := (HXC.out _ T1.out.side.2).2
        refine (T1.out.turn1 (row' := row ++ [f2]) (marks' := marks) (fun F h => TS.Push_calls W1 t row marks F f2 h HROW.out)).mono ?_
        rintro e W2 ⟨rfl, t2⟩
        have T2 := hid t2
        have x3 := (HXC.out _ T2.out.side.2).2
        clear t2
        go_wp2_with fail
        refine (T2.out.turn2 (row2' := row ++ [f2]) (ats' := ats ++ [lev]) (lev' := lev) (fun F h => RT.Push_calls W2 u row ats lev F f2 h HROW.out (by rw [U.out.inv.len]; exact HROW.out))).mono ?_
        rintro e W3 ⟨rfl, t3⟩
        have TT := hid t3
        clear t3 x3 x2 x1 T1 T2
        have x1 := (HXC.out _ TT.out.side.2).1
        have x2 := (HXC.out _ TT.out.side.2).2
        have x0 := x2
        obtain ⟨rowT, hrT⟩ : ∃ r, r = row ++ [f2] := ⟨_, rfl⟩
        obtain ⟨levT, hlT⟩ : ∃ r, r = lev := ⟨_, rfl⟩
        have INV0 : Inv (row ++ [f2]) (marks) (ats ++ [lev]) (lev) := U.out.inv.push f2
        obtain ⟨atsT, haT⟩ : ∃ r, r = ats ++ [lev] := ⟨_, rfl⟩
        obtain ⟨marksT, hmT⟩ : ∃ r, r = marks := ⟨_, rfl⟩
        have RK : Hid (rowT.length ≤ k + 1) := hid (by rw [hrT]; have := U.out.rk; simp; omega)
        have MKK : Hid (marksT.length ≤ k + 1) := hid (by rw [hmT]; have := U.out.mkk; omega)
        rw [← haT, ← hmT] at TT INV0
        rw [← hrT] at TT INV0
        rw [← hlT] at TT INV0
        have INV := hid INV0
        clear hrT hlT haT hmT INV0
        obtain ⟨Au, cu, hu0, hu2, _, _, _⟩ := TT.out.cells
        have LQ := hid (fun m => (TT.out.drewN m).lenq)
        have VQ := hid (fun m => (TT.out.drewN m).levq INV.out.levE)
        clear x0 x1 x2
        go_wp2_with fail
        go_quiet (first | exact Calls.quiet_of (LQ.out _) | exact Calls.quiet_of (VQ.out _))
        go_wp2_with fail
        go_roundg left
        case measure => omega
        case rel => exact ⟨k + 1, rowT, marksT, atsT, levT, by omega, rfl, hid ⟨(TT.out.drewN _).off, INV.out, RK.out, MKK.out⟩⟩
      · have e1 : (f0 == 1) = false := by simpa using k1
        by_cases k2 : f0 = 2
        · subst k2
          clear k1
          go_wp2_with fail
          obtain ⟨W1, hW1⟩ : ∃ W, W = wr.alloc (.cells #[.int .i64 2, .int .i64 f1, .string f2] 32) := ⟨_, rfl⟩
          obtain ⟨Xb, hXb⟩ : ∃ b, b = wr.heap.size := ⟨_, rfl⟩
          have T1 : Hid (Two w t u row marks row ats lev (Side.nothing.and (Side.obj Xb (.cells #[.int .i64 2, .int .i64 f1, .string f2] 32 (0, 0)))) W1) := hid (by
            rw [hW1, hXb]
            exact U.out.two.new ((Below.refl _ _).alloc (Nat.le_refl _) _) _ (heap_alloc_new wr _) (fun j hj => by rw [show j = wr.heap.size from hj]; exact Nat.le_refl _))
          rw [← hW1, ← hXb]
          clear hW1 hXb
          have HXC := hid (fun (W : World) (h : W.heap[Xb]? = some (.cells #[.int .i64 2, .int .i64 f1, .string f2] 32 (0, 0))) => (show W.cell? ⟨Xb, 1, none⟩ = some (.int .i64 f1) ∧ W.cell? ⟨Xb, 2, none⟩ = some (.string f2) from ⟨(blk_cell h 1).trans rfl, (blk_cell h 2).trans rfl⟩))
          have T1' := T1
          have T1 : Hid (Two w t u row marks row ats lev (Side.nothing.and (Side.obj Xb (.cells #[.int .i64 2, .int .i64 f1, .string f2] 32 (0, 0)))) W1.drew) := hid (T1'.out.drewN 1)
          have x1 := (HXC.out _ T1'.out.side.2).1
          have x2 := (HXC.out _ T1'.out.side.2).2
          have LV := hid (fun (mm : List Nat) (W : World) (h : Two w t u row mm row ats lev (Side.nothing.and (Side.obj Xb (.cells #[.int .i64 2, .int .i64 f1, .string f2] 32 (0, 0)))) W) => (show W.cell? ⟨u, 2, none⟩ = some (.int .i64 lev) ∧ True from by obtain ⟨_, _, _, h2, _⟩ := h.cells; exact ⟨h2, trivial⟩))
          go_wp2_with fail
          refine start_ (n := 6) (S := (fun w' => w'.cell? ⟨u, 2, none⟩ = some (.int .i64 lev) ∧ True)) (ds := []) #[false, false, false, false, false, false] (by kernel_rfl) rfl rfl (LV.out _ _ T1.out) (fun hHeld => ?_)
          refine take_ (i := 1) (N := some 90) (v := ?_) (a' := ?_) #[false, true, false, false, false, false] rfl rfl (by kernel_rfl) (fun _ _ _ h => h) (Or.inl ⟨by rfl, ?_⟩) hHeld ?_ ?_   -- move (%4)
          rotate_left
          · rintro w' ⟨s0, s1⟩
            go_simp
            with_reducible rfl
          rotate_left
          · simp only [Act.put, List.setIfInBounds_toArray, List.set_cons_zero, List.set_cons_succ]
            rfl
          refine take_ (i := 2) (N := some 91) (v := ?_) (a' := ?_) #[false, true, true, false, false, false] rfl rfl (by kernel_rfl) (fun _ _ _ h => h) (Or.inl ⟨by rfl, ?_⟩) hHeld ?_ ?_   -- nilCheck (%90)
          rotate_left
          · rintro w' ⟨s0, s1⟩
            go_simp
            with_reducible rfl
          rotate_left
          · simp only [Act.put, List.setIfInBounds_toArray, List.set_cons_zero, List.set_cons_succ]
            rfl
          refine take_ (i := 3) (N := some 92) (v := ?_) (a' := ?_) #[false, true, true, true, false, false] rfl rfl (by kernel_rfl) (fun _ _ _ h => h) (Or.inl ⟨by rfl, ?_⟩) hHeld ?_ ?_   -- fieldAddr 30 (%91) 2
          rotate_left
          · rintro w' ⟨s0, s1⟩
            go_simp
            with_reducible rfl
          rotate_left
          · simp only [Act.put, List.setIfInBounds_toArray, List.set_cons_zero, List.set_cons_succ]
            rfl
          refine take_ (i := 4) (N := some 93) (v := ?_) (a' := ?_) #[false, true, true, true, true, false] rfl rfl (by kernel_rfl) (fun _ _ _ h => h) (Or.inl ⟨by rfl, ?_⟩) hHeld ?_ ?_   -- load 3 (%92)
          rotate_left
          · rintro w' ⟨s0, s1⟩
            go_simp
            with_reducible rfl
          rotate_left
          · simp only [Act.put, List.setIfInBounds_toArray, List.set_cons_zero, List.set_cons_succ]
            rfl
          refine one_ (i := 0) (N := some 89) #[true, true, true, true, true, false] rfl rfl (by kernel_rfl) (by decide) (fun K hK => ?_)
          refine call_ 12 #[TS.ptr t] (by rfl) rfl (by go_simp; first | done | rfl) ?_
          refine (T1.out.turn1 (row' := row) (marks' := marks ++ [row.length]) (fun F h => (TS.Mark_calls W1.drew t row marks F h HMRK.out HROW.out))).mono ?_
          rintro e W2 ⟨rfl, t2⟩
          have T2 := hid t2
          clear t2
          rw [← U.out.inv.levE]
          refine ⟨_, rfl, hK.out _ _ (LV.out _ _ T2.out) (fun hHeld => ?_)⟩
          refine norm_ (a' := ?_) ?_ ?_
          rotate_left
          · simp only [Act.put, List.setIfInBounds_toArray, List.set_cons_zero, List.set_cons_succ]
            rfl
          refine take_ (i := 5) (N := some 94) (v := ?_) (a' := ?_) #[true, true, true, true, true, true] rfl rfl (by kernel_rfl) (fun _ _ _ h => h) (Or.inl ⟨by rfl, ?_⟩) hHeld ?_ ?_   -- binOp neq 3 (%89) (%93) 3
          rotate_left
          · rintro w' ⟨s0, s1⟩
            go_simp
            with_reducible rfl
          rotate_left
          · simp only [Act.put, List.setIfInBounds_toArray, List.set_cons_zero, List.set_cons_succ]
            rfl
          refine done_ (by kernel_rfl) ?_
          obtain ⟨Av, cv, _, hv2, hvf, _, _⟩ := T2.out.cells
          have TT : Hid (Two w t u row (marks ++ [row.length]) row ats (lev + 1) (Side.nothing.and (Side.obj Xb (.cells #[.int .i64 2, .int .i64 f1, .string f2] 32 (0, 0)))) (W2.setCell ⟨u, 2, none⟩ (.int .i64 ((lev : Int) + 1)))) := hid (T2.out.setLev (lev + 1))
          have hlw : (lev : Int) < 1000001 := by have := U.out.inv.levE; have := HMRK.out; omega
          have hww : wrap64 ((lev : Int) + 1) = ((lev + 1 : Nat) : Int) := HM.wrap_in (by omega) (by omega)
          clear T1' hlw
          go_wp2_with fail
          clear hww
          obtain ⟨rowT, hrT⟩ : ∃ r, r = row := ⟨_, rfl⟩
          obtain ⟨levT, hlT⟩ : ∃ r, r = lev + 1 := ⟨_, rfl⟩
          have INV0 : Inv (row) (marks ++ [row.length]) (ats) (lev + 1) := U.out.inv.mark
          obtain ⟨atsT, haT⟩ : ∃ r, r = ats := ⟨_, rfl⟩
          obtain ⟨marksT, hmT⟩ : ∃ r, r = marks ++ [row.length] := ⟨_, rfl⟩
          have RK : Hid (rowT.length ≤ k + 1) := hid (by rw [hrT]; have := U.out.rk; omega)
          have MKK : Hid (marksT.length ≤ k + 1) := hid (by rw [hmT]; have := U.out.mkk; simp; omega)
          rw [← haT, ← hmT] at TT INV0
          rw [← hrT] at TT INV0
          rw [← hlT] at TT INV0
          have INV := hid INV0
          clear hrT hlT haT hmT INV0
          obtain ⟨Au, cu, hu0, hu2, _, _, _⟩ := TT.out.cells
          have LQ := hid (fun m => (TT.out.drewN m).lenq)
          have VQ := hid (fun m => (TT.out.drewN m).levq INV.out.levE)
          clear x0 x1 x2
          go_wp2_with fail
          go_quiet (first | exact Calls.quiet_of (LQ.out _) | exact Calls.quiet_of (VQ.out _))
          go_wp2_with fail
          go_roundg left
          case measure => omega
          case rel => exact ⟨k + 1, rowT, marksT, atsT, levT, by omega, rfl, hid ⟨(TT.out.drewN _).off, INV.out, RK.out, MKK.out⟩⟩
        · have e2 : (f0 == 2) = false := by simpa using k2
          by_cases k3 : f0 = 3
          · subst k3
            clear k1 k2
            go_wp2_with fail
            obtain ⟨W1, hW1⟩ : ∃ W, W = wr.alloc (.cells #[.int .i64 3, .int .i64 f1, .string f2] 32) := ⟨_, rfl⟩
            obtain ⟨Xb, hXb⟩ : ∃ b, b = wr.heap.size := ⟨_, rfl⟩
            have T1 : Hid (Two w t u row marks row ats lev (Side.nothing.and (Side.obj Xb (.cells #[.int .i64 3, .int .i64 f1, .string f2] 32 (0, 0)))) W1) := hid (by
              rw [hW1, hXb]
              exact U.out.two.new ((Below.refl _ _).alloc (Nat.le_refl _) _) _ (heap_alloc_new wr _) (fun j hj => by rw [show j = wr.heap.size from hj]; exact Nat.le_refl _))
            rw [← hW1, ← hXb]
            clear hW1 hXb
            have HXC := hid (fun (W : World) (h : W.heap[Xb]? = some (.cells #[.int .i64 3, .int .i64 f1, .string f2] 32 (0, 0))) => (show W.cell? ⟨Xb, 1, none⟩ = some (.int .i64 f1) ∧ W.cell? ⟨Xb, 2, none⟩ = some (.string f2) from ⟨(blk_cell h 1).trans rfl, (blk_cell h 2).trans rfl⟩))
            obtain ⟨went, rowN, marksN, atsN, levN, hIN, hrN, hmN, hwN, hcb1, hcb2⟩ := back_both (w0 := w) (t := t) (u := u) U.out.inv f1 HROW.out HMRK.out
            have CB1 := hid hcb1
            have CB2 := hid hcb2
            have HIN := hid hIN
            have HRN := hid hrN
            have HMN := hid hmN
            obtain ⟨nw, hnw⟩ : ∃ n, n = went.length := ⟨_, rfl⟩
            have HNW := hid hnw
            have hnwb : nw < 1000000 := by have := HROW.out; omega
            clear hnw hcb1 hcb2 hIN hrN hmN hwN
            have T1' := T1
            have T1 := hid (T1'.out.drewN 1)
            have x1 := (HXC.out _ T1'.out.side.2).1
            have x2 := (HXC.out _ T1'.out.side.2).2
            go_wp2_with fail
            refine start_ (n := 9) (S := (fun w' => w'.cell? ⟨Xb, 1, none⟩ = some (.int .i64 f1) ∧ True)) (ds := []) #[false, false, false, false, false, false, false, false, false] (by kernel_rfl) rfl rfl ⟨(HXC.out _ T1.out.side.2).1, trivial⟩ (fun hHeld => ?_)
            refine take_ (i := 0) (N := some 104) (v := ?_) (a' := ?_) #[true, false, false, false, false, false, false, false, false] rfl rfl (by kernel_rfl) (fun _ _ _ h => h) (Or.inl ⟨by rfl, ?_⟩) hHeld ?_ ?_   -- fieldAddr 32 (%6) 1
            rotate_left
            · rintro w' ⟨s0, s1⟩
              go_simp
              with_reducible rfl
            rotate_left
            · simp only [Act.put, List.setIfInBounds_toArray, List.set_cons_zero, List.set_cons_succ]
              rfl
            refine take_ (i := 1) (N := some 105) (v := ?_) (a' := ?_) #[true, true, false, false, false, false, false, false, false] rfl rfl (by kernel_rfl) (fun _ _ _ h => h) (Or.inl ⟨by rfl, ?_⟩) hHeld ?_ ?_   -- load 3 (%104)
            rotate_left
            · rintro w' ⟨s0, s1⟩
              go_simp
              with_reducible rfl
            rotate_left
            · simp only [Act.put, List.setIfInBounds_toArray, List.set_cons_zero, List.set_cons_succ]
              rfl
            refine take_ (i := 3) (N := some 107) (v := ?_) (a' := ?_) #[true, true, false, true, false, false, false, false, false] rfl rfl (by kernel_rfl) (fun _ _ _ h => h) (Or.inl ⟨by rfl, ?_⟩) hHeld ?_ ?_   -- move (%4)
            rotate_left
            · rintro w' ⟨s0, s1⟩
              go_simp
              with_reducible rfl
            rotate_left
            · simp only [Act.put, List.setIfInBounds_toArray, List.set_cons_zero, List.set_cons_succ]
              rfl
            refine take_ (i := 4) (N := some 108) (v := ?_) (a' := ?_) #[true, true, false, true, true, false, false, false, false] rfl rfl (by kernel_rfl) (fun _ _ _ h => h) (Or.inl ⟨by rfl, ?_⟩) hHeld ?_ ?_   -- fieldAddr 32 (%6) 1
            rotate_left
            · rintro w' ⟨s0, s1⟩
              go_simp
              with_reducible rfl
            rotate_left
            · simp only [Act.put, List.setIfInBounds_toArray, List.set_cons_zero, List.set_cons_succ]
              rfl
            refine take_ (i := 5) (N := some 109) (v := ?_) (a' := ?_) #[true, true, false, true, true, true, false, false, false] rfl rfl (by kernel_rfl) (fun _ _ _ h => h) (Or.inl ⟨by rfl, ?_⟩) hHeld ?_ ?_   -- load 3 (%108)
            rotate_left
            · rintro w' ⟨s0, s1⟩
              go_simp
              with_reducible rfl
            rotate_left
            · simp only [Act.put, List.setIfInBounds_toArray, List.set_cons_zero, List.set_cons_succ]
              rfl
            refine one_ (i := 2) (N := some 106) #[true, true, true, true, true, true, false, false, false] rfl rfl (by kernel_rfl) (by decide) (fun K hK => ?_)
            refine call_ 13 #[TS.ptr t, .int .i64 f1] (by rfl) rfl (by go_simp; first | done | rfl) ?_
            refine (CB1.out _ _ T1.out).mono ?_
            rintro e W2 ⟨Aa, ca, rfl, t2⟩
            rw [← HNW.out] at t2
            rw [← HNW.out]
            have T2 := hid t2
            clear t2
            refine ⟨_, rfl, hK.out _ _ ⟨(HXC.out _ T2.out.side.1.2).1, trivial⟩ (fun hHeld => ?_)⟩
            refine norm_ (a' := ?_) ?_ ?_
            rotate_left
            · simp only [Act.put, List.setIfInBounds_toArray, List.set_cons_zero, List.set_cons_succ]
              rfl
            refine one_ (i := 6) (N := some 110) #[true, true, true, true, true, true, true, false, false] rfl rfl (by kernel_rfl) (by decide) (fun K hK => ?_)
            refine call_ 14 #[TS.ptr u, .int .i64 f1] (by rfl) rfl (by go_simp; first | done | rfl) ?_
            refine (CB2.out _ _ T2.out).mono ?_
            rintro e W3 ⟨Ab, cb, rfl, t3⟩
            rw [← HNW.out] at t3
            rw [← HNW.out]
            have T3 := hid t3
            clear t3
            refine ⟨_, rfl, hK.out _ _ ⟨(HXC.out _ T3.out.side.1.1.2).1, trivial⟩ (fun hHeld => ?_)⟩
            refine norm_ (a' := ?_) ?_ ?_
            rotate_left
            · simp only [Act.put, List.setIfInBounds_toArray, List.set_cons_zero, List.set_cons_succ]
              rfl
            refine take_ (i := 7) (N := some 7) (v := ?_) (a' := ?_) #[true, true, true, true, true, true, true, true, false] rfl rfl (by kernel_rfl) (fun _ _ _ h => h) (Or.inl ⟨by rfl, ?_⟩) hHeld ?_ ?_   -- assign (%106)
            rotate_left
            · rintro w' ⟨s0, s1⟩
              go_simp
              with_reducible rfl
            rotate_left
            · simp only [Act.put, List.setIfInBounds_toArray, List.set_cons_zero, List.set_cons_succ]
              rfl
            refine take_ (i := 8) (N := some 8) (v := ?_) (a' := ?_) #[true, true, true, true, true, true, true, true, true] rfl rfl (by kernel_rfl) (fun _ _ _ h => h) (Or.inl ⟨by rfl, ?_⟩) hHeld ?_ ?_   -- assign (%110)
            rotate_left
            · rintro w' ⟨s0, s1⟩
              go_simp
              with_reducible rfl
            rotate_left
            · simp only [Act.put, List.setIfInBounds_toArray, List.set_cons_zero, List.set_cons_succ]
              rfl
            refine done_ (by kernel_rfl) ?_
            go_wp2_with fail
            go_loopg [118] nw (fun left2 v118 wr2 => ∃ j, left2 + j = nw ∧ v118 = .int .i64 (j : Int) ∧ Hid (Two w t u rowN marksN rowN atsN levN (((Side.nothing.and (Side.obj Xb (.cells #[.int .i64 3, .int .i64 f1, .string f2] 32 (0, 0)))).and (Side.row 9 (.slice Aa nw ca) (TS.elems went))).and (Side.row 9 (.slice Ab nw cb) (TS.elems went))) wr2))
            case atStart => exact ⟨0, by omega, rfl, T3⟩
            case round =>
              obtain ⟨j, hj, rfl, R⟩ := hrel
              clear T1 T2 T3 T1'
              by_cases hjn : j < nw
              · have hjI : (j : Int) < (nw : Int) := by omega
                have hra : Row wr 9 (.slice Aa nw ca) (TS.elems went) := R.out.side.1.2
                have hrb : Row wr 9 (.slice Ab nw cb) (TS.elems went) := R.out.side.2
                obtain ⟨ga, oa, cca, hv, _, _, _, hcells, _⟩ := hra.cells (by have := HNW.out; simp; omega)
                injection hv with hA hA2 hcc
                subst hA hcc
                obtain ⟨gb, ob, ccb, hv, _, _, _, hcells2, _⟩ := hrb.cells (by have := HNW.out; simp; omega)
                injection hv with hB hB2 hcc
                subst hB hcc
                have hjw : j < went.length := by have := HNW.out; omega
                have ha := (hcells j (by simpa using hjw)).trans (TS.elems_get _ _ hjw)
                have hb := (hcells2 j (by simpa using hjw)).trans (TS.elems_get _ _ hjw)
                obtain ⟨s, hs⟩ : ∃ s, s = went[j] := ⟨_, rfl⟩
                rw [← hs] at ha hb
                clear hcells hcells2 hs hjw hA2 hB2 hra hrb
                cases gk with
                | zero => omega
                | succ left2 =>
                  go_wp2_with fail
                  go_quiet (fail)
                  go_wp2_with fail
                  go_roundg left2
                  case measure => omega
                  case rel => exact ⟨j + 1, by omega, rfl, hid (R.out.drewN _)⟩
              · obtain rfl : j = nw := by omega
                have TT := R
                clear R
                have x1 := (HXC.out _ TT.out.side.1.1.2).1
                have x2 := (HXC.out _ TT.out.side.1.1.2).2
                have x0 := x2
                obtain ⟨rowT, hrT⟩ : ∃ r, r = rowN := ⟨_, rfl⟩
                obtain ⟨levT, hlT⟩ : ∃ r, r = levN := ⟨_, rfl⟩
                have INV0 : Inv (rowN) (marksN) (atsN) (levN) := HIN.out
                obtain ⟨atsT, haT⟩ : ∃ r, r = atsN := ⟨_, rfl⟩
                obtain ⟨marksT, hmT⟩ : ∃ r, r = marksN := ⟨_, rfl⟩
                have RK : Hid (rowT.length ≤ k + 1) := hid (by rw [hrT]; have := U.out.rk; have := HRN.out; omega)
                have MKK : Hid (marksT.length ≤ k + 1) := hid (by rw [hmT]; have := U.out.mkk; have := HMN.out; omega)
                rw [← haT, ← hmT] at TT INV0
                rw [← hrT] at TT INV0
                rw [← hlT] at TT INV0
                have INV := hid INV0
                clear hrT hlT haT hmT INV0
                obtain ⟨Au, cu, hu0, hu2, _, _, _⟩ := TT.out.cells
                have LQ := hid (fun m => (TT.out.drewN m).lenq)
                have VQ := hid (fun m => (TT.out.drewN m).levq INV.out.levE)
                clear x0 x1 x2
                go_wp2_with fail
                go_quiet (first | exact Calls.quiet_of (LQ.out _) | exact Calls.quiet_of (VQ.out _))
                go_wp2_with fail
                go_roundg left
                case measure => omega
                case rel => exact ⟨k + 1, rowT, marksT, atsT, levT, by omega, rfl, hid ⟨(TT.out.drewN _).off, INV.out, RK.out, MKK.out⟩⟩
          · have e3 : (f0 == 3) = false := by simpa using k3
            by_cases hv : 0 ≤ f1 ∧ f1 < row.length
            · obtain ⟨q, rfl⟩ : ∃ q : Nat, f1 = (q : Int) := ⟨f1.toNat, by omega⟩
              have HQR := hid hv.2
              obtain ⟨x, hx⟩ : ∃ x, x = row.getD q ByteArray.empty := ⟨_, rfl⟩
              have HX := hid hx
              clear hx hv k1 k2 k3
              go_wp2_with fail
              obtain ⟨W1, hW1⟩ : ∃ W, W = wr.alloc (.cells #[.int .i64 f0, .int .i64 (q : Int), .string f2] 32) := ⟨_, rfl⟩
              obtain ⟨Xb, hXb⟩ : ∃ b, b = wr.heap.size := ⟨_, rfl⟩
              have T1 : Hid (Two w t u row marks row ats lev (Side.nothing.and (Side.obj Xb (.cells #[.int .i64 f0, .int .i64 (q : Int), .string f2] 32 (0, 0)))) W1) := hid (by
                rw [hW1, hXb]
                exact U.out.two.new ((Below.refl _ _).alloc (Nat.le_refl _) _) _ (heap_alloc_new wr _) (fun j hj => by rw [show j = wr.heap.size from hj]; exact Nat.le_refl _))
              rw [← hW1, ← hXb]
              clear hW1 hXb
              have HXC := hid (fun (W : World) (h : W.heap[Xb]? = some (.cells #[.int .i64 f0, .int .i64 (q : Int), .string f2] 32 (0, 0))) => (show W.cell? ⟨Xb, 1, none⟩ = some (.int .i64 (q : Int)) ∧ W.cell? ⟨Xb, 2, none⟩ = some (.string f2) from ⟨(blk_cell h 1).trans rfl, (blk_cell h 2).trans rfl⟩))
              have T1' := T1
              have x1 := (HXC.out _ T1'.out.side.2).1
              have x2 := (HXC.out _ T1'.out.side.2).2
              have ATC := hid (T1.out.quiet (Q := fun e _ => e = .returned (.tuple #[.string x, .bool true])) (fun F h => by have := TS.At_calls W1 t row marks F (q : Int) h; rw [if_pos ⟨by omega, HQR.out⟩, Int.toNat_natCast, ← HX.out] at this; exact this))
              go_wp2_with fail
              refine ATC.out.mono ?_
              rintro e W2 ⟨rfl, t2⟩
              have T2 := hid t2
              clear t2 x1 x2
              have x1 := (HXC.out _ T2.out.side.2).1
              have x2 := (HXC.out _ T2.out.side.2).2
              obtain ⟨Au, cu, hu0, hu2, _, _, hru⟩ := T2.out.cells
              obtain ⟨nr, hnr⟩ : ∃ n, n = row.length := ⟨_, rfl⟩
              rw [← hnr] at hu0 hru
              have HNR := hid hnr
              obtain ⟨gu, ou, ccu, hv, _, _, _, hcells, _⟩ := hru.cells (by have := HQR.out; simp; omega)
              injection hv with hA hA2 hcc
              subst hA hcc
              have hqr : q < row.length := by have := HQR.out; omega
              have hxq := (hcells q (by simpa using hqr)).trans (TS.elems_get _ _ hqr)
              rw [show row[q] = x from by rw [HX.out, List.getD_eq_getElem?_getD, List.getElem?_eq_getElem hqr]; rfl] at hxq
              have hqn : decide ((q : Int) < (nr : Int)) = true := by rw [decide_eq_true_iff, hnr]; exact HQR.out
              have hqn2 : q < nr := by rw [hnr]; exact hqr
              have hqn3 : decide (q < nr) = true := decide_eq_true hqn2
              clear hcells hqr hnr hA2 hru
              go_wp2_with fail
              go_quiet (fail)
              have T3 := hid (T2.out.drewN nq)
              obtain ⟨W3, hW3⟩ : ∃ W, W = W2.drewN nq := ⟨_, rfl⟩
              rw [← hW3] at T3 ⊢
              have hu0' := (show W3.cell? ⟨u, 0, none⟩ = (W2.drewN nq).cell? ⟨u, 0, none⟩ from by rw [hW3]).trans hu0
              have x1' := (show W3.cell? ⟨Xb, 1, none⟩ = (W2.drewN nq).cell? ⟨Xb, 1, none⟩ from by rw [hW3]).trans x1
              have hxq' := (show W3.cell? ⟨gu, ou + q, none⟩ = (W2.drewN nq).cell? ⟨gu, ou + q, none⟩ from by rw [hW3]).trans hxq
              clear hW3
              go_wp2_with fail
              go_quiet (fail)
              have TT := hid (T3.out.drewN nq)
              obtain ⟨W4, hW4⟩ : ∃ W, W = W3.drewN nq := ⟨_, rfl⟩
              rw [← hW4] at TT ⊢
              clear hW4
              go_wp2_with fail
              have x1 := (HXC.out _ TT.out.side.2).1
              have x2 := (HXC.out _ TT.out.side.2).2
              have x0 := x2
              clear hu0 hu2 hu0'
              obtain ⟨rowT, hrT⟩ : ∃ r, r = row := ⟨_, rfl⟩
              obtain ⟨levT, hlT⟩ : ∃ r, r = lev := ⟨_, rfl⟩
              have INV0 : Inv (row) (marks) (ats) (lev) := U.out.inv
              obtain ⟨atsT, haT⟩ : ∃ r, r = ats := ⟨_, rfl⟩
              obtain ⟨marksT, hmT⟩ : ∃ r, r = marks := ⟨_, rfl⟩
              have RK : Hid (rowT.length ≤ k + 1) := hid (by rw [hrT]; have := U.out.rk; omega)
              have MKK : Hid (marksT.length ≤ k + 1) := hid (by rw [hmT]; have := U.out.mkk; omega)
              rw [← haT, ← hmT] at TT INV0
              rw [← hrT] at TT INV0
              rw [← hlT] at TT INV0
              have INV := hid INV0
              clear hrT hlT haT hmT INV0
              obtain ⟨Au, cu, hu0, hu2, _, _, _⟩ := TT.out.cells
              have LQ := hid (fun m => (TT.out.drewN m).lenq)
              have VQ := hid (fun m => (TT.out.drewN m).levq INV.out.levE)
              clear x0 x1 x2
              go_wp2_with fail
              go_quiet (first | exact Calls.quiet_of (LQ.out _) | exact Calls.quiet_of (VQ.out _))
              go_wp2_with fail
              go_roundg left
              case measure => omega
              case rel => exact ⟨k + 1, rowT, marksT, atsT, levT, by omega, rfl, hid ⟨(TT.out.drewN _).off, INV.out, RK.out, MKK.out⟩⟩
            · have HNV := hid hv
              clear hv k1 k2 k3
              go_wp2_with fail
              obtain ⟨W1, hW1⟩ : ∃ W, W = wr.alloc (.cells #[.int .i64 f0, .int .i64 f1, .string f2] 32) := ⟨_, rfl⟩
              obtain ⟨Xb, hXb⟩ : ∃ b, b = wr.heap.size := ⟨_, rfl⟩
              have T1 : Hid (Two w t u row marks row ats lev (Side.nothing.and (Side.obj Xb (.cells #[.int .i64 f0, .int .i64 f1, .string f2] 32 (0, 0)))) W1) := hid (by
                rw [hW1, hXb]
                exact U.out.two.new ((Below.refl _ _).alloc (Nat.le_refl _) _) _ (heap_alloc_new wr _) (fun j hj => by rw [show j = wr.heap.size from hj]; exact Nat.le_refl _))
              rw [← hW1, ← hXb]
              clear hW1 hXb
              have HXC := hid (fun (W : World) (h : W.heap[Xb]? = some (.cells #[.int .i64 f0, .int .i64 f1, .string f2] 32 (0, 0))) => (show W.cell? ⟨Xb, 1, none⟩ = some (.int .i64 f1) ∧ W.cell? ⟨Xb, 2, none⟩ = some (.string f2) from ⟨(blk_cell h 1).trans rfl, (blk_cell h 2).trans rfl⟩))
              have T1' := T1
              have x1 := (HXC.out _ T1'.out.side.2).1
              have x2 := (HXC.out _ T1'.out.side.2).2
              have ATC := hid (T1.out.quiet (Q := fun e _ => e = .returned (.tuple #[.string ⟨#[]⟩, .bool false])) (fun F h => by have := TS.At_calls W1 t row marks F f1 h; rw [if_neg HNV.out] at this; exact this))
              go_wp2_with fail
              refine ATC.out.mono ?_
              rintro e W2 ⟨rfl, t2⟩
              have T2 := hid t2
              clear t2 x1 x2
              have x1 := (HXC.out _ T2.out.side.2).1
              have x2 := (HXC.out _ T2.out.side.2).2
              obtain ⟨Au, cu, hu0, hu2, _, _, hru⟩ := T2.out.cells
              obtain ⟨nr, hnr⟩ : ∃ n, n = row.length := ⟨_, rfl⟩
              rw [← hnr] at hu0 hru
              have HNR := hid hnr
              clear hnr hru
              by_cases hneg : f1 ≥ 0
              · have hd : decide (f1 ≥ 0) = true := decide_eq_true hneg
                have hd3 : decide (0 ≤ f1) = true := decide_eq_true hneg
                have hd2 : decide (f1 < (nr : Int)) = false := decide_eq_false (by have := HNV.out; have := HNR.out; omega)
                have hnr2 : (nr : Int) ≤ f1 := by have := HNV.out; have := HNR.out; omega
                go_wp2_with fail
                go_quiet (fail)
                have T3 := hid (T2.out.drewN nq)
                obtain ⟨W3, hW3⟩ : ∃ W, W = W2.drewN nq := ⟨_, rfl⟩
                rw [← hW3] at T3 ⊢
                have hu0' := (show W3.cell? ⟨u, 0, none⟩ = (W2.drewN nq).cell? ⟨u, 0, none⟩ from by rw [hW3]).trans hu0
                have x1' := (show W3.cell? ⟨Xb, 1, none⟩ = (W2.drewN nq).cell? ⟨Xb, 1, none⟩ from by rw [hW3]).trans x1
                clear hW3
                go_wp2_with fail
                go_quiet (fail)
                have TT := hid (T3.out.drewN nq)
                obtain ⟨W4, hW4⟩ : ∃ W, W = W3.drewN nq := ⟨_, rfl⟩
                rw [← hW4] at TT ⊢
                clear hW4
                go_wp2_with fail
                have x1 := (HXC.out _ TT.out.side.2).1
                have x2 := (HXC.out _ TT.out.side.2).2
                have x0 := x2
                clear hu0 hu2 hu0'
                obtain ⟨rowT, hrT⟩ : ∃ r, r = row := ⟨_, rfl⟩
                obtain ⟨levT, hlT⟩ : ∃ r, r = lev := ⟨_, rfl⟩
                have INV0 : Inv (row) (marks) (ats) (lev) := U.out.inv
                obtain ⟨atsT, haT⟩ : ∃ r, r = ats := ⟨_, rfl⟩
                obtain ⟨marksT, hmT⟩ : ∃ r, r = marks := ⟨_, rfl⟩
                have RK : Hid (rowT.length ≤ k + 1) := hid (by rw [hrT]; have := U.out.rk; omega)
                have MKK : Hid (marksT.length ≤ k + 1) := hid (by rw [hmT]; have := U.out.mkk; omega)
                rw [← haT, ← hmT] at TT INV0
                rw [← hrT] at TT INV0
                rw [← hlT] at TT INV0
                have INV := hid INV0
                clear hrT hlT haT hmT INV0
                obtain ⟨Au, cu, hu0, hu2, _, _, _⟩ := TT.out.cells
                have LQ := hid (fun m => (TT.out.drewN m).lenq)
                have VQ := hid (fun m => (TT.out.drewN m).levq INV.out.levE)
                clear x0 x1 x2
                go_wp2_with fail
                go_quiet (first | exact Calls.quiet_of (LQ.out _) | exact Calls.quiet_of (VQ.out _))
                go_wp2_with fail
                go_roundg left
                case measure => omega
                case rel => exact ⟨k + 1, rowT, marksT, atsT, levT, by omega, rfl, hid ⟨(TT.out.drewN _).off, INV.out, RK.out, MKK.out⟩⟩
              · have hd : decide (f1 ≥ 0) = false := decide_eq_false hneg
                have hd3 : decide (0 ≤ f1) = false := decide_eq_false hneg
                go_wp2_with fail
                go_quiet (fail)
                have T3 := hid (T2.out.drewN nq)
                obtain ⟨W3, hW3⟩ : ∃ W, W = W2.drewN nq := ⟨_, rfl⟩
                rw [← hW3] at T3 ⊢
                have hu0' := (show W3.cell? ⟨u, 0, none⟩ = (W2.drewN nq).cell? ⟨u, 0, none⟩ from by rw [hW3]).trans hu0
                have x1' := (show W3.cell? ⟨Xb, 1, none⟩ = (W2.drewN nq).cell? ⟨Xb, 1, none⟩ from by rw [hW3]).trans x1
                clear hW3
                go_wp2_with fail
                go_quiet (fail)
                have TT := hid (T3.out.drewN nq)
                obtain ⟨W4, hW4⟩ : ∃ W, W = W3.drewN nq := ⟨_, rfl⟩
                rw [← hW4] at TT ⊢
                clear hW4
                go_wp2_with fail
                have x1 := (HXC.out _ TT.out.side.2).1
                have x2 := (HXC.out _ TT.out.side.2).2
                have x0 := x2
                clear hu0 hu2 hu0'
                obtain ⟨rowT, hrT⟩ : ∃ r, r = row := ⟨_, rfl⟩
                obtain ⟨levT, hlT⟩ : ∃ r, r = lev := ⟨_, rfl⟩
                have INV0 : Inv (row) (marks) (ats) (lev) := U.out.inv
                obtain ⟨atsT, haT⟩ : ∃ r, r = ats := ⟨_, rfl⟩
                obtain ⟨marksT, hmT⟩ : ∃ r, r = marks := ⟨_, rfl⟩
                have RK : Hid (rowT.length ≤ k + 1) := hid (by rw [hrT]; have := U.out.rk; omega)
                have MKK : Hid (marksT.length ≤ k + 1) := hid (by rw [hmT]; have := U.out.mkk; omega)
                rw [← haT, ← hmT] at TT INV0
                rw [← hrT] at TT INV0
                rw [← hlT] at TT INV0
                have INV := hid INV0
                clear hrT hlT haT hmT INV0
                obtain ⟨Au, cu, hu0, hu2, _, _, _⟩ := TT.out.cells
                have LQ := hid (fun m => (TT.out.drewN m).lenq)
                have VQ := hid (fun m => (TT.out.drewN m).levq INV.out.levE)
                clear x0 x1 x2
                go_wp2_with fail
                go_quiet (first | exact Calls.quiet_of (LQ.out _) | exact Calls.quiet_of (VQ.out _))
                go_wp2_with fail
                go_roundg left
                case measure => omega
                case rel => exact ⟨k + 1, rowT, marksT, atsT, levT, by omega, rfl, hid ⟨(TT.out.drewN _).off, INV.out, RK.out, MKK.out⟩⟩
    · obtain rfl : k = n0 := by omega
      obtain ⟨nr, hnr⟩ : ∃ n, n = row.length := ⟨_, rfl⟩
      have HNR := hid hnr
      obtain ⟨Au, cu, hu0, hu2, _, _, _⟩ := U.out.two.cells
      rw [← hnr] at hu0
      have hnb : nr ≤ 500 := by have := U.out.rk; omega
      clear hnr
      go_wp2_with fail
      go_loopg [152] nr (fun left2 v152 wr2 => ∃ i, left2 + i = nr ∧ v152 = .int .i64 (i : Int) ∧ Hid (Two w t u row marks row ats lev Side.nothing wr2))
      case atStart => exact ⟨0, by omega, rfl, hid U.out.two⟩
      case round =>
        obtain ⟨q, hq, rfl, R⟩ := hrel
        clear U hu0 hu2
        by_cases hqn : q < nr
        · have hqI : (q : Int) < (nr : Int) := by omega
          have hqr : q < row.length := by rw [← HNR.out]; exact hqn
          obtain ⟨x, hx⟩ : ∃ x, x = row.getD q ByteArray.empty := ⟨_, rfl⟩
          have HX := hid hx
          have HQR := hid hqr
          have ATC := hid (R.out.quiet (Q := fun e _ => e = .returned (.tuple #[.string x, .bool true])) (fun F h => by have := TS.At_calls wr t row marks F (q : Int) h; rw [if_pos ⟨by omega, by omega⟩, Int.toNat_natCast, ← hx] at this; exact this))
          clear hx hqr
          cases gk with
          | zero => omega
          | succ left2 =>
            go_wp2_with fail
            refine ATC.out.mono ?_
            rintro e W2 ⟨rfl, t2⟩
            have T2 := hid t2
            clear t2
            obtain ⟨Au2, cu2, hu0, _, _, _, hru⟩ := T2.out.cells
            rw [← HNR.out] at hu0 hru
            obtain ⟨gu, ou, ccu, hv, _, _, _, hcells, _⟩ := hru.cells (by have := HQR.out; simp; omega)
            injection hv with hA hA2 hcc
            subst hA hcc
            have hxq := (hcells q (by have := HQR.out; simpa using this)).trans (TS.elems_get _ _ HQR.out)
            rw [show row[q]'(HQR.out) = x from by rw [HX.out, List.getD_eq_getElem?_getD, List.getElem?_eq_getElem HQR.out]; rfl] at hxq
            clear hcells hA2 hru
            go_wp2_with fail
            go_roundg left2
            case measure => omega
            case rel => exact ⟨q + 1, by omega, rfl, T2⟩
        · obtain rfl : q = nr := by omega
          have KN := hid (HM.known_calls0 wr)
          have BL := hid R.out.bel
          clear R
          go_wp2_with fail
          refine KN.out.mono ?_
          rintro e w9 ⟨rfl, b9⟩
          have B9 := hid b9
          clear b9
          go_wp2_with fail
          go_ret
          exact ⟨rfl, HM.below_trans BL.out (HM.below_le B9.out BL.out.size)⟩
set_option maxRecDepth 100000 in
set_option maxHeartbeats 1600000 in
theorem trails_walk (w : World) (A0 : Option Addr) (c0 : Nat) (l0 : List S32) (h0 : Kd.C k32 w A0 l0.length l0) :
    Calls Try.prog 3 #[.slice A0 l0.length c0] w fun e w' => e = .returned (.bool true) ∧ Below w.heap.size w w' := by
  by_cases g0 : l0.length ≤ 500
  · exact trails_main w A0 c0 l0 h0 g0
  · have d0 : (l0.length : Int) > 500 := by omega
    have KN := hid (HM.known_calls0 w)
    clear h0 g0
    go_enter Try.func3, Try.ntmps3
    go_wp2_with fail
    refine KN.out.mono ?_
    rintro e w9 ⟨rfl, b9⟩
    go_wp2_with fail
    go_ret
    exact ⟨rfl, b9⟩
def juristlaw02_HeapTrails.f (_l0 : List S32) : Option Bool := some true
theorem juristlaw02_HeapTrails.calls (A0 : Option Addr) (c0 : Nat) (l0 : List S32) (r : Bool) (w : World) (h0 : Kd.C k32 w A0 l0.length l0) (_ : l0.length ≤ c0) (h : juristlaw02_HeapTrails.f l0 = some r) :
    Calls Try.prog 3 #[.slice A0 l0.length c0] w fun e w' => e = .returned (.bool r) ∧ Below w.heap.size w w' := by
  cases h
  exact trails_walk w A0 c0 l0 h0
end Go.Proofs.Ytegcfaohhcjajaa.Hk
