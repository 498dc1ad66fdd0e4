/- Walk of the law TermsFull. -/
import Derived.Test.YtmgbodmpjholiaaTermF
import Derived.Test.YtmgbodmpjholiaaTermPS
namespace Go.Proofs.Ytmgbodmpjholiaa.Hk
open Go.RowKit Go.Maps Go.Shelf Go.Lib Go.Proofs.YtmgbodmpjholiaaW.PrintWords Go.Proofs.YtmgbodmpjholiaaW.PrintLast Go.Proofs.YtmgbodmpjholiaaW.PrintMore Go.Proofs.Ytmgbodmpjholiaa.MM Go.Proofs.Ytmgbodmpjholiaa.KM Go.Proofs.Ytmgbodmpjholiaa.TM
attribute [local go_sem ↓] Go.wp_at_zero Go.wp_at_succ
set_option linter.unusedSimpArgs false
set_option linter.unusedVariables false

theorem numL_zero (n : Int) : numL n 0 = newM := by simp [numL]
set_option maxRecDepth 100000 in
set_option maxHeartbeats 3200000 in
theorem full_walk (w : World) (a0 : Int) (hw : wf64 a0) :
    Calls Try.prog 4 #[.int .i64 a0] w fun e w' => e = .returned (.bool true) ∧ Below w.heap.size w w' := by
  obtain ⟨m, hm⟩ : ∃ m, m = a0.tmod 1152921504606846976 := ⟨_, rfl⟩
  have hmb : -1152921504606846975 ≤ m ∧ m ≤ 1152921504606846975 := by
    rw [hm]
    have h1 := Int.tmod_lt_of_pos a0 (b := 1152921504606846976) (by omega)
    have h2 := Int.lt_tmod_of_pos a0 (b := 1152921504606846976) (by omega)
    omega
  obtain ⟨hm1, hm2⟩ := hmb
  have hrem : a0.tmod 1152921504606846976 = m := hm.symm
  have HN := hid (New_at w)
  clear hm hw
  by_cases hneg : m < 0
  · go_enter Try.func4, Try.ntmps4
    go_wp2_with fail
    refine HN.out.mono ?_
    rintro e w1 ⟨t, rfl, h1⟩
    have H1 := hid h1
    clear h1 HN
    have hn1 : 1 ≤ -m + 1 := by omega
    have hn2 : -m + 1 ≤ 1152921504606846976 := by omega
    generalize -m + 1 = n at hn1 hn2 ⊢
    clear hneg hm1 hm2 hrem
    go_wp2_with fail
    go_loopg [5] 19997 (fun left v5 wr => ∃ i : Nat, left + i = 20000 ∧ 3 ≤ i ∧ v5 = .int .i64 (i : Int) ∧ Hid (NewAt w t (numL n (i - 3)) (2000 * i) wr))
    case atStart => exact ⟨3, by omega, by omega, rfl, hid (by rw [show 3 - 3 = 0 from rfl, numL_zero]; exact H1.out)⟩
    case round =>
      obtain ⟨i, hi, h3, rfl, U⟩ := hrel
      by_cases hlt : i < 20000
      · have hI : (i : Int) < 20000 := by omega
        obtain ⟨k, rfl⟩ : ∃ k, i = 3 + k := ⟨i - 3, by omega⟩
        rw [show 3 + k - 3 = k from by omega] at U
        cases gk with
        | zero => omega
        | succ left =>
        obtain ⟨z, hz⟩ : ∃ z : Nat, z = 3 + k := ⟨_, rfl⟩
        have HNUM := hid (U.out.call (r := (((3 + k : Nat) : Int), 0, numL n (k + 1))) fun F h => by
          have := Num_calls wr t (numL n k) _ F (n + ((3 + k : Nat) : Int)) (show wf64 _ from ⟨by omega, by omega⟩) h (by omega)
          rw [num_new n hn1 hn2 k (by omega)] at this
          exact this)
        rw [← hz] at HNUM hI ⊢
        have HZ := hid hz
        have hzb : (z : Int) < 20000 := by omega
        clear hlt h3 hz
        go_wp2_with fail
        refine HNUM.out.mono ?_
        rintro e w2 ⟨rfl, h2⟩
        have H2 := hid h2
        clear h2
        have hzz : ((z : Int) != (z : Int)) = false := by simp
        go_wp2_with fail
        go_roundg left
        case measure => omega
        case rel => exact ⟨z + 1, by have := HZ.out; omega, by have := HZ.out; omega, by go_num, hid (by have := HZ.out; rw [show z + 1 - 3 = k + 1 from by omega]; exact H2.out.more (by omega))⟩
      · obtain rfl : i = 20000 := by omega
        have A1 := hid (U.out.call (r := (0, 9, numL n 19997)) fun F h => by
          have := Num_calls wr t (numL n 19997) _ F (n + 20000) (show wf64 _ from ⟨by omega, by omega⟩) h (by omega)
          rw [num_full n hn1 hn2] at this
          exact this)
        clear hlt h3
        go_wp2_with fail
        refine A1.out.mono ?_
        rintro e w2 ⟨rfl, h2⟩
        have A2 := hid (h2.call (r := (3, 0, numL n 19997)) fun F h => by
          have := Num_calls w2 t (numL n 19997) _ F (n + 3) (show wf64 _ from ⟨by omega, by omega⟩) h (by omega)
          rw [num_again n hn1 hn2] at this
          exact this)
        clear h2
        go_wp2_with fail
        refine A2.out.mono ?_
        rintro e w3 ⟨rfl, h4⟩
        have A3 := hid (h4.call (r := (2, 0, numL n 19997)) fun F h => by
          have := Plus_calls w3 t (numL n 19997) _ F 2 0 wf0 h (by omega)
          rw [num_zero n] at this
          exact this)
        clear h4
        go_wp2_with fail
        refine A3.out.mono ?_
        rintro e w4 ⟨rfl, h5⟩
        have A4 := hid (h5.read (E := .returned (.int .i64 20000)) fun F h => by
          have := Len_calls w4 t (numL n 19997) _ F h
          rw [numL_len] at this
          exact this)
        clear h5
        go_wp2_with fail
        refine A4.out.mono ?_
        rintro e w5 ⟨rfl, h6⟩
        have A5 := hid (known_calls w5)
        have A6 := hid h6.bel
        clear h6
        go_wp2_with fail
        refine A5.out.mono ?_
        rintro e w6 ⟨rfl, h7⟩
        go_wp2_with fail
        go_ret
        exact ⟨rfl, bel A6.out h7⟩
  · go_enter Try.func4, Try.ntmps4
    go_wp2_with fail
    refine HN.out.mono ?_
    rintro e w1 ⟨t, rfl, h1⟩
    have H1 := hid h1
    clear h1 HN
    have hn1 : 1 ≤ m + 1 := by omega
    have hn2 : m + 1 ≤ 1152921504606846976 := by omega
    generalize m + 1 = n at hn1 hn2 ⊢
    clear hneg hm1 hm2 hrem
    go_wp2_with fail
    go_loopg [5] 19997 (fun left v5 wr => ∃ i : Nat, left + i = 20000 ∧ 3 ≤ i ∧ v5 = .int .i64 (i : Int) ∧ Hid (NewAt w t (numL n (i - 3)) (2000 * i) wr))
    case atStart => exact ⟨3, by omega, by omega, rfl, hid (by rw [show 3 - 3 = 0 from rfl, numL_zero]; exact H1.out)⟩
    case round =>
      obtain ⟨i, hi, h3, rfl, U⟩ := hrel
      by_cases hlt : i < 20000
      · have hI : (i : Int) < 20000 := by omega
        obtain ⟨k, rfl⟩ : ∃ k, i = 3 + k := ⟨i - 3, by omega⟩
        rw [show 3 + k - 3 = k from by omega] at U
        cases gk with
        | zero => omega
        | succ left =>
        obtain ⟨z, hz⟩ : ∃ z : Nat, z = 3 + k := ⟨_, rfl⟩
        have HNUM := hid (U.out.call (r := (((3 + k : Nat) : Int), 0, numL n (k + 1))) fun F h => by
          have := Num_calls wr t (numL n k) _ F (n + ((3 + k : Nat) : Int)) (show wf64 _ from ⟨by omega, by omega⟩) h (by omega)
          rw [num_new n hn1 hn2 k (by omega)] at this
          exact this)
        rw [← hz] at HNUM hI ⊢
        have HZ := hid hz
        have hzb : (z : Int) < 20000 := by omega
        clear hlt h3 hz
        go_wp2_with fail
        refine HNUM.out.mono ?_
        rintro e w2 ⟨rfl, h2⟩
        have H2 := hid h2
        clear h2
        have hzz : ((z : Int) != (z : Int)) = false := by simp
        go_wp2_with fail
        go_roundg left
        case measure => omega
        case rel => exact ⟨z + 1, by have := HZ.out; omega, by have := HZ.out; omega, by go_num, hid (by have := HZ.out; rw [show z + 1 - 3 = k + 1 from by omega]; exact H2.out.more (by omega))⟩
      · obtain rfl : i = 20000 := by omega
        have A1 := hid (U.out.call (r := (0, 9, numL n 19997)) fun F h => by
          have := Num_calls wr t (numL n 19997) _ F (n + 20000) (show wf64 _ from ⟨by omega, by omega⟩) h (by omega)
          rw [num_full n hn1 hn2] at this
          exact this)
        clear hlt h3
        go_wp2_with fail
        refine A1.out.mono ?_
        rintro e w2 ⟨rfl, h2⟩
        have A2 := hid (h2.call (r := (3, 0, numL n 19997)) fun F h => by
          have := Num_calls w2 t (numL n 19997) _ F (n + 3) (show wf64 _ from ⟨by omega, by omega⟩) h (by omega)
          rw [num_again n hn1 hn2] at this
          exact this)
        clear h2
        go_wp2_with fail
        refine A2.out.mono ?_
        rintro e w3 ⟨rfl, h4⟩
        have A3 := hid (h4.call (r := (2, 0, numL n 19997)) fun F h => by
          have := Plus_calls w3 t (numL n 19997) _ F 2 0 wf0 h (by omega)
          rw [num_zero n] at this
          exact this)
        clear h4
        go_wp2_with fail
        refine A3.out.mono ?_
        rintro e w4 ⟨rfl, h5⟩
        have A4 := hid (h5.read (E := .returned (.int .i64 20000)) fun F h => by
          have := Len_calls w4 t (numL n 19997) _ F h
          rw [numL_len] at this
          exact this)
        clear h5
        go_wp2_with fail
        refine A4.out.mono ?_
        rintro e w5 ⟨rfl, h6⟩
        have A5 := hid (known_calls w5)
        have A6 := hid h6.bel
        clear h6
        go_wp2_with fail
        refine A5.out.mono ?_
        rintro e w6 ⟨rfl, h7⟩
        go_wp2_with fail
        go_ret
        exact ⟨rfl, bel A6.out h7⟩
theorem wf_i64 {x : Int} (h : (Lit.int .i64 x).wf = true) : wf64 x := by
  simp [Lit.wf, IntKind.min, IntKind.max, IntKind.signed, IntKind.bits] at h
  exact ⟨by omega, by omega⟩
def juristlaw06_TermsFull.f (a0 : Int) : Option Bool := if (Lit.int .i64 a0).wf = true then some true else none
theorem juristlaw06_TermsFull.calls (a0 : Int) (r : Bool) (w : World) (h : juristlaw06_TermsFull.f a0 = some r) :
    Calls Try.prog 4 #[.int .i64 a0] w fun e w' => e = .returned (.bool r) ∧ Below w.heap.size w w' := by
  unfold juristlaw06_TermsFull.f at h
  split at h
  · rename_i hw
    cases h
    exact full_walk w a0 (wf_i64 hw)
  · cases h
end Go.Proofs.Ytmgbodmpjholiaa.Hk
