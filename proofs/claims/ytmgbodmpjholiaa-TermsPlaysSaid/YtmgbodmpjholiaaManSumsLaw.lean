/- Walk of the law TermsSums. -/
import Derived.Test.YtmgbodmpjholiaaTermF
import Derived.Test.YtmgbodmpjholiaaTermPS
import Derived.Test.YtmgbodmpjholiaaManFullLaw
namespace Go.Proofs.Ytmgbodmpjholiaa.Hk
open Go.RowKit Go.Maps Go.Shelf Go.Lib Go.Proofs.YtmgbodmpjholiaaW.PrintWords Go.Proofs.YtmgbodmpjholiaaW.PrintLast Go.Proofs.YtmgbodmpjholiaaW.PrintMore Go.Proofs.Ytmgbodmpjholiaa.MM Go.Proofs.Ytmgbodmpjholiaa.KM Go.Proofs.Ytmgbodmpjholiaa.TM
attribute [local go_sem ↓] Go.wp_at_zero Go.wp_at_succ
set_option linter.unusedSimpArgs false
set_option linter.unusedVariables false

/-- What a row that is read says of its cells. -/
theorem cells_of_C {w : World} {A : Option Addr} {l : List Int} (h : Kd.C (Kd.int .i64) w A l.length l) (h0 : 0 < l.length) :
    ∃ b off, A = some ⟨b, off, none⟩ ∧ ∀ j, j < l.length → w.cell? ⟨b, off + j, none⟩ = some (.int .i64 (l.getD j 0)) := by
  obtain ⟨ad, e, hc⟩ := Kd.at_int h 0 (by omega) (by omega)
  obtain ⟨b, off, sp⟩ := ad
  have hsp : sp = none := by
    unfold World.cell? at hc
    simp only [Addr.add] at hc
    cases sp with
    | none => rfl
    | some s => split at hc <;> simp at hc
  subst hsp
  refine ⟨b, off, e, fun j hj => ?_⟩
  obtain ⟨ad', e', hc'⟩ := Kd.at_int h (j : Int) (by omega) (by omega)
  rw [e] at e'
  cases e'
  rw [Int.toNat_natCast, Addr.add_lit] at hc'
  rw [hc']
  congr 2
structure SumsAt (w : World) (t : Nat) (l : List Int) (k i : Nat) (S : List NodeM) (a b : Int) (wr : World) : Prop where
  at_ : NewAt w t S (8000 + 4000 * i) wr
  ext : Ext S
  sa : IsSum S a (l.take i).sum
  sb : IsSum S b ((rot l k).take i).sum
  len : S.length ≤ 4 + 2 * i
  il : i ≤ l.length
/-- What the sum is, as far as it is looked at. -/
structure SumAt (l : List Int) (i : Nat) (s : Int) : Prop where
  eq : s = (l.take i).sum
  bd : ∀ j, j < i → -288230376151711744 ≤ l.getD j 0 ∧ l.getD j 0 ≤ 288230376151711744
  il : i ≤ l.length
theorem SumAt.bound {l : List Int} {i : Nat} {s : Int} (h : SumAt l i s) (hl : l.length ≤ 8) : -2305843009213693952 ≤ s ∧ s ≤ 2305843009213693952 := by
  rw [h.eq]
  have h1 := sum_bound (l := l.take i) (B := 288230376151711744) (by omega) fun x hx => by
    obtain ⟨j, hj, e⟩ := List.getElem_of_mem hx
    rw [List.getElem_take] at e
    have hj' : j < i := by rw [List.length_take] at hj; omega
    have := h.bd j hj'
    rw [List.getD_eq_getElem?_getD, List.getElem?_eq_getElem (by have := h.il; omega)] at this
    rw [← e]
    exact this
  have h2 : (l.take i).length ≤ 8 := Nat.le_trans (List.length_take_le' _ _) hl
  omega
theorem SumAt.step {l : List Int} {i : Nat} {s : Int} (h : SumAt l i s) (hi : i < l.length) (h1 : -288230376151711744 ≤ l.getD i 0) (h2 : l.getD i 0 ≤ 288230376151711744) : SumAt l (i + 1) (s + l.getD i 0) where
  eq := by rw [take_sum_snoc l i hi, h.eq]
  bd := fun j hj => by
    rcases Nat.lt_or_ge j i with h3 | h3
    · exact h.bd j h3
    · have : j = i := by omega
      subst this
      exact ⟨h1, h2⟩
  il := hi
set_option maxRecDepth 100000 in
set_option maxHeartbeats 3200000 in
theorem sums_main (w : World) (A0 : Option Addr) (c0 : Nat) (l : List Int) (a1 : Int) (h0 : Kd.C (Kd.int .i64) w A0 l.length l) (g0 : l.length ≤ 8) (hw1 : wf64 a1) :
    Calls Try.prog 3 #[.slice A0 l.length c0, .int .i64 a1] w fun e w' => e = .returned (.bool true) ∧ Below w.heap.size w w' := by
  obtain ⟨N, hN⟩ : ∃ N, N = l.length := ⟨_, rfl⟩
  have HC := hid h0
  rw [← hN] at g0 ⊢
  have HNL := hid hN
  have hg : ¬ (N : Int) > 8 := by omega
  have HKN := hid (known_calls w)
  have HNEW := hid (New_at w)
  have HW1 := hid hw1
  clear h0 hN hw1
  go_enter Try.func3, Try.ntmps3
  go_wp2_with fail
  go_loop [5, 6] (fun v5 v6 => ∃ (s : Int) (i : Nat), v5 = .int .i64 s ∧ v6 = .int .i64 (i : Int) ∧ i ≤ N ∧ Hid (SumAt l i s)) (fun _ v6 => N - (intOf v6).toNat)
  case atStart => exact ⟨0, 0, rfl, rfl, by omega, hid ⟨by simp, fun j hj => by omega, by omega⟩⟩
  case round =>
    obtain ⟨s, i, rfl, rfl, hiN, U⟩ := hrel
    have hs := U.out.bound (by rw [← HNL.out]; exact g0)
    obtain ⟨hs1, hs2⟩ := hs
    by_cases hlt : i < N
    · have hltI : (i : Int) < (N : Int) := by omega
      obtain ⟨b, off, rfl, hcc⟩ := cells_of_C HC.out (by have := HNL.out; omega)
      have hx := hcc i (by have := HNL.out; omega)
      obtain ⟨x, hxe⟩ : ∃ x, x = l.getD i 0 := ⟨_, rfl⟩
      rw [← hxe] at hx
      have HXE := hid hxe
      clear hcc hxe
      by_cases r1 : x < -288230376151711744
      · go_wp2_with fail
        refine HKN.out.mono ?_
        rintro e w9 ⟨rfl, b9⟩
        go_wp2_with fail
        go_ret
        exact ⟨rfl, b9⟩
      · by_cases r2 : x > 288230376151711744
        · go_wp2_with fail
          refine HKN.out.mono ?_
          rintro e w9 ⟨rfl, b9⟩
          go_wp2_with fail
          go_ret
          exact ⟨rfl, b9⟩
        · have r1' : -288230376151711744 ≤ x := by omega
          have r2' : x ≤ 288230376151711744 := by omega
          have HST := hid (U.out.step (by have := HNL.out; omega) (by rw [← HXE.out]; exact r1') (by rw [← HXE.out]; exact r2'))
          rw [← HXE.out] at HST
          go_wp2_with fail
          go_round
          case rel => exact ⟨s + x, i + 1, rfl, by go_num, by omega, HST⟩
          case measure => simp [intOf]; omega
    · obtain rfl : i = N := by omega
      have HSUM := hid (show s = l.sum by rw [U.out.eq, List.take_of_length_le (by have := HNL.out; omega)])
      have HALL := hid (show ∀ x ∈ l, -288230376151711744 ≤ x ∧ x ≤ 288230376151711744 from fun x hx => by
        obtain ⟨j, hj, e⟩ := List.getElem_of_mem hx
        have := U.out.bd j (by have := HNL.out; omega)
        rw [List.getD_eq_getElem?_getD, List.getElem?_eq_getElem hj] at this
        rw [← e]
        exact this)
      clear U hlt
      go_wp2_with fail
      refine HNEW.out.mono ?_
      rintro e w1 ⟨t, rfl, h1⟩
      have HAPP := hid (h1.call (r := (3, 0, sumL)) fun F h => by
        have := App_calls w1 t newM 6000 F 3 1 (.slice none 0 0) [] (.nil _ _) ⟨by omega, by omega⟩ wf1 h (by omega)
        exact this)
      clear h1 HNEW HKN
      go_wp2_with fail
      refine HAPP.out.mono ?_
      rintro e w2 ⟨rfl, h2⟩
      have H2 := hid h2
      clear h2 HAPP
      obtain ⟨kk, hkk⟩ : ∃ kk : Nat, (kk : Int) = a1 % 18446744073709551616 % 8 := ⟨(a1 % 18446744073709551616 % 8).toNat, by omega⟩
      have hk8 : kk < 8 := by omega
      have HKK := hid hkk
      clear hkk
      go_wp2_with fail
      go_loopg [10, 11, 12] i (fun left v10 v11 v12 wr => ∃ (j : Nat) (S : List NodeM) (a b : Int), left + j = i ∧ v10 = .int .i64 a ∧ v11 = .int .i64 b ∧ v12 = .int .i64 (j : Int) ∧ Hid (SumsAt w t l kk j S a b wr))
      case atStart => exact ⟨0, sumL, 3, 3, by omega, rfl, rfl, rfl, hid ⟨H2.out.more (by omega), ⟨[], by simp⟩, by rw [List.take_zero]; exact sum3 _, by rw [List.take_zero]; exact sum3 _, by simp [sumL, newM], by omega⟩⟩
      case round =>
        obtain ⟨j, S, a, b, hj, rfl, rfl, rfl, V⟩ := hrel
        by_cases hji : j < i
        · have hjI : (j : Int) < (i : Int) := by omega
          cases gk with
          | zero => omega
          | succ left =>
          obtain ⟨bb, off, rfl, hcc⟩ := cells_of_C HC.out (by have := HNL.out; omega)
          have hccW := hcc
          have HCELL := hid (fun (W : World) (hW : Below w.heap.size w W) (z : Nat) (hz : z < l.length) => (by
            obtain ⟨b2, o2, e2, h2⟩ := cells_of_C (Kd.C_below HC.out hW) (by omega)
            cases e2
            exact h2 z hz : W.cell? ⟨bb, off + z, none⟩ = some (.int .i64 (l.getD z 0))))
          clear hcc hccW
          have hx := HCELL.out wr V.out.at_.bel j (by have := HNL.out; omega)
          obtain ⟨x, hxe⟩ : ∃ x, x = l.getD j 0 := ⟨_, rfl⟩
          obtain ⟨z, hze⟩ : ∃ z, z = (j + kk) % i := ⟨_, rfl⟩
          have hzi : z < i := by rw [hze]; exact Nat.mod_lt _ (by omega)
          obtain ⟨y, hye⟩ : ∃ y, y = l.getD z 0 := ⟨_, rfl⟩
          have hjl : j < l.length := by have := HNL.out; omega
          have hry : (rot l kk).getD j 0 = y := by rw [rot_get l kk j hjl, hye, hze, HNL.out]
          have hrl := rot_len l kk
          have b1 := take_bound HALL.out (by have := HNL.out; omega) j
          have b1' := take_bound HALL.out (by have := HNL.out; omega) (j + 1)
          have b2 := take_bound (l := rot l kk) (fun x hx => HALL.out x (rot_mem hx)) (by have := HNL.out; omega) j
          have b2' := take_bound (l := rot l kk) (fun x hx => HALL.out x (rot_mem hx)) (by have := HNL.out; omega) (j + 1)
          rw [take_sum_snoc l j hjl, ← hxe] at b1'
          rw [take_sum_snoc _ j (by omega), hry] at b2'
          have hxw : -288230376151711744 ≤ x ∧ x ≤ 288230376151711744 := by rw [hxe, List.getD_eq_getElem?_getD, List.getElem?_eq_getElem hjl]; exact HALL.out _ (List.getElem_mem _)
          have hyw : -288230376151711744 ≤ y ∧ y ≤ 288230376151711744 := by rw [hye, List.getD_eq_getElem?_getD, List.getElem?_eq_getElem (by have := HNL.out; omega)]; exact HALL.out _ (List.getElem_mem _)
          obtain ⟨r1, S1, p1, p2, p3, p4, p5⟩ := plus_sum V.out.ext V.out.sa (n := x) ((bound_iff _).2 (by omega)) ((bound_iff _).2 (by omega)) (by have := V.out.len; omega)
          obtain ⟨r2, S2, q1, q2, q3, q4, q5⟩ := plus_sum p3 (p5 _ _ V.out.sb) (n := y) ((bound_iff _).2 (by omega)) ((bound_iff _).2 (by omega)) (by have := V.out.len; omega)
          have C1 := hid (V.out.at_.call (r := plusM S a x) fun F h => Plus_calls wr t S _ F a x (by unfold wf64; omega) h (by omega))
          rw [p1] at C1
          have C2 := hid (fun (W : World) (hW : NewAt w t S1 (8000 + 4000 * j + 2000) W) => hW.call (r := plusM S1 b y) fun F h => Plus_calls W t S1 _ F b y (by unfold wf64; omega) h (by omega))
          rw [q1] at C2
          have NEXT := hid (fun (W : World) (hW : NewAt w t S2 (8000 + 4000 * j + 2000 + 2000) W) => (⟨hW.more (by omega), q3, by rw [take_sum_snoc l j hjl, ← hxe]; exact q5 _ _ p2, by rw [take_sum_snoc _ j (by omega), hry]; exact q2, by have := V.out.len; omega, by omega⟩ : SumsAt w t l kk (j + 1) S2 r1 r2 W))
          rw [← hxe] at hx
          have HYE := hid hye
          have HZE := hid hze
          clear hxe hze hye hry hrl b1 b1' b2 b2' hxw hyw p1 p2 p3 p4 p5 q1 q2 q3 q4 q5
          go_wp2_with fail
          refine C1.out.mono ?_
          rintro e w3 ⟨rfl, h3⟩
          have hy := HCELL.out w3 h3.bel z (by have := HNL.out; omega)
          rw [← HYE.out] at hy
          have C3 := hid (C2.out w3 h3)
          obtain ⟨U, hU⟩ : ∃ U, U = a1 % 18446744073709551616 := ⟨_, rfl⟩
          have hzI : (z : Int) < (i : Int) := by omega
          have e0 : IntKind.u64.wrap a1 = U ∧ U.tmod 8 = (kk : Int) ∧ ((j : Int) + (kk : Int)).tmod (i : Int) = (z : Int) := by
            refine ⟨?_, ?_, ?_⟩
            · rw [hU]; simp [IntKind.wrap, IntKind.signed, IntKind.bits]
            · rw [HKK.out, ← hU, Int.tmod_eq_emod_of_nonneg (by omega)]
            · rw [HZE.out, Int.tmod_eq_emod_of_nonneg (by omega)]; rfl
          obtain ⟨e1, e2, e3⟩ := e0
          have hk8I : (kk : Int) < 8 := by clear e1 e2 e3; omega
          clear h3 C1 C2 hU
          go_wp2_with fail
          refine C3.out.mono ?_
          rintro e w4 ⟨rfl, h4⟩
          have N4 := hid (NEXT.out w4 h4)
          clear h4 C3 NEXT hx hy e1 e2 e3
          go_wp2_with fail
          go_roundg left
          case measure => omega
          case rel => exact ⟨j + 1, S2, r1, r2, by omega, rfl, rfl, by go_num, N4⟩
        · obtain rfl : j = i := by have := V.out.il; have := HNL.out; omega
          have hsa : IsSum S a s := by rw [HSUM.out]; have := V.out.sa; rwa [List.take_of_length_le (by have := HNL.out; omega)] at this
          have hsb : IsSum S b s := by rw [HSUM.out]; have := V.out.sb; rwa [List.take_of_length_le (by have := HNL.out; have := rot_len l kk; omega), rot_sum] at this
          obtain rfl := hsa.uniq hsb
          obtain ⟨r1, S1, p1, p2, p3, p4, p5⟩ := plus_sum V.out.ext (sum3 S) (n := s) ((bound_iff _).2 (by omega)) ((bound_iff _).2 (by omega)) (by have := V.out.len; omega)
          rw [Int.zero_add] at p2
          obtain rfl := (p5 _ _ hsa).uniq p2
          have hsp := p2.split p3
          obtain ⟨r2, S2, q1, q2, q3, q4, q5⟩ := plus_sum p3 (sum3 S1) (n := s) ((bound_iff _).2 (by omega)) ((bound_iff _).2 (by omega)) (by have := V.out.len; omega)
          rw [Int.zero_add] at q2
          obtain rfl := (q5 _ _ p2).uniq q2
          have hj8 : j ≤ 8 := g0
          have C1 := hid (V.out.at_.call (r := plusM S 3 s) fun F h => Plus_calls wr t S _ F 3 s (by unfold wf64; omega) h (by omega))
          rw [p1] at C1
          have C2 := hid (fun (W : World) (hW : NewAt w t S1 (8000 + 4000 * j + 2000) W) => hW.read (E := .returned (.tuple #[.int .i64 3, .int .i64 s, .int .i64 0])) fun F h => (by
            have := Split_calls W t S1 _ F a h
            rw [hsp] at this
            exact this))
          have C3 := hid (fun (W : World) (hW : NewAt w t S1 (8000 + 4000 * j + 2000) W) => hW.call (r := plusM S1 3 s) fun F h => Plus_calls W t S1 _ F 3 s (by unfold wf64; omega) h (by omega))
          rw [q1] at C3
          clear hji hsa hsb p1 p2 p3 p4 p5 q1 q2 q3 q4 q5 hsp
          go_wp2_with fail
          refine C1.out.mono ?_
          rintro e w3 ⟨rfl, h3⟩
          have D2 := hid (C2.out w3 h3)
          clear h3 C1
          go_wp2_with fail
          refine D2.out.mono ?_
          rintro e w4 ⟨rfl, h4⟩
          have D3 := hid (C3.out w4 h4)
          clear h4 C2 D2
          go_wp2_with fail
          refine D3.out.mono ?_
          rintro e w5 ⟨rfl, h5⟩
          have KN := hid (known_calls w5)
          have B5 := hid h5.bel
          clear h5 D3 C3
          go_wp2_with fail
          refine KN.out.mono ?_
          rintro e w6 ⟨rfl, h6⟩
          go_wp2_with fail
          go_ret
          exact ⟨rfl, TM.bel B5.out h6⟩
theorem sums_walk (w : World) (A0 : Option Addr) (c0 : Nat) (l : List Int) (a1 : Int) (h0 : Kd.C (Kd.int .i64) w A0 l.length l) (hw1 : wf64 a1) :
    Calls Try.prog 3 #[.slice A0 l.length c0, .int .i64 a1] w fun e w' => e = .returned (.bool true) ∧ Below w.heap.size w w' := by
  by_cases g0 : l.length ≤ 8
  · exact sums_main w A0 c0 l a1 h0 g0 hw1
  · have hg : (l.length : Int) > 8 := by omega
    have HKN := hid (known_calls w)
    obtain ⟨N, hN⟩ : ∃ N, N = l.length := ⟨_, rfl⟩
    rw [← hN] at hg ⊢
    clear h0 hw1 g0 hN
    go_enter Try.func3, Try.ntmps3
    go_wp2_with fail
    refine HKN.out.mono ?_
    rintro e w9 ⟨rfl, b9⟩
    go_wp2_with fail
    go_ret
    exact ⟨rfl, b9⟩
def juristlaw06_TermsSums.f (_l0 : List Int) (a1 : Int) : Option Bool := if (Lit.int .i64 a1).wf = true then some true else none
theorem juristlaw06_TermsSums.calls (A0 : Option Addr) (c0 : Nat) (l0 : List Int) (a1 : Int) (r : Bool) (w : World) (h0 : Kd.C (Kd.int .i64) w A0 l0.length l0) (_ : l0.length ≤ c0) (h : juristlaw06_TermsSums.f l0 a1 = some r) :
    Calls Try.prog 3 #[.slice A0 l0.length c0, .int .i64 a1] w fun e w' => e = .returned (.bool r) ∧ Below w.heap.size w w' := by
  unfold juristlaw06_TermsSums.f at h
  split at h
  · rename_i hw
    cases h
    exact sums_walk w A0 c0 l0 a1 h0 (wf_i64 hw)
  · cases h
end Go.Proofs.Ytmgbodmpjholiaa.Hk
