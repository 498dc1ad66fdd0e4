-- Written by hookprint.py, a program of this session, with the kit's print as its engine. Lean checks it.
import Derived.Test.YtjlkjgoncfdaeaaHkx0
import Derived.Test.YtjlkjgoncfdaeaaManAll
import Derived.Test.YtjlkjgoncfdaeaaManKnown
import Derived.Test.YtjlkjgoncfdaeaaRupRu
namespace Go.Proofs.Ytjlkjgoncfdaeaa.Hk
open Go.RowKit Go.Proofs.YtjlkjgoncfdaeaaW.PrintWords Go.Proofs.YtjlkjgoncfdaeaaW.PrintLast Go.Proofs.YtjlkjgoncfdaeaaW.PrintMore
attribute [local go_sem] max2_int min2_int max_two min_two max_three min_three max_four min_four   -- for this text's walks alone
set_option linter.unusedVariables false
set_option linter.unusedSimpArgs false

/-! ### juristlaw16_small: function 23 -/
mutual
def juristlaw16_small.l0 : Nat → List (List Int) → Int → Int → Option (Bool)
  | 0, _, _, _ => none
  | k + 1, x0, x6, x7 => if x7 < x6 then (if 0 ≤ x7 then (if x7 < (x0.length : Int) then (juristlaw16_small.l1 k x0 x7 x6 x7 ((rd_L1 x0 x7).length : Int) 0) else (none)) else (none)) else (some true)
def juristlaw16_small.l1 : Nat → List (List Int) → Int → Int → Int → Int → Int → Option (Bool)
  | 0, _, _, _, _, _, _ => none
  | k + 1, x0, x3, x6, x7, x14, x15 => if x15 < x14 then (if 0 ≤ x3 then (if x3 < (x0.length : Int) then (if 0 ≤ x15 then (if x15 < ((rd_L1 x0 x3).length : Int) then (if (rd (rd_L1 x0 x3) x15) > 60 then (some false) else (if (rd (rd_L1 x0 x3) x15) < (-60) then (some false) else (if (rd (rd_L1 x0 x3) x15) = 0 then (some false) else (juristlaw16_small.l1 k x0 x3 x6 x7 x14 (wrap64 (x15 + 1)))))) else (none)) else (none)) else (none)) else (none)) else (juristlaw16_small.l0 k x0 x6 (wrap64 (x7 + 1)))
end
def juristlaw16_small.f (k : Nat) (l0 : List (List Int)) : Option (Bool) := juristlaw16_small.l0 k l0 (l0.length : Int) 0
theorem juristlaw16_small.mono_l : ∀ k, (∀ y0 y1 y2, LeO (juristlaw16_small.l0 k y0 y1 y2) (juristlaw16_small.l0 (k + 1) y0 y1 y2)) ∧ (∀ y0 y1 y2 y3 y4 y5, LeO (juristlaw16_small.l1 k y0 y1 y2 y3 y4 y5) (juristlaw16_small.l1 (k + 1) y0 y1 y2 y3 y4 y5))
  | 0 => ⟨fun _ _ _ r h => by simp [juristlaw16_small.l0] at h, fun _ _ _ _ _ _ r h => by simp [juristlaw16_small.l1] at h⟩
  | k + 1 => by
    obtain ⟨ih0, ih1⟩ := juristlaw16_small.mono_l k
    refine ⟨?_, ?_⟩
    · intro y0 y1 y2
      unfold juristlaw16_small.l0
      repeat' first
      | (with_reducible exact ih0 _ _ _)
      | (with_reducible exact ih1 _ _ _ _ _ _)
      | (with_reducible exact LeO.refl _)
      | (with_reducible exact LeO.none _)
      | (with_reducible refine LeO.ite ?_ ?_)
      | (with_reducible refine LeO.bind ?_ (fun _ => ?_))
      | exact ih0 _ _ _
      | exact ih1 _ _ _ _ _ _
      | exact LeO.none _
      | refine LeO.ite ?_ ?_
      | refine LeO.bind ?_ (fun _ => ?_)
    · intro y0 y1 y2 y3 y4 y5
      unfold juristlaw16_small.l1
      repeat' first
      | (with_reducible exact ih0 _ _ _)
      | (with_reducible exact ih1 _ _ _ _ _ _)
      | (with_reducible exact LeO.refl _)
      | (with_reducible exact LeO.none _)
      | (with_reducible refine LeO.ite ?_ ?_)
      | (with_reducible refine LeO.bind ?_ (fun _ => ?_))
      | exact ih0 _ _ _
      | exact ih1 _ _ _ _ _ _
      | exact LeO.none _
      | refine LeO.ite ?_ ?_
      | refine LeO.bind ?_ (fun _ => ?_)
theorem juristlaw16_small.mono : ∀ a0 k, LeO (juristlaw16_small.f k a0) (juristlaw16_small.f (k + 1) a0) := by
  intro a0 k
  obtain ⟨ih0, ih1⟩ := juristlaw16_small.mono_l k
  unfold juristlaw16_small.f
  repeat' first
      | (with_reducible exact ih0 _ _ _)
      | (with_reducible exact ih1 _ _ _ _ _ _)
      | (with_reducible exact LeO.refl _)
      | (with_reducible exact LeO.none _)
      | (with_reducible refine LeO.ite ?_ ?_)
      | (with_reducible refine LeO.bind ?_ (fun _ => ?_))
      | exact ih0 _ _ _
      | exact ih1 _ _ _ _ _ _
      | exact LeO.none _
      | refine LeO.ite ?_ ?_
      | refine LeO.bind ?_ (fun _ => ?_)
set_option maxHeartbeats 8000000 in
set_option maxRecDepth 100000 in
theorem juristlaw16_small.calls (k : Nat) (A0 : Option Addr) (c0 : Nat) (l0 : List (List Int)) (r : Bool) (w : World) (hr0 : Kd.C (Kd.slice 46 (Kd.int .i64)) w A0 l0.length l0) (hc0 : l0.length ≤ c0) (h : juristlaw16_small.f k l0 = some r) :
    Calls Try.prog 23 #[.slice A0 l0.length c0] w fun e w' => e = .returned (.bool r) ∧ Drawn0 w w' := by
  have HR0 := Aside0.mk hr0
  have HC0 := Aside0.mk hc0
  clear hr0 hc0
  have H : (juristlaw16_small.l0 k l0 (l0.length : Int) 0) = some r := h
  clear h
  have H' := Aside0.mk H
  clear H
  go_enter Try.func23, Try.ntmps23
  go_wp2
  go_loopg [7] k (fun kq v7 w' => ∃ (x7_1 : Int), v7 = .int .i64 x7_1 ∧ Aside0 (juristlaw16_small.l0 kq l0 (l0.length : Int) x7_1 = some r) ∧ Aside0 (kq ≤ k) ∧ Drawn0 w w')
  case atStart => exact ⟨(0), (by first | rfl | (simp; done) | (simp [*]; done)), H', ⟨Nat.le_refl _⟩, by repeat (first | exact Drawn0.refl _ | apply Drawn0.step)⟩
  case round =>
    clear H'
    obtain ⟨x7_1, rfl, HA, HK1, ⟨m1, rfl⟩⟩ := hrel
    cases gk with
    | zero => exact absurd HA.out (by simp [juristlaw16_small.l0])
    | succ k1 =>
      have H := HA.out
      clear HA
      simp only [juristlaw16_small.l0] at H
      by_cases c2 : x7_1 < (l0.length : Int)
      · rw [if_pos c2] at H
        have c2b0 : decide (x7_1 < (l0.length : Int)) = true := decide_eq_true c2
        clear c2
        by_cases c3 : 0 ≤ x7_1
        · rw [if_pos c3] at H
          have c3b0 : decide (0 ≤ x7_1) = true := decide_eq_true c3
          clear c3
          by_cases c4 : x7_1 < (l0.length : Int)
          · rw [if_pos c4] at H
            have c4b0 : decide (x7_1 < (l0.length : Int)) = true := decide_eq_true c4
            clear c4
            have H' := Aside0.mk H
            clear H
            have p296 : 0 ≤ (x7_1 : Int) := of_decide_eq_true (by first | (with_reducible assumption) | assumption)
            have q296 : x7_1 < (l0.length : Int) := of_decide_eq_true (by first | (with_reducible assumption) | assumption)
            obtain ⟨ad296, A296_0, c296_0, e296, hx296_0, hl296_0, hi296_0⟩ := at_L1 HR0.out x7_1 p296 q296
            cases e296
            have HR296_0 := Aside0.mk hi296_0
            have HC296_0 := Aside0.mk hl296_0
            clear hi296_0 hl296_0
            replace p296 := eq_true p296
            replace q296 := eq_true q296
            go_wp2
            go_loopg [15] k1 (fun kq v15 w' => ∃ (x15_2 : Int), v15 = .int .i64 x15_2 ∧ Aside0 (juristlaw16_small.l1 kq l0 x7_1 (l0.length : Int) x7_1 ((rd_L1 l0 x7_1).length : Int) x15_2 = some r) ∧ Aside0 (kq ≤ k1) ∧ Drawn0 w w')
            case atStart => exact ⟨(0), (by first | rfl | (simp; done) | (simp [*]; done)), H', ⟨Nat.le_refl _⟩, by repeat (first | exact Drawn0.refl _ | apply Drawn0.step)⟩
            case round =>
              clear H'
              try clear c2
              try clear c2b0
              try clear p2
              try clear q2
              try clear hx2
              try clear c3
              try clear c3b0
              try clear c4
              try clear c4b0
              try clear hx296_0
              try clear p296
              try clear q296
              obtain ⟨x15_2, rfl, HA, HK2, ⟨m2, rfl⟩⟩ := hrel
              cases gk with
              | zero => exact absurd HA.out (by simp [juristlaw16_small.l1])
              | succ k2 =>
                have H := HA.out
                clear HA
                simp only [juristlaw16_small.l1] at H
                by_cases c5 : x15_2 < ((rd_L1 l0 x7_1).length : Int)
                · rw [if_pos c5] at H
                  have c5b0 : decide (x15_2 < ((rd_L1 l0 x7_1).length : Int)) = true := decide_eq_true c5
                  clear c5
                  by_cases c6 : 0 ≤ x7_1
                  · rw [if_pos c6] at H
                    have c6b0 : decide (0 ≤ x7_1) = true := decide_eq_true c6
                    clear c6
                    by_cases c7 : x7_1 < (l0.length : Int)
                    · rw [if_pos c7] at H
                      have c7b0 : decide (x7_1 < (l0.length : Int)) = true := decide_eq_true c7
                      clear c7
                      by_cases c8 : 0 ≤ x15_2
                      · rw [if_pos c8] at H
                        have c8b0 : decide (0 ≤ x15_2) = true := decide_eq_true c8
                        clear c8
                        by_cases c9 : x15_2 < ((rd_L1 l0 x7_1).length : Int)
                        · rw [if_pos c9] at H
                          have c9b0 : decide (x15_2 < ((rd_L1 l0 x7_1).length : Int)) = true := decide_eq_true c9
                          clear c9
                          by_cases c10 : (rd (rd_L1 l0 x7_1) x15_2) > 60
                          · rw [if_pos c10] at H
                            have c10b0 : decide (60 < (rd (rd_L1 l0 x7_1) x15_2)) = true := decide_eq_true c10
                            clear c10
                            obtain rfl := Option.some.inj H
                            have p297 : 0 ≤ (x7_1 : Int) := of_decide_eq_true (by first | (with_reducible assumption) | assumption)
                            have q297 : x7_1 < (l0.length : Int) := of_decide_eq_true (by first | (with_reducible assumption) | assumption)
                            obtain ⟨ad297, A297_0, c297_0, e297, hx297_0, hl297_0, hi297_0⟩ := at_L1 HR0.out x7_1 p297 q297
                            obtain rfl : ad296 = ad297 := (by injection e297)
                            have HR297_0 := Aside0.mk hi297_0
                            have HC297_0 := Aside0.mk hl297_0
                            clear hi297_0 hl297_0
                            replace p297 := eq_true p297
                            replace q297 := eq_true q297
                            have p298 : 0 ≤ (x15_2 : Int) := of_decide_eq_true (by first | (with_reducible assumption) | assumption)
                            have q298 : x15_2 < ((rd_L1 l0 x7_1).length : Int) := of_decide_eq_true (by first | (with_reducible assumption) | assumption)
                            obtain ⟨ad298, e298, hx298_0⟩ := Kd.at_int HR297_0.out x15_2 p298 q298
                            cases e298
                            replace p298 := eq_true p298
                            replace q298 := eq_true q298
                            go_wp2
                            go_ret
                            exact ⟨by first | rfl | (simp; done) | (simp [*]; done), by repeat (first | exact Drawn0.refl _ | apply Drawn0.step)⟩
                          · rw [if_neg c10] at H
                            have c10b0 : decide (60 < (rd (rd_L1 l0 x7_1) x15_2)) = false := decide_eq_false c10
                            clear c10
                            by_cases c11 : (rd (rd_L1 l0 x7_1) x15_2) < (-60)
                            · rw [if_pos c11] at H
                              have c11b0 : decide ((rd (rd_L1 l0 x7_1) x15_2) < (-60)) = true := decide_eq_true c11
                              clear c11
                              obtain rfl := Option.some.inj H
                              have p297 : 0 ≤ (x7_1 : Int) := of_decide_eq_true (by first | (with_reducible assumption) | assumption)
                              have q297 : x7_1 < (l0.length : Int) := of_decide_eq_true (by first | (with_reducible assumption) | assumption)
                              obtain ⟨ad297, A297_0, c297_0, e297, hx297_0, hl297_0, hi297_0⟩ := at_L1 HR0.out x7_1 p297 q297
                              obtain rfl : ad296 = ad297 := (by injection e297)
                              have HR297_0 := Aside0.mk hi297_0
                              have HC297_0 := Aside0.mk hl297_0
                              clear hi297_0 hl297_0
                              replace p297 := eq_true p297
                              replace q297 := eq_true q297
                              have p298 : 0 ≤ (x15_2 : Int) := of_decide_eq_true (by first | (with_reducible assumption) | assumption)
                              have q298 : x15_2 < ((rd_L1 l0 x7_1).length : Int) := of_decide_eq_true (by first | (with_reducible assumption) | assumption)
                              obtain ⟨ad298, e298, hx298_0⟩ := Kd.at_int HR297_0.out x15_2 p298 q298
                              cases e298
                              replace p298 := eq_true p298
                              replace q298 := eq_true q298
                              have p299 : 0 ≤ (x7_1 : Int) := of_decide_eq_true (by first | (with_reducible assumption) | assumption)
                              have q299 : x7_1 < (l0.length : Int) := of_decide_eq_true (by first | (with_reducible assumption) | assumption)
                              obtain ⟨ad299, A299_0, c299_0, e299, hx299_0, hl299_0, hi299_0⟩ := at_L1 HR0.out x7_1 p299 q299
                              obtain rfl : ad296 = ad299 := (by injection e299)
                              have HR299_0 := Aside0.mk hi299_0
                              have HC299_0 := Aside0.mk hl299_0
                              clear hi299_0 hl299_0
                              replace p299 := eq_true p299
                              replace q299 := eq_true q299
                              have ea_ := Option.some.inj (hx297_0.symm.trans hx299_0)
                              injection ea_ with ea_ en_ ec_
                              subst ea_
                              subst ec_
                              clear en_
                              have p300 : 0 ≤ (x15_2 : Int) := of_decide_eq_true (by first | (with_reducible assumption) | assumption)
                              have q300 : x15_2 < ((rd_L1 l0 x7_1).length : Int) := of_decide_eq_true (by first | (with_reducible assumption) | assumption)
                              obtain ⟨ad300, e300, hx300_0⟩ := Kd.at_int HR299_0.out x15_2 p300 q300
                              cases e300
                              replace p300 := eq_true p300
                              replace q300 := eq_true q300
                              go_wp2
                              go_ret
                              exact ⟨by first | rfl | (simp; done) | (simp [*]; done), by repeat (first | exact Drawn0.refl _ | apply Drawn0.step)⟩
                            · rw [if_neg c11] at H
                              have c11b0 : decide ((rd (rd_L1 l0 x7_1) x15_2) < (-60)) = false := decide_eq_false c11
                              clear c11
                              by_cases c12 : (rd (rd_L1 l0 x7_1) x15_2) = 0
                              · rw [if_pos c12] at H
                                have c12b0 : ((rd (rd_L1 l0 x7_1) x15_2) == 0) = true := beq_iff_eq.mpr c12
                                have c12b1 : ((rd (rd_L1 l0 x7_1) x15_2) != 0) = false := bne_eq_false_iff_eq.mpr c12
                                clear c12
                                obtain rfl := Option.some.inj H
                                have p297 : 0 ≤ (x7_1 : Int) := of_decide_eq_true (by first | (with_reducible assumption) | assumption)
                                have q297 : x7_1 < (l0.length : Int) := of_decide_eq_true (by first | (with_reducible assumption) | assumption)
                                obtain ⟨ad297, A297_0, c297_0, e297, hx297_0, hl297_0, hi297_0⟩ := at_L1 HR0.out x7_1 p297 q297
                                obtain rfl : ad296 = ad297 := (by injection e297)
                                have HR297_0 := Aside0.mk hi297_0
                                have HC297_0 := Aside0.mk hl297_0
                                clear hi297_0 hl297_0
                                replace p297 := eq_true p297
                                replace q297 := eq_true q297
                                have p298 : 0 ≤ (x15_2 : Int) := of_decide_eq_true (by first | (with_reducible assumption) | assumption)
                                have q298 : x15_2 < ((rd_L1 l0 x7_1).length : Int) := of_decide_eq_true (by first | (with_reducible assumption) | assumption)
                                obtain ⟨ad298, e298, hx298_0⟩ := Kd.at_int HR297_0.out x15_2 p298 q298
                                cases e298
                                replace p298 := eq_true p298
                                replace q298 := eq_true q298
                                have p299 : 0 ≤ (x7_1 : Int) := of_decide_eq_true (by first | (with_reducible assumption) | assumption)
                                have q299 : x7_1 < (l0.length : Int) := of_decide_eq_true (by first | (with_reducible assumption) | assumption)
                                obtain ⟨ad299, A299_0, c299_0, e299, hx299_0, hl299_0, hi299_0⟩ := at_L1 HR0.out x7_1 p299 q299
                                obtain rfl : ad296 = ad299 := (by injection e299)
                                have HR299_0 := Aside0.mk hi299_0
                                have HC299_0 := Aside0.mk hl299_0
                                clear hi299_0 hl299_0
                                replace p299 := eq_true p299
                                replace q299 := eq_true q299
                                have ea_ := Option.some.inj (hx297_0.symm.trans hx299_0)
                                injection ea_ with ea_ en_ ec_
                                subst ea_
                                subst ec_
                                clear en_
                                have p300 : 0 ≤ (x15_2 : Int) := of_decide_eq_true (by first | (with_reducible assumption) | assumption)
                                have q300 : x15_2 < ((rd_L1 l0 x7_1).length : Int) := of_decide_eq_true (by first | (with_reducible assumption) | assumption)
                                obtain ⟨ad300, e300, hx300_0⟩ := Kd.at_int HR299_0.out x15_2 p300 q300
                                cases e300
                                replace p300 := eq_true p300
                                replace q300 := eq_true q300
                                have p301 : 0 ≤ (x7_1 : Int) := of_decide_eq_true (by first | (with_reducible assumption) | assumption)
                                have q301 : x7_1 < (l0.length : Int) := of_decide_eq_true (by first | (with_reducible assumption) | assumption)
                                obtain ⟨ad301, A301_0, c301_0, e301, hx301_0, hl301_0, hi301_0⟩ := at_L1 HR0.out x7_1 p301 q301
                                obtain rfl : ad296 = ad301 := (by injection e301)
                                have HR301_0 := Aside0.mk hi301_0
                                have HC301_0 := Aside0.mk hl301_0
                                clear hi301_0 hl301_0
                                replace p301 := eq_true p301
                                replace q301 := eq_true q301
                                have ea_ := Option.some.inj (hx297_0.symm.trans hx301_0)
                                injection ea_ with ea_ en_ ec_
                                subst ea_
                                subst ec_
                                clear en_
                                have p302 : 0 ≤ (x15_2 : Int) := of_decide_eq_true (by first | (with_reducible assumption) | assumption)
                                have q302 : x15_2 < ((rd_L1 l0 x7_1).length : Int) := of_decide_eq_true (by first | (with_reducible assumption) | assumption)
                                obtain ⟨ad302, e302, hx302_0⟩ := Kd.at_int HR301_0.out x15_2 p302 q302
                                cases e302
                                replace p302 := eq_true p302
                                replace q302 := eq_true q302
                                go_wp2
                                go_ret
                                exact ⟨by first | rfl | (simp; done) | (simp [*]; done), by repeat (first | exact Drawn0.refl _ | apply Drawn0.step)⟩
                              · rw [if_neg c12] at H
                                have c12b0 : ((rd (rd_L1 l0 x7_1) x15_2) == 0) = false := beq_eq_false_iff_ne.mpr c12
                                have c12b1 : ((rd (rd_L1 l0 x7_1) x15_2) != 0) = true := bne_iff_ne.mpr c12
                                have H' := Aside0.mk H
                                clear H
                                have p297 : 0 ≤ (x7_1 : Int) := of_decide_eq_true (by first | (with_reducible assumption) | assumption)
                                have q297 : x7_1 < (l0.length : Int) := of_decide_eq_true (by first | (with_reducible assumption) | assumption)
                                obtain ⟨ad297, A297_0, c297_0, e297, hx297_0, hl297_0, hi297_0⟩ := at_L1 HR0.out x7_1 p297 q297
                                obtain rfl : ad296 = ad297 := (by injection e297)
                                have HR297_0 := Aside0.mk hi297_0
                                have HC297_0 := Aside0.mk hl297_0
                                clear hi297_0 hl297_0
                                replace p297 := eq_true p297
                                replace q297 := eq_true q297
                                have p298 : 0 ≤ (x15_2 : Int) := of_decide_eq_true (by first | (with_reducible assumption) | assumption)
                                have q298 : x15_2 < ((rd_L1 l0 x7_1).length : Int) := of_decide_eq_true (by first | (with_reducible assumption) | assumption)
                                obtain ⟨ad298, e298, hx298_0⟩ := Kd.at_int HR297_0.out x15_2 p298 q298
                                cases e298
                                replace p298 := eq_true p298
                                replace q298 := eq_true q298
                                have p299 : 0 ≤ (x7_1 : Int) := of_decide_eq_true (by first | (with_reducible assumption) | assumption)
                                have q299 : x7_1 < (l0.length : Int) := of_decide_eq_true (by first | (with_reducible assumption) | assumption)
                                obtain ⟨ad299, A299_0, c299_0, e299, hx299_0, hl299_0, hi299_0⟩ := at_L1 HR0.out x7_1 p299 q299
                                obtain rfl : ad296 = ad299 := (by injection e299)
                                have HR299_0 := Aside0.mk hi299_0
                                have HC299_0 := Aside0.mk hl299_0
                                clear hi299_0 hl299_0
                                replace p299 := eq_true p299
                                replace q299 := eq_true q299
                                have ea_ := Option.some.inj (hx297_0.symm.trans hx299_0)
                                injection ea_ with ea_ en_ ec_
                                subst ea_
                                subst ec_
                                clear en_
                                have p300 : 0 ≤ (x15_2 : Int) := of_decide_eq_true (by first | (with_reducible assumption) | assumption)
                                have q300 : x15_2 < ((rd_L1 l0 x7_1).length : Int) := of_decide_eq_true (by first | (with_reducible assumption) | assumption)
                                obtain ⟨ad300, e300, hx300_0⟩ := Kd.at_int HR299_0.out x15_2 p300 q300
                                cases e300
                                replace p300 := eq_true p300
                                replace q300 := eq_true q300
                                have p301 : 0 ≤ (x7_1 : Int) := of_decide_eq_true (by first | (with_reducible assumption) | assumption)
                                have q301 : x7_1 < (l0.length : Int) := of_decide_eq_true (by first | (with_reducible assumption) | assumption)
                                obtain ⟨ad301, A301_0, c301_0, e301, hx301_0, hl301_0, hi301_0⟩ := at_L1 HR0.out x7_1 p301 q301
                                obtain rfl : ad296 = ad301 := (by injection e301)
                                have HR301_0 := Aside0.mk hi301_0
                                have HC301_0 := Aside0.mk hl301_0
                                clear hi301_0 hl301_0
                                replace p301 := eq_true p301
                                replace q301 := eq_true q301
                                have ea_ := Option.some.inj (hx297_0.symm.trans hx301_0)
                                injection ea_ with ea_ en_ ec_
                                subst ea_
                                subst ec_
                                clear en_
                                have p302 : 0 ≤ (x15_2 : Int) := of_decide_eq_true (by first | (with_reducible assumption) | assumption)
                                have q302 : x15_2 < ((rd_L1 l0 x7_1).length : Int) := of_decide_eq_true (by first | (with_reducible assumption) | assumption)
                                obtain ⟨ad302, e302, hx302_0⟩ := Kd.at_int HR301_0.out x15_2 p302 q302
                                cases e302
                                replace p302 := eq_true p302
                                replace q302 := eq_true q302
                                go_wp2
                                go_roundg k2
                                case measure => have := HK1.out; have := HK2.out; omega
                                case rel => exact ⟨(wrap64 (x15_2 + 1)), (by first | rfl | (simp; done) | (simp [*]; done)), H', ⟨by have := HK1.out; have := HK2.out; omega⟩, by repeat (first | exact Drawn0.refl _ | apply Drawn0.step)⟩
                        · rw [if_neg c9] at H
                          exact absurd H (by simp)
                      · rw [if_neg c8] at H
                        exact absurd H (by simp)
                    · rw [if_neg c7] at H
                      exact absurd H (by simp)
                  · rw [if_neg c6] at H
                    exact absurd H (by simp)
                · rw [if_neg c5] at H
                  have c5b0 : decide (x15_2 < ((rd_L1 l0 x7_1).length : Int)) = false := decide_eq_false c5
                  clear c5
                  have H' := Aside0.mk H
                  clear H
                  go_wp2
                  go_roundg k2
                  case measure => have := HK1.out; have := HK2.out; omega
                  case rel => exact ⟨(wrap64 (x7_1 + 1)), (by first | rfl | (simp; done) | (simp [*]; done)), H', ⟨by have := HK1.out; have := HK2.out; omega⟩, by repeat (first | exact Drawn0.refl _ | apply Drawn0.step)⟩
          · rw [if_neg c4] at H
            exact absurd H (by simp)
        · rw [if_neg c3] at H
          exact absurd H (by simp)
      · rw [if_neg c2] at H
        have c2b0 : decide (x7_1 < (l0.length : Int)) = false := decide_eq_false c2
        clear c2
        obtain rfl := Option.some.inj H
        go_wp2
        go_ret
        exact ⟨by first | rfl | (simp; done) | (simp [*]; done), by repeat (first | exact Drawn0.refl _ | apply Drawn0.step)⟩

end Go.Proofs.Ytjlkjgoncfdaeaa.Hk
