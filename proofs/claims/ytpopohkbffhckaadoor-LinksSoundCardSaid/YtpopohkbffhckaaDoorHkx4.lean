-- Written by hookprint.py, a program of this session, with the kit's print as its engine. Lean checks it.
import Derived.Test.YtpopohkbffhckaaDoorHkx0
import Derived.Test.YtpopohkbffhckaaDoorManA
namespace Go.Proofs.YtpopohkbffhckaaDoor.Hk
open Go.RowKit Go.Proofs.YtpopohkbffhckaaDoorW.PrintWords Go.Proofs.YtpopohkbffhckaaDoorW.PrintLast Go.Proofs.YtpopohkbffhckaaDoorW.PrintMore
attribute [local go_sem] max2_int min2_int max_two min_two max_three min_three max_four min_four   -- for this text's walks alone
set_option linter.unusedVariables false
set_option linter.unusedSimpArgs false

/-! ### juristref17_Fits: function 16 -/
mutual
def juristref17_Fits.j0 : Nat → List (S46) → List Int → Bool → Option (Bool)
  | 0, _, _, _ => none
  | k + 1, x0, x1, x22 => if x22 = true then (some false) else (juristref17_Fits.l0 k x0 x1 0)
def juristref17_Fits.l0 : Nat → List (S46) → List Int → Int → Option (Bool)
  | 0, _, _, _ => none
  | k + 1, x0, x1, x5 => if x5 < (x0.length : Int) then (juristref17_Fits.l1 k x0 x1 x5 0) else (some true)
def juristref17_Fits.l1 : Nat → List (S46) → List Int → Int → Int → Option (Bool)
  | 0, _, _, _, _ => none
  | k + 1, x0, x1, x5, x6 => if x6 < x5 then (if 0 ≤ x5 then (if x5 < (x0.length : Int) then (if ((rd_T46 x0 x5).f0) < 0 then (juristref17_Fits.j3 k x0 x1 x5 x6 true) else (if 0 ≤ x6 then (if x6 < (x0.length : Int) then (if ((rd_T46 x0 x5).f0) = ((rd_T46 x0 x6).f0) then (juristref17_Fits.j3 k x0 x1 x5 x6 ((((rd_T46 x0 x5).f1).length : Int) != (((rd_T46 x0 x6).f1).length : Int))) else (juristref17_Fits.j3 k x0 x1 x5 x6 true)) else (none)) else (none))) else (none)) else (none)) else (juristref17_Fits.l0 k x0 x1 (wrap64 (x5 + 1)))
def juristref17_Fits.j3 : Nat → List (S46) → List Int → Int → Int → Bool → Option (Bool)
  | 0, _, _, _, _, _ => none
  | k + 1, x0, x1, x5, x6, x67 => if x67 = true then (juristref17_Fits.l1 k x0 x1 x5 (wrap64 (x6 + 1))) else (juristref17_Fits.l2 k x0 x1 x5 x6 true 0)
def juristref17_Fits.l2 : Nat → List (S46) → List Int → Int → Int → Bool → Int → Option (Bool)
  | 0, _, _, _, _, _, _ => none
  | k + 1, x0, x1, x5, x6, x7, x8 => if 0 ≤ x5 then (if x5 < (x0.length : Int) then (if x8 < (((rd_T46 x0 x5).f1).length : Int) then (if x7 = true then (if 0 ≤ x8 then (if 0 ≤ (rd ((rd_T46 x0 x5).f1) x8) then (if (rd ((rd_T46 x0 x5).f1) x8) < (x1.length : Int) then (if 0 ≤ x6 then (if x6 < (x0.length : Int) then (if x8 < (((rd_T46 x0 x6).f1).length : Int) then (if 0 ≤ (rd ((rd_T46 x0 x6).f1) x8) then (if (rd ((rd_T46 x0 x6).f1) x8) < (x1.length : Int) then (juristref17_Fits.l2 k x0 x1 x5 x6 ((rd x1 (rd ((rd_T46 x0 x5).f1) x8)) == (rd x1 (rd ((rd_T46 x0 x6).f1) x8))) (wrap64 (x8 + 1))) else (none)) else (none)) else (none)) else (none)) else (none)) else (none)) else (none)) else (none)) else (juristref17_Fits.l2 k x0 x1 x5 x6 false (wrap64 (x8 + 1)))) else (if x7 = true then (if x5 < (x1.length : Int) then (if 0 ≤ x6 then (if x6 < (x1.length : Int) then (if (rd x1 x5) = (rd x1 x6) then (juristref17_Fits.l1 k x0 x1 x5 (wrap64 (x6 + 1))) else (some false)) else (none)) else (none)) else (none)) else (juristref17_Fits.l1 k x0 x1 x5 (wrap64 (x6 + 1))))) else (none)) else (none)
end
def juristref17_Fits.f (k : Nat) (l0 : List (S46)) (l1 : List Int) : Option (Bool) := if (l1.length : Int) < (l0.length : Int) then (juristref17_Fits.j0 k l0 l1 true) else (if 0 < (l1.length : Int) then (if 1 < (l1.length : Int) then (juristref17_Fits.j0 k l0 l1 ((rd l1 0) == (rd l1 1))) else (none)) else (none))
theorem juristref17_Fits.mono_l : ∀ k, (∀ y0 y1 y2, LeO (juristref17_Fits.j0 k y0 y1 y2) (juristref17_Fits.j0 (k + 1) y0 y1 y2)) ∧ (∀ y0 y1 y2, LeO (juristref17_Fits.l0 k y0 y1 y2) (juristref17_Fits.l0 (k + 1) y0 y1 y2)) ∧ (∀ y0 y1 y2 y3, LeO (juristref17_Fits.l1 k y0 y1 y2 y3) (juristref17_Fits.l1 (k + 1) y0 y1 y2 y3)) ∧ (∀ y0 y1 y2 y3 y4, LeO (juristref17_Fits.j3 k y0 y1 y2 y3 y4) (juristref17_Fits.j3 (k + 1) y0 y1 y2 y3 y4)) ∧ (∀ y0 y1 y2 y3 y4 y5, LeO (juristref17_Fits.l2 k y0 y1 y2 y3 y4 y5) (juristref17_Fits.l2 (k + 1) y0 y1 y2 y3 y4 y5))
  | 0 => ⟨fun _ _ _ r h => by simp [juristref17_Fits.j0] at h, fun _ _ _ r h => by simp [juristref17_Fits.l0] at h, fun _ _ _ _ r h => by simp [juristref17_Fits.l1] at h, fun _ _ _ _ _ r h => by simp [juristref17_Fits.j3] at h, fun _ _ _ _ _ _ r h => by simp [juristref17_Fits.l2] at h⟩
  | k + 1 => by
    obtain ⟨ih0, ih1, ih2, ih3, ih4⟩ := juristref17_Fits.mono_l k
    refine ⟨?_, ?_, ?_, ?_, ?_⟩
    · intro y0 y1 y2
      unfold juristref17_Fits.j0
      repeat' first
      | (with_reducible exact ih0 _ _ _)
      | (with_reducible exact ih1 _ _ _)
      | (with_reducible exact ih2 _ _ _ _)
      | (with_reducible exact ih3 _ _ _ _ _)
      | (with_reducible exact ih4 _ _ _ _ _ _)
      | (with_reducible exact LeO.refl _)
      | (with_reducible exact LeO.none _)
      | (with_reducible refine LeO.ite ?_ ?_)
      | (with_reducible refine LeO.bind ?_ (fun _ => ?_))
      | exact ih0 _ _ _
      | exact ih1 _ _ _
      | exact ih2 _ _ _ _
      | exact ih3 _ _ _ _ _
      | exact ih4 _ _ _ _ _ _
      | exact LeO.none _
      | refine LeO.ite ?_ ?_
      | refine LeO.bind ?_ (fun _ => ?_)
    · intro y0 y1 y2
      unfold juristref17_Fits.l0
      repeat' first
      | (with_reducible exact ih0 _ _ _)
      | (with_reducible exact ih1 _ _ _)
      | (with_reducible exact ih2 _ _ _ _)
      | (with_reducible exact ih3 _ _ _ _ _)
      | (with_reducible exact ih4 _ _ _ _ _ _)
      | (with_reducible exact LeO.refl _)
      | (with_reducible exact LeO.none _)
      | (with_reducible refine LeO.ite ?_ ?_)
      | (with_reducible refine LeO.bind ?_ (fun _ => ?_))
      | exact ih0 _ _ _
      | exact ih1 _ _ _
      | exact ih2 _ _ _ _
      | exact ih3 _ _ _ _ _
      | exact ih4 _ _ _ _ _ _
      | exact LeO.none _
      | refine LeO.ite ?_ ?_
      | refine LeO.bind ?_ (fun _ => ?_)
    · intro y0 y1 y2 y3
      unfold juristref17_Fits.l1
      repeat' first
      | (with_reducible exact ih0 _ _ _)
      | (with_reducible exact ih1 _ _ _)
      | (with_reducible exact ih2 _ _ _ _)
      | (with_reducible exact ih3 _ _ _ _ _)
      | (with_reducible exact ih4 _ _ _ _ _ _)
      | (with_reducible exact LeO.refl _)
      | (with_reducible exact LeO.none _)
      | (with_reducible refine LeO.ite ?_ ?_)
      | (with_reducible refine LeO.bind ?_ (fun _ => ?_))
      | exact ih0 _ _ _
      | exact ih1 _ _ _
      | exact ih2 _ _ _ _
      | exact ih3 _ _ _ _ _
      | exact ih4 _ _ _ _ _ _
      | exact LeO.none _
      | refine LeO.ite ?_ ?_
      | refine LeO.bind ?_ (fun _ => ?_)
    · intro y0 y1 y2 y3 y4
      unfold juristref17_Fits.j3
      repeat' first
      | (with_reducible exact ih0 _ _ _)
      | (with_reducible exact ih1 _ _ _)
      | (with_reducible exact ih2 _ _ _ _)
      | (with_reducible exact ih3 _ _ _ _ _)
      | (with_reducible exact ih4 _ _ _ _ _ _)
      | (with_reducible exact LeO.refl _)
      | (with_reducible exact LeO.none _)
      | (with_reducible refine LeO.ite ?_ ?_)
      | (with_reducible refine LeO.bind ?_ (fun _ => ?_))
      | exact ih0 _ _ _
      | exact ih1 _ _ _
      | exact ih2 _ _ _ _
      | exact ih3 _ _ _ _ _
      | exact ih4 _ _ _ _ _ _
      | exact LeO.none _
      | refine LeO.ite ?_ ?_
      | refine LeO.bind ?_ (fun _ => ?_)
    · intro y0 y1 y2 y3 y4 y5
      unfold juristref17_Fits.l2
      repeat' first
      | (with_reducible exact ih0 _ _ _)
      | (with_reducible exact ih1 _ _ _)
      | (with_reducible exact ih2 _ _ _ _)
      | (with_reducible exact ih3 _ _ _ _ _)
      | (with_reducible exact ih4 _ _ _ _ _ _)
      | (with_reducible exact LeO.refl _)
      | (with_reducible exact LeO.none _)
      | (with_reducible refine LeO.ite ?_ ?_)
      | (with_reducible refine LeO.bind ?_ (fun _ => ?_))
      | exact ih0 _ _ _
      | exact ih1 _ _ _
      | exact ih2 _ _ _ _
      | exact ih3 _ _ _ _ _
      | exact ih4 _ _ _ _ _ _
      | exact LeO.none _
      | refine LeO.ite ?_ ?_
      | refine LeO.bind ?_ (fun _ => ?_)
theorem juristref17_Fits.mono : ∀ a0 a1 k, LeO (juristref17_Fits.f k a0 a1) (juristref17_Fits.f (k + 1) a0 a1) := by
  intro a0 a1 k
  obtain ⟨ih0, ih1, ih2, ih3, ih4⟩ := juristref17_Fits.mono_l k
  unfold juristref17_Fits.f
  repeat' first
      | (with_reducible exact ih0 _ _ _)
      | (with_reducible exact ih1 _ _ _)
      | (with_reducible exact ih2 _ _ _ _)
      | (with_reducible exact ih3 _ _ _ _ _)
      | (with_reducible exact ih4 _ _ _ _ _ _)
      | (with_reducible exact LeO.refl _)
      | (with_reducible exact LeO.none _)
      | (with_reducible refine LeO.ite ?_ ?_)
      | (with_reducible refine LeO.bind ?_ (fun _ => ?_))
      | exact ih0 _ _ _
      | exact ih1 _ _ _
      | exact ih2 _ _ _ _
      | exact ih3 _ _ _ _ _
      | exact ih4 _ _ _ _ _ _
      | exact LeO.none _
      | refine LeO.ite ?_ ?_
      | refine LeO.bind ?_ (fun _ => ?_)
set_option maxHeartbeats 8000000 in
set_option maxRecDepth 100000 in
theorem juristref17_Fits.calls (k : Nat) (A0 : Option Addr) (c0 : Nat) (l0 : List (S46)) (A1 : Option Addr) (c1 : Nat) (l1 : List Int) (r : Bool) (w : World) (hr0 : Kd.C k46 w A0 l0.length l0) (hc0 : l0.length ≤ c0) (hr1 : Kd.C (Kd.int .i64) w A1 l1.length l1) (hc1 : l1.length ≤ c1) (h : juristref17_Fits.f k l0 l1 = some r) :
    Calls Tryd.prog 16 #[.slice A0 l0.length c0, .slice A1 l1.length c1] w fun e w' => e = .returned (.bool r) ∧ Drawn0 w w' := by
  have HR0 := Aside0.mk hr0
  have HC0 := Aside0.mk hc0
  clear hr0 hc0
  have HR1 := Aside0.mk hr1
  have HC1 := Aside0.mk hc1
  clear hr1 hc1
  have H : (if (l1.length : Int) < (l0.length : Int) then (juristref17_Fits.j0 k l0 l1 true) else (if 0 < (l1.length : Int) then (if 1 < (l1.length : Int) then (juristref17_Fits.j0 k l0 l1 ((rd l1 0) == (rd l1 1))) else (none)) else (none))) = some r := h
  clear h
  have HC3 := Aside0.mk H
  clear H
  go_enter Tryd.func16, Tryd.ntmps16
  go_upto_region 1 with (fail)
  repeat (go_quiet (fail); go_upto_region 1 with (fail))
  go_cut [22] (fun v22 wc => ∃ (kq : Nat) (x22_2 : Bool), v22 = .bool x22_2 ∧ Aside0 (juristref17_Fits.j0 kq l0 l1 x22_2 = some r) ∧ Aside0 (kq ≤ k) ∧ Drawn0 w wc)
  case first =>
    have H := HC3.out
    clear HC3
    by_cases c4 : (l1.length : Int) < (l0.length : Int)
    · rw [if_pos c4] at H
      have c4b0 : decide ((l1.length : Int) < (l0.length : Int)) = true := decide_eq_true c4
      have c4b1 : decide (l1.length < l0.length) = true := decide_eq_true (Int.ofNat_lt.mp c4)
      clear c4
      (first | rw [c4b0] | (simp only [i64_w, i32_w]; rw [c4b0]) | skip)
      have H' := Aside0.mk H
      clear H
      go_wp2
      repeat (go_quiet (fail); try go_wp2)
      go_meet
      case rel => exact ⟨_, (true), (by first | rfl | (simp; done) | (simp [*]; done)), H', ⟨by first | omega | exact Nat.le_refl _⟩, by repeat (first | exact Drawn0.refl _ | apply Drawn0.step)⟩
    · rw [if_neg c4] at H
      have c4b0 : decide ((l1.length : Int) < (l0.length : Int)) = false := decide_eq_false c4
      have c4b1 : decide (l1.length < l0.length) = false := decide_eq_false (fun h => c4 (Int.ofNat_lt.mpr h))
      clear c4
      (first | rw [c4b0] | (simp only [i64_w, i32_w]; rw [c4b0]) | skip)
      by_cases c5 : 0 < (l1.length : Int)
      · rw [if_pos c5] at H
        have c5b0 : decide (0 < (l1.length : Int)) = true := decide_eq_true c5
        have c5b1 : decide (0 < l1.length) = true := decide_eq_true (by omega)
        clear c5
        by_cases c6 : 1 < (l1.length : Int)
        · rw [if_pos c6] at H
          have c6b0 : decide (1 < (l1.length : Int)) = true := decide_eq_true c6
          have c6b1 : decide (1 < l1.length) = true := decide_eq_true (by omega)
          clear c6
          have H' := Aside0.mk H
          clear H
          have p235 : 0 ≤ (0 : Int) := (by omega)
          have q235 : 0 < (l1.length : Int) := of_decide_eq_true (by first | (with_reducible assumption) | assumption)
          obtain ⟨ad235, e235, hx235_0⟩ := Kd.at_int HR1.out 0 p235 q235
          cases e235
          have qi235 : (0 < l1.length) = True := eq_true (by omega)
          (try rw [show ((0 : Int)).toNat = 0 from rfl] at hx235_0)
          (try rw [Addr.add_zero'] at hx235_0)
          replace p235 := eq_true p235
          replace q235 := eq_true q235
          have p236 : 0 ≤ (1 : Int) := (by omega)
          have q236 : 1 < (l1.length : Int) := of_decide_eq_true (by first | (with_reducible assumption) | assumption)
          obtain ⟨ad236, e236, hx236_0⟩ := Kd.at_int HR1.out 1 p236 q236
          obtain rfl : ad235 = ad236 := (by injection e236)
          (try simp only [show (1 : Int).toNat = 1 from rfl, Nat.reduceMul, Nat.reduceEqDiff, Go.Addr.add, ↓reduceIte] at hx236_0)
          have qi236 : (1 < l1.length) = True := eq_true (by omega)
          (try rw [show ((1 : Int)).toNat = 1 from rfl] at hx236_0)
          replace p236 := eq_true p236
          replace q236 := eq_true q236
          go_wp2
          repeat (go_quiet (fail); try go_wp2)
          go_meet
          case rel => exact ⟨_, (((rd l1 0) == (rd l1 1))), (by first | rfl | (simp; done) | (simp [*]; done)), H', ⟨by first | omega | exact Nat.le_refl _⟩, by repeat (first | exact Drawn0.refl _ | apply Drawn0.step)⟩
        · rw [if_neg c6] at H
          exact absurd H (by simp)
      · rw [if_neg c5] at H
        exact absurd H (by simp)
  case rest =>
    clear HC3
    try clear c1
    try clear p2
    try clear q2
    try clear hx2
    try clear qi2
    try clear c4
    try clear c4b0
    try clear c4b1
    try clear c5
    try clear c5b0
    try clear c5b1
    try clear c6
    try clear c6b0
    try clear c6b1
    try clear hx235_0
    try clear hx236_0
    try clear p235
    try clear p236
    try clear q235
    try clear q236
    obtain ⟨kq, x22_2, rfl, HA, HJ2, ⟨mc2, rfl⟩⟩ := hcut
    cases kq with
    | zero => exact absurd HA.out (by simp [juristref17_Fits.j0])
    | succ kj2 =>
      have H := HA.out
      clear HA
      simp only [juristref17_Fits.j0] at H
      by_cases c7 : x22_2 = true
      · subst c7
        have H1 : (some false) = some r := by rw [if_pos rfl] at H; exact H
        clear H
        have H := H1
        clear H1
        obtain rfl := Option.some.inj H
        go_wp2
        repeat (go_quiet (fail); try go_wp2)
        go_ret
        exact ⟨by first | rfl | (simp; done) | (simp [*]; done), by repeat (first | exact Drawn0.refl _ | apply Drawn0.step)⟩
      · replace c7 := Bool.eq_false_iff.mpr c7
        subst c7
        have H1 : (juristref17_Fits.l0 kj2 l0 l1 0) = some r := by rw [if_neg (show ¬ (false = true) by decide)] at H; exact H
        clear H
        have H := H1
        clear H1
        have H' := Aside0.mk H
        clear H
        go_wp2
        repeat (go_quiet (fail); try go_wp2)
        go_loopg [5] kj2 (fun kq v5 w' => ∃ (x5_2 : Int), v5 = .int .i64 x5_2 ∧ Aside0 (juristref17_Fits.l0 kq l0 l1 x5_2 = some r) ∧ Aside0 (kq ≤ kj2) ∧ Drawn0 w w')
        case atStart => exact ⟨(0), (by first | rfl | (simp; done) | (simp [*]; done)), H', ⟨Nat.le_refl _⟩, by repeat (first | exact Drawn0.refl _ | apply Drawn0.step)⟩
        case round =>
          clear H'
          try clear c1
          try clear c2
          try clear p2
          try clear q2
          try clear hx2
          try clear qi2
          try clear c4
          try clear c4b0
          try clear c4b1
          try clear c5
          try clear c5b0
          try clear c5b1
          try clear c6
          try clear c6b0
          try clear c6b1
          try clear c7
          try clear hx235_0
          try clear hx236_0
          try clear p2
          try clear p235
          try clear p236
          try clear q2
          try clear q235
          try clear q236
          obtain ⟨x5_2, rfl, HA, HK2, ⟨m2, rfl⟩⟩ := hrel
          cases gk with
          | zero => exact absurd HA.out (by simp [juristref17_Fits.l0])
          | succ k2 =>
            have H := HA.out
            clear HA
            simp only [juristref17_Fits.l0] at H
            by_cases c8 : x5_2 < (l0.length : Int)
            · rw [if_pos c8] at H
              have c8b0 : decide (x5_2 < (l0.length : Int)) = true := decide_eq_true c8
              clear c8
              have H' := Aside0.mk H
              clear H
              go_wp2
              repeat (go_quiet (fail); try go_wp2)
              go_loopg [6] k2 (fun kq v6 w' => ∃ (x6_3 : Int), v6 = .int .i64 x6_3 ∧ Aside0 (juristref17_Fits.l1 kq l0 l1 x5_2 x6_3 = some r) ∧ Aside0 (kq ≤ k2) ∧ Drawn0 w w')
              case atStart => exact ⟨(0), (by first | rfl | (simp; done) | (simp [*]; done)), H', ⟨Nat.le_refl _⟩, by repeat (first | exact Drawn0.refl _ | apply Drawn0.step)⟩
              case round =>
                clear H'
                try clear c1
                try clear c2
                try clear p2
                try clear q2
                try clear hx2
                try clear qi2
                try clear c4
                try clear c4b0
                try clear c4b1
                try clear c5
                try clear c5b0
                try clear c5b1
                try clear c6
                try clear c6b0
                try clear c6b1
                try clear c7
                try clear c8
                try clear c8b0
                try clear hx235_0
                try clear hx236_0
                try clear p2
                try clear p235
                try clear p236
                try clear q2
                try clear q235
                try clear q236
                obtain ⟨x6_3, rfl, HA, HK3, ⟨m3, rfl⟩⟩ := hrel
                cases gk with
                | zero => exact absurd HA.out (by simp [juristref17_Fits.l1])
                | succ k3 =>
                  have H := HA.out
                  clear HA
                  simp only [juristref17_Fits.l1] at H
                  by_cases c9 : x6_3 < x5_2
                  · rw [if_pos c9] at H
                    have c9b0 : decide (x6_3 < x5_2) = true := decide_eq_true c9
                    clear c9
                    have HC10 := Aside0.mk H
                    clear H
                    go_upto_region 9 with (fail)
                    repeat (go_quiet (fail); go_upto_region 9 with (fail))
                    go_cut [67] (fun v67 wc => ∃ (kq : Nat) (x67_9 : Bool), v67 = .bool x67_9 ∧ Aside0 (juristref17_Fits.j3 kq l0 l1 x5_2 x6_3 x67_9 = some r) ∧ Aside0 (kq ≤ k3) ∧ Drawn0 w wc)
                    case first =>
                      have H := HC10.out
                      clear HC10
                      by_cases c11 : 0 ≤ x5_2
                      · rw [if_pos c11] at H
                        have c11b0 : decide (0 ≤ x5_2) = true := decide_eq_true c11
                        clear c11
                        (first | rw [c11b0] | (simp only [i64_w, i32_w]; rw [c11b0]) | skip)
                        by_cases c12 : x5_2 < (l0.length : Int)
                        · rw [if_pos c12] at H
                          have c12b0 : decide (x5_2 < (l0.length : Int)) = true := decide_eq_true c12
                          clear c12
                          by_cases c13 : ((rd_T46 l0 x5_2).f0) < 0
                          · rw [if_pos c13] at H
                            have c13b0 : decide (((rd_T46 l0 x5_2).f0) < 0) = true := decide_eq_true c13
                            clear c13
                            have H' := Aside0.mk H
                            clear H
                            have p237 : 0 ≤ (x5_2 : Int) := of_decide_eq_true (by first | (with_reducible assumption) | assumption)
                            have q237 : x5_2 < (l0.length : Int) := of_decide_eq_true (by first | (with_reducible assumption) | assumption)
                            obtain ⟨ad237, A237_1, c237_1, e237, hx237_0, hx237_1, hx237_2, hx237_3, hx237_4, hl237_1, hi237_1⟩ := at_T46 HR0.out x5_2 p237 q237
                            cases e237
                            have HR237_1 := Aside0.mk hi237_1
                            have HC237_1 := Aside0.mk hl237_1
                            clear hi237_1 hl237_1
                            replace p237 := eq_true p237
                            replace q237 := eq_true q237
                            go_wp2
                            repeat (go_quiet (fail); try go_wp2)
                            go_meet
                            case rel => exact ⟨_, (true), (by first | rfl | (simp; done) | (simp [*]; done)), H', ⟨by have := HJ2.out; have := HK2.out; have := HK3.out; first | omega | exact Nat.le_refl _⟩, by repeat (first | exact Drawn0.refl _ | apply Drawn0.step)⟩
                          · rw [if_neg c13] at H
                            have c13b0 : decide (((rd_T46 l0 x5_2).f0) < 0) = false := decide_eq_false c13
                            clear c13
                            by_cases c14 : 0 ≤ x6_3
                            · rw [if_pos c14] at H
                              have c14b0 : decide (0 ≤ x6_3) = true := decide_eq_true c14
                              clear c14
                              by_cases c15 : x6_3 < (l0.length : Int)
                              · rw [if_pos c15] at H
                                have c15b0 : decide (x6_3 < (l0.length : Int)) = true := decide_eq_true c15
                                clear c15
                                by_cases c16 : ((rd_T46 l0 x5_2).f0) = ((rd_T46 l0 x6_3).f0)
                                · rw [if_pos c16] at H
                                  have c16b0 : (((rd_T46 l0 x5_2).f0) == ((rd_T46 l0 x6_3).f0)) = true := beq_iff_eq.mpr c16
                                  have c16b1 : (((rd_T46 l0 x5_2).f0) != ((rd_T46 l0 x6_3).f0)) = false := bne_eq_false_iff_eq.mpr c16
                                  clear c16
                                  have H' := Aside0.mk H
                                  clear H
                                  have p237 : 0 ≤ (x5_2 : Int) := of_decide_eq_true (by first | (with_reducible assumption) | assumption)
                                  have q237 : x5_2 < (l0.length : Int) := of_decide_eq_true (by first | (with_reducible assumption) | assumption)
                                  obtain ⟨ad237, A237_1, c237_1, e237, hx237_0, hx237_1, hx237_2, hx237_3, hx237_4, hl237_1, hi237_1⟩ := at_T46 HR0.out x5_2 p237 q237
                                  cases e237
                                  have HR237_1 := Aside0.mk hi237_1
                                  have HC237_1 := Aside0.mk hl237_1
                                  clear hi237_1 hl237_1
                                  replace p237 := eq_true p237
                                  replace q237 := eq_true q237
                                  have p238 : 0 ≤ (x5_2 : Int) := of_decide_eq_true (by first | (with_reducible assumption) | assumption)
                                  have q238 : x5_2 < (l0.length : Int) := of_decide_eq_true (by first | (with_reducible assumption) | assumption)
                                  obtain ⟨ad238, A238_1, c238_1, e238, hx238_0, hx238_1, hx238_2, hx238_3, hx238_4, hl238_1, hi238_1⟩ := at_T46 HR0.out x5_2 p238 q238
                                  obtain rfl : ad237 = ad238 := (by injection e238)
                                  have HR238_1 := Aside0.mk hi238_1
                                  have HC238_1 := Aside0.mk hl238_1
                                  clear hi238_1 hl238_1
                                  replace p238 := eq_true p238
                                  replace q238 := eq_true q238
                                  have ea_ := Option.some.inj (hx237_1.symm.trans hx238_1)
                                  injection ea_ with ea_ en_ ec_
                                  subst ea_
                                  subst ec_
                                  clear en_
                                  have p239 : 0 ≤ (x6_3 : Int) := of_decide_eq_true (by first | (with_reducible assumption) | assumption)
                                  have q239 : x6_3 < (l0.length : Int) := of_decide_eq_true (by first | (with_reducible assumption) | assumption)
                                  obtain ⟨ad239, A239_1, c239_1, e239, hx239_0, hx239_1, hx239_2, hx239_3, hx239_4, hl239_1, hi239_1⟩ := at_T46 HR0.out x6_3 p239 q239
                                  obtain rfl : ad237 = ad239 := (by injection e239)
                                  have HR239_1 := Aside0.mk hi239_1
                                  have HC239_1 := Aside0.mk hl239_1
                                  clear hi239_1 hl239_1
                                  replace p239 := eq_true p239
                                  replace q239 := eq_true q239
                                  have p240 : 0 ≤ (x5_2 : Int) := of_decide_eq_true (by first | (with_reducible assumption) | assumption)
                                  have q240 : x5_2 < (l0.length : Int) := of_decide_eq_true (by first | (with_reducible assumption) | assumption)
                                  obtain ⟨ad240, A240_1, c240_1, e240, hx240_0, hx240_1, hx240_2, hx240_3, hx240_4, hl240_1, hi240_1⟩ := at_T46 HR0.out x5_2 p240 q240
                                  obtain rfl : ad237 = ad240 := (by injection e240)
                                  have HR240_1 := Aside0.mk hi240_1
                                  have HC240_1 := Aside0.mk hl240_1
                                  clear hi240_1 hl240_1
                                  replace p240 := eq_true p240
                                  replace q240 := eq_true q240
                                  have ea_ := Option.some.inj (hx237_1.symm.trans hx240_1)
                                  injection ea_ with ea_ en_ ec_
                                  subst ea_
                                  subst ec_
                                  clear en_
                                  have p241 : 0 ≤ (x6_3 : Int) := of_decide_eq_true (by first | (with_reducible assumption) | assumption)
                                  have q241 : x6_3 < (l0.length : Int) := of_decide_eq_true (by first | (with_reducible assumption) | assumption)
                                  obtain ⟨ad241, A241_1, c241_1, e241, hx241_0, hx241_1, hx241_2, hx241_3, hx241_4, hl241_1, hi241_1⟩ := at_T46 HR0.out x6_3 p241 q241
                                  obtain rfl : ad237 = ad241 := (by injection e241)
                                  have HR241_1 := Aside0.mk hi241_1
                                  have HC241_1 := Aside0.mk hl241_1
                                  clear hi241_1 hl241_1
                                  replace p241 := eq_true p241
                                  replace q241 := eq_true q241
                                  have ea_ := Option.some.inj (hx239_1.symm.trans hx241_1)
                                  injection ea_ with ea_ en_ ec_
                                  subst ea_
                                  subst ec_
                                  clear en_
                                  go_wp2
                                  repeat (go_quiet (fail); try go_wp2)
                                  go_meet
                                  case rel => exact ⟨_, (((((rd_T46 l0 x5_2).f1).length : Int) != (((rd_T46 l0 x6_3).f1).length : Int))), (by first | rfl | (simp; done) | (simp [*]; done)), H', ⟨by have := HJ2.out; have := HK2.out; have := HK3.out; first | omega | exact Nat.le_refl _⟩, by repeat (first | exact Drawn0.refl _ | apply Drawn0.step)⟩
                                · rw [if_neg c16] at H
                                  have c16b0 : (((rd_T46 l0 x5_2).f0) == ((rd_T46 l0 x6_3).f0)) = false := beq_eq_false_iff_ne.mpr c16
                                  have c16b1 : (((rd_T46 l0 x5_2).f0) != ((rd_T46 l0 x6_3).f0)) = true := bne_iff_ne.mpr c16
                                  have H' := Aside0.mk H
                                  clear H
                                  have p237 : 0 ≤ (x5_2 : Int) := of_decide_eq_true (by first | (with_reducible assumption) | assumption)
                                  have q237 : x5_2 < (l0.length : Int) := of_decide_eq_true (by first | (with_reducible assumption) | assumption)
                                  obtain ⟨ad237, A237_1, c237_1, e237, hx237_0, hx237_1, hx237_2, hx237_3, hx237_4, hl237_1, hi237_1⟩ := at_T46 HR0.out x5_2 p237 q237
                                  cases e237
                                  have HR237_1 := Aside0.mk hi237_1
                                  have HC237_1 := Aside0.mk hl237_1
                                  clear hi237_1 hl237_1
                                  replace p237 := eq_true p237
                                  replace q237 := eq_true q237
                                  have p238 : 0 ≤ (x5_2 : Int) := of_decide_eq_true (by first | (with_reducible assumption) | assumption)
                                  have q238 : x5_2 < (l0.length : Int) := of_decide_eq_true (by first | (with_reducible assumption) | assumption)
                                  obtain ⟨ad238, A238_1, c238_1, e238, hx238_0, hx238_1, hx238_2, hx238_3, hx238_4, hl238_1, hi238_1⟩ := at_T46 HR0.out x5_2 p238 q238
                                  obtain rfl : ad237 = ad238 := (by injection e238)
                                  have HR238_1 := Aside0.mk hi238_1
                                  have HC238_1 := Aside0.mk hl238_1
                                  clear hi238_1 hl238_1
                                  replace p238 := eq_true p238
                                  replace q238 := eq_true q238
                                  have ea_ := Option.some.inj (hx237_1.symm.trans hx238_1)
                                  injection ea_ with ea_ en_ ec_
                                  subst ea_
                                  subst ec_
                                  clear en_
                                  have p239 : 0 ≤ (x6_3 : Int) := of_decide_eq_true (by first | (with_reducible assumption) | assumption)
                                  have q239 : x6_3 < (l0.length : Int) := of_decide_eq_true (by first | (with_reducible assumption) | assumption)
                                  obtain ⟨ad239, A239_1, c239_1, e239, hx239_0, hx239_1, hx239_2, hx239_3, hx239_4, hl239_1, hi239_1⟩ := at_T46 HR0.out x6_3 p239 q239
                                  obtain rfl : ad237 = ad239 := (by injection e239)
                                  have HR239_1 := Aside0.mk hi239_1
                                  have HC239_1 := Aside0.mk hl239_1
                                  clear hi239_1 hl239_1
                                  replace p239 := eq_true p239
                                  replace q239 := eq_true q239
                                  go_wp2
                                  repeat (go_quiet (fail); try go_wp2)
                                  go_meet
                                  case rel => exact ⟨_, (true), (by first | rfl | (simp; done) | (simp [*]; done)), H', ⟨by have := HJ2.out; have := HK2.out; have := HK3.out; first | omega | exact Nat.le_refl _⟩, by repeat (first | exact Drawn0.refl _ | apply Drawn0.step)⟩
                              · rw [if_neg c15] at H
                                exact absurd H (by simp)
                            · rw [if_neg c14] at H
                              exact absurd H (by simp)
                        · rw [if_neg c12] at H
                          exact absurd H (by simp)
                      · rw [if_neg c11] at H
                        exact absurd H (by simp)
                    case rest =>
                      clear HC10
                      try clear c1
                      try clear c2
                      try clear p2
                      try clear q2
                      try clear hx2
                      try clear qi2
                      try clear c4
                      try clear c4b0
                      try clear c4b1
                      try clear c5
                      try clear c5b0
                      try clear c5b1
                      try clear c6
                      try clear c6b0
                      try clear c6b1
                      try clear c7
                      try clear c8
                      try clear c8b0
                      try clear c9
                      try clear c9b0
                      try clear c11
                      try clear c11b0
                      try clear c12
                      try clear c12b0
                      try clear c13
                      try clear c13b0
                      try clear c14
                      try clear c14b0
                      try clear c15
                      try clear c15b0
                      try clear c16
                      try clear c16b0
                      try clear c16b1
                      try clear hx235_0
                      try clear hx236_0
                      try clear hx237_0
                      try clear hx237_1
                      try clear hx237_2
                      try clear hx237_3
                      try clear hx237_4
                      try clear hx238_0
                      try clear hx238_1
                      try clear hx238_2
                      try clear hx238_3
                      try clear hx238_4
                      try clear hx239_0
                      try clear hx239_1
                      try clear hx239_2
                      try clear hx239_3
                      try clear hx239_4
                      try clear hx240_0
                      try clear hx240_1
                      try clear hx240_2
                      try clear hx240_3
                      try clear hx240_4
                      try clear hx241_0
                      try clear hx241_1
                      try clear hx241_2
                      try clear hx241_3
                      try clear hx241_4
                      try clear p2
                      try clear p235
                      try clear p236
                      try clear p237
                      try clear p238
                      try clear p239
                      try clear p240
                      try clear p241
                      try clear q2
                      try clear q235
                      try clear q236
                      try clear q237
                      try clear q238
                      try clear q239
                      try clear q240
                      try clear q241
                      obtain ⟨kq, x67_9, rfl, HA, HJ9, ⟨mc9, rfl⟩⟩ := hcut
                      cases kq with
                      | zero => exact absurd HA.out (by simp [juristref17_Fits.j3])
                      | succ kj9 =>
                        have H := HA.out
                        clear HA
                        simp only [juristref17_Fits.j3] at H
                        by_cases c17 : x67_9 = true
                        · subst c17
                          have H1 : (juristref17_Fits.l1 kj9 l0 l1 x5_2 (wrap64 (x6_3 + 1))) = some r := by rw [if_pos rfl] at H; exact H
                          clear H
                          have H := H1
                          clear H1
                          have H' := Aside0.mk H
                          clear H
                          go_wp2
                          repeat (go_quiet (fail); try go_wp2)
                          go_roundg kj9
                          case measure => have := HJ2.out; have := HK2.out; have := HK3.out; have := HJ9.out; omega
                          case rel => exact ⟨(wrap64 (x6_3 + 1)), (by first | rfl | (simp; done) | (simp [*]; done)), H', ⟨by have := HJ2.out; have := HK2.out; have := HK3.out; have := HJ9.out; omega⟩, by repeat (first | exact Drawn0.refl _ | apply Drawn0.step)⟩
                        · replace c17 := Bool.eq_false_iff.mpr c17
                          subst c17
                          have H1 : (juristref17_Fits.l2 kj9 l0 l1 x5_2 x6_3 true 0) = some r := by rw [if_neg (show ¬ (false = true) by decide)] at H; exact H
                          clear H
                          have H := H1
                          clear H1
                          have H' := Aside0.mk H
                          clear H
                          go_wp2
                          repeat (go_quiet (fail); try go_wp2)
                          go_loopg [7, 8] kj9 (fun kq v7 v8 w' => ∃ (x7_5 : Bool) (x8_5 : Int), v7 = .bool x7_5 ∧ v8 = .int .i64 x8_5 ∧ Aside0 (juristref17_Fits.l2 kq l0 l1 x5_2 x6_3 x7_5 x8_5 = some r) ∧ Aside0 (kq ≤ kj9) ∧ Drawn0 w w')
                          case atStart => exact ⟨(true), (0), (by first | rfl | (simp; done) | (simp [*]; done)), (by first | rfl | (simp; done) | (simp [*]; done)), H', ⟨Nat.le_refl _⟩, by repeat (first | exact Drawn0.refl _ | apply Drawn0.step)⟩
                          case round =>
                            clear H'
                            try clear c1
                            try clear c2
                            try clear p2
                            try clear q2
                            try clear hx2
                            try clear qi2
                            try clear c4
                            try clear c4b0
                            try clear c4b1
                            try clear c5
                            try clear c5b0
                            try clear c5b1
                            try clear c6
                            try clear c6b0
                            try clear c6b1
                            try clear p6
                            try clear c7
                            try clear c8
                            try clear c8b0
                            try clear c9
                            try clear c9b0
                            try clear c11
                            try clear c11b0
                            try clear c12
                            try clear c12b0
                            try clear c13
                            try clear c13b0
                            try clear c14
                            try clear c14b0
                            try clear c15
                            try clear c15b0
                            try clear c16
                            try clear c16b0
                            try clear c16b1
                            try clear c17
                            try clear hx235_0
                            try clear hx236_0
                            try clear hx237_0
                            try clear hx237_1
                            try clear hx237_2
                            try clear hx237_3
                            try clear hx237_4
                            try clear hx238_0
                            try clear hx238_1
                            try clear hx238_2
                            try clear hx238_3
                            try clear hx238_4
                            try clear hx239_0
                            try clear hx239_1
                            try clear hx239_2
                            try clear hx239_3
                            try clear hx239_4
                            try clear hx240_0
                            try clear hx240_1
                            try clear hx240_2
                            try clear hx240_3
                            try clear hx240_4
                            try clear hx241_0
                            try clear hx241_1
                            try clear hx241_2
                            try clear hx241_3
                            try clear hx241_4
                            try clear p2
                            try clear p235
                            try clear p236
                            try clear p237
                            try clear p238
                            try clear p239
                            try clear p240
                            try clear p241
                            try clear q2
                            try clear q235
                            try clear q236
                            try clear q237
                            try clear q238
                            try clear q239
                            try clear q240
                            try clear q241
                            obtain ⟨x7_5, x8_5, rfl, rfl, HA, HK5, ⟨m5, rfl⟩⟩ := hrel
                            cases gk with
                            | zero => exact absurd HA.out (by simp [juristref17_Fits.l2])
                            | succ k5 =>
                              have H := HA.out
                              clear HA
                              simp only [juristref17_Fits.l2] at H
                              by_cases c18 : 0 ≤ x5_2
                              · rw [if_pos c18] at H
                                have c18b0 : decide (0 ≤ x5_2) = true := decide_eq_true c18
                                clear c18
                                by_cases c19 : x5_2 < (l0.length : Int)
                                · rw [if_pos c19] at H
                                  have c19b0 : decide (x5_2 < (l0.length : Int)) = true := decide_eq_true c19
                                  clear c19
                                  by_cases c20 : x8_5 < (((rd_T46 l0 x5_2).f1).length : Int)
                                  · rw [if_pos c20] at H
                                    have c20b0 : decide (x8_5 < (((rd_T46 l0 x5_2).f1).length : Int)) = true := decide_eq_true c20
                                    clear c20
                                    by_cases c21 : x7_5 = true
                                    · subst c21
                                      have H1 : (if 0 ≤ x8_5 then (if 0 ≤ (rd ((rd_T46 l0 x5_2).f1) x8_5) then (if (rd ((rd_T46 l0 x5_2).f1) x8_5) < (l1.length : Int) then (if 0 ≤ x6_3 then (if x6_3 < (l0.length : Int) then (if x8_5 < (((rd_T46 l0 x6_3).f1).length : Int) then (if 0 ≤ (rd ((rd_T46 l0 x6_3).f1) x8_5) then (if (rd ((rd_T46 l0 x6_3).f1) x8_5) < (l1.length : Int) then (juristref17_Fits.l2 k5 l0 l1 x5_2 x6_3 ((rd l1 (rd ((rd_T46 l0 x5_2).f1) x8_5)) == (rd l1 (rd ((rd_T46 l0 x6_3).f1) x8_5))) (wrap64 (x8_5 + 1))) else (none)) else (none)) else (none)) else (none)) else (none)) else (none)) else (none)) else (none)) = some r := by rw [if_pos rfl] at H; exact H
                                      clear H
                                      have H := H1
                                      clear H1
                                      by_cases c22 : 0 ≤ x8_5
                                      · rw [if_pos c22] at H
                                        have c22b0 : decide (0 ≤ x8_5) = true := decide_eq_true c22
                                        clear c22
                                        by_cases c23 : 0 ≤ (rd ((rd_T46 l0 x5_2).f1) x8_5)
                                        · rw [if_pos c23] at H
                                          have c23b0 : decide (0 ≤ (rd ((rd_T46 l0 x5_2).f1) x8_5)) = true := decide_eq_true c23
                                          clear c23
                                          by_cases c24 : (rd ((rd_T46 l0 x5_2).f1) x8_5) < (l1.length : Int)
                                          · rw [if_pos c24] at H
                                            have c24b0 : decide ((rd ((rd_T46 l0 x5_2).f1) x8_5) < (l1.length : Int)) = true := decide_eq_true c24
                                            clear c24
                                            by_cases c25 : 0 ≤ x6_3
                                            · rw [if_pos c25] at H
                                              have c25b0 : decide (0 ≤ x6_3) = true := decide_eq_true c25
                                              clear c25
                                              by_cases c26 : x6_3 < (l0.length : Int)
                                              · rw [if_pos c26] at H
                                                have c26b0 : decide (x6_3 < (l0.length : Int)) = true := decide_eq_true c26
                                                clear c26
                                                by_cases c27 : x8_5 < (((rd_T46 l0 x6_3).f1).length : Int)
                                                · rw [if_pos c27] at H
                                                  have c27b0 : decide (x8_5 < (((rd_T46 l0 x6_3).f1).length : Int)) = true := decide_eq_true c27
                                                  clear c27
                                                  by_cases c28 : 0 ≤ (rd ((rd_T46 l0 x6_3).f1) x8_5)
                                                  · rw [if_pos c28] at H
                                                    have c28b0 : decide (0 ≤ (rd ((rd_T46 l0 x6_3).f1) x8_5)) = true := decide_eq_true c28
                                                    clear c28
                                                    by_cases c29 : (rd ((rd_T46 l0 x6_3).f1) x8_5) < (l1.length : Int)
                                                    · rw [if_pos c29] at H
                                                      have c29b0 : decide ((rd ((rd_T46 l0 x6_3).f1) x8_5) < (l1.length : Int)) = true := decide_eq_true c29
                                                      clear c29
                                                      have H' := Aside0.mk H
                                                      clear H
                                                      have p242 : 0 ≤ (x5_2 : Int) := of_decide_eq_true (by first | (with_reducible assumption) | assumption)
                                                      have q242 : x5_2 < (l0.length : Int) := of_decide_eq_true (by first | (with_reducible assumption) | assumption)
                                                      obtain ⟨ad242, A242_1, c242_1, e242, hx242_0, hx242_1, hx242_2, hx242_3, hx242_4, hl242_1, hi242_1⟩ := at_T46 HR0.out x5_2 p242 q242
                                                      cases e242
                                                      have HR242_1 := Aside0.mk hi242_1
                                                      have HC242_1 := Aside0.mk hl242_1
                                                      clear hi242_1 hl242_1
                                                      replace p242 := eq_true p242
                                                      replace q242 := eq_true q242
                                                      have p243 : 0 ≤ (x5_2 : Int) := of_decide_eq_true (by first | (with_reducible assumption) | assumption)
                                                      have q243 : x5_2 < (l0.length : Int) := of_decide_eq_true (by first | (with_reducible assumption) | assumption)
                                                      obtain ⟨ad243, A243_1, c243_1, e243, hx243_0, hx243_1, hx243_2, hx243_3, hx243_4, hl243_1, hi243_1⟩ := at_T46 HR0.out x5_2 p243 q243
                                                      obtain rfl : ad242 = ad243 := (by injection e243)
                                                      have HR243_1 := Aside0.mk hi243_1
                                                      have HC243_1 := Aside0.mk hl243_1
                                                      clear hi243_1 hl243_1
                                                      replace p243 := eq_true p243
                                                      replace q243 := eq_true q243
                                                      have ea_ := Option.some.inj (hx242_1.symm.trans hx243_1)
                                                      injection ea_ with ea_ en_ ec_
                                                      subst ea_
                                                      subst ec_
                                                      clear en_
                                                      have p244 : 0 ≤ (x8_5 : Int) := of_decide_eq_true (by first | (with_reducible assumption) | assumption)
                                                      have q244 : x8_5 < (((rd_T46 l0 x5_2).f1).length : Int) := of_decide_eq_true (by first | (with_reducible assumption) | assumption)
                                                      obtain ⟨ad244, e244, hx244_0⟩ := Kd.at_int HR243_1.out x8_5 p244 q244
                                                      cases e244
                                                      replace p244 := eq_true p244
                                                      replace q244 := eq_true q244
                                                      have p245 : 0 ≤ ((rd ((rd_T46 l0 x5_2).f1) x8_5) : Int) := of_decide_eq_true (by first | (with_reducible assumption) | assumption)
                                                      have q245 : (rd ((rd_T46 l0 x5_2).f1) x8_5) < (l1.length : Int) := of_decide_eq_true (by first | (with_reducible assumption) | assumption)
                                                      obtain ⟨ad245, e245, hx245_0⟩ := Kd.at_int HR1.out (rd ((rd_T46 l0 x5_2).f1) x8_5) p245 q245
                                                      cases e245
                                                      replace p245 := eq_true p245
                                                      replace q245 := eq_true q245
                                                      have p246 : 0 ≤ (x6_3 : Int) := of_decide_eq_true (by first | (with_reducible assumption) | assumption)
                                                      have q246 : x6_3 < (l0.length : Int) := of_decide_eq_true (by first | (with_reducible assumption) | assumption)
                                                      obtain ⟨ad246, A246_1, c246_1, e246, hx246_0, hx246_1, hx246_2, hx246_3, hx246_4, hl246_1, hi246_1⟩ := at_T46 HR0.out x6_3 p246 q246
                                                      obtain rfl : ad242 = ad246 := (by injection e246)
                                                      have HR246_1 := Aside0.mk hi246_1
                                                      have HC246_1 := Aside0.mk hl246_1
                                                      clear hi246_1 hl246_1
                                                      replace p246 := eq_true p246
                                                      replace q246 := eq_true q246
                                                      have p247 : 0 ≤ (x8_5 : Int) := of_decide_eq_true (by first | (with_reducible assumption) | assumption)
                                                      have q247 : x8_5 < (((rd_T46 l0 x6_3).f1).length : Int) := of_decide_eq_true (by first | (with_reducible assumption) | assumption)
                                                      obtain ⟨ad247, e247, hx247_0⟩ := Kd.at_int HR246_1.out x8_5 p247 q247
                                                      cases e247
                                                      replace p247 := eq_true p247
                                                      replace q247 := eq_true q247
                                                      have p248 : 0 ≤ ((rd ((rd_T46 l0 x6_3).f1) x8_5) : Int) := of_decide_eq_true (by first | (with_reducible assumption) | assumption)
                                                      have q248 : (rd ((rd_T46 l0 x6_3).f1) x8_5) < (l1.length : Int) := of_decide_eq_true (by first | (with_reducible assumption) | assumption)
                                                      obtain ⟨ad248, e248, hx248_0⟩ := Kd.at_int HR1.out (rd ((rd_T46 l0 x6_3).f1) x8_5) p248 q248
                                                      obtain rfl : ad245 = ad248 := (by injection e248)
                                                      replace p248 := eq_true p248
                                                      replace q248 := eq_true q248
                                                      go_wp2
                                                      repeat (go_quiet (fail); try go_wp2)
                                                      go_roundg k5
                                                      case measure => have := HJ2.out; have := HK2.out; have := HK3.out; have := HJ9.out; have := HK5.out; omega
                                                      case rel => exact ⟨(((rd l1 (rd ((rd_T46 l0 x5_2).f1) x8_5)) == (rd l1 (rd ((rd_T46 l0 x6_3).f1) x8_5)))), (wrap64 (x8_5 + 1)), (by first | rfl | (simp; done) | (simp [*]; done)), (by first | rfl | (simp; done) | (simp [*]; done)), H', ⟨by have := HJ2.out; have := HK2.out; have := HK3.out; have := HJ9.out; have := HK5.out; omega⟩, by repeat (first | exact Drawn0.refl _ | apply Drawn0.step)⟩
                                                    · rw [if_neg c29] at H
                                                      exact absurd H (by simp)
                                                  · rw [if_neg c28] at H
                                                    exact absurd H (by simp)
                                                · rw [if_neg c27] at H
                                                  exact absurd H (by simp)
                                              · rw [if_neg c26] at H
                                                exact absurd H (by simp)
                                            · rw [if_neg c25] at H
                                              exact absurd H (by simp)
                                          · rw [if_neg c24] at H
                                            exact absurd H (by simp)
                                        · rw [if_neg c23] at H
                                          exact absurd H (by simp)
                                      · rw [if_neg c22] at H
                                        exact absurd H (by simp)
                                    · replace c21 := Bool.eq_false_iff.mpr c21
                                      subst c21
                                      have H1 : (juristref17_Fits.l2 k5 l0 l1 x5_2 x6_3 false (wrap64 (x8_5 + 1))) = some r := by rw [if_neg (show ¬ (false = true) by decide)] at H; exact H
                                      clear H
                                      have H := H1
                                      clear H1
                                      have H' := Aside0.mk H
                                      clear H
                                      have p242 : 0 ≤ (x5_2 : Int) := of_decide_eq_true (by first | (with_reducible assumption) | assumption)
                                      have q242 : x5_2 < (l0.length : Int) := of_decide_eq_true (by first | (with_reducible assumption) | assumption)
                                      obtain ⟨ad242, A242_1, c242_1, e242, hx242_0, hx242_1, hx242_2, hx242_3, hx242_4, hl242_1, hi242_1⟩ := at_T46 HR0.out x5_2 p242 q242
                                      cases e242
                                      have HR242_1 := Aside0.mk hi242_1
                                      have HC242_1 := Aside0.mk hl242_1
                                      clear hi242_1 hl242_1
                                      replace p242 := eq_true p242
                                      replace q242 := eq_true q242
                                      go_wp2
                                      repeat (go_quiet (fail); try go_wp2)
                                      go_roundg k5
                                      case measure => have := HJ2.out; have := HK2.out; have := HK3.out; have := HJ9.out; have := HK5.out; omega
                                      case rel => exact ⟨(false), (wrap64 (x8_5 + 1)), (by first | rfl | (simp; done) | (simp [*]; done)), (by first | rfl | (simp; done) | (simp [*]; done)), H', ⟨by have := HJ2.out; have := HK2.out; have := HK3.out; have := HJ9.out; have := HK5.out; omega⟩, by repeat (first | exact Drawn0.refl _ | apply Drawn0.step)⟩
                                  · rw [if_neg c20] at H
                                    have c20b0 : decide (x8_5 < (((rd_T46 l0 x5_2).f1).length : Int)) = false := decide_eq_false c20
                                    clear c20
                                    by_cases c30 : x7_5 = true
                                    · subst c30
                                      have H1 : (if x5_2 < (l1.length : Int) then (if 0 ≤ x6_3 then (if x6_3 < (l1.length : Int) then (if (rd l1 x5_2) = (rd l1 x6_3) then (juristref17_Fits.l1 k5 l0 l1 x5_2 (wrap64 (x6_3 + 1))) else (some false)) else (none)) else (none)) else (none)) = some r := by rw [if_pos rfl] at H; exact H
                                      clear H
                                      have H := H1
                                      clear H1
                                      by_cases c31 : x5_2 < (l1.length : Int)
                                      · rw [if_pos c31] at H
                                        have c31b0 : decide (x5_2 < (l1.length : Int)) = true := decide_eq_true c31
                                        clear c31
                                        by_cases c32 : 0 ≤ x6_3
                                        · rw [if_pos c32] at H
                                          have c32b0 : decide (0 ≤ x6_3) = true := decide_eq_true c32
                                          clear c32
                                          by_cases c33 : x6_3 < (l1.length : Int)
                                          · rw [if_pos c33] at H
                                            have c33b0 : decide (x6_3 < (l1.length : Int)) = true := decide_eq_true c33
                                            clear c33
                                            by_cases c34 : (rd l1 x5_2) = (rd l1 x6_3)
                                            · rw [if_pos c34] at H
                                              have c34b0 : ((rd l1 x5_2) == (rd l1 x6_3)) = true := beq_iff_eq.mpr c34
                                              have c34b1 : ((rd l1 x5_2) != (rd l1 x6_3)) = false := bne_eq_false_iff_eq.mpr c34
                                              clear c34
                                              have H' := Aside0.mk H
                                              clear H
                                              have p242 : 0 ≤ (x5_2 : Int) := of_decide_eq_true (by first | (with_reducible assumption) | assumption)
                                              have q242 : x5_2 < (l0.length : Int) := of_decide_eq_true (by first | (with_reducible assumption) | assumption)
                                              obtain ⟨ad242, A242_1, c242_1, e242, hx242_0, hx242_1, hx242_2, hx242_3, hx242_4, hl242_1, hi242_1⟩ := at_T46 HR0.out x5_2 p242 q242
                                              cases e242
                                              have HR242_1 := Aside0.mk hi242_1
                                              have HC242_1 := Aside0.mk hl242_1
                                              clear hi242_1 hl242_1
                                              replace p242 := eq_true p242
                                              replace q242 := eq_true q242
                                              have p249 : 0 ≤ (x5_2 : Int) := of_decide_eq_true (by first | (with_reducible assumption) | assumption)
                                              have q249 : x5_2 < (l1.length : Int) := of_decide_eq_true (by first | (with_reducible assumption) | assumption)
                                              obtain ⟨ad249, e249, hx249_0⟩ := Kd.at_int HR1.out x5_2 p249 q249
                                              cases e249
                                              replace p249 := eq_true p249
                                              replace q249 := eq_true q249
                                              have p250 : 0 ≤ (x6_3 : Int) := of_decide_eq_true (by first | (with_reducible assumption) | assumption)
                                              have q250 : x6_3 < (l1.length : Int) := of_decide_eq_true (by first | (with_reducible assumption) | assumption)
                                              obtain ⟨ad250, e250, hx250_0⟩ := Kd.at_int HR1.out x6_3 p250 q250
                                              obtain rfl : ad249 = ad250 := (by injection e250)
                                              replace p250 := eq_true p250
                                              replace q250 := eq_true q250
                                              go_wp2
                                              repeat (go_quiet (fail); try go_wp2)
                                              go_roundg k5
                                              case measure => have := HJ2.out; have := HK2.out; have := HK3.out; have := HJ9.out; have := HK5.out; omega
                                              case rel => exact ⟨(wrap64 (x6_3 + 1)), (by first | rfl | (simp; done) | (simp [*]; done)), H', ⟨by have := HJ2.out; have := HK2.out; have := HK3.out; have := HJ9.out; have := HK5.out; omega⟩, by repeat (first | exact Drawn0.refl _ | apply Drawn0.step)⟩
                                            · rw [if_neg c34] at H
                                              have c34b0 : ((rd l1 x5_2) == (rd l1 x6_3)) = false := beq_eq_false_iff_ne.mpr c34
                                              have c34b1 : ((rd l1 x5_2) != (rd l1 x6_3)) = true := bne_iff_ne.mpr c34
                                              obtain rfl := Option.some.inj H
                                              have p242 : 0 ≤ (x5_2 : Int) := of_decide_eq_true (by first | (with_reducible assumption) | assumption)
                                              have q242 : x5_2 < (l0.length : Int) := of_decide_eq_true (by first | (with_reducible assumption) | assumption)
                                              obtain ⟨ad242, A242_1, c242_1, e242, hx242_0, hx242_1, hx242_2, hx242_3, hx242_4, hl242_1, hi242_1⟩ := at_T46 HR0.out x5_2 p242 q242
                                              cases e242
                                              have HR242_1 := Aside0.mk hi242_1
                                              have HC242_1 := Aside0.mk hl242_1
                                              clear hi242_1 hl242_1
                                              replace p242 := eq_true p242
                                              replace q242 := eq_true q242
                                              have p249 : 0 ≤ (x5_2 : Int) := of_decide_eq_true (by first | (with_reducible assumption) | assumption)
                                              have q249 : x5_2 < (l1.length : Int) := of_decide_eq_true (by first | (with_reducible assumption) | assumption)
                                              obtain ⟨ad249, e249, hx249_0⟩ := Kd.at_int HR1.out x5_2 p249 q249
                                              cases e249
                                              replace p249 := eq_true p249
                                              replace q249 := eq_true q249
                                              have p250 : 0 ≤ (x6_3 : Int) := of_decide_eq_true (by first | (with_reducible assumption) | assumption)
                                              have q250 : x6_3 < (l1.length : Int) := of_decide_eq_true (by first | (with_reducible assumption) | assumption)
                                              obtain ⟨ad250, e250, hx250_0⟩ := Kd.at_int HR1.out x6_3 p250 q250
                                              obtain rfl : ad249 = ad250 := (by injection e250)
                                              replace p250 := eq_true p250
                                              replace q250 := eq_true q250
                                              go_wp2
                                              repeat (go_quiet (fail); try go_wp2)
                                              go_ret
                                              exact ⟨by first | rfl | (simp; done) | (simp [*]; done), by repeat (first | exact Drawn0.refl _ | apply Drawn0.step)⟩
                                          · rw [if_neg c33] at H
                                            exact absurd H (by simp)
                                        · rw [if_neg c32] at H
                                          exact absurd H (by simp)
                                      · rw [if_neg c31] at H
                                        exact absurd H (by simp)
                                    · replace c30 := Bool.eq_false_iff.mpr c30
                                      subst c30
                                      have H1 : (juristref17_Fits.l1 k5 l0 l1 x5_2 (wrap64 (x6_3 + 1))) = some r := by rw [if_neg (show ¬ (false = true) by decide)] at H; exact H
                                      clear H
                                      have H := H1
                                      clear H1
                                      have H' := Aside0.mk H
                                      clear H
                                      have p242 : 0 ≤ (x5_2 : Int) := of_decide_eq_true (by first | (with_reducible assumption) | assumption)
                                      have q242 : x5_2 < (l0.length : Int) := of_decide_eq_true (by first | (with_reducible assumption) | assumption)
                                      obtain ⟨ad242, A242_1, c242_1, e242, hx242_0, hx242_1, hx242_2, hx242_3, hx242_4, hl242_1, hi242_1⟩ := at_T46 HR0.out x5_2 p242 q242
                                      cases e242
                                      have HR242_1 := Aside0.mk hi242_1
                                      have HC242_1 := Aside0.mk hl242_1
                                      clear hi242_1 hl242_1
                                      replace p242 := eq_true p242
                                      replace q242 := eq_true q242
                                      go_wp2
                                      repeat (go_quiet (fail); try go_wp2)
                                      go_roundg k5
                                      case measure => have := HJ2.out; have := HK2.out; have := HK3.out; have := HJ9.out; have := HK5.out; omega
                                      case rel => exact ⟨(wrap64 (x6_3 + 1)), (by first | rfl | (simp; done) | (simp [*]; done)), H', ⟨by have := HJ2.out; have := HK2.out; have := HK3.out; have := HJ9.out; have := HK5.out; omega⟩, by repeat (first | exact Drawn0.refl _ | apply Drawn0.step)⟩
                                · rw [if_neg c19] at H
                                  exact absurd H (by simp)
                              · rw [if_neg c18] at H
                                exact absurd H (by simp)
                  · rw [if_neg c9] at H
                    have c9b0 : decide (x6_3 < x5_2) = false := decide_eq_false c9
                    clear c9
                    have H' := Aside0.mk H
                    clear H
                    go_wp2
                    repeat (go_quiet (fail); try go_wp2)
                    go_roundg k3
                    case measure => have := HJ2.out; have := HK2.out; have := HK3.out; omega
                    case rel => exact ⟨(wrap64 (x5_2 + 1)), (by first | rfl | (simp; done) | (simp [*]; done)), H', ⟨by have := HJ2.out; have := HK2.out; have := HK3.out; omega⟩, by repeat (first | exact Drawn0.refl _ | apply Drawn0.step)⟩
            · rw [if_neg c8] at H
              have c8b0 : decide (x5_2 < (l0.length : Int)) = false := decide_eq_false c8
              clear c8
              obtain rfl := Option.some.inj H
              go_wp2
              repeat (go_quiet (fail); try go_wp2)
              go_ret
              exact ⟨by first | rfl | (simp; done) | (simp [*]; done), by repeat (first | exact Drawn0.refl _ | apply Drawn0.step)⟩

end Go.Proofs.YtpopohkbffhckaaDoor.Hk
