-- Written by hookprint.py, a program of this session, with the kit's print as its engine. Lean checks it.
import Derived.Test.YtpopohkbffhckaaDoorHkx0
import Derived.Test.YtpopohkbffhckaaDoorManA
namespace Go.Proofs.YtpopohkbffhckaaDoor.Hk
open Go.RowKit Go.Proofs.YtpopohkbffhckaaDoorW.PrintWords Go.Proofs.YtpopohkbffhckaaDoorW.PrintLast Go.Proofs.YtpopohkbffhckaaDoorW.PrintMore
attribute [local go_sem] max2_int min2_int max_two min_two max_three min_three max_four min_four
set_option linter.unusedVariables false
set_option linter.unusedSimpArgs false

/-! ### juristref17_May: function 14 -/
mutual
def juristref17_May.j0 : Nat → List (S46) → List (S66) → Bool → Option (Bool)
 | 0, _, _, _ => none
 | k + 1, x0, x1, x29 => if x29 = true then (some false) else (juristref17_May.l0 k x0 x1 0)
def juristref17_May.l0 : Nat → List (S46) → List (S66) → Int → Option (Bool)
 | 0, _, _, _ => none
 | k + 1, x0, x1, x5 => if x5 < (x0.length : Int) then (if x5 > 1 then (if 0 ≤ x5 then (if ((rd_T46 x0 x5).f0) < 0 then (juristref17_May.j2 k x0 x1 x5 (((rd_T46 x0 x5).f0) != (-3))) else (juristref17_May.j2 k x0 x1 x5 false)) else (none)) else (juristref17_May.j2 k x0 x1 x5 false)) else (juristref17_May.l2 k x0 x1 0)
def juristref17_May.j2 : Nat → List (S46) → List (S66) → Int → Bool → Option (Bool)
 | 0, _, _, _, _ => none
 | k + 1, x0, x1, x5, x53 => if x53 = true then (some false) else (juristref17_May.l1 k x0 x1 x5 0)
def juristref17_May.l1 : Nat → List (S46) → List (S66) → Int → Int → Option (Bool)
 | 0, _, _, _, _ => none
 | k + 1, x0, x1, x5, x6 => if 0 ≤ x5 then (if x5 < (x0.length : Int) then (if x6 < (((rd_T46 x0 x5).f1).length : Int) then (if 0 ≤ x6 then (if (rd ((rd_T46 x0 x5).f1) x6) < 0 then (some false) else (if (rd ((rd_T46 x0 x5).f1) x6) ≥ (x0.length : Int) then (some false) else (juristref17_May.l1 k x0 x1 x5 (wrap64 (x6 + 1))))) else (none)) else (juristref17_May.l0 k x0 x1 (wrap64 (x5 + 1)))) else (none)) else (none)
def juristref17_May.l2 : Nat → List (S46) → List (S66) → Int → Option (Bool)
 | 0, _, _, _ => none
 | k + 1, x0, x1, x7 => if x7 < (x1.length : Int) then (if 0 ≤ x7 then (if ((rd_T66 x1 x7).f0) = 1 then (if ((rd_T66 x1 x7).f1) < 0 then (juristref17_May.j5 k x0 x1 x7 true) else (juristref17_May.j5 k x0 x1 x7 (decide (((rd_T66 x1 x7).f1) ≥ (x0.length : Int))))) else (if ((rd_T66 x1 x7).f0) = 3 then (if ((rd_T66 x1 x7).f1) < 0 then (juristref17_May.j5 k x0 x1 x7 true) else (juristref17_May.j5 k x0 x1 x7 (decide (((rd_T66 x1 x7).f1) ≥ (x0.length : Int))))) else (juristref17_May.j5 k x0 x1 x7 false))) else (none)) else (some true)
def juristref17_May.j5 : Nat → List (S46) → List (S66) → Int → Bool → Option (Bool)
 | 0, _, _, _, _ => none
 | k + 1, x0, x1, x7, x123 => if x123 = true then (some false) else (if 0 ≤ x7 then (if x7 < (x1.length : Int) then (if ((rd_T66 x1 x7).f0) = 1 then (if ((rd_T66 x1 x7).f2) < 0 then (some false) else (if ((rd_T66 x1 x7).f2) ≥ (x0.length : Int) then (some false) else (juristref17_May.l2 k x0 x1 (wrap64 (x7 + 1))))) else (juristref17_May.l2 k x0 x1 (wrap64 (x7 + 1)))) else (none)) else (none))
end
def juristref17_May.f (k : Nat) (l0 : List (S46)) (l1 : List (S66)) : Option (Bool) := if (l0.length : Int) < 2 then (juristref17_May.j0 k l0 l1 true) else (if (l0.length : Int) > 20000 then (juristref17_May.j0 k l0 l1 true) else (if 0 < (l0.length : Int) then (if ((rd_T46 l0 0).f0) = (-1) then (if 1 < (l0.length : Int) then (juristref17_May.j0 k l0 l1 (((rd_T46 l0 1).f0) != (-2))) else (none)) else (juristref17_May.j0 k l0 l1 true)) else (none)))
theorem juristref17_May.mono_l : ∀ k, (∀ y0 y1 y2, LeO (juristref17_May.j0 k y0 y1 y2) (juristref17_May.j0 (k + 1) y0 y1 y2)) ∧ (∀ y0 y1 y2, LeO (juristref17_May.l0 k y0 y1 y2) (juristref17_May.l0 (k + 1) y0 y1 y2)) ∧ (∀ y0 y1 y2 y3, LeO (juristref17_May.j2 k y0 y1 y2 y3) (juristref17_May.j2 (k + 1) y0 y1 y2 y3)) ∧ (∀ y0 y1 y2 y3, LeO (juristref17_May.l1 k y0 y1 y2 y3) (juristref17_May.l1 (k + 1) y0 y1 y2 y3)) ∧ (∀ y0 y1 y2, LeO (juristref17_May.l2 k y0 y1 y2) (juristref17_May.l2 (k + 1) y0 y1 y2)) ∧ (∀ y0 y1 y2 y3, LeO (juristref17_May.j5 k y0 y1 y2 y3) (juristref17_May.j5 (k + 1) y0 y1 y2 y3))
 | 0 => ⟨fun _ _ _ r h => by simp [juristref17_May.j0] at h, fun _ _ _ r h => by simp [juristref17_May.l0] at h, fun _ _ _ _ r h => by simp [juristref17_May.j2] at h, fun _ _ _ _ r h => by simp [juristref17_May.l1] at h, fun _ _ _ r h => by simp [juristref17_May.l2] at h, fun _ _ _ _ r h => by simp [juristref17_May.j5] at h⟩
 | k + 1 => by
  obtain ⟨ih0, ih1, ih2, ih3, ih4, ih5⟩ := juristref17_May.mono_l k
  refine ⟨?_, ?_, ?_, ?_, ?_, ?_⟩
  ·
   intro y0 y1 y2
   unfold juristref17_May.j0
   repeat' first
   | (with_reducible exact ih0 _ _ _)
   | (with_reducible exact ih1 _ _ _)
   | (with_reducible exact ih2 _ _ _ _)
   | (with_reducible exact ih3 _ _ _ _)
   | (with_reducible exact ih4 _ _ _)
   | (with_reducible exact ih5 _ _ _ _)
   | (with_reducible exact LeO.refl _)
   | (with_reducible exact LeO.none _)
   | (with_reducible refine LeO.ite ?_ ?_)
   | (with_reducible refine LeO.bind ?_ (fun _ => ?_))
   | exact ih0 _ _ _
   | exact ih1 _ _ _
   | exact ih2 _ _ _ _
   | exact ih3 _ _ _ _
   | exact ih4 _ _ _
   | exact ih5 _ _ _ _
   | exact LeO.none _
   | refine LeO.ite ?_ ?_
   | refine LeO.bind ?_ (fun _ => ?_)
  ·
   intro y0 y1 y2
   unfold juristref17_May.l0
   repeat' first
   | (with_reducible exact ih0 _ _ _)
   | (with_reducible exact ih1 _ _ _)
   | (with_reducible exact ih2 _ _ _ _)
   | (with_reducible exact ih3 _ _ _ _)
   | (with_reducible exact ih4 _ _ _)
   | (with_reducible exact ih5 _ _ _ _)
   | (with_reducible exact LeO.refl _)
   | (with_reducible exact LeO.none _)
   | (with_reducible refine LeO.ite ?_ ?_)
   | (with_reducible refine LeO.bind ?_ (fun _ => ?_))
   | exact ih0 _ _ _
   | exact ih1 _ _ _
   | exact ih2 _ _ _ _
   | exact ih3 _ _ _ _
   | exact ih4 _ _ _
   | exact ih5 _ _ _ _
   | exact LeO.none _
   | refine LeO.ite ?_ ?_
   | refine LeO.bind ?_ (fun _ => ?_)
  ·
   intro y0 y1 y2 y3
   unfold juristref17_May.j2
   repeat' first
   | (with_reducible exact ih0 _ _ _)
   | (with_reducible exact ih1 _ _ _)
   | (with_reducible exact ih2 _ _ _ _)
   | (with_reducible exact ih3 _ _ _ _)
   | (with_reducible exact ih4 _ _ _)
   | (with_reducible exact ih5 _ _ _ _)
   | (with_reducible exact LeO.refl _)
   | (with_reducible exact LeO.none _)
   | (with_reducible refine LeO.ite ?_ ?_)
   | (with_reducible refine LeO.bind ?_ (fun _ => ?_))
   | exact ih0 _ _ _
   | exact ih1 _ _ _
   | exact ih2 _ _ _ _
   | exact ih3 _ _ _ _
   | exact ih4 _ _ _
   | exact ih5 _ _ _ _
   | exact LeO.none _
   | refine LeO.ite ?_ ?_
   | refine LeO.bind ?_ (fun _ => ?_)
  ·
   intro y0 y1 y2 y3
   unfold juristref17_May.l1
   repeat' first
   | (with_reducible exact ih0 _ _ _)
   | (with_reducible exact ih1 _ _ _)
   | (with_reducible exact ih2 _ _ _ _)
   | (with_reducible exact ih3 _ _ _ _)
   | (with_reducible exact ih4 _ _ _)
   | (with_reducible exact ih5 _ _ _ _)
   | (with_reducible exact LeO.refl _)
   | (with_reducible exact LeO.none _)
   | (with_reducible refine LeO.ite ?_ ?_)
   | (with_reducible refine LeO.bind ?_ (fun _ => ?_))
   | exact ih0 _ _ _
   | exact ih1 _ _ _
   | exact ih2 _ _ _ _
   | exact ih3 _ _ _ _
   | exact ih4 _ _ _
   | exact ih5 _ _ _ _
   | exact LeO.none _
   | refine LeO.ite ?_ ?_
   | refine LeO.bind ?_ (fun _ => ?_)
  ·
   intro y0 y1 y2
   unfold juristref17_May.l2
   repeat' first
   | (with_reducible exact ih0 _ _ _)
   | (with_reducible exact ih1 _ _ _)
   | (with_reducible exact ih2 _ _ _ _)
   | (with_reducible exact ih3 _ _ _ _)
   | (with_reducible exact ih4 _ _ _)
   | (with_reducible exact ih5 _ _ _ _)
   | (with_reducible exact LeO.refl _)
   | (with_reducible exact LeO.none _)
   | (with_reducible refine LeO.ite ?_ ?_)
   | (with_reducible refine LeO.bind ?_ (fun _ => ?_))
   | exact ih0 _ _ _
   | exact ih1 _ _ _
   | exact ih2 _ _ _ _
   | exact ih3 _ _ _ _
   | exact ih4 _ _ _
   | exact ih5 _ _ _ _
   | exact LeO.none _
   | refine LeO.ite ?_ ?_
   | refine LeO.bind ?_ (fun _ => ?_)
  ·
   intro y0 y1 y2 y3
   unfold juristref17_May.j5
   repeat' first
   | (with_reducible exact ih0 _ _ _)
   | (with_reducible exact ih1 _ _ _)
   | (with_reducible exact ih2 _ _ _ _)
   | (with_reducible exact ih3 _ _ _ _)
   | (with_reducible exact ih4 _ _ _)
   | (with_reducible exact ih5 _ _ _ _)
   | (with_reducible exact LeO.refl _)
   | (with_reducible exact LeO.none _)
   | (with_reducible refine LeO.ite ?_ ?_)
   | (with_reducible refine LeO.bind ?_ (fun _ => ?_))
   | exact ih0 _ _ _
   | exact ih1 _ _ _
   | exact ih2 _ _ _ _
   | exact ih3 _ _ _ _
   | exact ih4 _ _ _
   | exact ih5 _ _ _ _
   | exact LeO.none _
   | refine LeO.ite ?_ ?_
   | refine LeO.bind ?_ (fun _ => ?_)
theorem juristref17_May.mono : ∀ a0 a1 k, LeO (juristref17_May.f k a0 a1) (juristref17_May.f (k + 1) a0 a1) := by
 intro a0 a1 k
 obtain ⟨ih0, ih1, ih2, ih3, ih4, ih5⟩ := juristref17_May.mono_l k
 unfold juristref17_May.f
 repeat' first
  | (with_reducible exact ih0 _ _ _)
  | (with_reducible exact ih1 _ _ _)
  | (with_reducible exact ih2 _ _ _ _)
  | (with_reducible exact ih3 _ _ _ _)
  | (with_reducible exact ih4 _ _ _)
  | (with_reducible exact ih5 _ _ _ _)
  | (with_reducible exact LeO.refl _)
  | (with_reducible exact LeO.none _)
  | (with_reducible refine LeO.ite ?_ ?_)
  | (with_reducible refine LeO.bind ?_ (fun _ => ?_))
  | exact ih0 _ _ _
  | exact ih1 _ _ _
  | exact ih2 _ _ _ _
  | exact ih3 _ _ _ _
  | exact ih4 _ _ _
  | exact ih5 _ _ _ _
  | exact LeO.none _
  | refine LeO.ite ?_ ?_
  | refine LeO.bind ?_ (fun _ => ?_)
set_option maxHeartbeats 8000000 in
set_option maxRecDepth 100000 in
theorem juristref17_May.calls (k : Nat) (A0 : Option Addr) (c0 : Nat) (l0 : List (S46)) (A1 : Option Addr) (c1 : Nat) (l1 : List (S66)) (r : Bool) (w : World) (hr0 : Kd.C k46 w A0 l0.length l0) (hc0 : l0.length ≤ c0) (hr1 : Kd.C k66 w A1 l1.length l1) (hc1 : l1.length ≤ c1) (h : juristref17_May.f k l0 l1 = some r) :
 Calls Tryd.prog 14 #[.slice A0 l0.length c0, .slice A1 l1.length c1] w fun e w' => e = .returned (.bool r) ∧ Drawn0 w w' := by
 have HR0 := Aside0.mk hr0
 have HC0 := Aside0.mk hc0
 clear hr0 hc0
 have HR1 := Aside0.mk hr1
 have HC1 := Aside0.mk hc1
 clear hr1 hc1
 have H : (if (l0.length : Int) < 2 then (juristref17_May.j0 k l0 l1 true) else (if (l0.length : Int) > 20000 then (juristref17_May.j0 k l0 l1 true) else (if 0 < (l0.length : Int) then (if ((rd_T46 l0 0).f0) = (-1) then (if 1 < (l0.length : Int) then (juristref17_May.j0 k l0 l1 (((rd_T46 l0 1).f0) != (-2))) else (none)) else (juristref17_May.j0 k l0 l1 true)) else (none)))) = some r := h
 clear h
 have HC3 := Aside0.mk H
 clear H
 go_enter Tryd.func14, Tryd.ntmps14
 go_upto_region 1 with (fail)
 go_cut [29] (fun v29 wc => ∃ (kq : Nat) (x29_2 : Bool), v29 = .bool x29_2 ∧ Aside0 (juristref17_May.j0 kq l0 l1 x29_2 = some r) ∧ Aside0 (kq ≤ k) ∧ Drawn0 w wc)
 case first =>
  have H := HC3.out
  clear HC3
  by_cases c4 : (l0.length : Int) < 2
  ·
   rw [if_pos c4] at H
   have c4b0 : decide ((l0.length : Int) < 2) = true := decide_eq_true c4
   have c4b1 : decide (l0.length < 2) = true := decide_eq_true (by omega)
   clear c4
   (first | rw [c4b0] | (simp only [i64_w, i32_w]; rw [c4b0]) | skip)
   have H' := Aside0.mk H
   clear H
   go_wp2
   go_meet
   case rel => exact ⟨_, (true), (by first | rfl | (simp; done) | (simp [*]; done)), H', ⟨by first | omega | exact Nat.le_refl _⟩, by repeat (first | exact Drawn0.refl _ | apply Drawn0.step)⟩
  ·
   rw [if_neg c4] at H
   have c4b0 : decide ((l0.length : Int) < 2) = false := decide_eq_false c4
   have c4b1 : decide (l0.length < 2) = false := decide_eq_false (by omega)
   clear c4
   (first | rw [c4b0] | (simp only [i64_w, i32_w]; rw [c4b0]) | skip)
   by_cases c5 : (l0.length : Int) > 20000
   ·
    rw [if_pos c5] at H
    have c5b0 : decide (20000 < (l0.length : Int)) = true := decide_eq_true c5
    have c5b1 : decide (20000 < l0.length) = true := decide_eq_true (by omega)
    clear c5
    have H' := Aside0.mk H
    clear H
    go_wp2
    go_meet
    case rel => exact ⟨_, (true), (by first | rfl | (simp; done) | (simp [*]; done)), H', ⟨by first | omega | exact Nat.le_refl _⟩, by repeat (first | exact Drawn0.refl _ | apply Drawn0.step)⟩
   ·
    rw [if_neg c5] at H
    have c5b0 : decide (20000 < (l0.length : Int)) = false := decide_eq_false c5
    have c5b1 : decide (20000 < l0.length) = false := decide_eq_false (by omega)
    clear c5
    by_cases c6 : 0 < (l0.length : Int)
    ·
     rw [if_pos c6] at H
     have c6b0 : decide (0 < (l0.length : Int)) = true := decide_eq_true c6
     have c6b1 : decide (0 < l0.length) = true := decide_eq_true (by omega)
     clear c6
     by_cases c7 : ((rd_T46 l0 0).f0) = (-1)
     ·
      rw [if_pos c7] at H
      have c7b0 : (((rd_T46 l0 0).f0) == (-1)) = true := beq_iff_eq.mpr c7
      have c7b1 : (((rd_T46 l0 0).f0) != (-1)) = false := bne_eq_false_iff_eq.mpr c7
      clear c7
      by_cases c8 : 1 < (l0.length : Int)
      ·
       rw [if_pos c8] at H
       have c8b0 : decide (1 < (l0.length : Int)) = true := decide_eq_true c8
       have c8b1 : decide (1 < l0.length) = true := decide_eq_true (by omega)
       clear c8
       have H' := Aside0.mk H
       clear H
       have p144 : 0 ≤ (0 : Int) := (by omega)
       have q144 : 0 < (l0.length : Int) := of_decide_eq_true (by first | (with_reducible assumption) | assumption)
       obtain ⟨ad144, A144_1, c144_1, e144, hx144_0, hx144_1, hx144_2, hx144_3, hx144_4, hl144_1, hi144_1⟩ := at_T46 HR0.out 0 p144 q144
       cases e144
       have qi144 : (0 < l0.length) = True := eq_true (by omega)
       (try rw [show ((0 : Int)).toNat = 0 from rfl] at hx144_0)
       (try rw [show 0 * 5 = 0 from rfl] at hx144_0)
       (try rw [Addr.add_zero'] at hx144_0)
       (try rw [show ((0 : Int)).toNat = 0 from rfl] at hx144_1)
       (try rw [show 0 * 5 = 0 from rfl] at hx144_1)
       (try rw [Addr.add_zero'] at hx144_1)
       (try rw [show ((0 : Int)).toNat = 0 from rfl] at hx144_2)
       (try rw [show 0 * 5 = 0 from rfl] at hx144_2)
       (try rw [Addr.add_zero'] at hx144_2)
       (try rw [show ((0 : Int)).toNat = 0 from rfl] at hx144_3)
       (try rw [show 0 * 5 = 0 from rfl] at hx144_3)
       (try rw [Addr.add_zero'] at hx144_3)
       (try rw [show ((0 : Int)).toNat = 0 from rfl] at hx144_4)
       (try rw [show 0 * 5 = 0 from rfl] at hx144_4)
       (try rw [Addr.add_zero'] at hx144_4)
       have HR144_1 := Aside0.mk hi144_1
       have HC144_1 := Aside0.mk hl144_1
       clear hi144_1 hl144_1
       replace p144 := eq_true p144
       replace q144 := eq_true q144
       have p145 : 0 ≤ (1 : Int) := (by omega)
       have q145 : 1 < (l0.length : Int) := of_decide_eq_true (by first | (with_reducible assumption) | assumption)
       obtain ⟨ad145, A145_1, c145_1, e145, hx145_0, hx145_1, hx145_2, hx145_3, hx145_4, hl145_1, hi145_1⟩ := at_T46 HR0.out 1 p145 q145
       obtain rfl : ad144 = ad145 := (by injection e145)
       (try simp only [show (1 : Int).toNat = 1 from rfl, Nat.reduceMul, Nat.reduceEqDiff, Go.Addr.add, ↓reduceIte] at hx145_0)
       (try simp only [show (1 : Int).toNat = 1 from rfl, Nat.reduceMul, Nat.reduceEqDiff, Go.Addr.add, ↓reduceIte] at hx145_1)
       (try simp only [show (1 : Int).toNat = 1 from rfl, Nat.reduceMul, Nat.reduceEqDiff, Go.Addr.add, ↓reduceIte] at hx145_2)
       (try simp only [show (1 : Int).toNat = 1 from rfl, Nat.reduceMul, Nat.reduceEqDiff, Go.Addr.add, ↓reduceIte] at hx145_3)
       (try simp only [show (1 : Int).toNat = 1 from rfl, Nat.reduceMul, Nat.reduceEqDiff, Go.Addr.add, ↓reduceIte] at hx145_4)
       have qi145 : (1 < l0.length) = True := eq_true (by omega)
       (try rw [show ((1 : Int)).toNat = 1 from rfl] at hx145_0)
       (try rw [show 1 * 5 = 5 from rfl] at hx145_0)
       (try rw [show ((1 : Int)).toNat = 1 from rfl] at hx145_1)
       (try rw [show 1 * 5 = 5 from rfl] at hx145_1)
       (try rw [show ((1 : Int)).toNat = 1 from rfl] at hx145_2)
       (try rw [show 1 * 5 = 5 from rfl] at hx145_2)
       (try rw [show ((1 : Int)).toNat = 1 from rfl] at hx145_3)
       (try rw [show 1 * 5 = 5 from rfl] at hx145_3)
       (try rw [show ((1 : Int)).toNat = 1 from rfl] at hx145_4)
       (try rw [show 1 * 5 = 5 from rfl] at hx145_4)
       have HR145_1 := Aside0.mk hi145_1
       have HC145_1 := Aside0.mk hl145_1
       clear hi145_1 hl145_1
       replace p145 := eq_true p145
       replace q145 := eq_true q145
       go_wp2
       go_meet
       case rel => exact ⟨_, ((((rd_T46 l0 1).f0) != (-2))), (by first | rfl | (simp; done) | (simp [*]; done)), H', ⟨by first | omega | exact Nat.le_refl _⟩, by repeat (first | exact Drawn0.refl _ | apply Drawn0.step)⟩
      ·
       rw [if_neg c8] at H
       exact absurd H (by simp)
     ·
      rw [if_neg c7] at H
      have c7b0 : (((rd_T46 l0 0).f0) == (-1)) = false := beq_eq_false_iff_ne.mpr c7
      have c7b1 : (((rd_T46 l0 0).f0) != (-1)) = true := bne_iff_ne.mpr c7
      have H' := Aside0.mk H
      clear H
      have p144 : 0 ≤ (0 : Int) := (by omega)
      have q144 : 0 < (l0.length : Int) := of_decide_eq_true (by first | (with_reducible assumption) | assumption)
      obtain ⟨ad144, A144_1, c144_1, e144, hx144_0, hx144_1, hx144_2, hx144_3, hx144_4, hl144_1, hi144_1⟩ := at_T46 HR0.out 0 p144 q144
      cases e144
      have qi144 : (0 < l0.length) = True := eq_true (by omega)
      (try rw [show ((0 : Int)).toNat = 0 from rfl] at hx144_0)
      (try rw [show 0 * 5 = 0 from rfl] at hx144_0)
      (try rw [Addr.add_zero'] at hx144_0)
      (try rw [show ((0 : Int)).toNat = 0 from rfl] at hx144_1)
      (try rw [show 0 * 5 = 0 from rfl] at hx144_1)
      (try rw [Addr.add_zero'] at hx144_1)
      (try rw [show ((0 : Int)).toNat = 0 from rfl] at hx144_2)
      (try rw [show 0 * 5 = 0 from rfl] at hx144_2)
      (try rw [Addr.add_zero'] at hx144_2)
      (try rw [show ((0 : Int)).toNat = 0 from rfl] at hx144_3)
      (try rw [show 0 * 5 = 0 from rfl] at hx144_3)
      (try rw [Addr.add_zero'] at hx144_3)
      (try rw [show ((0 : Int)).toNat = 0 from rfl] at hx144_4)
      (try rw [show 0 * 5 = 0 from rfl] at hx144_4)
      (try rw [Addr.add_zero'] at hx144_4)
      have HR144_1 := Aside0.mk hi144_1
      have HC144_1 := Aside0.mk hl144_1
      clear hi144_1 hl144_1
      replace p144 := eq_true p144
      replace q144 := eq_true q144
      go_wp2
      go_meet
      case rel => exact ⟨_, (true), (by first | rfl | (simp; done) | (simp [*]; done)), H', ⟨by first | omega | exact Nat.le_refl _⟩, by repeat (first | exact Drawn0.refl _ | apply Drawn0.step)⟩
    ·
     rw [if_neg c6] at H
     exact absurd H (by simp)
 case rest =>
  clear HC3
  try clear c1
  try clear p1
  try clear q1
  try clear hx1
  try clear qi1
  try clear p2
  try clear c4
  try clear c4b0
  try clear c4b1
  try clear c5
  try clear c5b0
  try clear c5b1
  try clear c6
  try clear c6b0
  try clear c6b1
  try clear c7
  try clear c7b0
  try clear c7b1
  try clear c8
  try clear c8b0
  try clear c8b1
  try clear hx144_0
  try clear hx144_1
  try clear hx144_2
  try clear hx144_3
  try clear hx144_4
  try clear hx145_0
  try clear hx145_1
  try clear hx145_2
  try clear hx145_3
  try clear hx145_4
  try clear p144
  try clear p145
  try clear q144
  try clear q145
  obtain ⟨kq, x29_2, rfl, HA, HJ2, ⟨mc2, rfl⟩⟩ := hcut
  cases kq with
  | zero => exact absurd HA.out (by simp [juristref17_May.j0])
  | succ kj2 =>
   have H := HA.out
   clear HA
   simp only [juristref17_May.j0] at H
   by_cases c9 : x29_2 = true
   ·
    subst c9
    have H1 : (some false) = some r := by rw [if_pos rfl] at H; exact H
    clear H
    have H := H1
    clear H1
    obtain rfl := Option.some.inj H
    go_wp2
    go_ret
    exact ⟨by first | rfl | (simp; done) | (simp [*]; done), by repeat (first | exact Drawn0.refl _ | apply Drawn0.step)⟩
   ·
    replace c9 := Bool.eq_false_iff.mpr c9
    subst c9
    have H1 : (juristref17_May.l0 kj2 l0 l1 0) = some r := by rw [if_neg (show ¬ (false = true) by decide)] at H; exact H
    clear H
    have H := H1
    clear H1
    have H' := Aside0.mk H
    clear H
    go_wp2
    go_loopg [5] kj2 (fun kq v5 w' => ∃ (x5_2 : Int), v5 = .int .i64 x5_2 ∧ Aside0 (juristref17_May.l0 kq l0 l1 x5_2 = some r) ∧ Aside0 (kq ≤ kj2) ∧ Drawn0 w w')
    case atStart => exact ⟨(0), (by first | rfl | (simp; done) | (simp [*]; done)), H', ⟨Nat.le_refl _⟩, by repeat (first | exact Drawn0.refl _ | apply Drawn0.step)⟩
    case round =>
     clear H'
     try clear c1
     try clear p1
     try clear q1
     try clear hx1
     try clear qi1
     try clear c2
     try clear p2
     try clear c4
     try clear c4b0
     try clear c4b1
     try clear c5
     try clear c5b0
     try clear c5b1
     try clear c6
     try clear c6b0
     try clear c6b1
     try clear c7
     try clear c7b0
     try clear c7b1
     try clear c8
     try clear c8b0
     try clear c8b1
     try clear c9
     try clear hx144_0
     try clear hx144_1
     try clear hx144_2
     try clear hx144_3
     try clear hx144_4
     try clear hx145_0
     try clear hx145_1
     try clear hx145_2
     try clear hx145_3
     try clear hx145_4
     try clear p1
     try clear p144
     try clear p145
     try clear p2
     try clear q1
     try clear q144
     try clear q145
     obtain ⟨x5_2, rfl, HA, HK2, ⟨m2, rfl⟩⟩ := hrel
     cases gk with
     | zero => exact absurd HA.out (by simp [juristref17_May.l0])
     | succ k2 =>
      have H := HA.out
      clear HA
      simp only [juristref17_May.l0] at H
      by_cases c10 : x5_2 < (l0.length : Int)
      ·
       rw [if_pos c10] at H
       have c10b0 : decide (x5_2 < (l0.length : Int)) = true := decide_eq_true c10
       clear c10
       have HC11 := Aside0.mk H
       clear H
       go_upto_region 6 with (fail)
       go_cut [53] (fun v53 wc => ∃ (kq : Nat) (x53_10 : Bool), v53 = .bool x53_10 ∧ Aside0 (juristref17_May.j2 kq l0 l1 x5_2 x53_10 = some r) ∧ Aside0 (kq ≤ k2) ∧ Drawn0 w wc)
       case first =>
        have H := HC11.out
        clear HC11
        by_cases c12 : x5_2 > 1
        ·
         rw [if_pos c12] at H
         have c12b0 : decide (1 < x5_2) = true := decide_eq_true c12
         clear c12
         (first | rw [c12b0] | (simp only [i64_w, i32_w]; rw [c12b0]) | skip)
         by_cases c13 : 0 ≤ x5_2
         ·
          rw [if_pos c13] at H
          have c13b0 : decide (0 ≤ x5_2) = true := decide_eq_true c13
          clear c13
          by_cases c14 : ((rd_T46 l0 x5_2).f0) < 0
          ·
           rw [if_pos c14] at H
           have c14b0 : decide (((rd_T46 l0 x5_2).f0) < 0) = true := decide_eq_true c14
           clear c14
           have H' := Aside0.mk H
           clear H
           have p146 : 0 ≤ (x5_2 : Int) := of_decide_eq_true (by first | (with_reducible assumption) | assumption)
           have q146 : x5_2 < (l0.length : Int) := of_decide_eq_true (by first | (with_reducible assumption) | assumption)
           obtain ⟨ad146, A146_1, c146_1, e146, hx146_0, hx146_1, hx146_2, hx146_3, hx146_4, hl146_1, hi146_1⟩ := at_T46 HR0.out x5_2 p146 q146
           cases e146
           have HR146_1 := Aside0.mk hi146_1
           have HC146_1 := Aside0.mk hl146_1
           clear hi146_1 hl146_1
           replace p146 := eq_true p146
           replace q146 := eq_true q146
           have p147 : 0 ≤ (x5_2 : Int) := of_decide_eq_true (by first | (with_reducible assumption) | assumption)
           have q147 : x5_2 < (l0.length : Int) := of_decide_eq_true (by first | (with_reducible assumption) | assumption)
           obtain ⟨ad147, A147_1, c147_1, e147, hx147_0, hx147_1, hx147_2, hx147_3, hx147_4, hl147_1, hi147_1⟩ := at_T46 HR0.out x5_2 p147 q147
           obtain rfl : ad146 = ad147 := (by injection e147)
           have HR147_1 := Aside0.mk hi147_1
           have HC147_1 := Aside0.mk hl147_1
           clear hi147_1 hl147_1
           replace p147 := eq_true p147
           replace q147 := eq_true q147
           have ea_ := Option.some.inj (hx146_1.symm.trans hx147_1)
           injection ea_ with ea_ en_ ec_
           subst ea_
           subst ec_
           clear en_
           go_wp2
           go_meet
           case rel => exact ⟨_, ((((rd_T46 l0 x5_2).f0) != (-3))), (by first | rfl | (simp; done) | (simp [*]; done)), H', ⟨by have := HJ2.out; have := HK2.out; first | omega | exact Nat.le_refl _⟩, by repeat (first | exact Drawn0.refl _ | apply Drawn0.step)⟩
          ·
           rw [if_neg c14] at H
           have c14b0 : decide (((rd_T46 l0 x5_2).f0) < 0) = false := decide_eq_false c14
           clear c14
           have H' := Aside0.mk H
           clear H
           have p146 : 0 ≤ (x5_2 : Int) := of_decide_eq_true (by first | (with_reducible assumption) | assumption)
           have q146 : x5_2 < (l0.length : Int) := of_decide_eq_true (by first | (with_reducible assumption) | assumption)
           obtain ⟨ad146, A146_1, c146_1, e146, hx146_0, hx146_1, hx146_2, hx146_3, hx146_4, hl146_1, hi146_1⟩ := at_T46 HR0.out x5_2 p146 q146
           cases e146
           have HR146_1 := Aside0.mk hi146_1
           have HC146_1 := Aside0.mk hl146_1
           clear hi146_1 hl146_1
           replace p146 := eq_true p146
           replace q146 := eq_true q146
           go_wp2
           go_meet
           case rel => exact ⟨_, (false), (by first | rfl | (simp; done) | (simp [*]; done)), H', ⟨by have := HJ2.out; have := HK2.out; first | omega | exact Nat.le_refl _⟩, by repeat (first | exact Drawn0.refl _ | apply Drawn0.step)⟩
         ·
          rw [if_neg c13] at H
          exact absurd H (by simp)
        ·
         rw [if_neg c12] at H
         have c12b0 : decide (1 < x5_2) = false := decide_eq_false c12
         clear c12
         (first | rw [c12b0] | (simp only [i64_w, i32_w]; rw [c12b0]) | skip)
         have H' := Aside0.mk H
         clear H
         go_wp2
         go_meet
         case rel => exact ⟨_, (false), (by first | rfl | (simp; done) | (simp [*]; done)), H', ⟨by have := HJ2.out; have := HK2.out; first | omega | exact Nat.le_refl _⟩, by repeat (first | exact Drawn0.refl _ | apply Drawn0.step)⟩
       case rest =>
        clear HC11
        try clear c1
        try clear p1
        try clear q1
        try clear hx1
        try clear qi1
        try clear c2
        try clear p2
        try clear c4
        try clear c4b0
        try clear c4b1
        try clear c5
        try clear c5b0
        try clear c5b1
        try clear c6
        try clear c6b0
        try clear c6b1
        try clear c7
        try clear c7b0
        try clear c7b1
        try clear c8
        try clear c8b0
        try clear c8b1
        try clear c9
        try clear c10
        try clear c10b0
        try clear c12
        try clear c12b0
        try clear c13
        try clear c13b0
        try clear c14
        try clear c14b0
        try clear p14
        try clear q14
        try clear hx14
        try clear qi14
        try clear hx144_0
        try clear hx144_1
        try clear hx144_2
        try clear hx144_3
        try clear hx144_4
        try clear hx145_0
        try clear hx145_1
        try clear hx145_2
        try clear hx145_3
        try clear hx145_4
        try clear hx146_0
        try clear hx146_1
        try clear hx146_2
        try clear hx146_3
        try clear hx146_4
        try clear hx147_0
        try clear hx147_1
        try clear hx147_2
        try clear hx147_3
        try clear hx147_4
        try clear p1
        try clear p144
        try clear p145
        try clear p146
        try clear p147
        try clear p2
        try clear q1
        try clear q144
        try clear q145
        try clear q146
        try clear q147
        obtain ⟨kq, x53_10, rfl, HA, HJ10, ⟨mc10, rfl⟩⟩ := hcut
        cases kq with
        | zero => exact absurd HA.out (by simp [juristref17_May.j2])
        | succ kj10 =>
         have H := HA.out
         clear HA
         simp only [juristref17_May.j2] at H
         by_cases c15 : x53_10 = true
         ·
          subst c15
          have H1 : (some false) = some r := by rw [if_pos rfl] at H; exact H
          clear H
          have H := H1
          clear H1
          obtain rfl := Option.some.inj H
          go_wp2
          go_ret
          exact ⟨by first | rfl | (simp; done) | (simp [*]; done), by repeat (first | exact Drawn0.refl _ | apply Drawn0.step)⟩
         ·
          replace c15 := Bool.eq_false_iff.mpr c15
          subst c15
          have H1 : (juristref17_May.l1 kj10 l0 l1 x5_2 0) = some r := by rw [if_neg (show ¬ (false = true) by decide)] at H; exact H
          clear H
          have H := H1
          clear H1
          have H' := Aside0.mk H
          clear H
          go_wp2
          go_loopg [6] kj10 (fun kq v6 w' => ∃ (x6_4 : Int), v6 = .int .i64 x6_4 ∧ Aside0 (juristref17_May.l1 kq l0 l1 x5_2 x6_4 = some r) ∧ Aside0 (kq ≤ kj10) ∧ Drawn0 w w')
          case atStart => exact ⟨(0), (by first | rfl | (simp; done) | (simp [*]; done)), H', ⟨Nat.le_refl _⟩, by repeat (first | exact Drawn0.refl _ | apply Drawn0.step)⟩
          case round =>
           clear H'
           try clear c1
           try clear p1
           try clear q1
           try clear hx1
           try clear qi1
           try clear c2
           try clear p2
           try clear c4
           try clear c4b0
           try clear c4b1
           try clear c5
           try clear c5b0
           try clear c5b1
           try clear c6
           try clear c6b0
           try clear c6b1
           try clear c7
           try clear c7b0
           try clear c7b1
           try clear c8
           try clear c8b0
           try clear c8b1
           try clear c9
           try clear c10
           try clear c10b0
           try clear c12
           try clear c12b0
           try clear c13
           try clear c13b0
           try clear c14
           try clear c14b0
           try clear p14
           try clear q14
           try clear hx14
           try clear qi14
           try clear c15
           try clear hx144_0
           try clear hx144_1
           try clear hx144_2
           try clear hx144_3
           try clear hx144_4
           try clear hx145_0
           try clear hx145_1
           try clear hx145_2
           try clear hx145_3
           try clear hx145_4
           try clear hx146_0
           try clear hx146_1
           try clear hx146_2
           try clear hx146_3
           try clear hx146_4
           try clear hx147_0
           try clear hx147_1
           try clear hx147_2
           try clear hx147_3
           try clear hx147_4
           try clear p1
           try clear p14
           try clear p144
           try clear p145
           try clear p146
           try clear p147
           try clear p2
           try clear q1
           try clear q14
           try clear q144
           try clear q145
           try clear q146
           try clear q147
           obtain ⟨x6_4, rfl, HA, HK4, ⟨m4, rfl⟩⟩ := hrel
           cases gk with
           | zero => exact absurd HA.out (by simp [juristref17_May.l1])
           | succ k4 =>
            have H := HA.out
            clear HA
            simp only [juristref17_May.l1] at H
            by_cases c16 : 0 ≤ x5_2
            ·
             rw [if_pos c16] at H
             have c16b0 : decide (0 ≤ x5_2) = true := decide_eq_true c16
             clear c16
             by_cases c17 : x5_2 < (l0.length : Int)
             ·
              rw [if_pos c17] at H
              have c17b0 : decide (x5_2 < (l0.length : Int)) = true := decide_eq_true c17
              clear c17
              by_cases c18 : x6_4 < (((rd_T46 l0 x5_2).f1).length : Int)
              ·
               rw [if_pos c18] at H
               have c18b0 : decide (x6_4 < (((rd_T46 l0 x5_2).f1).length : Int)) = true := decide_eq_true c18
               clear c18
               by_cases c19 : 0 ≤ x6_4
               ·
                rw [if_pos c19] at H
                have c19b0 : decide (0 ≤ x6_4) = true := decide_eq_true c19
                clear c19
                by_cases c20 : (rd ((rd_T46 l0 x5_2).f1) x6_4) < 0
                ·
                 rw [if_pos c20] at H
                 have c20b0 : decide ((rd ((rd_T46 l0 x5_2).f1) x6_4) < 0) = true := decide_eq_true c20
                 clear c20
                 obtain rfl := Option.some.inj H
                 have p148 : 0 ≤ (x5_2 : Int) := of_decide_eq_true (by first | (with_reducible assumption) | assumption)
                 have q148 : x5_2 < (l0.length : Int) := of_decide_eq_true (by first | (with_reducible assumption) | assumption)
                 obtain ⟨ad148, A148_1, c148_1, e148, hx148_0, hx148_1, hx148_2, hx148_3, hx148_4, hl148_1, hi148_1⟩ := at_T46 HR0.out x5_2 p148 q148
                 cases e148
                 have HR148_1 := Aside0.mk hi148_1
                 have HC148_1 := Aside0.mk hl148_1
                 clear hi148_1 hl148_1
                 replace p148 := eq_true p148
                 replace q148 := eq_true q148
                 have p149 : 0 ≤ (x5_2 : Int) := of_decide_eq_true (by first | (with_reducible assumption) | assumption)
                 have q149 : x5_2 < (l0.length : Int) := of_decide_eq_true (by first | (with_reducible assumption) | assumption)
                 obtain ⟨ad149, A149_1, c149_1, e149, hx149_0, hx149_1, hx149_2, hx149_3, hx149_4, hl149_1, hi149_1⟩ := at_T46 HR0.out x5_2 p149 q149
                 obtain rfl : ad148 = ad149 := (by injection e149)
                 have HR149_1 := Aside0.mk hi149_1
                 have HC149_1 := Aside0.mk hl149_1
                 clear hi149_1 hl149_1
                 replace p149 := eq_true p149
                 replace q149 := eq_true q149
                 have ea_ := Option.some.inj (hx148_1.symm.trans hx149_1)
                 injection ea_ with ea_ en_ ec_
                 subst ea_
                 subst ec_
                 clear en_
                 have p150 : 0 ≤ (x6_4 : Int) := of_decide_eq_true (by first | (with_reducible assumption) | assumption)
                 have q150 : x6_4 < (((rd_T46 l0 x5_2).f1).length : Int) := of_decide_eq_true (by first | (with_reducible assumption) | assumption)
                 obtain ⟨ad150, e150, hx150_0⟩ := Kd.at_int HR149_1.out x6_4 p150 q150
                 cases e150
                 replace p150 := eq_true p150
                 replace q150 := eq_true q150
                 go_wp2
                 go_ret
                 exact ⟨by first | rfl | (simp; done) | (simp [*]; done), by repeat (first | exact Drawn0.refl _ | apply Drawn0.step)⟩
                ·
                 rw [if_neg c20] at H
                 have c20b0 : decide ((rd ((rd_T46 l0 x5_2).f1) x6_4) < 0) = false := decide_eq_false c20
                 clear c20
                 by_cases c21 : (rd ((rd_T46 l0 x5_2).f1) x6_4) ≥ (l0.length : Int)
                 ·
                  rw [if_pos c21] at H
                  have c21b0 : decide ((l0.length : Int) ≤ (rd ((rd_T46 l0 x5_2).f1) x6_4)) = true := decide_eq_true c21
                  clear c21
                  obtain rfl := Option.some.inj H
                  have p148 : 0 ≤ (x5_2 : Int) := of_decide_eq_true (by first | (with_reducible assumption) | assumption)
                  have q148 : x5_2 < (l0.length : Int) := of_decide_eq_true (by first | (with_reducible assumption) | assumption)
                  obtain ⟨ad148, A148_1, c148_1, e148, hx148_0, hx148_1, hx148_2, hx148_3, hx148_4, hl148_1, hi148_1⟩ := at_T46 HR0.out x5_2 p148 q148
                  cases e148
                  have HR148_1 := Aside0.mk hi148_1
                  have HC148_1 := Aside0.mk hl148_1
                  clear hi148_1 hl148_1
                  replace p148 := eq_true p148
                  replace q148 := eq_true q148
                  have p149 : 0 ≤ (x5_2 : Int) := of_decide_eq_true (by first | (with_reducible assumption) | assumption)
                  have q149 : x5_2 < (l0.length : Int) := of_decide_eq_true (by first | (with_reducible assumption) | assumption)
                  obtain ⟨ad149, A149_1, c149_1, e149, hx149_0, hx149_1, hx149_2, hx149_3, hx149_4, hl149_1, hi149_1⟩ := at_T46 HR0.out x5_2 p149 q149
                  obtain rfl : ad148 = ad149 := (by injection e149)
                  have HR149_1 := Aside0.mk hi149_1
                  have HC149_1 := Aside0.mk hl149_1
                  clear hi149_1 hl149_1
                  replace p149 := eq_true p149
                  replace q149 := eq_true q149
                  have ea_ := Option.some.inj (hx148_1.symm.trans hx149_1)
                  injection ea_ with ea_ en_ ec_
                  subst ea_
                  subst ec_
                  clear en_
                  have p150 : 0 ≤ (x6_4 : Int) := of_decide_eq_true (by first | (with_reducible assumption) | assumption)
                  have q150 : x6_4 < (((rd_T46 l0 x5_2).f1).length : Int) := of_decide_eq_true (by first | (with_reducible assumption) | assumption)
                  obtain ⟨ad150, e150, hx150_0⟩ := Kd.at_int HR149_1.out x6_4 p150 q150
                  cases e150
                  replace p150 := eq_true p150
                  replace q150 := eq_true q150
                  have p151 : 0 ≤ (x5_2 : Int) := of_decide_eq_true (by first | (with_reducible assumption) | assumption)
                  have q151 : x5_2 < (l0.length : Int) := of_decide_eq_true (by first | (with_reducible assumption) | assumption)
                  obtain ⟨ad151, A151_1, c151_1, e151, hx151_0, hx151_1, hx151_2, hx151_3, hx151_4, hl151_1, hi151_1⟩ := at_T46 HR0.out x5_2 p151 q151
                  obtain rfl : ad148 = ad151 := (by injection e151)
                  have HR151_1 := Aside0.mk hi151_1
                  have HC151_1 := Aside0.mk hl151_1
                  clear hi151_1 hl151_1
                  replace p151 := eq_true p151
                  replace q151 := eq_true q151
                  have ea_ := Option.some.inj (hx148_1.symm.trans hx151_1)
                  injection ea_ with ea_ en_ ec_
                  subst ea_
                  subst ec_
                  clear en_
                  have p152 : 0 ≤ (x6_4 : Int) := of_decide_eq_true (by first | (with_reducible assumption) | assumption)
                  have q152 : x6_4 < (((rd_T46 l0 x5_2).f1).length : Int) := of_decide_eq_true (by first | (with_reducible assumption) | assumption)
                  obtain ⟨ad152, e152, hx152_0⟩ := Kd.at_int HR151_1.out x6_4 p152 q152
                  cases e152
                  replace p152 := eq_true p152
                  replace q152 := eq_true q152
                  go_wp2
                  go_ret
                  exact ⟨by first | rfl | (simp; done) | (simp [*]; done), by repeat (first | exact Drawn0.refl _ | apply Drawn0.step)⟩
                 ·
                  rw [if_neg c21] at H
                  have c21b0 : decide ((l0.length : Int) ≤ (rd ((rd_T46 l0 x5_2).f1) x6_4)) = false := decide_eq_false c21
                  clear c21
                  have H' := Aside0.mk H
                  clear H
                  have p148 : 0 ≤ (x5_2 : Int) := of_decide_eq_true (by first | (with_reducible assumption) | assumption)
                  have q148 : x5_2 < (l0.length : Int) := of_decide_eq_true (by first | (with_reducible assumption) | assumption)
                  obtain ⟨ad148, A148_1, c148_1, e148, hx148_0, hx148_1, hx148_2, hx148_3, hx148_4, hl148_1, hi148_1⟩ := at_T46 HR0.out x5_2 p148 q148
                  cases e148
                  have HR148_1 := Aside0.mk hi148_1
                  have HC148_1 := Aside0.mk hl148_1
                  clear hi148_1 hl148_1
                  replace p148 := eq_true p148
                  replace q148 := eq_true q148
                  have p149 : 0 ≤ (x5_2 : Int) := of_decide_eq_true (by first | (with_reducible assumption) | assumption)
                  have q149 : x5_2 < (l0.length : Int) := of_decide_eq_true (by first | (with_reducible assumption) | assumption)
                  obtain ⟨ad149, A149_1, c149_1, e149, hx149_0, hx149_1, hx149_2, hx149_3, hx149_4, hl149_1, hi149_1⟩ := at_T46 HR0.out x5_2 p149 q149
                  obtain rfl : ad148 = ad149 := (by injection e149)
                  have HR149_1 := Aside0.mk hi149_1
                  have HC149_1 := Aside0.mk hl149_1
                  clear hi149_1 hl149_1
                  replace p149 := eq_true p149
                  replace q149 := eq_true q149
                  have ea_ := Option.some.inj (hx148_1.symm.trans hx149_1)
                  injection ea_ with ea_ en_ ec_
                  subst ea_
                  subst ec_
                  clear en_
                  have p150 : 0 ≤ (x6_4 : Int) := of_decide_eq_true (by first | (with_reducible assumption) | assumption)
                  have q150 : x6_4 < (((rd_T46 l0 x5_2).f1).length : Int) := of_decide_eq_true (by first | (with_reducible assumption) | assumption)
                  obtain ⟨ad150, e150, hx150_0⟩ := Kd.at_int HR149_1.out x6_4 p150 q150
                  cases e150
                  replace p150 := eq_true p150
                  replace q150 := eq_true q150
                  have p151 : 0 ≤ (x5_2 : Int) := of_decide_eq_true (by first | (with_reducible assumption) | assumption)
                  have q151 : x5_2 < (l0.length : Int) := of_decide_eq_true (by first | (with_reducible assumption) | assumption)
                  obtain ⟨ad151, A151_1, c151_1, e151, hx151_0, hx151_1, hx151_2, hx151_3, hx151_4, hl151_1, hi151_1⟩ := at_T46 HR0.out x5_2 p151 q151
                  obtain rfl : ad148 = ad151 := (by injection e151)
                  have HR151_1 := Aside0.mk hi151_1
                  have HC151_1 := Aside0.mk hl151_1
                  clear hi151_1 hl151_1
                  replace p151 := eq_true p151
                  replace q151 := eq_true q151
                  have ea_ := Option.some.inj (hx148_1.symm.trans hx151_1)
                  injection ea_ with ea_ en_ ec_
                  subst ea_
                  subst ec_
                  clear en_
                  have p152 : 0 ≤ (x6_4 : Int) := of_decide_eq_true (by first | (with_reducible assumption) | assumption)
                  have q152 : x6_4 < (((rd_T46 l0 x5_2).f1).length : Int) := of_decide_eq_true (by first | (with_reducible assumption) | assumption)
                  obtain ⟨ad152, e152, hx152_0⟩ := Kd.at_int HR151_1.out x6_4 p152 q152
                  cases e152
                  replace p152 := eq_true p152
                  replace q152 := eq_true q152
                  go_wp2
                  go_roundg k4
                  case measure => have := HJ2.out; have := HK2.out; have := HJ10.out; have := HK4.out; omega
                  case rel => exact ⟨(wrap64 (x6_4 + 1)), (by first | rfl | (simp; done) | (simp [*]; done)), H', ⟨by have := HJ2.out; have := HK2.out; have := HJ10.out; have := HK4.out; omega⟩, by repeat (first | exact Drawn0.refl _ | apply Drawn0.step)⟩
               ·
                rw [if_neg c19] at H
                exact absurd H (by simp)
              ·
               rw [if_neg c18] at H
               have c18b0 : decide (x6_4 < (((rd_T46 l0 x5_2).f1).length : Int)) = false := decide_eq_false c18
               clear c18
               have H' := Aside0.mk H
               clear H
               have p148 : 0 ≤ (x5_2 : Int) := of_decide_eq_true (by first | (with_reducible assumption) | assumption)
               have q148 : x5_2 < (l0.length : Int) := of_decide_eq_true (by first | (with_reducible assumption) | assumption)
               obtain ⟨ad148, A148_1, c148_1, e148, hx148_0, hx148_1, hx148_2, hx148_3, hx148_4, hl148_1, hi148_1⟩ := at_T46 HR0.out x5_2 p148 q148
               cases e148
               have HR148_1 := Aside0.mk hi148_1
               have HC148_1 := Aside0.mk hl148_1
               clear hi148_1 hl148_1
               replace p148 := eq_true p148
               replace q148 := eq_true q148
               go_wp2
               go_roundg k4
               case measure => have := HJ2.out; have := HK2.out; have := HJ10.out; have := HK4.out; omega
               case rel => exact ⟨(wrap64 (x5_2 + 1)), (by first | rfl | (simp; done) | (simp [*]; done)), H', ⟨by have := HJ2.out; have := HK2.out; have := HJ10.out; have := HK4.out; omega⟩, by repeat (first | exact Drawn0.refl _ | apply Drawn0.step)⟩
             ·
              rw [if_neg c17] at H
              exact absurd H (by simp)
            ·
             rw [if_neg c16] at H
             exact absurd H (by simp)
      ·
       rw [if_neg c10] at H
       have c10b0 : decide (x5_2 < (l0.length : Int)) = false := decide_eq_false c10
       clear c10
       have H' := Aside0.mk H
       clear H
       go_wp2
       go_loopg [7] k2 (fun kq v7 w' => ∃ (x7_3 : Int), v7 = .int .i64 x7_3 ∧ Aside0 (juristref17_May.l2 kq l0 l1 x7_3 = some r) ∧ Aside0 (kq ≤ k2) ∧ Drawn0 w w')
       case atStart => exact ⟨(0), (by first | rfl | (simp; done) | (simp [*]; done)), H', ⟨Nat.le_refl _⟩, by repeat (first | exact Drawn0.refl _ | apply Drawn0.step)⟩
       case round =>
        clear H'
        try clear c1
        try clear p1
        try clear q1
        try clear hx1
        try clear qi1
        try clear c2
        try clear p2
        try clear c4
        try clear c4b0
        try clear c4b1
        try clear c5
        try clear c5b0
        try clear c5b1
        try clear c6
        try clear c6b0
        try clear c6b1
        try clear p6
        try clear c7
        try clear c7b0
        try clear c7b1
        try clear c8
        try clear c8b0
        try clear c8b1
        try clear c9
        try clear c10
        try clear c10b0
        try clear c12
        try clear c12b0
        try clear c13
        try clear c13b0
        try clear c14
        try clear c14b0
        try clear p14
        try clear q14
        try clear hx14
        try clear qi14
        try clear c15
        try clear p15
        try clear q15
        try clear hx15
        try clear c16
        try clear c16b0
        try clear c17
        try clear c17b0
        try clear c18
        try clear c18b0
        try clear c19
        try clear c19b0
        try clear c20
        try clear c20b0
        try clear c21
        try clear c21b0
        try clear hx144_0
        try clear hx144_1
        try clear hx144_2
        try clear hx144_3
        try clear hx144_4
        try clear hx145_0
        try clear hx145_1
        try clear hx145_2
        try clear hx145_3
        try clear hx145_4
        try clear hx146_0
        try clear hx146_1
        try clear hx146_2
        try clear hx146_3
        try clear hx146_4
        try clear hx147_0
        try clear hx147_1
        try clear hx147_2
        try clear hx147_3
        try clear hx147_4
        try clear hx148_0
        try clear hx148_1
        try clear hx148_2
        try clear hx148_3
        try clear hx148_4
        try clear hx149_0
        try clear hx149_1
        try clear hx149_2
        try clear hx149_3
        try clear hx149_4
        try clear hx150_0
        try clear hx151_0
        try clear hx151_1
        try clear hx151_2
        try clear hx151_3
        try clear hx151_4
        try clear hx152_0
        try clear p1
        try clear p14
        try clear p144
        try clear p145
        try clear p146
        try clear p147
        try clear p148
        try clear p149
        try clear p150
        try clear p151
        try clear p152
        try clear p2
        try clear q1
        try clear q14
        try clear q144
        try clear q145
        try clear q146
        try clear q147
        try clear q148
        try clear q149
        try clear q150
        try clear q151
        try clear q152
        obtain ⟨x7_3, rfl, HA, HK3, ⟨m3, rfl⟩⟩ := hrel
        cases gk with
        | zero => exact absurd HA.out (by simp [juristref17_May.l2])
        | succ k3 =>
         have H := HA.out
         clear HA
         simp only [juristref17_May.l2] at H
         by_cases c22 : x7_3 < (l1.length : Int)
         ·
          rw [if_pos c22] at H
          have c22b0 : decide (x7_3 < (l1.length : Int)) = true := decide_eq_true c22
          clear c22
          have HC23 := Aside0.mk H
          clear H
          go_upto_region 16 with (fail)
          go_cut [123] (fun v123 wc => ∃ (kq : Nat) (x123_22 : Bool), v123 = .bool x123_22 ∧ Aside0 (juristref17_May.j5 kq l0 l1 x7_3 x123_22 = some r) ∧ Aside0 (kq ≤ k3) ∧ Drawn0 w wc)
          case first =>
           have H := HC23.out
           clear HC23
           by_cases c24 : 0 ≤ x7_3
           ·
            rw [if_pos c24] at H
            have c24b0 : decide (0 ≤ x7_3) = true := decide_eq_true c24
            clear c24
            (first | rw [c24b0] | (simp only [i64_w, i32_w]; rw [c24b0]) | skip)
            by_cases c25 : ((rd_T66 l1 x7_3).f0) = 1
            ·
             rw [if_pos c25] at H
             have c25b0 : (((rd_T66 l1 x7_3).f0) == 1) = true := beq_iff_eq.mpr c25
             have c25b1 : (((rd_T66 l1 x7_3).f0) != 1) = false := bne_eq_false_iff_eq.mpr c25
             clear c25
             by_cases c26 : ((rd_T66 l1 x7_3).f1) < 0
             ·
              rw [if_pos c26] at H
              have c26b0 : decide (((rd_T66 l1 x7_3).f1) < 0) = true := decide_eq_true c26
              clear c26
              have H' := Aside0.mk H
              clear H
              have p153 : 0 ≤ (x7_3 : Int) := of_decide_eq_true (by first | (with_reducible assumption) | assumption)
              have q153 : x7_3 < (l1.length : Int) := of_decide_eq_true (by first | (with_reducible assumption) | assumption)
              obtain ⟨ad153, e153, hx153_0, hx153_1, hx153_2, hx153_3⟩ := at_T66 HR1.out x7_3 p153 q153
              cases e153
              replace p153 := eq_true p153
              replace q153 := eq_true q153
              have p154 : 0 ≤ (x7_3 : Int) := of_decide_eq_true (by first | (with_reducible assumption) | assumption)
              have q154 : x7_3 < (l1.length : Int) := of_decide_eq_true (by first | (with_reducible assumption) | assumption)
              obtain ⟨ad154, e154, hx154_0, hx154_1, hx154_2, hx154_3⟩ := at_T66 HR1.out x7_3 p154 q154
              obtain rfl : ad153 = ad154 := (by injection e154)
              replace p154 := eq_true p154
              replace q154 := eq_true q154
              go_wp2
              go_meet
              case rel => exact ⟨_, (true), (by first | rfl | (simp; done) | (simp [*]; done)), H', ⟨by have := HJ2.out; have := HK2.out; have := HK3.out; first | omega | exact Nat.le_refl _⟩, by repeat (first | exact Drawn0.refl _ | apply Drawn0.step)⟩
             ·
              rw [if_neg c26] at H
              have c26b0 : decide (((rd_T66 l1 x7_3).f1) < 0) = false := decide_eq_false c26
              clear c26
              have H' := Aside0.mk H
              clear H
              have p153 : 0 ≤ (x7_3 : Int) := of_decide_eq_true (by first | (with_reducible assumption) | assumption)
              have q153 : x7_3 < (l1.length : Int) := of_decide_eq_true (by first | (with_reducible assumption) | assumption)
              obtain ⟨ad153, e153, hx153_0, hx153_1, hx153_2, hx153_3⟩ := at_T66 HR1.out x7_3 p153 q153
              cases e153
              replace p153 := eq_true p153
              replace q153 := eq_true q153
              have p154 : 0 ≤ (x7_3 : Int) := of_decide_eq_true (by first | (with_reducible assumption) | assumption)
              have q154 : x7_3 < (l1.length : Int) := of_decide_eq_true (by first | (with_reducible assumption) | assumption)
              obtain ⟨ad154, e154, hx154_0, hx154_1, hx154_2, hx154_3⟩ := at_T66 HR1.out x7_3 p154 q154
              obtain rfl : ad153 = ad154 := (by injection e154)
              replace p154 := eq_true p154
              replace q154 := eq_true q154
              have p155 : 0 ≤ (x7_3 : Int) := of_decide_eq_true (by first | (with_reducible assumption) | assumption)
              have q155 : x7_3 < (l1.length : Int) := of_decide_eq_true (by first | (with_reducible assumption) | assumption)
              obtain ⟨ad155, e155, hx155_0, hx155_1, hx155_2, hx155_3⟩ := at_T66 HR1.out x7_3 p155 q155
              obtain rfl : ad153 = ad155 := (by injection e155)
              replace p155 := eq_true p155
              replace q155 := eq_true q155
              go_wp2
              go_meet
              case rel => exact ⟨_, (decide (((rd_T66 l1 x7_3).f1) ≥ (l0.length : Int))), (by first | rfl | (simp; done) | (simp [*]; done)), H', ⟨by have := HJ2.out; have := HK2.out; have := HK3.out; first | omega | exact Nat.le_refl _⟩, by repeat (first | exact Drawn0.refl _ | apply Drawn0.step)⟩
            ·
             rw [if_neg c25] at H
             have c25b0 : (((rd_T66 l1 x7_3).f0) == 1) = false := beq_eq_false_iff_ne.mpr c25
             have c25b1 : (((rd_T66 l1 x7_3).f0) != 1) = true := bne_iff_ne.mpr c25
             by_cases c27 : ((rd_T66 l1 x7_3).f0) = 3
             ·
              rw [if_pos c27] at H
              have c27b0 : (((rd_T66 l1 x7_3).f0) == 3) = true := beq_iff_eq.mpr c27
              have c27b1 : (((rd_T66 l1 x7_3).f0) != 3) = false := bne_eq_false_iff_eq.mpr c27
              clear c27
              by_cases c28 : ((rd_T66 l1 x7_3).f1) < 0
              ·
               rw [if_pos c28] at H
               have c28b0 : decide (((rd_T66 l1 x7_3).f1) < 0) = true := decide_eq_true c28
               clear c28
               have H' := Aside0.mk H
               clear H
               have p153 : 0 ≤ (x7_3 : Int) := of_decide_eq_true (by first | (with_reducible assumption) | assumption)
               have q153 : x7_3 < (l1.length : Int) := of_decide_eq_true (by first | (with_reducible assumption) | assumption)
               obtain ⟨ad153, e153, hx153_0, hx153_1, hx153_2, hx153_3⟩ := at_T66 HR1.out x7_3 p153 q153
               cases e153
               replace p153 := eq_true p153
               replace q153 := eq_true q153
               have p156 : 0 ≤ (x7_3 : Int) := of_decide_eq_true (by first | (with_reducible assumption) | assumption)
               have q156 : x7_3 < (l1.length : Int) := of_decide_eq_true (by first | (with_reducible assumption) | assumption)
               obtain ⟨ad156, e156, hx156_0, hx156_1, hx156_2, hx156_3⟩ := at_T66 HR1.out x7_3 p156 q156
               obtain rfl : ad153 = ad156 := (by injection e156)
               replace p156 := eq_true p156
               replace q156 := eq_true q156
               have p157 : 0 ≤ (x7_3 : Int) := of_decide_eq_true (by first | (with_reducible assumption) | assumption)
               have q157 : x7_3 < (l1.length : Int) := of_decide_eq_true (by first | (with_reducible assumption) | assumption)
               obtain ⟨ad157, e157, hx157_0, hx157_1, hx157_2, hx157_3⟩ := at_T66 HR1.out x7_3 p157 q157
               obtain rfl : ad153 = ad157 := (by injection e157)
               replace p157 := eq_true p157
               replace q157 := eq_true q157
               go_wp2
               go_meet
               case rel => exact ⟨_, (true), (by first | rfl | (simp; done) | (simp [*]; done)), H', ⟨by have := HJ2.out; have := HK2.out; have := HK3.out; first | omega | exact Nat.le_refl _⟩, by repeat (first | exact Drawn0.refl _ | apply Drawn0.step)⟩
              ·
               rw [if_neg c28] at H
               have c28b0 : decide (((rd_T66 l1 x7_3).f1) < 0) = false := decide_eq_false c28
               clear c28
               have H' := Aside0.mk H
               clear H
               have p153 : 0 ≤ (x7_3 : Int) := of_decide_eq_true (by first | (with_reducible assumption) | assumption)
               have q153 : x7_3 < (l1.length : Int) := of_decide_eq_true (by first | (with_reducible assumption) | assumption)
               obtain ⟨ad153, e153, hx153_0, hx153_1, hx153_2, hx153_3⟩ := at_T66 HR1.out x7_3 p153 q153
               cases e153
               replace p153 := eq_true p153
               replace q153 := eq_true q153
               have p156 : 0 ≤ (x7_3 : Int) := of_decide_eq_true (by first | (with_reducible assumption) | assumption)
               have q156 : x7_3 < (l1.length : Int) := of_decide_eq_true (by first | (with_reducible assumption) | assumption)
               obtain ⟨ad156, e156, hx156_0, hx156_1, hx156_2, hx156_3⟩ := at_T66 HR1.out x7_3 p156 q156
               obtain rfl : ad153 = ad156 := (by injection e156)
               replace p156 := eq_true p156
               replace q156 := eq_true q156
               have p157 : 0 ≤ (x7_3 : Int) := of_decide_eq_true (by first | (with_reducible assumption) | assumption)
               have q157 : x7_3 < (l1.length : Int) := of_decide_eq_true (by first | (with_reducible assumption) | assumption)
               obtain ⟨ad157, e157, hx157_0, hx157_1, hx157_2, hx157_3⟩ := at_T66 HR1.out x7_3 p157 q157
               obtain rfl : ad153 = ad157 := (by injection e157)
               replace p157 := eq_true p157
               replace q157 := eq_true q157
               have p158 : 0 ≤ (x7_3 : Int) := of_decide_eq_true (by first | (with_reducible assumption) | assumption)
               have q158 : x7_3 < (l1.length : Int) := of_decide_eq_true (by first | (with_reducible assumption) | assumption)
               obtain ⟨ad158, e158, hx158_0, hx158_1, hx158_2, hx158_3⟩ := at_T66 HR1.out x7_3 p158 q158
               obtain rfl : ad153 = ad158 := (by injection e158)
               replace p158 := eq_true p158
               replace q158 := eq_true q158
               go_wp2
               go_meet
               case rel => exact ⟨_, (decide (((rd_T66 l1 x7_3).f1) ≥ (l0.length : Int))), (by first | rfl | (simp; done) | (simp [*]; done)), H', ⟨by have := HJ2.out; have := HK2.out; have := HK3.out; first | omega | exact Nat.le_refl _⟩, by repeat (first | exact Drawn0.refl _ | apply Drawn0.step)⟩
             ·
              rw [if_neg c27] at H
              have c27b0 : (((rd_T66 l1 x7_3).f0) == 3) = false := beq_eq_false_iff_ne.mpr c27
              have c27b1 : (((rd_T66 l1 x7_3).f0) != 3) = true := bne_iff_ne.mpr c27
              have H' := Aside0.mk H
              clear H
              have p153 : 0 ≤ (x7_3 : Int) := of_decide_eq_true (by first | (with_reducible assumption) | assumption)
              have q153 : x7_3 < (l1.length : Int) := of_decide_eq_true (by first | (with_reducible assumption) | assumption)
              obtain ⟨ad153, e153, hx153_0, hx153_1, hx153_2, hx153_3⟩ := at_T66 HR1.out x7_3 p153 q153
              cases e153
              replace p153 := eq_true p153
              replace q153 := eq_true q153
              have p156 : 0 ≤ (x7_3 : Int) := of_decide_eq_true (by first | (with_reducible assumption) | assumption)
              have q156 : x7_3 < (l1.length : Int) := of_decide_eq_true (by first | (with_reducible assumption) | assumption)
              obtain ⟨ad156, e156, hx156_0, hx156_1, hx156_2, hx156_3⟩ := at_T66 HR1.out x7_3 p156 q156
              obtain rfl : ad153 = ad156 := (by injection e156)
              replace p156 := eq_true p156
              replace q156 := eq_true q156
              go_wp2
              go_meet
              case rel => exact ⟨_, (false), (by first | rfl | (simp; done) | (simp [*]; done)), H', ⟨by have := HJ2.out; have := HK2.out; have := HK3.out; first | omega | exact Nat.le_refl _⟩, by repeat (first | exact Drawn0.refl _ | apply Drawn0.step)⟩
           ·
            rw [if_neg c24] at H
            exact absurd H (by simp)
          case rest =>
           clear HC23
           try clear c1
           try clear p1
           try clear q1
           try clear hx1
           try clear qi1
           try clear c2
           try clear p2
           try clear c4
           try clear c4b0
           try clear c4b1
           try clear c5
           try clear c5b0
           try clear c5b1
           try clear c6
           try clear c6b0
           try clear c6b1
           try clear p6
           try clear c7
           try clear c7b0
           try clear c7b1
           try clear c8
           try clear c8b0
           try clear c8b1
           try clear c9
           try clear c10
           try clear c10b0
           try clear c12
           try clear c12b0
           try clear c13
           try clear c13b0
           try clear c14
           try clear c14b0
           try clear p14
           try clear q14
           try clear hx14
           try clear qi14
           try clear c15
           try clear p15
           try clear q15
           try clear hx15
           try clear c16
           try clear c16b0
           try clear c17
           try clear c17b0
           try clear c18
           try clear c18b0
           try clear c19
           try clear c19b0
           try clear c20
           try clear c20b0
           try clear c21
           try clear c21b0
           try clear c22
           try clear c22b0
           try clear c24
           try clear c24b0
           try clear c25
           try clear c25b0
           try clear c25b1
           try clear c26
           try clear c26b0
           try clear c27
           try clear c27b0
           try clear c27b1
           try clear c28
           try clear c28b0
           try clear hx144_0
           try clear hx144_1
           try clear hx144_2
           try clear hx144_3
           try clear hx144_4
           try clear hx145_0
           try clear hx145_1
           try clear hx145_2
           try clear hx145_3
           try clear hx145_4
           try clear hx146_0
           try clear hx146_1
           try clear hx146_2
           try clear hx146_3
           try clear hx146_4
           try clear hx147_0
           try clear hx147_1
           try clear hx147_2
           try clear hx147_3
           try clear hx147_4
           try clear hx148_0
           try clear hx148_1
           try clear hx148_2
           try clear hx148_3
           try clear hx148_4
           try clear hx149_0
           try clear hx149_1
           try clear hx149_2
           try clear hx149_3
           try clear hx149_4
           try clear hx150_0
           try clear hx151_0
           try clear hx151_1
           try clear hx151_2
           try clear hx151_3
           try clear hx151_4
           try clear hx152_0
           try clear hx153_0
           try clear hx153_1
           try clear hx153_2
           try clear hx153_3
           try clear hx154_0
           try clear hx154_1
           try clear hx154_2
           try clear hx154_3
           try clear hx155_0
           try clear hx155_1
           try clear hx155_2
           try clear hx155_3
           try clear hx156_0
           try clear hx156_1
           try clear hx156_2
           try clear hx156_3
           try clear hx157_0
           try clear hx157_1
           try clear hx157_2
           try clear hx157_3
           try clear hx158_0
           try clear hx158_1
           try clear hx158_2
           try clear hx158_3
           try clear p1
           try clear p14
           try clear p144
           try clear p145
           try clear p146
           try clear p147
           try clear p148
           try clear p149
           try clear p15
           try clear p150
           try clear p151
           try clear p152
           try clear p153
           try clear p154
           try clear p155
           try clear p156
           try clear p157
           try clear p158
           try clear p2
           try clear p6
           try clear q1
           try clear q14
           try clear q144
           try clear q145
           try clear q146
           try clear q147
           try clear q148
           try clear q149
           try clear q15
           try clear q150
           try clear q151
           try clear q152
           try clear q153
           try clear q154
           try clear q155
           try clear q156
           try clear q157
           try clear q158
           obtain ⟨kq, x123_22, rfl, HA, HJ22, ⟨mc22, rfl⟩⟩ := hcut
           cases kq with
           | zero => exact absurd HA.out (by simp [juristref17_May.j5])
           | succ kj22 =>
            have H := HA.out
            clear HA
            simp only [juristref17_May.j5] at H
            by_cases c29 : x123_22 = true
            ·
             subst c29
             have H1 : (some false) = some r := by rw [if_pos rfl] at H; exact H
             clear H
             have H := H1
             clear H1
             obtain rfl := Option.some.inj H
             go_wp2
             go_ret
             exact ⟨by first | rfl | (simp; done) | (simp [*]; done), by repeat (first | exact Drawn0.refl _ | apply Drawn0.step)⟩
            ·
             replace c29 := Bool.eq_false_iff.mpr c29
             subst c29
             have H1 : (if 0 ≤ x7_3 then (if x7_3 < (l1.length : Int) then (if ((rd_T66 l1 x7_3).f0) = 1 then (if ((rd_T66 l1 x7_3).f2) < 0 then (some false) else (if ((rd_T66 l1 x7_3).f2) ≥ (l0.length : Int) then (some false) else (juristref17_May.l2 kj22 l0 l1 (wrap64 (x7_3 + 1))))) else (juristref17_May.l2 kj22 l0 l1 (wrap64 (x7_3 + 1)))) else (none)) else (none)) = some r := by rw [if_neg (show ¬ (false = true) by decide)] at H; exact H
             clear H
             have H := H1
             clear H1
             by_cases c30 : 0 ≤ x7_3
             ·
              rw [if_pos c30] at H
              have c30b0 : decide (0 ≤ x7_3) = true := decide_eq_true c30
              clear c30
              by_cases c31 : x7_3 < (l1.length : Int)
              ·
               rw [if_pos c31] at H
               have c31b0 : decide (x7_3 < (l1.length : Int)) = true := decide_eq_true c31
               clear c31
               by_cases c32 : ((rd_T66 l1 x7_3).f0) = 1
               ·
                rw [if_pos c32] at H
                have c32b0 : (((rd_T66 l1 x7_3).f0) == 1) = true := beq_iff_eq.mpr c32
                have c32b1 : (((rd_T66 l1 x7_3).f0) != 1) = false := bne_eq_false_iff_eq.mpr c32
                clear c32
                by_cases c33 : ((rd_T66 l1 x7_3).f2) < 0
                ·
                 rw [if_pos c33] at H
                 have c33b0 : decide (((rd_T66 l1 x7_3).f2) < 0) = true := decide_eq_true c33
                 clear c33
                 obtain rfl := Option.some.inj H
                 have p159 : 0 ≤ (x7_3 : Int) := of_decide_eq_true (by first | (with_reducible assumption) | assumption)
                 have q159 : x7_3 < (l1.length : Int) := of_decide_eq_true (by first | (with_reducible assumption) | assumption)
                 obtain ⟨ad159, e159, hx159_0, hx159_1, hx159_2, hx159_3⟩ := at_T66 HR1.out x7_3 p159 q159
                 cases e159
                 replace p159 := eq_true p159
                 replace q159 := eq_true q159
                 have p160 : 0 ≤ (x7_3 : Int) := of_decide_eq_true (by first | (with_reducible assumption) | assumption)
                 have q160 : x7_3 < (l1.length : Int) := of_decide_eq_true (by first | (with_reducible assumption) | assumption)
                 obtain ⟨ad160, e160, hx160_0, hx160_1, hx160_2, hx160_3⟩ := at_T66 HR1.out x7_3 p160 q160
                 obtain rfl : ad159 = ad160 := (by injection e160)
                 replace p160 := eq_true p160
                 replace q160 := eq_true q160
                 go_wp2
                 go_ret
                 exact ⟨by first | rfl | (simp; done) | (simp [*]; done), by repeat (first | exact Drawn0.refl _ | apply Drawn0.step)⟩
                ·
                 rw [if_neg c33] at H
                 have c33b0 : decide (((rd_T66 l1 x7_3).f2) < 0) = false := decide_eq_false c33
                 clear c33
                 by_cases c34 : ((rd_T66 l1 x7_3).f2) ≥ (l0.length : Int)
                 ·
                  rw [if_pos c34] at H
                  have c34b0 : decide ((l0.length : Int) ≤ ((rd_T66 l1 x7_3).f2)) = true := decide_eq_true c34
                  clear c34
                  obtain rfl := Option.some.inj H
                  have p159 : 0 ≤ (x7_3 : Int) := of_decide_eq_true (by first | (with_reducible assumption) | assumption)
                  have q159 : x7_3 < (l1.length : Int) := of_decide_eq_true (by first | (with_reducible assumption) | assumption)
                  obtain ⟨ad159, e159, hx159_0, hx159_1, hx159_2, hx159_3⟩ := at_T66 HR1.out x7_3 p159 q159
                  cases e159
                  replace p159 := eq_true p159
                  replace q159 := eq_true q159
                  have p160 : 0 ≤ (x7_3 : Int) := of_decide_eq_true (by first | (with_reducible assumption) | assumption)
                  have q160 : x7_3 < (l1.length : Int) := of_decide_eq_true (by first | (with_reducible assumption) | assumption)
                  obtain ⟨ad160, e160, hx160_0, hx160_1, hx160_2, hx160_3⟩ := at_T66 HR1.out x7_3 p160 q160
                  obtain rfl : ad159 = ad160 := (by injection e160)
                  replace p160 := eq_true p160
                  replace q160 := eq_true q160
                  have p161 : 0 ≤ (x7_3 : Int) := of_decide_eq_true (by first | (with_reducible assumption) | assumption)
                  have q161 : x7_3 < (l1.length : Int) := of_decide_eq_true (by first | (with_reducible assumption) | assumption)
                  obtain ⟨ad161, e161, hx161_0, hx161_1, hx161_2, hx161_3⟩ := at_T66 HR1.out x7_3 p161 q161
                  obtain rfl : ad159 = ad161 := (by injection e161)
                  replace p161 := eq_true p161
                  replace q161 := eq_true q161
                  go_wp2
                  go_ret
                  exact ⟨by first | rfl | (simp; done) | (simp [*]; done), by repeat (first | exact Drawn0.refl _ | apply Drawn0.step)⟩
                 ·
                  rw [if_neg c34] at H
                  have c34b0 : decide ((l0.length : Int) ≤ ((rd_T66 l1 x7_3).f2)) = false := decide_eq_false c34
                  clear c34
                  have H' := Aside0.mk H
                  clear H
                  have p159 : 0 ≤ (x7_3 : Int) := of_decide_eq_true (by first | (with_reducible assumption) | assumption)
                  have q159 : x7_3 < (l1.length : Int) := of_decide_eq_true (by first | (with_reducible assumption) | assumption)
                  obtain ⟨ad159, e159, hx159_0, hx159_1, hx159_2, hx159_3⟩ := at_T66 HR1.out x7_3 p159 q159
                  cases e159
                  replace p159 := eq_true p159
                  replace q159 := eq_true q159
                  have p160 : 0 ≤ (x7_3 : Int) := of_decide_eq_true (by first | (with_reducible assumption) | assumption)
                  have q160 : x7_3 < (l1.length : Int) := of_decide_eq_true (by first | (with_reducible assumption) | assumption)
                  obtain ⟨ad160, e160, hx160_0, hx160_1, hx160_2, hx160_3⟩ := at_T66 HR1.out x7_3 p160 q160
                  obtain rfl : ad159 = ad160 := (by injection e160)
                  replace p160 := eq_true p160
                  replace q160 := eq_true q160
                  have p161 : 0 ≤ (x7_3 : Int) := of_decide_eq_true (by first | (with_reducible assumption) | assumption)
                  have q161 : x7_3 < (l1.length : Int) := of_decide_eq_true (by first | (with_reducible assumption) | assumption)
                  obtain ⟨ad161, e161, hx161_0, hx161_1, hx161_2, hx161_3⟩ := at_T66 HR1.out x7_3 p161 q161
                  obtain rfl : ad159 = ad161 := (by injection e161)
                  replace p161 := eq_true p161
                  replace q161 := eq_true q161
                  go_wp2
                  go_roundg kj22
                  case measure => have := HJ2.out; have := HK2.out; have := HK3.out; have := HJ22.out; omega
                  case rel => exact ⟨(wrap64 (x7_3 + 1)), (by first | rfl | (simp; done) | (simp [*]; done)), H', ⟨by have := HJ2.out; have := HK2.out; have := HK3.out; have := HJ22.out; omega⟩, by repeat (first | exact Drawn0.refl _ | apply Drawn0.step)⟩
               ·
                rw [if_neg c32] at H
                have c32b0 : (((rd_T66 l1 x7_3).f0) == 1) = false := beq_eq_false_iff_ne.mpr c32
                have c32b1 : (((rd_T66 l1 x7_3).f0) != 1) = true := bne_iff_ne.mpr c32
                have H' := Aside0.mk H
                clear H
                have p159 : 0 ≤ (x7_3 : Int) := of_decide_eq_true (by first | (with_reducible assumption) | assumption)
                have q159 : x7_3 < (l1.length : Int) := of_decide_eq_true (by first | (with_reducible assumption) | assumption)
                obtain ⟨ad159, e159, hx159_0, hx159_1, hx159_2, hx159_3⟩ := at_T66 HR1.out x7_3 p159 q159
                cases e159
                replace p159 := eq_true p159
                replace q159 := eq_true q159
                go_wp2
                go_roundg kj22
                case measure => have := HJ2.out; have := HK2.out; have := HK3.out; have := HJ22.out; omega
                case rel => exact ⟨(wrap64 (x7_3 + 1)), (by first | rfl | (simp; done) | (simp [*]; done)), H', ⟨by have := HJ2.out; have := HK2.out; have := HK3.out; have := HJ22.out; omega⟩, by repeat (first | exact Drawn0.refl _ | apply Drawn0.step)⟩
              ·
               rw [if_neg c31] at H
               exact absurd H (by simp)
             ·
              rw [if_neg c30] at H
              exact absurd H (by simp)
         ·
          rw [if_neg c22] at H
          have c22b0 : decide (x7_3 < (l1.length : Int)) = false := decide_eq_false c22
          clear c22
          obtain rfl := Option.some.inj H
          go_wp2
          go_ret
          exact ⟨by first | rfl | (simp; done) | (simp [*]; done), by repeat (first | exact Drawn0.refl _ | apply Drawn0.step)⟩

end Go.Proofs.YtpopohkbffhckaaDoor.Hk
