/- Walk of the law TermsNone. -/
import Derived.Test.YtmgbodmpjholiaaTermN
import Derived.Test.YtmgbodmpjholiaaManFullLaw
import Derived.Test.YtmgbodmpjholiaaHkx0
namespace Go.Proofs.Ytmgbodmpjholiaa.Hk
open Go.RowKit Go.Maps Go.Shelf Go.Lib Go.Proofs.YtmgbodmpjholiaaW.PrintWords Go.Proofs.YtmgbodmpjholiaaW.PrintLast Go.Proofs.YtmgbodmpjholiaaW.PrintMore Go.Proofs.Ytmgbodmpjholiaa.MM Go.Proofs.Ytmgbodmpjholiaa.KM Go.Proofs.Ytmgbodmpjholiaa.TM
attribute [local go_sem ↓] Go.wp_at_zero Go.wp_at_succ
set_option linter.unusedSimpArgs false
set_option linter.unusedVariables false

/-- What the law's two stores lie in. -/
structure Two (w : World) (wr : World) : Prop where
  bel : Below w.heap.size w wr
  zero : wr.heap[w.heap.size]? = some (.cells #[.slice none 0 0, .map none, .map none] 63 (0, 0))
  all : wr.heap[w.heap.size + 1]? = some (.cells #[.pointer none, .pointer (some ⟨w.heap.size, 0, none⟩)] 24 (0, 0))
theorem Two.below {w wr w2 : World} (h : Two w wr) (hb : Below wr.heap.size wr w2) : Two w w2 :=
  ⟨TM.bel h.bel hb, (hb.block _ (blk_lt h.zero)).trans h.zero, (hb.block _ (blk_lt h.all)).trans h.all⟩
theorem Two.at {w wr : World} (h : Two w wr) (i : Nat) (hi : i < 2) : ∃ a, wr.cell? ⟨w.heap.size + 1, i, none⟩ = some (.pointer a) ∧ NilS wr a := by
  rcases Nat.eq_zero_or_pos i with rfl | h1
  · exact ⟨none, (blk_cell h.all 0).trans rfl, .inl rfl⟩
  · obtain rfl : i = 1 := by omega
    exact ⟨some ⟨w.heap.size, 0, none⟩, (blk_cell h.all 1).trans rfl, .inr ⟨_, rfl, (blk_cell h.zero 1).trans rfl, blk_lt h.zero⟩⟩
set_option maxRecDepth 100000 in
set_option maxHeartbeats 6400000 in
theorem none_main (w : World) (x n : Int) (A0 : Option Addr) (c0 m : Nat) (hm : m ≤ 100) :
    Calls Try.prog 8 #[.int .i64 x, .int .i64 n, .slice A0 m c0] w fun e w' => e = .returned (.bool true) ∧ Below w.heap.size w w' := by
  have hg : ¬ (m : Int) > 100 := by omega
  have T0 := hid (show Two w ((w.alloc (.cells #[.slice none 0 0, .map none, .map none] 63)).alloc (.cells #[.pointer none, .pointer (some ⟨w.heap.size, 0, none⟩)] 24)) from
    ⟨((Below.refl _ _).alloc (Nat.le_refl _) _).alloc (by simp) _, (old_alloc _ (by simp)).trans (heap_alloc_new _ _), by have := heap_alloc_new (w.alloc (.cells #[.slice none 0 0, .map none, .map none] 63)) (.cells #[.pointer none, .pointer (some ⟨w.heap.size, 0, none⟩)] 24); simpa using this⟩)
  go_enter Try.func8, Try.ntmps8
  go_wp2_with fail
  go_loopg [9] 2 (fun left v9 wr => ∃ i : Nat, left + i = 2 ∧ v9 = .int .i64 (i : Int) ∧ Hid (Two w wr))
  case atStart => exact ⟨0, by omega, rfl, T0⟩
  case round =>
    obtain ⟨i, hi, rfl, U⟩ := hrel
    clear T0
    by_cases hlt : i < 2
    · have hI : (i : Int) < 2 := by omega
      obtain ⟨a, hca, hnil⟩ := U.out.at i hlt
      have HN0 := hid hnil
      have B0 := hid (Below.refl wr.heap.size wr)
      cases gk with
      | zero => omega
      | succ left =>
      clear hnil hlt
      go_wp2_with fail
      refine (Not_nil _ a x (HN0.out.below B0.out)).mono ?_
      rintro e w1 ⟨rfl, hb⟩
      have B1 := hid (TM.bel B0.out hb)
      clear hb hca
      go_wp2_with fail
      refine (And_nil _ a (.slice A0 m c0) (HN0.out.below B1.out)).mono ?_
      rintro e w2 ⟨rfl, hb⟩
      have B2 := hid (TM.bel B1.out hb)
      clear hb
      go_wp2_with fail
      refine (Or_nil _ a (.slice A0 m c0) (HN0.out.below B2.out)).mono ?_
      rintro e w3 ⟨rfl, hb⟩
      have B3 := hid (TM.bel B2.out hb)
      clear hb
      go_wp2_with fail
      refine (Eq_nil _ a x x (HN0.out.below B3.out)).mono ?_
      rintro e w4 ⟨rfl, hb⟩
      have B4 := hid (TM.bel B3.out hb)
      clear hb
      go_wp2_with fail
      refine (Ite_nil _ a x x x (HN0.out.below B4.out)).mono ?_
      rintro e w5 ⟨rfl, hb⟩
      have B5 := hid (TM.bel B4.out hb)
      clear hb
      go_wp2_with fail
      refine (App_nil _ a 1 1 (.slice A0 m c0) (HN0.out.below B5.out)).mono ?_
      rintro e w6 ⟨rfl, hb⟩
      have B6 := hid (TM.bel B5.out hb)
      clear hb
      go_wp2_with fail
      refine (Num_nil _ a n (HN0.out.below B6.out)).mono ?_
      rintro e w7 ⟨rfl, hb⟩
      have B7 := hid (TM.bel B6.out hb)
      clear hb
      go_wp2_with fail
      refine (Plus_nil _ a x n (HN0.out.below B7.out)).mono ?_
      rintro e w8 ⟨rfl, hb⟩
      have B8 := hid (TM.bel B7.out hb)
      clear hb
      go_wp2_with fail
      refine (Le_nil _ a x x n (HN0.out.below B8.out)).mono ?_
      rintro e w9 ⟨rfl, hb⟩
      have B9 := hid (TM.bel B8.out hb)
      clear hb
      go_wp2_with fail
      refine (Node_nil _ a x (HN0.out.below B9.out)).mono ?_
      rintro e w10 ⟨rfl, hb⟩
      have B10 := hid (TM.bel B9.out hb)
      clear hb
      go_wp2_with fail
      refine (Split_nil _ a x (HN0.out.below ((B10.out).alloc B10.out.size _))).mono ?_
      rintro e w11 ⟨rfl, hb⟩
      have B11 := hid (TM.bel ((B10.out).alloc B10.out.size _) hb)
      clear hb
      go_wp2_with fail
      refine (Len_nil _ a (HN0.out.below B11.out)).mono ?_
      rintro e w12 ⟨rfl, hb⟩
      have B12 := hid (TM.bel B11.out hb)
      clear hb
      go_wp2_with fail
      refine (Copy_nil _ a (HN0.out.below B12.out)).mono ?_
      rintro e w13 ⟨rfl, hb⟩
      have B13 := hid (TM.bel B12.out hb)
      clear hb
      go_wp2_with fail
      go_roundg left
      case measure => omega
      case rel => exact ⟨i + 1, by omega, by go_num, hid (U.out.below B13.out)⟩
    · have hge : ¬ (i : Int) < 2 := by omega
      have KN := hid (known_calls wr)
      have BB := hid U.out.bel
      clear hlt hi
      go_wp2_with fail
      refine KN.out.mono ?_
      rintro e w9 ⟨rfl, b9⟩
      go_wp2_with fail
      go_ret
      exact ⟨rfl, TM.bel BB.out b9⟩
set_option maxRecDepth 100000 in
set_option maxHeartbeats 1600000 in
theorem none_walk6 (w : World) (x n : Int) (A0 : Option Addr) (c0 m : Nat) :
    Calls Try.prog 8 #[.int .i64 x, .int .i64 n, .slice A0 m c0] w fun e w' => e = .returned (.bool true) ∧ Below w.heap.size w w' := by
  by_cases hm : m ≤ 100
  · exact none_main w x n A0 c0 m hm
  · have hg : (m : Int) > 100 := by omega
    have KN := hid (known_calls w)
    clear hm
    go_enter Try.func8, Try.ntmps8
    go_wp2_with fail
    refine KN.out.mono ?_
    rintro e w9 ⟨rfl, b9⟩
    go_wp2_with fail
    go_ret
    exact ⟨rfl, b9⟩
def juristlaw06_TermsNone.f (_a0 _a1 : Int) (_l2 : List Int) : Option Bool := some true
theorem juristlaw06_TermsNone.calls (a0 a1 : Int) (A2 : Option Addr) (c2 : Nat) (l2 : List Int) (r : Bool) (w : World) (_ : Kd.C (Kd.int .i64) w A2 l2.length l2) (_ : l2.length ≤ c2) (h : juristlaw06_TermsNone.f a0 a1 l2 = some r) :
    Calls Try.prog 8 #[.int .i64 a0, .int .i64 a1, .slice A2 l2.length c2] w fun e w' => e = .returned (.bool r) ∧ Below w.heap.size w w' := by
  cases h
  exact none_walk6 w a0 a1 A2 c2 l2.length
end Go.Proofs.Ytmgbodmpjholiaa.Hk
