/- Walks of terms: a store that is not there, or was not made (printed by wip/tools/termn.py). -/
import Derived.Test.YtmgbodmpjholiaaTermF
namespace Go.Proofs.Ytmgbodmpjholiaa.TM
open Go.RowKit Go.Maps Go.Shelf Go.Lib Go.Proofs.YtmgbodmpjholiaaW.PrintWords Go.Proofs.YtmgbodmpjholiaaW.PrintLast Go.Proofs.YtmgbodmpjholiaaW.PrintMore Go.Proofs.Ytmgbodmpjholiaa.MM Go.Proofs.Ytmgbodmpjholiaa.KM
attribute [local go_sem ↓] Go.wp_at_zero Go.wp_at_succ
set_option linter.unusedSimpArgs false
set_option linter.unusedVariables false

/-- A store that is not there, or was not made. -/
def NilS (w : World) (a : Option Addr) : Prop := a = none ∨ ∃ z, a = some ⟨z, 0, none⟩ ∧ w.cell? ⟨z, 1, none⟩ = some (.map none) ∧ z < w.heap.size
theorem NilS.below {w w1 : World} {a : Option Addr} (h : NilS w a) (hb : Below w.heap.size w w1) : NilS w1 a := by
  rcases h with h | ⟨z, h1, h2, h3⟩
  · exact .inl h
  · exact .inr ⟨z, h1, (hb.cell (p := ⟨z, 1, none⟩) h3).trans h2, Nat.lt_of_lt_of_le h3 hb.size⟩
theorem none_any {w : World} {a : Option Addr} (h : NilS w a) : Calls Try.prog 31 #[.pointer a] w fun e w' => e = .returned (.bool true) ∧ w' = w := by
  rcases h with rfl | ⟨z, rfl, h2, _⟩
  · exact none_nil w
  · exact none_zero w z h2
set_option maxRecDepth 100000 in
set_option maxHeartbeats 1600000 in
theorem there_nil (w : World) (a : Option Addr) (v : Value) (h : NilS w a) :
    Calls Try.prog 32 #[.pointer a, v] w fun e w' => e = .returned (.int .i64 1) ∧ Below w.heap.size w w' := by
  have HN := hid (none_any (h.below ((Below.refl _ _).alloc (Nat.le_refl _) (.cells #[.pointer a] 24))))
  clear h
  go_enter Try.func32, Try.ntmps32
  go_wp2_with fail
  refine HN.out.mono ?_
  rintro e w' ⟨rfl, rfl⟩
  go_wp2_with fail
  go_ret
  exact ⟨rfl, (Below.refl _ _).alloc (Nat.le_refl _) _⟩
set_option maxRecDepth 100000 in
set_option maxHeartbeats 1600000 in
theorem Not_nil (w : World) (a : Option Addr) (x : Int) (h : NilS w a) :
    Calls Try.prog 24 #[.pointer a, .int .i64 x] w fun e w' => e = .returned (.tuple #[.int .i64 0, .int .i64 1]) ∧ Below w.heap.size w w' := by
  have HT := hid (there_nil (w.alloc (.cells #[.int .i64 x] 26)) a (.slice (some ⟨w.heap.size, 0, none⟩) 1 1) (h.below ((Below.refl _ _).alloc (Nat.le_refl _) _)))
  clear h
  go_enter Try.func24, Try.ntmps24
  go_wp2_with fail
  refine HT.out.mono ?_
  rintro e w1 ⟨rfl, hb⟩
  have HB := hid hb
  clear hb
  go_wp2_with fail
  go_ret2
  exact ⟨rfl, bel ((Below.refl _ _).alloc (Nat.le_refl _) _) HB.out⟩
set_option maxRecDepth 100000 in
set_option maxHeartbeats 1600000 in
theorem Eq_nil (w : World) (a : Option Addr) (x y : Int) (h : NilS w a) :
    Calls Try.prog 27 #[.pointer a, .int .i64 x, .int .i64 y] w fun e w' => e = .returned (.tuple #[.int .i64 0, .int .i64 1]) ∧ Below w.heap.size w w' := by
  have HT := hid (there_nil (w.alloc (.cells #[.int .i64 x, .int .i64 y] 26)) a (.slice (some ⟨w.heap.size, 0, none⟩) 2 2) (h.below ((Below.refl _ _).alloc (Nat.le_refl _) _)))
  clear h
  go_enter Try.func27, Try.ntmps27
  go_wp2_with fail
  refine HT.out.mono ?_
  rintro e w1 ⟨rfl, hb⟩
  have HB := hid hb
  clear hb
  go_wp2_with fail
  go_ret2
  exact ⟨rfl, bel ((Below.refl _ _).alloc (Nat.le_refl _) _) HB.out⟩
set_option maxRecDepth 100000 in
set_option maxHeartbeats 1600000 in
theorem Ite_nil (w : World) (a : Option Addr) (x y z : Int) (h : NilS w a) :
    Calls Try.prog 28 #[.pointer a, .int .i64 x, .int .i64 y, .int .i64 z] w fun e w' => e = .returned (.tuple #[.int .i64 0, .int .i64 1]) ∧ Below w.heap.size w w' := by
  have HT := hid (there_nil (w.alloc (.cells #[.int .i64 x, .int .i64 y, .int .i64 z] 26)) a (.slice (some ⟨w.heap.size, 0, none⟩) 3 3) (h.below ((Below.refl _ _).alloc (Nat.le_refl _) _)))
  clear h
  go_enter Try.func28, Try.ntmps28
  go_wp2_with fail
  refine HT.out.mono ?_
  rintro e w1 ⟨rfl, hb⟩
  have HB := hid hb
  clear hb
  go_wp2_with fail
  go_ret2
  exact ⟨rfl, bel ((Below.refl _ _).alloc (Nat.le_refl _) _) HB.out⟩
set_option maxRecDepth 100000 in
set_option maxHeartbeats 1600000 in
theorem Le_nil (w : World) (a : Option Addr) (x y n : Int) (h : NilS w a) :
    Calls Try.prog 29 #[.pointer a, .int .i64 x, .int .i64 y, .int .i64 n] w fun e w' => e = .returned (.tuple #[.int .i64 0, .int .i64 1]) ∧ Below w.heap.size w w' := by
  have HT := hid (there_nil (w.alloc (.cells #[.int .i64 x, .int .i64 y] 26)) a (.slice (some ⟨w.heap.size, 0, none⟩) 2 2) (h.below ((Below.refl _ _).alloc (Nat.le_refl _) _)))
  clear h
  go_enter Try.func29, Try.ntmps29
  go_wp2_with fail
  refine HT.out.mono ?_
  rintro e w1 ⟨rfl, hb⟩
  have HB := hid hb
  clear hb
  go_wp2_with fail
  go_ret2
  exact ⟨rfl, bel ((Below.refl _ _).alloc (Nat.le_refl _) _) HB.out⟩
set_option maxRecDepth 100000 in
set_option maxHeartbeats 1600000 in
theorem many_nil (w : World) (a : Option Addr) (o z : Int) (v : Value) (h : NilS w a) :
    Calls Try.prog 50 #[.pointer a, .int .u8 o, .int .i64 z, v] w fun e w' => e = .returned (.tuple #[.int .i64 0, .int .i64 1]) ∧ Below w.heap.size w w' := by
  have HT := hid (there_nil w a v h)
  clear h
  go_enter Try.func50, Try.ntmps50
  go_wp2_with fail
  refine HT.out.mono ?_
  rintro e w1 ⟨rfl, hb⟩
  have HB := hid hb
  clear hb
  go_wp2_with fail
  go_ret2
  exact ⟨rfl, HB.out⟩
set_option maxRecDepth 100000 in
set_option maxHeartbeats 1600000 in
theorem And_nil (w : World) (a : Option Addr) (v : Value) (h : NilS w a) :
    Calls Try.prog 25 #[.pointer a, v] w fun e w' => e = .returned (.tuple #[.int .i64 0, .int .i64 1]) ∧ Below w.heap.size w w' := by
  have HM := hid (many_nil w a 10 0 v h)
  clear h
  go_enter Try.func25, Try.ntmps25
  go_wp2_with fail
  refine HM.out.mono ?_
  rintro e w1 ⟨rfl, hb⟩
  have HB := hid hb
  clear hb
  go_wp2_with fail
  go_ret2
  exact ⟨rfl, HB.out⟩
set_option maxRecDepth 100000 in
set_option maxHeartbeats 1600000 in
theorem Or_nil (w : World) (a : Option Addr) (v : Value) (h : NilS w a) :
    Calls Try.prog 26 #[.pointer a, v] w fun e w' => e = .returned (.tuple #[.int .i64 0, .int .i64 1]) ∧ Below w.heap.size w w' := by
  have HM := hid (many_nil w a 11 1 v h)
  clear h
  go_enter Try.func26, Try.ntmps26
  go_wp2_with fail
  refine HM.out.mono ?_
  rintro e w1 ⟨rfl, hb⟩
  have HB := hid hb
  clear hb
  go_wp2_with fail
  go_ret2
  exact ⟨rfl, HB.out⟩
set_option maxRecDepth 100000 in
set_option maxHeartbeats 1600000 in
theorem App_nil (w : World) (a : Option Addr) (f s : Int) (v : Value) (h : NilS w a) :
    Calls Try.prog 11 #[.pointer a, .int .i64 f, .int .i64 s, v] w fun e w' => e = .returned (.tuple #[.int .i64 0, .int .i64 1]) ∧ Below w.heap.size w w' := by
  have HN := hid (none_any h)
  clear h
  go_enter Try.func11, Try.ntmps11
  go_wp2_with fail
  refine HN.out.mono ?_
  rintro e w' ⟨rfl, rfl⟩
  go_wp2_with fail
  go_ret2
  exact ⟨rfl, Below.refl _ _⟩
set_option maxRecDepth 100000 in
set_option maxHeartbeats 1600000 in
theorem Num_nil (w : World) (a : Option Addr) (n : Int) (h : NilS w a) :
    Calls Try.prog 14 #[.pointer a, .int .i64 n] w fun e w' => e = .returned (.tuple #[.int .i64 0, .int .i64 1]) ∧ Below w.heap.size w w' := by
  have HN := hid (none_any h)
  clear h
  go_enter Try.func14, Try.ntmps14
  go_wp2_with fail
  refine HN.out.mono ?_
  rintro e w' ⟨rfl, rfl⟩
  go_wp2_with fail
  go_ret2
  exact ⟨rfl, Below.refl _ _⟩
set_option maxRecDepth 100000 in
set_option maxHeartbeats 1600000 in
theorem Len_nil (w : World) (a : Option Addr) (h : NilS w a) :
    Calls Try.prog 15 #[.pointer a] w fun e w' => e = .returned (.int .i64 0) ∧ Below w.heap.size w w' := by
  have HN := hid (none_any h)
  clear h
  go_enter Try.func15, Try.ntmps15
  go_wp2_with fail
  refine HN.out.mono ?_
  rintro e w' ⟨rfl, rfl⟩
  go_wp2_with fail
  go_ret
  exact ⟨rfl, Below.refl _ _⟩
set_option maxRecDepth 100000 in
set_option maxHeartbeats 1600000 in
theorem Copy_nil (w : World) (a : Option Addr) (h : NilS w a) :
    Calls Try.prog 22 #[.pointer a] w fun e w' => e = .returned (.pointer none) ∧ Below w.heap.size w w' := by
  have HN := hid (none_any h)
  clear h
  go_enter Try.func22, Try.ntmps22
  go_wp2_with fail
  refine HN.out.mono ?_
  rintro e w' ⟨rfl, rfl⟩
  go_wp2_with fail
  go_ret
  exact ⟨rfl, Below.refl _ _⟩
set_option maxRecDepth 100000 in
set_option maxHeartbeats 1600000 in
theorem Split_nil (w : World) (a : Option Addr) (x : Int) (h : NilS w a) :
    Calls Try.prog 13 #[.pointer a, .int .i64 x] w fun e w' => e = .returned (.tuple #[.int .i64 0, .int .i64 0, .int .i64 1]) ∧ Below w.heap.size w w' := by
  have HT := hid (there_nil (w.alloc (.cells #[.int .i64 x] 26)) a (.slice (some ⟨w.heap.size, 0, none⟩) 1 1) (h.below ((Below.refl _ _).alloc (Nat.le_refl _) _)))
  clear h
  go_enter Try.func13, Try.ntmps13
  go_wp2_with fail
  refine HT.out.mono ?_
  rintro e w1 ⟨rfl, hb⟩
  have HB := hid hb
  clear hb
  go_wp2_with fail
  go_ret3
  exact ⟨rfl, bel ((Below.refl _ _).alloc (Nat.le_refl _) _) HB.out⟩
set_option maxRecDepth 100000 in
set_option maxHeartbeats 1600000 in
theorem Plus_nil (w : World) (a : Option Addr) (x n : Int) (h : NilS w a) :
    Calls Try.prog 12 #[.pointer a, .int .i64 x, .int .i64 n] w fun e w' => e = .returned (.tuple #[.int .i64 0, .int .i64 1]) ∧ Below w.heap.size w w' := by
  have HT := hid (Split_nil w a x h)
  clear h
  go_enter Try.func12, Try.ntmps12
  go_wp2_with fail
  refine HT.out.mono ?_
  rintro e w1 ⟨rfl, hb⟩
  have HB := hid hb
  clear hb
  go_wp2_with fail
  go_ret2
  exact ⟨rfl, HB.out⟩
set_option maxRecDepth 100000 in
set_option maxHeartbeats 1600000 in
theorem Node_nil (w : World) (a : Option Addr) (x : Int) (h : NilS w a) :
    Calls Try.prog 20 #[.pointer a, .int .i64 x] w fun e w' => e = .returned (.tuple #[.agg #[.int .u8 0, .int .i64 0, .int .i64 0, .int .i64 0, .slice none 0 0], .int .i64 1]) ∧ Below w.heap.size w w' := by
  have HT := hid (there_nil ((w.alloc (.cells #[.int .u8 0, .int .i64 0, .int .i64 0, .int .i64 0, .slice none 0 0] 54)).alloc (.cells #[.int .i64 x] 26)) a (.slice (some ⟨w.heap.size + 1, 0, none⟩) 1 1) (h.below (((Below.refl _ _).alloc (Nat.le_refl _) _).alloc (by simp) _)))
  clear h
  go_enter Try.func20, Try.ntmps20
  go_wp2_with fail
  refine HT.out.mono ?_
  rintro e w1 ⟨rfl, hb⟩
  have hp : w1.heap[w.heap.size]? = some (.cells #[.int .u8 0, .int .i64 0, .int .i64 0, .int .i64 0, .slice none 0 0] 54 (0, 0)) := (hb.block _ (by simp; omega)).trans ((old_alloc _ (by simp)).trans (heap_alloc_new _ _))
  have HB := hid (bel (((Below.refl _ _).alloc (Nat.le_refl _) _).alloc (by simp) _) hb)
  clear hb
  have p0 : w1.cell? ⟨w.heap.size, 0, none⟩ = some (.int .u8 0) := (blk_cell hp 0).trans rfl
  have p1 : w1.cell? ⟨w.heap.size, 1, none⟩ = some (.int .i64 0) := (blk_cell hp 1).trans rfl
  have p2 : w1.cell? ⟨w.heap.size, 2, none⟩ = some (.int .i64 0) := (blk_cell hp 2).trans rfl
  have p3 : w1.cell? ⟨w.heap.size, 3, none⟩ = some (.int .i64 0) := (blk_cell hp 3).trans rfl
  have p4 : w1.cell? ⟨w.heap.size, 4, none⟩ = some (.slice none 0 0) := (blk_cell hp 4).trans rfl
  have pf0 : w1.frozen? ⟨w.heap.size, 0, none⟩ = false := blk_frozen hp 0
  have pf1 : w1.frozen? ⟨w.heap.size, 1, none⟩ = false := blk_frozen hp 1
  have pf2 : w1.frozen? ⟨w.heap.size, 2, none⟩ = false := blk_frozen hp 2
  have pf3 : w1.frozen? ⟨w.heap.size, 3, none⟩ = false := blk_frozen hp 3
  have pf4 : w1.frozen? ⟨w.heap.size, 4, none⟩ = false := blk_frozen hp 4
  clear hp
  go_wp2_with fail
  refine bodyPost_ret (v := .tuple #[.agg #[.int .u8 0, .int .i64 0, .int .i64 0, .int .i64 0, .slice none 0 0], .int .i64 1]) (by simp [results, Try.results20, go_sem, p0, p1, p2, p3, p4]) rfl ⟨rfl, ?_⟩
  exact ((((HB.out.setCell (by simp) _).setCell (by simp) _).setCell (by simp) _).setCell (by simp) _).setCell (by simp) _
end Go.Proofs.Ytmgbodmpjholiaa.TM
