/- What the law of stores that are not there answers: true, wherever the known case is. -/
import Derived.Test.YtiajmgmidfinfaaManNone
import Derived.Test.YtiajmgmidfinfaaHkx1
import Derived.BigQuiet
import Derived.IntWalk
namespace Go.Proofs.Ytiajmgmidfinfaa.Hk
open Go.RowKit Go.Proofs.YtiajmgmidfinfaaW.PrintWords Go.Proofs.YtiajmgmidfinfaaW.PrintLast Go.Proofs.YtiajmgmidfinfaaW.PrintMore Go.Lib Go.Sort Go.Shelf Go.Maps Go.Proofs.Ytiajmgmidfinfaa.MC

theorem two_cells (w : World) (a b : Array Value) {s t : TypeId} : ((w.alloc (.cells a s)).alloc (.cells b t)).cell? ⟨w.heap.size + 1, 0, none⟩ = b[0]? ∧ ((w.alloc (.cells a s)).alloc (.cells b t)).cell? ⟨w.heap.size + 1, 1, none⟩ = b[1]? ∧ ((w.alloc (.cells a s)).alloc (.cells b t)).cell? ⟨w.heap.size, 1, none⟩ = a[1]? := by
  have h1 := heap_alloc_new (w.alloc (.cells a s)) (.cells b t)
  rw [show (w.alloc (Obj.cells a s)).heap.size = w.heap.size + 1 from by simp] at h1
  exact ⟨blk_cell h1 0, blk_cell h1 1, blk_cell (blk_alloc (heap_alloc_new w (.cells a s)) _) 1⟩

set_option maxHeartbeats 1000000 in
set_option maxRecDepth 100000 in
theorem none_walk (k : Nat) (A0 : Option Addr) (c0 : Nat) (l0 : List Int) (a1 : Int) (w : World) (h : juristlaw14_known.f k = some true) :
    Calls Try.prog 8 #[.slice A0 l0.length c0, .int .i64 a1] w fun e w' => e = .returned (.bool true) ∧ Below w.heap.size w w' := by
  have HKN := Lib.hid (fun W => juristlaw14_known.calls k true W h)
  clear h
  by_cases h1 : 300 < l0.length
  · have e1 : decide ((l0.length : Int) > 300) = true := by simp; omega
    clear h1
    go_enter Try.func8, Try.ntmps8
    go_wp2_with fail
    refine (HKN.out _).mono ?_
    rintro e w1 ⟨rfl, hb⟩
    have HB := Lib.hid hb
    clear hb
    go_wp2
    go_ret
    exact ⟨rfl, HB.out⟩
  · have e1 : decide ((l0.length : Int) > 300) = false := by simp; omega
    clear h1
    go_enter Try.func8, Try.ntmps8
    go_wp2
    go_loopw [19] (fun i wr => ∃ k : Nat, k ≤ 2 ∧ i = .int .i64 k ∧ Below w.heap.size w wr ∧ wr.cell? ⟨w.heap.size + 1, 0, none⟩ = some (.pointer none) ∧ wr.cell? ⟨w.heap.size + 1, 1, none⟩ = some (.pointer (some ⟨w.heap.size, 0, none⟩)) ∧ wr.cell? ⟨w.heap.size, 1, none⟩ = some (.map none)) (fun i _ => 2 - (intOf i).toNat)
    case atStart =>
      refine ⟨0, by omega, rfl, ((Below.refl _ _).alloc (Nat.le_refl _) _).alloc (by simp) _, ?_, ?_, ?_⟩
      · exact (two_cells w _ _).1.trans rfl
      · exact (two_cells w _ _).2.1.trans rfl
      · exact (two_cells w _ _).2.2.trans rfl
    case round =>
      obtain ⟨i, hi, rfl, hbel, c0, c1, c2⟩ := hrel
      by_cases hlt : i < 2
      · obtain ⟨p, hcp, hp⟩ : ∃ p, wr.cell? ⟨w.heap.size + 1, i, none⟩ = some (.pointer p) ∧ NoStore wr p := by
          rcases (show i = 0 ∨ i = 1 by omega) with rfl | rfl
          · exact ⟨none, c0, .inl rfl⟩
          · exact ⟨_, c1, .inr ⟨_, rfl, c2⟩⟩
        have hn : ∀ W : World, W.heap = wr.heap → NoStore W p := by
          intro W hW
          rcases hp with rfl | ⟨b, rfl, hc⟩
          · exact .inl rfl
          · refine .inr ⟨b, rfl, ?_⟩
            unfold World.cell? at hc ⊢
            rw [hW]
            exact hc
        have HP := Lib.hid hn
        have HB := Lib.hid hbel
        have HC0 := Lib.hid c0
        have HC1 := Lib.hid c1
        have HC2 := Lib.hid c2
        clear hp hn hbel c0 c1 c2
        go_wp2_with fail
        refine (add_none _ _ _ _ _ (by exact HP.out _ rfl)).mono ?_
        rintro e w1 ⟨rfl, q1, rfl⟩
        go_wp2_with fail
        refine (find_none _ _ _ _ _ (by exact HP.out _ rfl)).mono ?_
        rintro e w1 ⟨rfl, q2, rfl⟩
        go_wp2_with fail
        refine (len_none _ _ (by exact HP.out _ rfl)).mono ?_
        rintro e w1 ⟨rfl, q3, rfl⟩
        go_wp2_with fail
        refine (clause_none _ _ _ (by exact HP.out _ rfl)).mono ?_
        rintro e w1 ⟨rfl, q4, rfl⟩
        go_wp2_with fail
        refine (atoms_none _ _ (by exact HP.out _ rfl)).mono ?_
        rintro e w1 ⟨rfl, q5, rfl⟩
        go_wp2_with fail
        exact ⟨⟨i + 1, by omega, by simp, pw_below_drewN HB.out _, HC0.out, HC1.out, HC2.out⟩, by simp [intOf]; omega⟩
      · obtain rfl : i = 2 := by omega
        have HB := Lib.hid hbel
        clear hbel c0 c1 c2
        go_wp2_with fail
        refine (HKN.out _).mono ?_
        rintro e w1 ⟨rfl, hb⟩
        have HB1 := Lib.hid hb
        clear hb
        go_wp2
        go_ret
        exact ⟨rfl, HB.out.trans (HB1.out.mono HB.out.size)⟩

def juristlaw14_ClausesNone.f (k : Nat) (_l0 : List Int) (_a1 : Int) : Option Bool := if juristlaw14_known.f k = some true then some true else none
theorem juristlaw14_ClausesNone.calls (k : Nat) (A0 : Option Addr) (c0 : Nat) (l0 : List Int) (a1 : Int) (r : Bool) (w : World) (_ : Kd.C (Kd.int .i64) w A0 l0.length l0) (_ : l0.length ≤ c0) (h : juristlaw14_ClausesNone.f k l0 a1 = some r) :
    Calls Try.prog 8 #[.slice A0 l0.length c0, .int .i64 a1] w fun e w' => e = .returned (.bool r) ∧ Below w.heap.size w w' := by
  unfold juristlaw14_ClausesNone.f at h
  split at h
  · cases h
    exact none_walk k A0 c0 l0 a1 w (by assumption)
  · cases h
end Go.Proofs.Ytiajmgmidfinfaa.Hk
