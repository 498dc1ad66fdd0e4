/- What the calls of a store of clauses answer of one that is not there, or was not made. -/
import Derived.Test.YtiajmgmidfinfaaManC
import Derived.Test.YtiajmgmidfinfaaWGuard
import Derived.Deep.QuietTactic
namespace Go.Proofs.Ytiajmgmidfinfaa.MC
open Go.RowKit Go.Proofs.YtiajmgmidfinfaaW.PrintWords Go.Proofs.YtiajmgmidfinfaaW.PrintLast Go.Proofs.YtiajmgmidfinfaaW.PrintMore Go.Lib Go.Sort Go.Shelf Go.Maps

/-- No store: none is there, or it has no map. -/
def NoStore (w : World) (p : Option Addr) : Prop := p = none ∨ ∃ b, p = some ⟨b, 0, none⟩ ∧ w.cell? ⟨b, 1, none⟩ = some (.map none)

theorem neq_nil (W : World) : Sem.run Try.prog (binOp BinOp.neq 39 (Value.map none) (Value.map none)) W = .ok (.bool false) W := by
  first | rfl | kernel_rfl

theorem ready_none (p : Option Addr) (w : World) (hp : NoStore w p) :
    Calls Try.prog 41 #[.pointer p] w fun e w' => e = .returned (.bool false) ∧ ∃ q, w' = w.drewN q := by
  rcases hp with rfl | ⟨b, rfl, hc⟩
  · go_enter Try.func41, Try.ntmps41
    go_wp2
    go_ret
    exact ⟨rfl, 0, rfl⟩
  · have hnn := neq_nil
    go_enter Try.func41, Try.ntmps41
    go_wp2
    go_ret
    exact ⟨rfl, 0, rfl⟩

theorem len_none (p : Option Addr) (w : World) (hp : NoStore w p) :
    Calls Try.prog 27 #[.pointer p] w fun e w' => e = .returned (.int .i64 0) ∧ ∃ q, w' = w.drewN q := by
  have HR := Lib.hid (ready_none p w hp)
  clear hp
  go_enter Try.func27, Try.ntmps27
  go_wp2_with fail
  refine HR.out.mono ?_
  rintro e w1 ⟨rfl, q, rfl⟩
  go_wp2
  go_ret
  exact ⟨rfl, q, rfl⟩

theorem atoms_none (p : Option Addr) (w : World) (hp : NoStore w p) :
    Calls Try.prog 29 #[.pointer p] w fun e w' => e = .returned (.int .i64 0) ∧ ∃ q, w' = w.drewN q := by
  have HR := Lib.hid (ready_none p w hp)
  clear hp
  go_enter Try.func29, Try.ntmps29
  go_wp2_with fail
  refine HR.out.mono ?_
  rintro e w1 ⟨rfl, q, rfl⟩
  go_wp2
  go_ret
  exact ⟨rfl, q, rfl⟩

theorem clause_none (p : Option Addr) (i : Int) (w : World) (hp : NoStore w p) :
    Calls Try.prog 28 #[.pointer p, .int .i64 i] w fun e w' => e = .returned (.slice none 0 0) ∧ ∃ q, w' = w.drewN q := by
  have HR := Lib.hid (len_none p w hp)
  clear hp
  by_cases h : i < 0
  · have e1 : decide (i < 0) = true := decide_eq_true h
    clear h
    go_enter Try.func28, Try.ntmps28
    go_wp2
    go_ret
    exact ⟨rfl, 0, rfl⟩
  · have e1 : decide (i < 0) = false := decide_eq_false h
    have e2 : decide (i ≥ 0) = true := decide_eq_true (by omega)
    clear h
    go_enter Try.func28, Try.ntmps28
    go_wp2_with fail
    refine HR.out.mono ?_
    rintro e w1 ⟨rfl, q, rfl⟩
    go_wp2
    go_ret
    exact ⟨rfl, q, rfl⟩

theorem add_none (p : Option Addr) (A0 : Option Addr) (n c : Nat) (w : World) (hp : NoStore w p) :
    Calls Try.prog 25 #[.pointer p, .slice A0 n c] w fun e w' => e = .returned (.tuple #[.int .i64 0, .int .i64 1]) ∧ ∃ q, w' = w.drewN q := by
  have HR := Lib.hid (ready_none p w hp)
  clear hp
  go_enter Try.func25, Try.ntmps25
  go_wp2_with fail
  refine HR.out.mono ?_
  rintro e w1 ⟨rfl, q, rfl⟩
  go_wp2
  go_ret2
  exact ⟨rfl, q, rfl⟩

theorem find_none (p : Option Addr) (A0 : Option Addr) (n c : Nat) (w : World) (hp : NoStore w p) :
    Calls Try.prog 26 #[.pointer p, .slice A0 n c] w fun e w' => e = .returned (.tuple #[.int .i64 0, .bool false]) ∧ ∃ q, w' = w.drewN q := by
  have HR := Lib.hid (ready_none p w hp)
  clear hp
  go_enter Try.func26, Try.ntmps26
  go_wp2_with fail
  refine HR.out.mono ?_
  rintro e w1 ⟨rfl, q, rfl⟩
  go_wp2
  go_ret2
  exact ⟨rfl, q, rfl⟩
end Go.Proofs.Ytiajmgmidfinfaa.MC
