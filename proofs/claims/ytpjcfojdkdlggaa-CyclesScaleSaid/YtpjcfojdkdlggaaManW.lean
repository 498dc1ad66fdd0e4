/- What cycles' two-word sums of the given program answer: a number added to a sum of two words, and the sum's sign. -/
import Derived.Test.YtpjcfojdkdlggaaProg
import Derived.Test.YtpjcfojdkdlggaaWMore
import Derived.Test.YtpjcfojdkdlggaaWN
import Derived.WalkKit
import Derived.WalkSpells
import Derived.Lib.Hide
import Derived.Laws.Externs
import Derived.Laws.Rows
import Derived.ChangeKeysEq
import Derived.Laws.StructEq
namespace Go.Proofs.Ytpjcfojdkdlggaa.MW
open Go.RowKit Go.Proofs.YtpjcfojdkdlggaaW.PrintWords Go.Proofs.YtpjcfojdkdlggaaW.PrintLast Go.Proofs.YtpjcfojdkdlggaaW.PrintMore

def lowOf (s : Int) : Int := s % 18446744073709551616
def highOf (s : Int) : Int := (s / 18446744073709551616) % 18446744073709551616

theorem add64_run (x y c : Int) (hx : 0 ≤ x) (hy : 0 ≤ y) (hc0 : 0 ≤ c) (hc : c ≤ 1) (w : World) :
    (callFunc 27 #[.int .u64 x, .int .u64 y, .int .u64 c]).run Try.prog w =
      .ok (.value (.tuple #[.int .u64 ((x + y + c) % 18446744073709551616), .int .u64 ((x + y + c) / 18446744073709551616)])) w := by
  rw [run_callFunc_extern Try.func27 (by kernel_rfl) (by kernel_rfl) (by kernel_rfl) (e := add64Entry) (by kernel_rfl), run_add64 x y c hx hy hc0 hc]
  rfl

set_option maxHeartbeats 1000000 in
theorem plus_calls (s c : Int) (w : World) (hc : -9223372036854775808 ≤ c ∧ c ≤ 9223372036854775807) :
    Calls Try.prog 22 #[.agg #[.int .u64 (lowOf s), .int .u64 (highOf s)], .int .i64 c] w fun e w' => e = .returned (.agg #[.int .u64 (lowOf (s + c)), .int .u64 (highOf (s + c))]) ∧ Below w.heap.size w w' := by
  have wc : IntKind.u64.wrap c = c % 18446744073709551616 := by simp [IntKind.wrap, IntKind.signed, IntKind.bits]
  have e1 : (lowOf s + IntKind.u64.wrap c + 0) % 18446744073709551616 = lowOf (s + c) := by rw [wc]; unfold lowOf; omega
  have b1 : 0 ≤ (lowOf s + IntKind.u64.wrap c + 0) / 18446744073709551616 ∧ (lowOf s + IntKind.u64.wrap c + 0) / 18446744073709551616 ≤ 1 := by rw [wc]; unfold lowOf; omega
  have e2 : (highOf s + IntKind.u64.wrap (c / 9223372036854775808) + (lowOf s + IntKind.u64.wrap c + 0) / 18446744073709551616) % 18446744073709551616 = highOf (s + c) := by
    have : IntKind.u64.wrap (c / 9223372036854775808) = (c / 9223372036854775808) % 18446744073709551616 := by simp [IntKind.wrap, IntKind.signed, IntKind.bits]
    rw [this, wc]
    unfold lowOf highOf
    omega
  have h1 := fun W => add64_run (lowOf s) (IntKind.u64.wrap c) 0 (by unfold lowOf; omega) (by rw [wc]; omega) (by omega) (by omega) W
  have h2 := fun W => add64_run (highOf s) (IntKind.u64.wrap (c / 9223372036854775808)) ((lowOf s + IntKind.u64.wrap c + 0) / 18446744073709551616) (by unfold highOf; omega) (by simp [IntKind.wrap, IntKind.signed, IntKind.bits]; omega) b1.1 b1.2 W
  rw [e1] at h1
  rw [e2] at h2
  generalize (lowOf s + IntKind.u64.wrap c + 0) / 18446744073709551616 = cy at h1 h2
  generalize (highOf s + IntKind.u64.wrap (c / 9223372036854775808) + cy) / 18446744073709551616 = cz at h2
  clear e1 e2 b1 wc
  generalize lowOf (s + c) = l1 at h1 ⊢
  generalize highOf (s + c) = l2 at h2 ⊢
  generalize lowOf s = l0 at h1 ⊢
  generalize highOf s = m0 at h2 ⊢
  go_enter Try.func22, Try.ntmps22
  go_wp2
  exact bodyPost_ret (v := .agg #[.int .u64 l1, .int .u64 l2]) (by simp [results, Try.results22, go_sem]) rfl ⟨rfl, ((Below.refl _ _).alloc (Nat.le_refl _) _).alloc (by simp) _⟩

theorem wide_eq (l0 m0 : Int) (W : World) : (Op.equalIn 10000 54 (.agg #[.int .u64 l0, .int .u64 m0]) (.agg #[.int .u64 0, .int .u64 0])).run Try.prog W = .ok (l0 == 0 && m0 == 0) W := by
  obtain ⟨i0, hi, _⟩ := info_parts (show (Try.prog.info? 48).map (fun i => (i.zero, i.size, i.bytes)) = some (some (.int .u64 0), 1, 8) from by kernel_rfl)
  rw [run_equalIn_array W 9999 (t := 54) (e := 48) (n := 2) _ _ Try.underlying54 hi]
  have hc : Try.prog.cellsOf 48 = 1 := by kernel_rfl
  rw [hc]
  have p0 : ∀ (x y : Int) (w : World), (part 48 #[.int .u64 x, .int .u64 y] 0).run Try.prog w = .ok (.int .u64 x) w := fun _ _ _ => by kernel_rfl
  have p1 : ∀ (x y : Int) (w : World), (part 48 #[.int .u64 x, .int .u64 y] 1).run Try.prog w = .ok (.int .u64 y) w := fun _ _ _ => by kernel_rfl
  have e0 : ∀ (x y : Int) (w : World), (Op.equalIn 9999 48 (.int .u64 x) (.int .u64 y)).run Try.prog w = .ok (x == y) w := fun x y w => run_equalIn_int w 9998 48 .u64 .u64 x y Try.underlying48
  simp only [show List.range 2 = [0, 1] from rfl, Op.eqItems, Sem.run_bind, Nat.zero_mul, Nat.one_mul, p0, e0, Result.andThen_ok]
  cases h : (l0 == 0) with
  | false => simp
  | true =>
    cases h2 : (m0 == 0) <;> simp [p1, e0, h2, Result.andThen]

def sgn (s : Int) : Int := if s < 0 then -1 else if s = 0 then 0 else 1

set_option maxHeartbeats 1000000 in
theorem sign_calls (s : Int) (w : World) (hs : -604462909807314587353088 ≤ s ∧ s ≤ 604462909807314587353088) :
    Calls Try.prog 23 #[.agg #[.int .u64 (lowOf s), .int .u64 (highOf s)]] w fun e w' => e = .returned (.int .i64 (sgn s)) ∧ Below w.heap.size w w' := by
  have hneg : (wrap64 (highOf s) < 0) ↔ s < 0 := by unfold wrap64 highOf; omega
  have hzero : (lowOf s = 0 ∧ highOf s = 0) ↔ s = 0 := by unfold lowOf highOf; omega
  by_cases h1 : s < 0
  · have d1 : decide (wrap64 (highOf s) < 0) = true := decide_eq_true (hneg.2 h1)
    have hr : sgn s = -1 := by unfold sgn; simp [h1]
    rw [hr]
    clear hneg hzero h1 hr hs
    generalize lowOf s = l0
    generalize highOf s = m0 at d1 ⊢
    go_enter Try.func23, Try.ntmps23
    go_wp2
    go_ret
    exact ⟨rfl, (Below.refl _ _).alloc (Nat.le_refl _) _⟩
  · have d1 : decide (wrap64 (highOf s) < 0) = false := decide_eq_false (fun h => h1 (hneg.1 h))
    by_cases h2 : s = 0
    · have hr : sgn s = 0 := by unfold sgn; simp [h2]
      obtain ⟨z1, z2⟩ := hzero.2 h2
      rw [hr, z1, z2]
      rw [z2] at d1
      clear hneg hzero h1 hr h2 hs z1 z2
      have heq := wide_eq 0 0
      have e00 : ((0 : Int) == 0 && (0 : Int) == 0) = true := rfl
      rw [e00] at heq
      clear e00
      go_enter Try.func23, Try.ntmps23
      go_wp2
      go_ret
      exact ⟨rfl, (Below.refl _ _).alloc (Nat.le_refl _) _⟩
    · have hr : sgn s = 1 := by unfold sgn; simp [h1, h2]
      have hne : ¬ (lowOf s = 0 ∧ highOf s = 0) := fun h => h2 (hzero.1 h)
      rw [hr]
      clear hneg hzero h1 hr h2 hs
      generalize lowOf s = l0 at hne ⊢
      generalize highOf s = m0 at d1 hne ⊢
      have heq := wide_eq l0 m0
      have e00 : (l0 == 0 && m0 == 0) = false := by
        rw [Bool.and_eq_false_iff]
        by_cases h : l0 = 0
        · right; simp; intro h'; exact hne ⟨h, h'⟩
        · left; simpa using h
      rw [e00] at heq
      clear e00 hne
      go_enter Try.func23, Try.ntmps23
      go_wp2
      go_ret
      exact ⟨rfl, (Below.refl _ _).alloc (Nat.le_refl _) _⟩
end Go.Proofs.Ytpjcfojdkdlggaa.MW
