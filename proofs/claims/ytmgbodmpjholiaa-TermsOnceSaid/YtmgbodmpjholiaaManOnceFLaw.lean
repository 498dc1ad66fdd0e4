/- The law TermsOnce, joined: every list of calls. -/
import Derived.Test.YtmgbodmpjholiaaManOnceLaw
import Derived.Test.YtmgbodmpjholiaaOkO
namespace Go.Proofs.Ytmgbodmpjholiaa.Hk
open Go.RowKit Go.Maps Go.Shelf Go.Lib Go.Proofs.YtmgbodmpjholiaaW.PrintWords Go.Proofs.YtmgbodmpjholiaaW.PrintLast Go.Proofs.YtmgbodmpjholiaaW.PrintMore Go.Proofs.Ytmgbodmpjholiaa.MM Go.Proofs.Ytmgbodmpjholiaa.KM Go.Proofs.Ytmgbodmpjholiaa.TM Go.Proofs.Ytmgbodmpjholiaa.RT Go.Proofs.Ytmgbodmpjholiaa.TW Go.Proofs.Ytmgbodmpjholiaa.BT
attribute [local go_sem ↓] Go.wp_at_zero Go.wp_at_succ
set_option linter.unusedSimpArgs false
set_option linter.unusedVariables false
set_option maxRecDepth 100000 in
set_option maxHeartbeats 1600000 in
theorem once_walk (w : World) (A : Option Addr) (c : Nat) (xs : List S45) (h0 : Kd.C k45 w A xs.length xs) (hk : ∀ x ∈ xs, OkO x) :
    Calls Try.prog 5 #[.slice A xs.length c] w fun e w' => e = .returned (.bool true) ∧ Below w.heap.size w w' := by
  cases ht : tameB xs 100 with
  | true => exact once_main w A c xs h0 ht (fun x hx => (hk x hx).len) (OkO.wf ht hk)
  | false =>
    have HTAME := hid (tame_calls w A c xs 100 h0 (by omega) fun x hx => (hk x hx).len)
    rw [ht] at HTAME
    obtain ⟨N, hN⟩ : ∃ N, N = xs.length := ⟨_, rfl⟩
    rw [← hN] at HTAME ⊢
    clear h0 hk ht hN
    go_enter Try.func5, Try.ntmps5
    go_wp2_with fail
    refine HTAME.out.mono ?_
    rintro e w1 ⟨rfl, hb1⟩
    have HB1 := hid hb1
    have HKN := hid (known_calls w1)
    clear hb1 HTAME
    go_wp2_with fail
    refine HKN.out.mono ?_
    rintro e w9 ⟨rfl, b9⟩
    go_wp2_with fail
    go_ret
    exact ⟨rfl, TM.bel HB1.out b9⟩
open Classical in
noncomputable def juristlaw06_TermsOnce.f (l0 : List S45) : Option Bool := if ∀ x ∈ l0, OkO x then some true else none
theorem juristlaw06_TermsOnce.calls (A0 : Option Addr) (c0 : Nat) (l0 : List S45) (r : Bool) (w : World) (h0 : Kd.C k45 w A0 l0.length l0) (_ : l0.length ≤ c0) (h : juristlaw06_TermsOnce.f l0 = some r) :
    Calls Try.prog 5 #[.slice A0 l0.length c0] w fun e w' => e = .returned (.bool r) ∧ Below w.heap.size w w' := by
  unfold juristlaw06_TermsOnce.f at h
  split at h
  · rename_i hw
    cases h
    exact once_walk w A0 c0 l0 h0 hw
  · cases h
end Go.Proofs.Ytmgbodmpjholiaa.Hk
