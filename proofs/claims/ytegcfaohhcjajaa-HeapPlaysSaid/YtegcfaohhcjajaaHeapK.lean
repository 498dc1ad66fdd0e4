/- Walk of juristlaw02.known. -/
import Derived.Test.YtegcfaohhcjajaaHeapO
import Derived.Test.YtegcfaohhcjajaaTrailI
namespace Go.Proofs.Ytegcfaohhcjajaa.HM
open Go.RowKit Go.Proofs.YtegcfaohhcjajaaW.PrintWords Go.Proofs.YtegcfaohhcjajaaW.PrintLast Go.Proofs.YtegcfaohhcjajaaW.PrintMore Go.Proofs.Ytegcfaohhcjajaa.MM
attribute [local go_sem ↓] Go.wp_at_zero Go.wp_at_succ
set_option linter.unusedSimpArgs false
set_option linter.unusedVariables false

def kS : Nat → Value → HS
  | 0, v => ⟨[0, 0, 0], [-1, -1, -1], [], v⟩
  | 1, v => ⟨[0, 0, 0], [0, -1, -1], [0], v⟩
  | 2, v => ⟨[0, 0, 0], [0, 1, -1], [0, 1], v⟩
  | _, v => ⟨[0, 0, 0], [0, 1, 2], [0, 1, 2], v⟩
theorem kS_new (v : Value) : newM (sizeN 3) v = kS 0 v := by kernel_rfl
theorem kS_push (v : Value) (k : Nat) (hk : k < 3) : pushM (kS k v) k = kS (k + 1) v := by
  match k, hk with
  | 0, _ => exact (show pushM (kS 0 v) 0 = kS 1 v from by kernel_rfl)
  | 1, _ => exact (show pushM (kS 1 v) 1 = kS 2 v from by kernel_rfl)
  | 2, _ => exact (show pushM (kS 2 v) 2 = kS 3 v from by kernel_rfl)
theorem kS_wf (v : Value) (k : Nat) (hk : k ≤ 3) : Wf (kS k v) := by
  match k, hk with
  | 0, _ => exact ⟨rfl, of_decide_eq_true (by kernel_rfl), of_decide_eq_true (by kernel_rfl), of_decide_eq_true (by kernel_rfl)⟩
  | 1, _ => exact ⟨rfl, of_decide_eq_true (by kernel_rfl), of_decide_eq_true (by kernel_rfl), of_decide_eq_true (by kernel_rfl)⟩
  | 2, _ => exact ⟨rfl, of_decide_eq_true (by kernel_rfl), of_decide_eq_true (by kernel_rfl), of_decide_eq_true (by kernel_rfl)⟩
  | 3, _ => exact ⟨rfl, of_decide_eq_true (by kernel_rfl), of_decide_eq_true (by kernel_rfl), of_decide_eq_true (by kernel_rfl)⟩
theorem kS_len (v : Value) (k : Nat) (hk : k < 3) : (kS k v).w.length = 3 ∧ (kS k v).p.getD k 0 < 0 ∧ (kS k v).r.length < 1048576 := by
  match k, hk with
  | 0, _ => exact ⟨rfl, of_decide_eq_true (by kernel_rfl), of_decide_eq_true (by kernel_rfl)⟩
  | 1, _ => exact ⟨rfl, of_decide_eq_true (by kernel_rfl), of_decide_eq_true (by kernel_rfl)⟩
  | 2, _ => exact ⟨rfl, of_decide_eq_true (by kernel_rfl), of_decide_eq_true (by kernel_rfl)⟩
def kA (v : Value) : HS := ⟨[0, 0, 5], [2, 1, 0], [2, 1, 0], v⟩
def kB (v : Value) : HS := ⟨[5, 0, 5], [0, 1, 2], [0, 1, 2], v⟩
def kC (v : Value) : HS := ⟨[5, 0, 5], [-1, 1, 0], [2, 1], v⟩
def kD (v : Value) : HS := ⟨[5, 0, 5], [-1, 0, -1], [1], v⟩
theorem kA_is (v : Value) : raiseM (kS 3 v) 2 5 = kA v := by kernel_rfl
theorem kB_is (v : Value) : raiseM (kA v) 0 5 = kB v := by kernel_rfl
theorem kC_is (v : Value) : popM (kB v) = kC v := by kernel_rfl
theorem kD_is (v : Value) : popM (kC v) = kD v := by kernel_rfl
theorem kA_wf (v : Value) : Wf (kA v) := ⟨rfl, of_decide_eq_true (by kernel_rfl), of_decide_eq_true (by kernel_rfl), of_decide_eq_true (by kernel_rfl)⟩
theorem kB_wf (v : Value) : Wf (kB v) := ⟨rfl, of_decide_eq_true (by kernel_rfl), of_decide_eq_true (by kernel_rfl), of_decide_eq_true (by kernel_rfl)⟩
theorem kC_wf (v : Value) : Wf (kC v) := ⟨rfl, of_decide_eq_true (by kernel_rfl), of_decide_eq_true (by kernel_rfl), of_decide_eq_true (by kernel_rfl)⟩
theorem kD_wf (v : Value) : Wf (kD v) := ⟨rfl, of_decide_eq_true (by kernel_rfl), of_decide_eq_true (by kernel_rfl), of_decide_eq_true (by kernel_rfl)⟩
theorem tiOwn {w0 w w1 : World} {t : Nat} {row : List Int} {marks : List Nat} {F : Nat → Prop} (hF : ∀ j, F j → w0.heap.size ≤ j) (hw : Below w0.heap.size w0 w) (hl : TI.Left w t row marks F w1) : ∃ F, TI.Tr w1 t row marks F ∧ (∀ j, F j → w0.heap.size ≤ j) ∧ Below w0.heap.size w0 w1 := by
  obtain ⟨F', hp, hk, hs⟩ := hl
  exact ⟨F', hp, fun j hj => (hs j hj).elim (hF j) (fun h => Nat.le_trans hw.size h), below_trans hw ⟨hk.os, hk.tape, hk.output, hk.size, fun j hj => hk.block j (Nat.lt_of_lt_of_le hj hw.size) (fun h => by have := hF j h; omega)⟩⟩
structure KnAt (w : World) (t : Nat) (v : Value) (k : Nat) (wr : World) : Prop where
  own : Own w t (kS k v) wr
  k3 : k ≤ 3
set_option maxRecDepth 100000 in
set_option maxHeartbeats 3200000 in
theorem known_calls0 (w : World) : Calls Try.prog 9 #[] w fun e w' => e = .returned (.bool true) ∧ Below w.heap.size w w' := by
  have HN := hid (own_new (w := w) 3)
  go_enter Try.func9, Try.ntmps9
  go_wp2_with fail
  refine HN.out.mono ?_
  rintro e w1 ⟨t, v, rfl, o1⟩
  rw [kS_new] at o1
  have O1 := hid o1
  clear o1
  go_wp2_with fail
  go_loopg [14] 3 (fun left v14 wr => ∃ k, left + k = 3 ∧ v14 = .int .i64 (k : Int) ∧ Hid (KnAt w t v k wr))
  case atStart => exact ⟨0, by omega, rfl, hid ⟨O1.out, by omega⟩⟩
  case round =>
    obtain ⟨k, hlk, rfl, U⟩ := hrel
    by_cases hk : k < 3
    · have hkI : (k : Int) < 3 := by omega
      have hl := kS_len v k hk
      have PUSH := hid (own_push_new U.out.own k (kS_wf v k U.out.k3) (by omega) hl.2.1 hl.2.2)
      clear hl
      go_wp2_with fail
      refine PUSH.out.mono ?_
      rintro e w2 ⟨rfl, o2⟩
      rw [kS_push v k hk] at o2
      have O2 := hid o2
      clear o2
      cases gk with
      | zero => omega
      | succ left =>
        go_wp2_with fail
        go_roundg left
        case measure => omega
        case rel => exact ⟨k + 1, by omega, rfl, hid ⟨O2.out, hk⟩⟩
    · obtain rfl : k = 3 := by have := U.out.k3; omega
      have R1 := hid (own_raise U.out.own 2 5 (kS_wf v 3 (by omega)) (of_decide_eq_true (by kernel_rfl)) (of_decide_eq_true (by kernel_rfl)) (of_decide_eq_true (by kernel_rfl)) (of_decide_eq_true (by kernel_rfl)) (of_decide_eq_true (by kernel_rfl)) (of_decide_eq_true (by kernel_rfl)))
      rw [kA_is] at R1
      go_wp2_with fail
      refine R1.out.mono ?_
      rintro e w2 ⟨rfl, o2⟩
      have R2 := hid (own_raise o2 0 5 (kA_wf v) (of_decide_eq_true (by kernel_rfl)) (of_decide_eq_true (by kernel_rfl)) (of_decide_eq_true (by kernel_rfl)) (of_decide_eq_true (by kernel_rfl)) (of_decide_eq_true (by kernel_rfl)) (of_decide_eq_true (by kernel_rfl)))
      rw [kB_is] at R2
      clear o2
      go_wp2_with fail
      refine R2.out.mono ?_
      rintro e w3 ⟨rfl, o3⟩
      have P1 := hid (own_pop o3 (kB_wf v) (of_decide_eq_true (by kernel_rfl)))
      rw [kC_is, show (kB v).r.getD 0 0 = 0 from rfl] at P1
      clear o3
      go_wp2_with fail
      refine P1.out.mono ?_
      rintro e w4 ⟨rfl, o4⟩
      have P2 := hid (own_pop o4 (kC_wf v) (of_decide_eq_true (by kernel_rfl)))
      rw [kD_is, show (kC v).r.getD 0 0 = 2 from rfl] at P2
      clear o4
      go_wp2_with fail
      refine P2.out.mono ?_
      rintro e w5 ⟨rfl, o5⟩
      have P3 := hid (own_pop o5 (kD_wf v) (of_decide_eq_true (by kernel_rfl)))
      rw [show (kD v).r.getD 0 0 = 1 from rfl] at P3
      clear o5
      go_wp2_with fail
      refine P3.out.mono ?_
      rintro e w6 ⟨rfl, o6⟩
      have B6 := hid o6.bel
      clear o6
      go_wp2_with fail
      have T0 : Hid (TI.Tr (w6.alloc (.cells #[.slice none 0 0, .slice none 0 0] 71)) w6.heap.size [] [] (fun j => j = w6.heap.size)) := hid ⟨_, _, Ob.made w6 71 [.slice none 0 0, .slice none 0 0] [(3, []), (3, [])] (by decide) (fun i r h => by
        match i, h with
        | 0, h => cases h; exact ⟨rfl, rfl⟩
        | 1, h => cases h; exact ⟨rfl, rfl⟩
        | n + 2, h => simp at h)⟩
      obtain ⟨W, hW⟩ : ∃ W, W = w6.alloc (.cells #[.slice none 0 0, .slice none 0 0] 71) := ⟨_, rfl⟩
      have HB0 : Hid (Below w.heap.size w W) := hid (by rw [hW]; exact below_trans B6.out ((Below.refl _ _).alloc B6.out.size _))
      have HF0 : Hid (∀ j, (fun j => j = w6.heap.size) j → w.heap.size ≤ j) := hid (fun j h => by have := B6.out.size; omega)
      obtain ⟨F0, hF0⟩ : ∃ F, F = (fun j => j = w6.heap.size) := ⟨_, rfl⟩
      rw [← hF0] at HF0 T0
      obtain ⟨t2, ht2⟩ : ∃ t2, t2 = w6.heap.size := ⟨_, rfl⟩
      rw [← hW] at T0 ⊢
      rw [← ht2] at T0 ⊢
      clear hW hF0 ht2 B6 P1 P2 P3 R1 R2
      have A1 := hid (TI.Push_calls W t2 [] [] F0 7 T0.out (by decide))
      refine A1.out.mono ?_
      rintro e W1 ⟨rfl, l1⟩
      have O1' := hid (tiOwn HF0.out HB0.out l1)
      clear l1
      have A2 : Hid (Calls Try.prog 39 #[TI.ptr t2] W1 fun e w' => e = .returned (.int .i64 0) ∧ ∃ F, TI.Tr w' t2 [7] [1] F ∧ (∀ j, F j → w.heap.size ≤ j) ∧ Below w.heap.size w w') := hid (by
        obtain ⟨F1, T1, HF1, HB1⟩ := O1'.out
        exact (TI.Mark_calls W1 t2 _ _ F1 T1 (by decide) (by decide)).mono fun e w' h => ⟨h.1, tiOwn HF1 HB1 h.2⟩)
      go_wp2_with fail
      refine A2.out.mono ?_
      rintro e W2 ⟨rfl, o2⟩
      have A3 : Hid (Calls Try.prog 38 #[TI.ptr t2, .int .i64 8] W2 fun e w' => e = .returned (.tuple #[]) ∧ ∃ F, TI.Tr w' t2 [7, 8] [1] F ∧ (∀ j, F j → w.heap.size ≤ j) ∧ Below w.heap.size w w') := hid (by
        obtain ⟨F1, T1, HF1, HB1⟩ := o2
        exact (TI.Push_calls W2 t2 _ _ F1 8 T1 (by decide)).mono fun e w' h => ⟨h.1, tiOwn HF1 HB1 h.2⟩)
      clear o2
      go_wp2_with fail
      refine A3.out.mono ?_
      rintro e W3 ⟨rfl, o3⟩
      have A4 : Hid (Calls Try.prog 40 #[TI.ptr t2, .int .i64 0] W3 fun e w' => ∃ g off cap, e = .returned (.slice (some ⟨g, off, none⟩) 1 cap) ∧ w'.cell? ⟨g, off, none⟩ = some (.int .i64 8) ∧ g < w'.heap.size ∧ ∃ F, TI.Tr w' t2 [7] [] F ∧ (∀ j, F j → w.heap.size ≤ j) ∧ Below w.heap.size w w') := hid (by
        obtain ⟨F1, T1, HF1, HB1⟩ := o3
        refine (TI.Back_calls W3 t2 _ _ F1 0 1 T1 rfl (by decide) (by decide) (by decide)).mono fun e w' ⟨v, he, hr, hv, hl0, hl1⟩ => ?_
        obtain ⟨g, off, cap, rfl, _, _, hg, hc, _⟩ := hr.cells (by decide)
        exact ⟨g, off, cap, he, hc 0 (by decide), hg, tiOwn HF1 HB1 ⟨_, hl0, hl1, fun _ h => .inl h⟩⟩)
      clear o3
      go_wp2_with fail
      refine A4.out.mono ?_
      rintro e W4 ⟨g, off, cap, rfl, hx, hg, o4⟩
      have A5 : Hid (Calls Try.prog 41 #[TI.ptr t2] W4 fun e w' => e = .returned (.int .i64 1) ∧ Below w.heap.size w w') := hid (by
        obtain ⟨F1, T1, HF1, HB1⟩ := o4
        exact (TI.Len_calls W4 t2 _ _ F1 T1).mono fun e w' h => ⟨h.1, below_trans HB1 (below_le h.2 HB1.size)⟩)
      clear o4
      go_wp2_with fail
      refine A5.out.mono ?_
      rintro e W5 ⟨rfl, b5⟩
      have B5 := hid b5
      clear b5
      go_wp2_with fail
      go_ret
      exact ⟨rfl, B5.out⟩
end Go.Proofs.Ytegcfaohhcjajaa.HM
