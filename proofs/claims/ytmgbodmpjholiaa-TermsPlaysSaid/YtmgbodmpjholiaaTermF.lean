/- Calls of a made store, one after the other; known. -/
import Derived.Test.YtmgbodmpjholiaaTermE
namespace Go.Proofs.Ytmgbodmpjholiaa.TM
open Go.RowKit Go.Maps Go.Shelf Go.Lib Go.Proofs.YtmgbodmpjholiaaW.PrintWords Go.Proofs.YtmgbodmpjholiaaW.PrintLast Go.Proofs.YtmgbodmpjholiaaW.PrintMore Go.Proofs.Ytmgbodmpjholiaa.MM Go.Proofs.Ytmgbodmpjholiaa.KM
attribute [local go_sem ↓] Go.wp_at_zero Go.wp_at_succ
set_option linter.unusedSimpArgs false
set_option linter.unusedVariables false

/-- What a constructor of a made store leaves. -/
abbrev GotN (w : World) (t q : Nat) (r : Ans) (e : Ending) (w' : World) : Prop := e = .returned (.tuple #[.int .i64 r.1, .int .i64 r.2.1]) ∧ NewAt w t r.2.2 q w'
theorem NewAt.call {w wr : World} {t : Nat} {l : List NodeM} {q : Nat} {f : FuncId} {args : Array Value} {r : Ans} (h : NewAt w t l q wr) (hc : ∀ F, St wr t l q F → Calls Try.prog f args wr (Got wr t (q + 2000) F r)) : Calls Try.prog f args wr (GotN w t (q + 2000) r) := by
  obtain ⟨F, h1, h2⟩ := h.st
  exact (hc F h1).mono fun e w2 hg => ⟨hg.1, h.step h2 hg.2⟩
theorem NewAt.below {w wr w2 : World} {t : Nat} {l : List NodeM} {q : Nat} (h : NewAt w t l q wr) (hb : Below wr.heap.size wr w2) : NewAt w t l q w2 := by
  obtain ⟨F, h1, h2⟩ := h.st
  exact ⟨⟨F, h1.below hb, h2⟩, TM.bel h.bel hb⟩
theorem NewAt.read {w wr : World} {t : Nat} {l : List NodeM} {q : Nat} {f : FuncId} {args : Array Value} {E : Ending} (h : NewAt w t l q wr) (hc : ∀ F, St wr t l q F → Calls Try.prog f args wr (fun e w' => e = E ∧ Below wr.heap.size wr w')) : Calls Try.prog f args wr (fun e w' => e = E ∧ NewAt w t l q w') := by
  obtain ⟨F, h1, h2⟩ := h.st
  exact (hc F h1).mono fun e w2 hg => ⟨hg.1, h.below hg.2⟩
theorem NewAt.more {w wr : World} {t : Nat} {l : List NodeM} {q q' : Nat} (h : NewAt w t l q wr) (hq : q ≤ q') : NewAt w t l q' wr := by
  obtain ⟨F, h1, h2⟩ := h.st
  exact ⟨⟨F, h1.more hq, h2⟩, h.bel⟩
theorem New_at (w : World) : Calls Try.prog 10 #[] w fun e w' => ∃ t, e = .returned (ptr t) ∧ NewAt w t newM 6000 w' :=
  (New_calls w).mono fun e w' ⟨t, F, he, h1, h2, h3⟩ => ⟨t, he, ⟨F, h1, h2⟩, h3⟩
theorem NewAt.alloc {w wr : World} {t : Nat} {l : List NodeM} {q : Nat} (h : NewAt w t l q wr) (o : Obj) : NewAt w t l q (wr.alloc o) := h.below ((Below.refl _ _).alloc (Nat.le_refl _) _)

/-! ### known -/
def k1 : List NodeM := newM ++ [⟨5, 0, 0, 1, []⟩]
def k2 : List NodeM := k1 ++ [⟨4, 0, 2, 1, [3]⟩]
theorem kn1 : appM newM 0 1 [] = (3, 0, k1) := by rfl
theorem kn2 : plusM k1 3 2 = (4, 0, k2) := by rfl
theorem kn3 : plusM k2 4 (-2) = (3, 0, k2) := by rfl
theorem kn4 : leM k2 4 3 1 = (1, 0, k2) := by rfl
theorem wf2 : wf64 2 := ⟨by omega, by omega⟩
theorem wfm2 : wf64 (-2) := ⟨by omega, by omega⟩
set_option maxRecDepth 100000 in
set_option maxHeartbeats 3200000 in
theorem known_calls (w : World) : Calls Try.prog 9 #[] w fun e w' => e = .returned (.bool true) ∧ Below w.heap.size w w' := by
  have HN := hid (New_at w)
  go_enter Try.func9, Try.ntmps9
  go_wp2_with fail
  refine HN.out.mono ?_
  rintro e w1 ⟨t, rfl, h1⟩
  have H1 := hid h1
  clear h1 HN
  go_wp2_with fail
  refine (H1.out.call (r := appM newM 0 1 []) fun F h => App_calls w1 t newM 6000 F 0 1 (.slice none 0 0) [] (.nil _ _) wf0 wf1 h (by omega)).mono ?_
  rw [kn1]
  rintro e w2 ⟨rfl, h2⟩
  have H2 := hid h2
  clear h2 H1
  go_wp2_with fail
  refine (H2.out.call (r := plusM k1 3 2) fun F h => Plus_calls w2 t k1 8000 F 3 2 wf2 h (by omega)).mono ?_
  rw [kn2]
  rintro e w3 ⟨rfl, h3⟩
  have H3 := hid h3
  clear h3 H2
  go_wp2_with fail
  refine (H3.out.call (r := plusM k2 4 (-2)) fun F h => Plus_calls w3 t k2 10000 F 4 (-2) wfm2 h (by omega)).mono ?_
  rw [kn3]
  rintro e w4 ⟨rfl, h4⟩
  have H4 := hid h4
  clear h4 H3
  go_wp2_with fail
  refine (H4.out.call (r := leM k2 4 3 1) fun F h => Le_calls w4 t k2 12000 F 4 3 1 wf1 h (by omega)).mono ?_
  rw [kn4]
  rintro e w5 ⟨rfl, h5⟩
  have H5 := hid h5
  clear h5 H4
  go_wp2_with fail
  go_ret
  exact ⟨rfl, H5.out.bel⟩
end Go.Proofs.Ytmgbodmpjholiaa.TM
