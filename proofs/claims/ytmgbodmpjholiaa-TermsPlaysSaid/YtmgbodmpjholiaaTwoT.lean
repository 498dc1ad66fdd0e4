/- Both stores of terms, one beside the other, and what stands beside them. -/
import Derived.Test.YtmgbodmpjholiaaRfE
import Derived.Test.YtmgbodmpjholiaaSide
namespace Go.Proofs.Ytmgbodmpjholiaa.BT
open Go.RowKit Go.Maps Go.Shelf Go.Lib Go.Proofs.YtmgbodmpjholiaaW.PrintWords Go.Proofs.YtmgbodmpjholiaaW.PrintLast Go.Proofs.YtmgbodmpjholiaaW.PrintMore Go.Proofs.Ytmgbodmpjholiaa.MM Go.Proofs.Ytmgbodmpjholiaa.KM Go.Proofs.Ytmgbodmpjholiaa.TM Go.Proofs.Ytmgbodmpjholiaa.RT Go.Proofs.Ytmgbodmpjholiaa.TW
attribute [local go_sem ↓] Go.wp_at_zero Go.wp_at_succ
set_option linter.unusedSimpArgs false
set_option linter.unusedVariables false

structure TwoAt (sd : Side) (w0 w : World) (s u : Nat) (S S2 : List NodeM) (q : Nat) : Prop where
  bel : Below w0.heap.size w0 w
  st : ∃ F G, St w s S q F ∧ Rs w u S2 G ∧ (∀ j, F j → w0.heap.size ≤ j ∧ ¬ G j ∧ ¬ sd.D j) ∧ ∀ j, G j → w0.heap.size ≤ j ∧ ¬ sd.D j
  side : sd.P w
variable {sd sd2 sd3 : Side} {w0 w w1 : World} {s u : Nat} {S S2 : List NodeM} {q : Nat}
theorem TwoAt.below (h : TwoAt sd w0 w s u S S2 q) (hb : Below w.heap.size w w1) : TwoAt sd w0 w1 s u S S2 q := by
  obtain ⟨F, G, h1, h2, h3, h4⟩ := h.st
  exact ⟨TM.bel h.bel hb, ⟨F, G, h1.below hb, h2.below hb, h3, h4⟩, sd.mv (Keep.ofBelow (F := fun _ => False) hb) (fun _ _ h => h) h.side⟩
theorem TwoAt.more {q' : Nat} (h : TwoAt sd w0 w s u S S2 q) (hq : q ≤ q') : TwoAt sd w0 w s u S S2 q' := by
  obtain ⟨F, G, h1, h2, h3, h4⟩ := h.st
  exact ⟨h.bel, ⟨F, G, h1.more hq, h2, h3, h4⟩, h.side⟩
theorem TwoAt.wf (h : TwoAt sd w0 w s u S S2 q) : Wf S := by
  obtain ⟨F, G, h1, h2, h3, h4⟩ := h.st
  exact h1.wf
theorem TwoAt.callS {f : FuncId} {args : Array Value} {r : Ans} (h : TwoAt sd w0 w s u S S2 q) (hc : ∀ F, St w s S q F → Calls Try.prog f args w (Got w s (q + 2000) F r)) :
    Calls Try.prog f args w fun e w' => e = .returned (.tuple #[.int .i64 r.1, .int .i64 r.2.1]) ∧ TwoAt sd w0 w' s u r.2.2 S2 (q + 2000) := by
  obtain ⟨F, G, h1, h2, h3, h4⟩ := h.st
  refine (hc F h1).mono fun e w' hg => ⟨hg.1, ?_⟩
  obtain ⟨F', y1, y2, y3⟩ := hg.2
  have hlt := sd.lt _ h.side
  have hG : ∀ j, G j → j < w.heap.size := by
    obtain ⟨v0, A0, z1, z2, z3, z4, z5, z6, z7, z8⟩ := h2
    exact z7
  refine ⟨h.bel.trans (y2.below (fun j hj => (h3 j hj).1) h.bel.size), ⟨F', G, y1, h2.keep y2 (fun j hj hF => (h3 j hF).2.1 hj), fun j hj => ?_, h4⟩, sd.mv y2 (fun j hj hF => (h3 j hF).2.2 hj) h.side⟩
  rcases y3 j hj with h5 | h5
  · exact h3 j h5
  · exact ⟨Nat.le_trans h.bel.size h5, fun hg => by have := hG j hg; omega, fun hd => by have := hlt j hd; omega⟩
theorem TwoAt.callR {f : FuncId} {args : Array Value} {r : Ans} (h : TwoAt sd w0 w s u S S2 q) (hc : ∀ G, Rs w u S2 G → Calls Try.prog f args w (GotR w u G r)) :
    Calls Try.prog f args w fun e w' => e = .returned (.tuple #[.int .i64 r.1, .int .i64 r.2.1]) ∧ TwoAt sd w0 w' s u S r.2.2 q := by
  obtain ⟨F, G, h1, h2, h3, h4⟩ := h.st
  refine (hc G h2).mono fun e w' hg => ⟨hg.1, ?_⟩
  obtain ⟨G', y1, y2, y3⟩ := hg.2
  have hlt := sd.lt _ h.side
  have hF : ∀ j, F j → j < w.heap.size := by
    obtain ⟨A, v, b1, b2, L, g1, g2, z1, z2, z3, z4, z5⟩ := h1
    exact z5
  refine ⟨h.bel.trans (y2.below (fun j hj => (h4 j hj).1) h.bel.size), ⟨F, G', h1.keep y2 (fun j hj hG => (h3 j hj).2.1 hG), y1, fun j hj => ⟨(h3 j hj).1, fun hg => ?_, (h3 j hj).2.2⟩, fun j hj => ?_⟩, sd.mv y2 (fun j hj hG => (h4 j hG).2 hj) h.side⟩
  · rcases y3 j hg with h5 | h5
    · exact (h3 j hj).2.1 h5
    · have := hF j hj
      omega
  · rcases y3 j hj with h5 | h5
    · exact h4 j h5
    · exact ⟨Nat.le_trans h.bel.size h5, fun hd => by have := hlt j hd; omega⟩
theorem TwoAt.readS {f : FuncId} {args : Array Value} {P : Ending → World → Prop} (h : TwoAt sd w0 w s u S S2 q) (hc : ∀ F, St w s S q F → Calls Try.prog f args w (fun e w' => P e w' ∧ Below w.heap.size w w')) :
    Calls Try.prog f args w fun e w' => P e w' ∧ Below w.heap.size w w' ∧ TwoAt sd w0 w' s u S S2 q := by
  obtain ⟨F, G, h1, h2, h3, h4⟩ := h.st
  exact (hc F h1).mono fun e w' hg => ⟨hg.1, hg.2, h.below hg.2⟩
theorem TwoAt.readR {f : FuncId} {args : Array Value} {P : Ending → World → Prop} (h : TwoAt sd w0 w s u S S2 q) (hc : ∀ G, Rs w u S2 G → Calls Try.prog f args w (fun e w' => P e w' ∧ Below w.heap.size w w')) :
    Calls Try.prog f args w fun e w' => P e w' ∧ Below w.heap.size w w' ∧ TwoAt sd w0 w' s u S S2 q := by
  obtain ⟨F, G, h1, h2, h3, h4⟩ := h.st
  exact (hc G h2).mono fun e w' hg => ⟨hg.1, hg.2, h.below hg.2⟩
/-- Something new beside. -/
theorem TwoAt.beside (h : TwoAt sd w0 w s u S S2 q) (hb : Below w.heap.size w w1) (h2 : sd2.P w1) (hD : ∀ j, sd2.D j → w.heap.size ≤ j) : TwoAt (sd.and sd2) w0 w1 s u S S2 q := by
  obtain ⟨F, G, a1, a2, a3, a4⟩ := h.st
  have hF : ∀ j, F j → j < w.heap.size := by
    obtain ⟨A, v, b1, b2, L, g1, g2, z1, z2, z3, z4, z5⟩ := a1
    exact z5
  have hG : ∀ j, G j → j < w.heap.size := by
    obtain ⟨v0, A0, z1, z2, z3, z4, z5, z6, z7, z8⟩ := a2
    exact z7
  have hB := h.below hb
  refine ⟨hB.bel, ⟨F, G, a1.below hb, a2.below hb, fun j hj => ⟨(a3 j hj).1, (a3 j hj).2.1, fun hd => ?_⟩, fun j hj => ⟨(a4 j hj).1, fun hd => ?_⟩⟩, hB.side, h2⟩
  · rcases hd with h5 | h5
    · exact (a3 j hj).2.2 h5
    · have := hD j h5
      have := hF j hj
      omega
  · rcases hd with h5 | h5
    · exact (a4 j hj).2 h5
    · have := hD j h5
      have := hG j hj
      omega
theorem TwoAt.drop (h : TwoAt (sd.and sd2) w0 w s u S S2 q) : TwoAt sd w0 w s u S S2 q := by
  obtain ⟨F, G, a1, a2, a3, a4⟩ := h.st
  exact ⟨h.bel, ⟨F, G, a1, a2, fun j hj => ⟨(a3 j hj).1, (a3 j hj).2.1, fun hd => (a3 j hj).2.2 (.inl hd)⟩, fun j hj => ⟨(a4 j hj).1, fun hd => (a4 j hj).2 (.inl hd)⟩⟩, h.side.1⟩
/-- What stands beside is turned. -/
theorem TwoAt.turn (h : TwoAt (sd.and sd2) w0 w s u S S2 q) (hk : Keep (fun j => sd2.D j) w w1) (hsd : ∀ j, sd.D j → ¬ sd2.D j) (h0 : ∀ j, sd2.D j → w0.heap.size ≤ j) (h3 : sd3.P w1) (hD : ∀ j, sd3.D j → sd2.D j ∨ w.heap.size ≤ j) : TwoAt (sd.and sd3) w0 w1 s u S S2 q := by
  obtain ⟨F, G, a1, a2, a3, a4⟩ := h.st
  have hF : ∀ j, F j → j < w.heap.size := by
    obtain ⟨A, v, b1, b2, L, g1, g2, z1, z2, z3, z4, z5⟩ := a1
    exact z5
  have hG : ∀ j, G j → j < w.heap.size := by
    obtain ⟨v0, A0, z1, z2, z3, z4, z5, z6, z7, z8⟩ := a2
    exact z7
  refine ⟨h.bel.trans (hk.below (fun j hj => h0 j hj) h.bel.size), ⟨F, G, a1.keep hk (fun j hj hd => (a3 j hj).2.2 (.inr hd)), a2.keep hk (fun j hj hd => (a4 j hj).2 (.inr hd)), fun j hj => ⟨(a3 j hj).1, (a3 j hj).2.1, fun hd => ?_⟩, fun j hj => ⟨(a4 j hj).1, fun hd => ?_⟩⟩, sd.mv hk hsd h.side.1, h3⟩
  · rcases hd with h5 | h5
    · exact (a3 j hj).2.2 (.inl h5)
    · rcases hD j h5 with h6 | h6
      · exact (a3 j hj).2.2 (.inr h6)
      · have := hF j hj
        omega
  · rcases hd with h5 | h5
    · exact (a4 j hj).2 (.inl h5)
    · rcases hD j h5 with h6 | h6
      · exact (a4 j hj).2 (.inr h6)
      · have := hG j hj
        omega

/-! #### near -/
def nearM (t : Int) (n : Nat) (m : Bool) : Int := if m then t % 18446744073709551616 % ((n : Int) + 2) - 1 else t
theorem nearM_wf {t : Int} {n : Nat} {m : Bool} (h : wf64 t) (hn : n ≤ 20000) : wf64 (nearM t n m) := by
  unfold nearM
  cases m with
  | false => exact h
  | true =>
    have h1 := Int.emod_nonneg (t % 18446744073709551616) (b := (n : Int) + 2) (by omega)
    have h2 := Int.emod_lt_of_pos (t % 18446744073709551616) (b := (n : Int) + 2) (by omega)
    simp only [if_true]
    exact ⟨by omega, by omega⟩
set_option maxHeartbeats 1600000 in
theorem near_calls (w : World) (t : Int) (n : Nat) (m : Bool) (hn : n ≤ 20000) :
    Calls Try.prog 18 #[.int .i64 t, .int .i64 n, .bool m] w fun e w' => e = .returned (.int .i64 (nearM t n m)) ∧ w' = w := by
  cases m with
  | false =>
    go_enter Try.func18, Try.ntmps18
    go_wp2
    go_ret
    exact ⟨rfl, rfl⟩
  | true =>
    obtain ⟨U, hU⟩ : ∃ U, U = t % 18446744073709551616 := ⟨_, rfl⟩
    obtain ⟨V, hV⟩ : ∃ V, V = U % ((n : Int) + 2) := ⟨_, rfl⟩
    have h1 : 0 ≤ V := by rw [hV]; exact Int.emod_nonneg _ (by omega)
    have h2 : V ≤ 20001 := by rw [hV]; have := Int.emod_lt_of_pos U (b := (n : Int) + 2) (by omega); omega
    have hU0 : 0 ≤ U := by rw [hU]; omega
    have HR := hid (show nearM t n true = V - 1 by unfold nearM; rw [if_pos rfl, ← hU, ← hV])
    have e1 : IntKind.u64.wrap t = U := by rw [hU]; simp [IntKind.wrap, IntKind.signed, IntKind.bits]
    have e2 : IntKind.u64.wrap ((n : Int) + 2) = (n : Int) + 2 := by simp [IntKind.wrap, IntKind.signed, IntKind.bits]; omega
    have e3 : U.tmod ((n : Int) + 2) = V := by rw [hV, Int.tmod_eq_emod_of_nonneg hU0]
    have hnI : (n : Int) ≤ 20000 := by omega
    clear hU hV
    go_enter Try.func18, Try.ntmps18
    go_wp2
    go_ret
    exact ⟨by rw [HR.out]; rfl, rfl⟩
/-! #### The document's New -/
theorem rs_made (w : World) : Rs ((w.alloc (.cells #[.int .u8 1, .int .i64 0, .int .i64 0, .int .i64 0, .slice none 0 0, .int .u8 2, .int .i64 0, .int .i64 0, .int .i64 0, .slice none 0 0, .int .u8 3, .int .i64 0, .int .i64 0, .int .i64 1, .slice none 0 0] 54)).alloc (.cells #[.slice (some ⟨w.heap.size, 0, none⟩) 3 3] 48)) (w.heap.size + 1) newM (fun j => w.heap.size ≤ j ∧ j ≤ w.heap.size + 1) := by
  refine ⟨.slice (some ⟨w.heap.size, 0, none⟩) 3 3, fun _ => False, ?_, ⟨⟨[.slice none 0 0, .slice none 0 0, .slice none 0 0], rfl, ?_, fun i n x hn hx => ?_⟩, fun _ _ h => h, fun _ h => h.elim⟩, fun h => h, by omega, fun g hg => ?_, fun _ h => h.elim, fun g hg => by simp; omega, hid ⟨wfN_new, by simp [newM]⟩⟩
  · have := heap_alloc_new (w.alloc (.cells #[.int .u8 1, .int .i64 0, .int .i64 0, .int .i64 0, .slice none 0 0, .int .u8 2, .int .i64 0, .int .i64 0, .int .i64 0, .slice none 0 0, .int .u8 3, .int .i64 0, .int .i64 0, .int .i64 1, .slice none 0 0] 54)) (.cells #[.slice (some ⟨w.heap.size, 0, none⟩) 3 3] 48)
    simpa using this
  · exact ⟨by simp [newM, flat], .inr ⟨w.heap.size, 3, _, by simp [newM], Nat.zero_le _, (old_alloc _ (by simp)).trans (heap_alloc_new _ _), by simp [newM], by simp [maxLen], by simp, by simp [newM, flat]⟩⟩
  · have hi : i < 3 := (List.getElem?_eq_some_iff.1 hx).1
    have hx' : x = .slice none 0 0 := by
      rcases i with _ | _ | _ | i
      · simpa using hx.symm
      · simpa using hx.symm
      · simpa using hx.symm
      · omega
    have hn' : n.args = [] := by
      rcases i with _ | _ | _ | i
      · simp [newM] at hn; rw [← hn]
      · simp [newM] at hn; rw [← hn]
      · simp [newM] at hn; rw [← hn]
      · omega
    rw [hx', hn']
    exact ⟨.nil _ _, fun g hg => by cases hg⟩
  · obtain rfl := (Option.some.inj hg : w.heap.size = g)
    exact ⟨⟨Nat.le_refl _, by omega⟩, by omega⟩
def MadeR (w : World) (e : Ending) (w' : World) : Prop := ∃ u G, e = .returned (ptr u) ∧ Rs w' u newM G ∧ (∀ j, G j → w.heap.size ≤ j) ∧ Below w.heap.size w w'
set_option maxHeartbeats 1600000 in
theorem RNew_calls (w : World) : Calls Try.prog 17 #[] w (MadeR w) := by
  have H := hid (rs_made w)
  go_enter Try.func17, Try.ntmps17
  go_wp2
  go_ret
  exact ⟨_, _, rfl, H.out, fun j hj => hj.1, ((Below.refl _ _).alloc (Nat.le_refl _) _).alloc (by simp) _⟩
/-- Both are made. -/
theorem two_start {s q : Nat} {S : List NodeM} (h : NewAt w0 s S q w) : Calls Try.prog 17 #[] w fun e w' => ∃ u, e = .returned (ptr u) ∧ TwoAt Side.nothing w0 w' s u S newM q := by
  obtain ⟨F, h1, h2⟩ := h.st
  refine (RNew_calls w).mono fun e w' ⟨u, G, he, hR, hG, hb⟩ => ⟨u, he, TM.bel h.bel hb, ⟨F, G, h1.below hb, hR, fun j hj => ⟨h2 j hj, fun hg => ?_, fun hd => hd⟩, fun j hj => ⟨Nat.le_trans h.bel.size (hG j hj), fun hd => hd⟩⟩, trivial⟩
  have h3 := hG j hg
  obtain ⟨A, v, b1, b2, L, g1, g2, z1, z2, z3, z4, z5⟩ := h1
  have := z5 j hj
  omega
end Go.Proofs.Ytmgbodmpjholiaa.BT
