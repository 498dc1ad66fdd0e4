/- A trail of strings that is one's own: the calls once more; rows of strings that are handed in. -/
import Derived.Test.YtegcfaohhcjajaaHeapK
import Derived.Test.YtegcfaohhcjajaaTrailS
namespace Go.Proofs.Ytegcfaohhcjajaa.TS
open Go.RowKit Go.Proofs.YtegcfaohhcjajaaW.PrintWords Go.Proofs.YtegcfaohhcjajaaW.PrintLast Go.Proofs.YtegcfaohhcjajaaW.PrintMore Go.Proofs.Ytegcfaohhcjajaa.MM
set_option linter.unusedVariables false

def Own (w0 : World) (t : Nat) (row : List ByteArray) (marks : List Nat) (w : World) : Prop := ∃ F, Tr w t row marks F ∧ (∀ j, F j → w0.heap.size ≤ j) ∧ Below w0.heap.size w0 w
theorem Tr.below {w w1 : World} {t : Nat} {row : List ByteArray} {marks : List Nat} {F : Nat → Prop} (h : Tr w t row marks F) (hb : Below w.heap.size w w1) : Tr w1 t row marks F := by
  obtain ⟨a, b, h⟩ := h
  exact ⟨a, b, h.below hb⟩
variable {w0 w : World} {t : Nat} {row : List ByteArray} {marks : List Nat}
theorem Own.bel (h : Own w0 t row marks w) : Below w0.heap.size w0 w := h.elim fun _ h => h.2.2
theorem Own.below {w1 : World} (h : Own w0 t row marks w) (hb : Below w.heap.size w w1) : Own w0 t row marks w1 := by
  obtain ⟨F, hp, hF, hw⟩ := h
  exact ⟨F, hp.below hb, hF, HM.below_trans hw (HM.below_le hb hw.size)⟩
theorem Own.left {w1 : World} {F : Nat → Prop} (hF : ∀ j, F j → w0.heap.size ≤ j) (hw : Below w0.heap.size w0 w) (hl : Left w t row marks F w1) : Own w0 t row marks w1 := by
  obtain ⟨F', hp, hk, hs⟩ := hl
  exact ⟨F', hp, fun j hj => (hs j hj).elim (hF j) (fun h => Nat.le_trans hw.size h), HM.below_trans hw ⟨hk.os, hk.tape, hk.output, hk.size, fun j hj => hk.block j (Nat.lt_of_lt_of_le hj hw.size) (fun h => by have := hF j h; omega)⟩⟩
theorem own_zero {w0 w : World} (hb : Below w0.heap.size w0 w) : Own w0 w.heap.size [] [] (w.alloc (.cells #[.slice none 0 0, .slice none 0 0] 27)) := by
  refine ⟨fun j => j = w.heap.size, ⟨_, _, Ob.made w 27 [.slice none 0 0, .slice none 0 0] [(9, []), (3, [])] (by decide) (fun i r h => ?_)⟩, fun j hj => by have := hb.size; omega, HM.below_trans hb ((Below.refl _ _).alloc hb.size _)⟩
  match i, h with
  | 0, h => cases h; exact ⟨rfl, rfl⟩
  | 1, h => cases h; exact ⟨rfl, rfl⟩
  | n + 2, h => simp at h
theorem own_push (h : Own w0 t row marks w) (x : ByteArray) (hl : row.length < 1000000) : Calls Try.prog 10 #[ptr t, .string x] w fun e w' => e = .returned (.tuple #[]) ∧ Own w0 t (row ++ [x]) marks w' := by
  obtain ⟨F, h1, hF, hw⟩ := h
  exact (Push_calls w t row marks F x h1 hl).mono fun e w' h2 => ⟨h2.1, Own.left hF hw h2.2⟩
theorem own_mark (h : Own w0 t row marks w) (hl : marks.length < 1000000) (hr : row.length < 1000000) : Calls Try.prog 12 #[ptr t] w fun e w' => e = .returned (.int .i64 marks.length) ∧ Own w0 t row (marks ++ [row.length]) w' := by
  obtain ⟨F, h1, hF, hw⟩ := h
  exact (Mark_calls w t row marks F h1 hl hr).mono fun e w' h2 => ⟨h2.1, Own.left hF hw h2.2⟩
theorem own_len (h : Own w0 t row marks w) : Calls Try.prog 16 #[ptr t] w fun e w' => e = .returned (.int .i64 row.length) ∧ Below w.heap.size w w' :=
  h.elim fun F h1 => Len_calls w t row marks F h1.1
theorem own_level (h : Own w0 t row marks w) : Calls Try.prog 17 #[ptr t] w fun e w' => e = .returned (.int .i64 marks.length) ∧ Below w.heap.size w w' :=
  h.elim fun F h1 => Level_calls w t row marks F h1.1
theorem own_at (h : Own w0 t row marks w) (i : Int) : Calls Try.prog 15 #[ptr t, .int .i64 i] w fun e w' => e = .returned (.tuple (if 0 ≤ i ∧ i < row.length then #[.string (row.getD i.toNat ByteArray.empty), .bool true] else #[.string ⟨#[]⟩, .bool false])) ∧ Below w.heap.size w w' ∧ Own w0 t row marks w' :=
  h.elim fun F h1 => (At_calls w t row marks F i h1.1).mono fun e w' h2 => ⟨h2.1, h2.2, h.below h2.2⟩
theorem own_back_none (h : Own w0 t row marks w) (level : Int) (hlv : level < 0 ∨ (marks.length : Int) ≤ level) : Calls Try.prog 13 #[ptr t, .int .i64 level] w fun e w' => e = .returned (.slice none 0 0) ∧ Own w0 t row marks w' :=
  h.elim fun F h1 => (back_none w t row marks F level h1.1 hlv).mono fun e w' h2 => ⟨h2.1, h.below h2.2⟩
theorem own_back (h : Own w0 t row marks w) (level n : Nat) (hn : marks[level]? = some n) (hnr : n ≤ row.length) (hrl : row.length < 1000000) (hml : marks.length < 1000000) :
    Calls Try.prog 13 #[ptr t, .int .i64 level] w fun e w' => ∃ A c, e = .returned (.slice A (row.length - n) c) ∧ Row w' 9 (.slice A (row.length - n) c) (elems (row.drop n).reverse) ∧ (∀ j, (Value.slice A (row.length - n) c).ownBlock = some j → w.heap.size ≤ j) ∧ Own w0 t (row.take n) (marks.take level) w' := by
  obtain ⟨F, h1, hF, hw⟩ := h
  refine (Back_calls w t row marks F level n h1 hn hnr hrl hml).mono fun e w' ⟨v, he, hr, hv, hl0, hl1⟩ => ?_
  obtain ⟨A, c, rfl, _, _⟩ := hr.shape
  have hlen : (elems (row.drop n).reverse).length = row.length - n := by simp
  rw [hlen] at he hr hv
  exact ⟨A, c, he, hr, hv, Own.left hF hw ⟨_, hl0, hl1, fun _ h => .inl h⟩⟩
attribute [local go_sem ↓] Go.wp_at_zero Go.wp_at_succ
theorem Len_quiet (w : World) (t : Nat) (row : List ByteArray) (marks : List Nat) (F : Nat → Prop) (h : Tr w t row marks F) :
    Calls Try.prog 16 #[ptr t] w fun e w' => e = .returned (.int .i64 row.length) ∧ ∃ m, w' = w.drewN m := by
  obtain ⟨vr, vm, h⟩ := h
  have hc := h.cell 0 vr rfl
  obtain ⟨A, c, hv, _, _⟩ := (h.row 0 _ _ vr rfl rfl).shape
  rw [List.length_map] at hv
  subst hv
  clear h
  go_enter Try.func16, Try.ntmps16
  go_wp2
  go_ret
  exact ⟨rfl, 0, rfl⟩
theorem Level_quiet (w : World) (t : Nat) (row : List ByteArray) (marks : List Nat) (F : Nat → Prop) (h : Tr w t row marks F) :
    Calls Try.prog 17 #[ptr t] w fun e w' => e = .returned (.int .i64 marks.length) ∧ ∃ m, w' = w.drewN m := by
  obtain ⟨vr, vm, h⟩ := h
  have hc := h.cell 1 vm rfl
  obtain ⟨A, c, hv, _, _⟩ := (h.row 1 _ _ vm rfl rfl).shape
  rw [List.length_map] at hv
  subst hv
  clear h
  go_enter Try.func17, Try.ntmps17
  go_wp2
  go_ret
  exact ⟨rfl, 0, rfl⟩
/-- An element of strings that are handed in. -/
theorem str_at {w : World} {A : Option Addr} {n : Nat} {xs : List ByteArray} (h : Kd.string.C w A n xs) (i : Nat) (hi : i < xs.length) : ∃ ad, A = some ad ∧ w.cell? (ad.add i) = some (.string (xs.getD i ByteArray.empty)) := by
  have hn := h.1
  obtain ⟨ad, e, hc⟩ := Kd.at_string h (i : Int) (by omega) (by omega)
  refine ⟨ad, e, ?_⟩
  rw [Int.toNat_natCast] at hc
  rw [hc]
  rfl
theorem strs_open {w : World} {A : Option Addr} {n : Nat} {xs : List ByteArray} (h : Kd.string.C w A n xs) (h0 : 0 < xs.length) : ∃ b off, A = some ⟨b, off, none⟩ := by
  obtain ⟨ad, e, hc⟩ := str_at h 0 h0
  obtain ⟨b, off, sp⟩ := ad
  have hsp : sp = none := by
    unfold World.cell? at hc
    simp only [Addr.add] at hc
    cases sp with
    | none => rfl
    | some s => split at hc <;> simp at hc
  subst hsp
  exact ⟨b, off, e⟩
theorem strs_cell {w : World} {b off n : Nat} {xs : List ByteArray} (h : Kd.string.C w (some ⟨b, off, none⟩) n xs) (j : Nat) (hj : j < xs.length) : w.cell? ⟨b, off + j, none⟩ = some (.string (xs.getD j ByteArray.empty)) := by
  obtain ⟨ad, e, hc⟩ := str_at h j hj
  cases e
  rwa [Addr.add_lit] at hc
end Go.Proofs.Ytegcfaohhcjajaa.TS
