/- A trail and the document's trail, side by side, and what stands beside them. -/
import Derived.Test.YtegcfaohhcjajaaOwnT
import Derived.Test.YtegcfaohhcjajaaRefT
import Derived.Test.YtegcfaohhcjajaaHkx0
namespace Go.Proofs.Ytegcfaohhcjajaa.TW
open Go.RowKit Go.Proofs.YtegcfaohhcjajaaW.PrintWords Go.Proofs.YtegcfaohhcjajaaW.PrintLast Go.Proofs.YtegcfaohhcjajaaW.PrintMore Go.Proofs.Ytegcfaohhcjajaa.MM
set_option linter.unusedVariables false

/-- What stands beside: said of a world, and of some blocks alone. -/
structure Side where
  P : World → Prop
  D : Nat → Prop
  mv : ∀ {H : Nat → Prop} {w w1 : World}, Keep H w w1 → (∀ j, D j → ¬ H j) → P w → P w1
  lt : ∀ w, P w → ∀ j, D j → j < w.heap.size
def Side.nothing : Side := ⟨fun _ => True, fun _ => False, fun _ _ h => h, fun _ _ _ h => h.elim⟩
def Side.obj (b : Nat) (o : Obj) : Side := ⟨fun w => w.heap[b]? = some o, fun j => j = b, fun hk hd h => hk.blk h (hd b rfl), fun w h j hj => by rw [hj]; exact blk_lt h⟩
def Side.row (e : TypeId) (v : Value) (xs : List Value) : Side := ⟨fun w => Row w e v xs, fun j => v.ownBlock = some j, fun hk hd h => h.keep hk hd, fun w h j hj => h.lt j hj⟩
def Side.and (a b : Side) : Side := ⟨fun w => a.P w ∧ b.P w, fun j => a.D j ∨ b.D j, fun hk hd h => ⟨a.mv hk (fun j hj => hd j (.inl hj)) h.1, b.mv hk (fun j hj => hd j (.inr hj)) h.2⟩, fun w h j hj => hj.elim (a.lt w h.1 j) (b.lt w h.2 j)⟩
/-- Both trails, of the call's own (made since w0). -/
def Two (w0 : World) (t u : Nat) (row : List ByteArray) (marks : List Nat) (row2 : List ByteArray) (ats : List Nat) (lev : Nat) (S : Side) (w : World) : Prop :=
  ∃ F G, TS.Tr w t row marks F ∧ RT.Rf w u row2 ats lev G ∧ (∀ j, F j → w0.heap.size ≤ j) ∧ (∀ j, G j → w0.heap.size ≤ j) ∧ (∀ j, F j → ¬ G j) ∧ Below w0.heap.size w0 w ∧ S.P w ∧ (∀ j, S.D j → ¬ F j ∧ ¬ G j)
theorem trOld {w : World} {t : Nat} {row : List ByteArray} {marks : List Nat} {F : Nat → Prop} (h : TS.Tr w t row marks F) : ∀ j, F j → j < w.heap.size := by
  obtain ⟨a, b, h⟩ := h
  exact h.old
theorem rfOld {w : World} {u : Nat} {row : List ByteArray} {ats : List Nat} {lev : Nat} {F : Nat → Prop} (h : RT.Rf w u row ats lev F) : ∀ j, F j → j < w.heap.size := by
  obtain ⟨a, b, h⟩ := h
  exact h.old
theorem trKeep {w w1 : World} {t : Nat} {row : List ByteArray} {marks : List Nat} {F G : Nat → Prop} (h : TS.Tr w t row marks F) (hk : Keep G w w1) (hn : ∀ j, F j → ¬ G j) : TS.Tr w1 t row marks F := by
  obtain ⟨a, b, h⟩ := h
  exact ⟨a, b, h.keep hk hn⟩
theorem rfKeep {w w1 : World} {u : Nat} {row : List ByteArray} {ats : List Nat} {lev : Nat} {F G : Nat → Prop} (h : RT.Rf w u row ats lev F) (hk : Keep G w w1) (hn : ∀ j, F j → ¬ G j) : RT.Rf w1 u row ats lev F := by
  obtain ⟨a, b, h⟩ := h
  exact ⟨a, b, h.keep hk hn⟩
theorem keep_off {w0 w w1 : World} {F : Nat → Prop} (hF : ∀ j, F j → w0.heap.size ≤ j) (hw : Below w0.heap.size w0 w) (hk : Keep F w w1) : Below w0.heap.size w0 w1 :=
  HM.below_trans hw ⟨hk.os, hk.tape, hk.output, hk.size, fun j hj => hk.block j (Nat.lt_of_lt_of_le hj hw.size) (fun h => by have := hF j h; omega)⟩
variable {w0 w w1 : World} {t u : Nat} {row row' row2 row2' : List ByteArray} {marks marks' ats ats' : List Nat} {lev lev' : Nat} {S : Side}
theorem Two.bel (h : Two w0 t u row marks row2 ats lev S w) : Below w0.heap.size w0 w := by
  obtain ⟨F, G, _, _, _, _, _, h, _⟩ := h
  exact h
theorem Two.side (h : Two w0 t u row marks row2 ats lev S w) : S.P w := by
  obtain ⟨F, G, _, _, _, _, _, _, h, _⟩ := h
  exact h
theorem Two.below (h : Two w0 t u row marks row2 ats lev S w) (hb : Below w.heap.size w w1) : Two w0 t u row marks row2 ats lev S w1 := by
  obtain ⟨F, G, h1, h2, h3, h4, h5, h6, h7, h8⟩ := h
  have nb : Keep (fun _ => False) w w1 := Keep.ofBelow hb
  exact ⟨F, G, trKeep h1 nb (fun _ _ h => h), rfKeep h2 nb (fun _ _ h => h), h3, h4, h5, HM.below_trans h6 (HM.below_le hb h6.size), S.mv nb (fun _ _ h => h) h7, h8⟩
theorem Two.off (h : Two w0 t u row marks row2 ats lev S w) : Two w0 t u row marks row2 ats lev Side.nothing w := by
  obtain ⟨F, G, h1, h2, h3, h4, h5, h6, h7, h8⟩ := h
  exact ⟨F, G, h1, h2, h3, h4, h5, h6, trivial, fun j hj => hj.elim⟩
/-- Something new beside. -/
theorem Two.new (h : Two w0 t u row marks row2 ats lev S w) (hb : Below w.heap.size w w1) (S' : Side) (hp : S'.P w1) (hd : ∀ j, S'.D j → w.heap.size ≤ j) : Two w0 t u row marks row2 ats lev (S.and S') w1 := by
  obtain ⟨F, G, h1, h2, h3, h4, h5, h6, h7, h8⟩ := h
  have nb : Keep (fun _ => False) w w1 := Keep.ofBelow hb
  exact ⟨F, G, trKeep h1 nb (fun _ _ h => h), rfKeep h2 nb (fun _ _ h => h), h3, h4, h5, HM.below_trans h6 (HM.below_le hb h6.size), ⟨S.mv nb (fun _ _ h => h) h7, hp⟩, fun j hj => hj.elim (h8 j) (fun h => ⟨fun hF => by have := trOld h1 j hF; have := hd j h; omega, fun hG => by have := rfOld h2 j hG; have := hd j h; omega⟩)⟩
/-- A call that turns the first. -/
theorem Two.turn1 (h : Two w0 t u row marks row2 ats lev S w) {f : FuncId} {args : Array Value} {Q : Ending → World → Prop} (hc : ∀ F, TS.Tr w t row marks F → Calls Try.prog f args w fun e w' => Q e w' ∧ TS.Left w t row' marks' F w') :
    Calls Try.prog f args w fun e w' => Q e w' ∧ Two w0 t u row' marks' row2 ats lev S w' := by
  obtain ⟨F, G, h1, h2, h3, h4, h5, h6, h7, h8⟩ := h
  refine (hc F h1).mono fun e w' ⟨he, F', hp, hk, hs⟩ => ⟨he, F', G, hp, rfKeep h2 hk (fun j hj hF => h5 j hF hj), fun j hj => (hs j hj).elim (h3 j) (fun h => Nat.le_trans h6.size h), h4, fun j hj hG => ?_, keep_off h3 h6 hk, S.mv hk (fun j hj => (h8 j hj).1) h7, fun j hj => ⟨fun hF => ?_, (h8 j hj).2⟩⟩
  · rcases hs j hj with h | h
    · exact h5 j h hG
    · have := rfOld h2 j hG; omega
  · rcases hs j hF with h | h
    · exact (h8 j hj).1 h
    · have := S.lt w h7 j hj; omega
/-- .. and what it hands back is beside it. -/
theorem Two.row1 (h : Two w0 t u row marks row2 ats lev S w) {f : FuncId} {args : Array Value} {e : TypeId} {xs : List Value} {Q : Value → Prop} (hc : ∀ F, TS.Tr w t row marks F → Calls Try.prog f args w fun en w' => ∃ v, en = .returned v ∧ Row w' e v xs ∧ (∀ j, v.ownBlock = some j → w.heap.size ≤ j) ∧ TS.Tr w' t row' marks' F ∧ Keep F w w') :
    Calls Try.prog f args w fun en w' => ∃ v, en = .returned v ∧ Two w0 t u row' marks' row2 ats lev (S.and (Side.row e v xs)) w' := by
  obtain ⟨F, G, h1, h2, h3, h4, h5, h6, h7, h8⟩ := h
  refine (hc F h1).mono fun en w' ⟨v, he, hr, ho, hp, hk⟩ => ⟨v, he, F, G, hp, rfKeep h2 hk (fun j hj hF => h5 j hF hj), h3, h4, h5, keep_off h3 h6 hk, ⟨S.mv hk (fun j hj => (h8 j hj).1) h7, hr⟩, fun j hj => hj.elim (h8 j) (fun h => ⟨fun hF => ?_, fun hG => ?_⟩)⟩
  · have := trOld h1 j hF; have := ho j h; omega
  · have := rfOld h2 j hG; have := ho j h; omega
/-- A call that turns the second. -/
theorem Two.turn2 (h : Two w0 t u row marks row2 ats lev S w) {f : FuncId} {args : Array Value} {Q : Ending → World → Prop} (hc : ∀ F, RT.Rf w u row2 ats lev F → Calls Try.prog f args w fun e w' => Q e w' ∧ RT.Left w u row2' ats' lev' F w') :
    Calls Try.prog f args w fun e w' => Q e w' ∧ Two w0 t u row marks row2' ats' lev' S w' := by
  obtain ⟨F, G, h1, h2, h3, h4, h5, h6, h7, h8⟩ := h
  refine (hc G h2).mono fun e w' ⟨he, G', hp, hk, hs⟩ => ⟨he, F, G', trKeep h1 hk h5, hp, h3, fun j hj => (hs j hj).elim (h4 j) (fun h => Nat.le_trans h6.size h), fun j hj hG => ?_, keep_off h4 h6 hk, S.mv hk (fun j hj => (h8 j hj).2) h7, fun j hj => ⟨(h8 j hj).1, fun hF => ?_⟩⟩
  · rcases hs j hG with h | h
    · exact h5 j hj h
    · have := trOld h1 j hj; omega
  · rcases hs j hF with h | h
    · exact (h8 j hj).2 h
    · have := S.lt w h7 j hj; omega
theorem Two.row2_ (h : Two w0 t u row marks row2 ats lev S w) {f : FuncId} {args : Array Value} {e : TypeId} {xs : List Value} (hc : ∀ F, RT.Rf w u row2 ats lev F → Calls Try.prog f args w fun en w' => ∃ v, en = .returned v ∧ Row w' e v xs ∧ (∀ j, v.ownBlock = some j → w.heap.size ≤ j) ∧ RT.Rf w' u row2' ats' lev' F ∧ Keep F w w') :
    Calls Try.prog f args w fun en w' => ∃ v, en = .returned v ∧ Two w0 t u row marks row2' ats' lev' (S.and (Side.row e v xs)) w' := by
  obtain ⟨F, G, h1, h2, h3, h4, h5, h6, h7, h8⟩ := h
  refine (hc G h2).mono fun en w' ⟨v, he, hr, ho, hp, hk⟩ => ⟨v, he, F, G, trKeep h1 hk h5, hp, h3, h4, h5, keep_off h4 h6 hk, ⟨S.mv hk (fun j hj => (h8 j hj).2) h7, hr⟩, fun j hj => hj.elim (h8 j) (fun h => ⟨fun hF => ?_, fun hG => ?_⟩)⟩
  · have := trOld h1 j hF; have := ho j h; omega
  · have := rfOld h2 j hG; have := ho j h; omega
/-- A call that turns neither. -/
theorem Two.quiet (h : Two w0 t u row marks row2 ats lev S w) {f : FuncId} {args : Array Value} {Q : Ending → World → Prop} (hc : ∀ F, TS.Tr w t row marks F → Calls Try.prog f args w fun e w' => Q e w' ∧ Below w.heap.size w w') :
    Calls Try.prog f args w fun e w' => Q e w' ∧ Two w0 t u row marks row2 ats lev S w' := by
  obtain ⟨F, G, h1, hr⟩ := h
  exact (hc F h1).mono fun e w' ⟨he, hb⟩ => ⟨he, Two.below (w := w) ⟨F, G, h1, hr⟩ hb⟩
theorem Two.cells (h : Two w0 t u row marks row2 ats lev S w) : ∃ A c, w.cell? ⟨u, 0, none⟩ = some (.slice A row2.length c) ∧ w.cell? ⟨u, 2, none⟩ = some (.int .i64 lev) ∧ w.frozen? ⟨u, 2, none⟩ = false ∧ u < w.heap.size ∧ Row w 9 (.slice A row2.length c) (TS.elems row2) := by
  obtain ⟨F, G, _, ⟨vr, va, h⟩, _⟩ := h
  obtain ⟨A, c, hv, _, _⟩ := (h.row 0 _ _ vr rfl rfl).shape
  have h0 := h.cell 0 vr rfl
  have hr := h.row 0 _ _ vr rfl rfl
  rw [List.length_map] at hv
  subst hv
  exact ⟨A, c, h0, h.cell 2 _ rfl, h.frozen 2, blk_lt h.blk, hr⟩
theorem Two.quiet2 (h : Two w0 t u row marks row2 ats lev S w) {f : FuncId} {args : Array Value} {Q : Ending → World → Prop} (hc : ∀ F, RT.Rf w u row2 ats lev F → Calls Try.prog f args w fun e w' => Q e w' ∧ Below w.heap.size w w') :
    Calls Try.prog f args w fun e w' => Q e w' ∧ Two w0 t u row marks row2 ats lev S w' := by
  obtain ⟨F, G, h1, h2, hr⟩ := h
  exact (hc G h2).mono fun e w' ⟨he, hb⟩ => ⟨he, Two.below (w := w) ⟨F, G, h1, h2, hr⟩ hb⟩
theorem Two.lenq (h : Two w0 t u row marks row2 ats lev S w) : Calls Try.prog 16 #[TS.ptr t] w fun e w' => e = .returned (.int .i64 row.length) ∧ ∃ m, w' = w.drewN m := by
  obtain ⟨F, G, h1, _⟩ := h
  exact TS.Len_quiet w t row marks F h1
theorem Two.levq (h : Two w0 t u row marks row2 ats lev S w) (hl : lev = marks.length) : Calls Try.prog 17 #[TS.ptr t] w fun e w' => e = .returned (.int .i64 lev) ∧ ∃ m, w' = w.drewN m := by
  obtain ⟨F, G, h1, _⟩ := h
  rw [hl]
  exact TS.Level_quiet w t row marks F h1
/-- The second one's level is set. -/
theorem Two.setLev (h : Two w0 t u row marks row2 ats lev S w) (l : Nat) : Two w0 t u row marks row2 ats l S (w.setCell ⟨u, 2, none⟩ (.int .i64 l)) := by
  obtain ⟨F, G, h1, ⟨va, vr, h2⟩, h3, h4, h5, h6, h7, h8⟩ := h
  obtain ⟨o, hk⟩ := h2.other 2 (by simp) (by simp) (.int .i64 l)
  exact ⟨F, G, trKeep h1 hk h5, ⟨va, vr, o⟩, h3, h4, h5, keep_off h4 h6 hk, S.mv hk (fun j hj => (h8 j hj).2) h7, h8⟩
theorem Two.drewN (h : Two w0 t u row marks row2 ats lev S w) (m : Nat) : Two w0 t u row marks row2 ats lev S (w.drewN m) := h.below (pw_below_drewN (Below.refl _ _) m)
theorem Two.nilRow (h : Two w0 t u row marks row2 ats lev S w) (e : TypeId) : Two w0 t u row marks row2 ats lev (S.and (Side.row e (.slice none 0 0) [])) w := by
  obtain ⟨F, G, h1, h2, h3, h4, h5, h6, h7, h8⟩ := h
  exact ⟨F, G, h1, h2, h3, h4, h5, h6, ⟨h7, .nil _ _⟩, fun j hj => hj.elim (h8 j) (fun h => by cases h)⟩
theorem two_zero (w : World) : Two w w.heap.size (w.heap.size + 1) [] [] [] [] 0 Side.nothing ((w.alloc (.cells #[.slice none 0 0, .slice none 0 0] 27)).alloc (.cells #[.slice none 0 0, .slice none 0 0, .int .i64 0] 30)) := by
  obtain ⟨F, h1, h2, h3⟩ := TS.own_zero (Below.refl w.heap.size w)
  have hs : (w.alloc (.cells #[.slice none 0 0, .slice none 0 0] 27)).heap.size = w.heap.size + 1 := by simp
  have hm := Ob.made (w.alloc (.cells #[.slice none 0 0, .slice none 0 0] 27)) 30 [.slice none 0 0, .slice none 0 0, .int .i64 0] [(9, []), (3, [])] (by decide) (fun i r h => by
    match i, h with
    | 0, h => cases h; exact ⟨rfl, rfl⟩
    | 1, h => cases h; exact ⟨rfl, rfl⟩
    | n + 2, h => simp at h)
  rw [hs] at hm
  have hb : Below (w.alloc (.cells #[.slice none 0 0, .slice none 0 0] 27)).heap.size (w.alloc (.cells #[.slice none 0 0, .slice none 0 0] 27)) ((w.alloc (.cells #[.slice none 0 0, .slice none 0 0] 27)).alloc (.cells #[.slice none 0 0, .slice none 0 0, .int .i64 0] 30)) := (Below.refl _ _).alloc (Nat.le_refl _) _
  exact ⟨F, _, TS.Tr.below h1 hb, ⟨_, _, hm⟩, h2, fun j hj => by omega, fun j hj hG => by have := trOld h1 j hj; omega, HM.below_trans h3 (HM.below_le hb (by omega)), trivial, fun j hj => hj.elim⟩
end Go.Proofs.Ytegcfaohhcjajaa.TW
