/- A heap that is one's own: the calls once more. -/
import Derived.Test.YtegcfaohhcjajaaHeapN
namespace Go.Proofs.Ytegcfaohhcjajaa.HM
open Go.RowKit Go.Proofs.YtegcfaohhcjajaaW.PrintWords Go.Proofs.YtegcfaohhcjajaaW.PrintLast Go.Proofs.YtegcfaohhcjajaaW.PrintMore Go.Proofs.Ytegcfaohhcjajaa.MM
set_option linter.unusedVariables false

/-- A heap made since the world w0. -/
def Own (w0 : World) (t : Nat) (s : HS) (w : World) : Prop := ∃ F, Hp w t s F ∧ (∀ j, F j → w0.heap.size ≤ j) ∧ Below w0.heap.size w0 w
theorem Own.bel {w0 w : World} {t : Nat} {s : HS} (h : Own w0 t s w) : Below w0.heap.size w0 w := h.elim fun _ h => h.2.2
theorem below_trans {B : Nat} {a b c : World} (h : Below B a b) (k : Below B b c) : Below B a c :=
  ⟨k.os.trans h.os, k.tape.trans h.tape, k.output.trans h.output, Nat.le_trans h.size k.size, fun j hj => (k.block j hj).trans (h.block j hj)⟩
theorem below_le {B C : Nat} {a b : World} (h : Below C a b) (hB : B ≤ C) : Below B a b := ⟨h.os, h.tape, h.output, h.size, fun j hj => h.block j (Nat.lt_of_lt_of_le hj hB)⟩
theorem Own.below {w0 w w1 : World} {t : Nat} {s : HS} (h : Own w0 t s w) (hb : Below w.heap.size w w1) : Own w0 t s w1 := by
  obtain ⟨F, hp, hF, hw⟩ := h
  exact ⟨F, hp.below hb, hF, below_trans hw (below_le hb hw.size)⟩
theorem Own.keep {w0 w w1 : World} {t : Nat} {s s1 : HS} {F : Nat → Prop} (hF : ∀ j, F j → w0.heap.size ≤ j) (hw : Below w0.heap.size w0 w) (hp : Hp w1 t s1 F) (hk : Keep F w w1) : Own w0 t s1 w1 :=
  ⟨F, hp, hF, below_trans hw ⟨hk.os, hk.tape, hk.output, hk.size, fun j hj => hk.block j (Nat.lt_of_lt_of_le hj hw.size) (fun h => by have := hF j h; omega)⟩⟩
theorem Own.left {w0 w w1 : World} {t : Nat} {s1 : HS} {F : Nat → Prop} (hF : ∀ j, F j → w0.heap.size ≤ j) (hw : Below w0.heap.size w0 w) (hl : Left w t s1 F w1) : Own w0 t s1 w1 := by
  obtain ⟨F', hp, hk, hs⟩ := hl
  exact ⟨F', hp, fun j hj => (hs j hj).elim (hF j) (fun h => Nat.le_trans hw.size h), below_trans hw ⟨hk.os, hk.tape, hk.output, hk.size, fun j hj => hk.block j (Nat.lt_of_lt_of_le hj hw.size) (fun h => by have := hF j h; omega)⟩⟩
variable {w0 w : World} {t : Nat} {s : HS}
theorem own_new (n : Int) : Calls Try.prog 18 #[.int .i64 n] w fun e w' => ∃ t v, e = .returned (ptr t) ∧ Own w t (newM (sizeN n) v) w' :=
  (New_calls w n).mono fun e w' ⟨t, v, F, he, hp, hF, hb⟩ => ⟨t, v, he, F, hp, hF, hb⟩
theorem own_len (h : Own w0 t s w) : Calls Try.prog 37 #[ptr t] w fun e w' => e = .returned (.int .i64 s.r.length) ∧ Own w0 t s w' :=
  h.elim fun F h1 => (Len_calls w t s F h1.1).mono fun e w' h2 => ⟨h2.1, h.below h2.2⟩
theorem own_weight (h : Own w0 t s w) (i : Int) : Calls Try.prog 22 #[ptr t, .int .i64 i] w fun e w' => e = .returned (.int .i64 (weightM s i)) ∧ Own w0 t s w' :=
  h.elim fun F h1 => (Weight_calls w t s F i h1.1).mono fun e w' h2 => ⟨h2.1, h.below h2.2⟩
theorem own_push_new (h : Own w0 t s w) (m : Nat) (wf : Wf s) (hm : m < s.w.length) (hp : s.p.getD m 0 < 0) (hr : s.r.length < 1048576) :
    Calls Try.prog 19 #[ptr t, .int .i64 m] w fun e w' => e = .returned (.int .i64 0) ∧ Own w0 t (pushM s m) w' := by
  obtain ⟨F, h1, hF, hw⟩ := h
  exact (Push_new w t s F m h1 wf hm hp hr).mono fun e w' h2 => ⟨h2.1, Own.left hF hw h2.2⟩
theorem own_push_twice (h : Own w0 t s w) (m : Nat) (hm : m < s.p.length) (hk : knownM s m = true) (hp : 0 ≤ s.p.getD m 0) :
    Calls Try.prog 19 #[ptr t, .int .i64 m] w fun e w' => e = .returned (.int .i64 8) ∧ Own w0 t s w' :=
  h.elim fun F h1 => (Push_twice w t s F m h1.1 hm hk hp).mono fun e w' h2 => ⟨h2.1, h.below h2.2⟩
theorem own_push_unknown (h : Own w0 t s w) (i : Int) (hk : knownM s i = false) :
    Calls Try.prog 19 #[ptr t, .int .i64 i] w fun e w' => e = .returned (.int .i64 2) ∧ Own w0 t s w' :=
  h.elim fun F h1 => (Push_unknown w t s F i h1.1 hk).mono fun e w' h2 => ⟨h2.1, h.below h2.2⟩
theorem own_pop_none (h : Own w0 t s w) (h0 : s.r.length = 0) :
    Calls Try.prog 21 #[ptr t] w fun e w' => e = .returned (.tuple #[.int .i64 0, .bool false]) ∧ Own w0 t s w' :=
  h.elim fun F h1 => (Pop_none w t s F h1.1 h0).mono fun e w' h2 => ⟨h2.1, h.below h2.2⟩
theorem own_pop (h : Own w0 t s w) (wf : Wf s) (h0 : 0 < s.r.length) :
    Calls Try.prog 21 #[ptr t] w fun e w' => e = .returned (.tuple #[.int .i64 (s.r.getD 0 0 : Nat), .bool true]) ∧ Own w0 t (popM s) w' := by
  obtain ⟨F, h1, hF, hw⟩ := h
  exact (Pop_calls w t s F h1 wf h0).mono fun e w' h2 => ⟨h2.1, Own.left hF hw h2.2⟩
theorem own_raise_arg (h : Own w0 t s w) (i d : Int) (hk : knownM s i = false ∨ d < 0) :
    Calls Try.prog 20 #[ptr t, .int .i64 i, .int .i64 d] w fun e w' => e = .returned (.int .i64 2) ∧ Own w0 t s w' :=
  h.elim fun F h1 => (Raise_arg w t s F i d h1.1 hk).mono fun e w' h2 => ⟨h2.1, h.below h2.2⟩
theorem own_raise_over (h : Own w0 t s w) (m : Nat) (d : Int) (hm : m < s.w.length) (hd : 0 ≤ d) (h0 : 0 ≤ s.w.getD m 0) (h1 : s.w.getD m 0 ≤ 4611686018427387904) (ho : d > 4611686018427387904 - s.w.getD m 0) :
    Calls Try.prog 20 #[ptr t, .int .i64 m, .int .i64 d] w fun e w' => e = .returned (.int .i64 6) ∧ Own w0 t s w' :=
  h.elim fun F h3 => (Raise_over w t s F m d h3.1 hm hd h0 h1 ho).mono fun e w' h2 => ⟨h2.1, h.below h2.2⟩
theorem own_raise (h : Own w0 t s w) (m : Nat) (d : Int) (wf : Wf s) (hm : m < s.w.length) (hd : 0 ≤ d) (h0 : 0 ≤ s.w.getD m 0) (h1 : s.w.getD m 0 ≤ 4611686018427387904) (ho : ¬ d > 4611686018427387904 - s.w.getD m 0) (hpl : 0 ≤ s.p.getD m 0 → s.p.getD m 0 < s.r.length) :
    Calls Try.prog 20 #[ptr t, .int .i64 m, .int .i64 d] w fun e w' => e = .returned (.int .i64 0) ∧ Own w0 t (raiseM s m d) w' := by
  obtain ⟨F, h3, hF, hw⟩ := h
  exact (Raise_calls w t s F m d h3 wf hm hd h0 h1 ho hpl).mono fun e w' h2 => ⟨h2.1, Own.left hF hw h2.2⟩
end Go.Proofs.Ytegcfaohhcjajaa.HM
