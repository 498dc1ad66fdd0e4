/- A heap of the call's own, and what stands beside it: the calls once more. -/
import Derived.Test.YtegcfaohhcjajaaHeapO
import Derived.Test.YtegcfaohhcjajaaHeapJ
import Derived.Test.YtegcfaohhcjajaaSide
namespace Go.Proofs.Ytegcfaohhcjajaa.HM
open Go.RowKit Go.Proofs.YtegcfaohhcjajaaW.PrintWords Go.Proofs.YtegcfaohhcjajaaW.PrintLast Go.Proofs.YtegcfaohhcjajaaW.PrintMore Go.Proofs.Ytegcfaohhcjajaa.MM Go.Proofs.Ytegcfaohhcjajaa.TW
set_option linter.unusedVariables false

def OwnS (w0 : World) (t : Nat) (s : HS) (S : Side) (w : World) : Prop := ∃ F, Hp w t s F ∧ (∀ j, F j → w0.heap.size ≤ j) ∧ Below w0.heap.size w0 w ∧ S.P w ∧ (∀ j, S.D j → ¬ F j)
theorem hpOld {w : World} {t : Nat} {s : HS} {F : Nat → Prop} (h : Hp w t s F) : ∀ j, F j → j < w.heap.size := by
  obtain ⟨a, b, c, h, _⟩ := h
  exact h.old
theorem hpKeep {w w1 : World} {t : Nat} {s : HS} {F G : Nat → Prop} (h : Hp w t s F) (hk : Keep G w w1) (hn : ∀ j, F j → ¬ G j) : Hp w1 t s F := by
  obtain ⟨a, b, c, h, hv⟩ := h
  exact ⟨a, b, c, h.keep hk hn, hv⟩
theorem below_off {w0 w w1 : World} {F : Nat → Prop} (hF : ∀ j, F j → w0.heap.size ≤ j) (hw : Below w0.heap.size w0 w) (hk : Keep F w w1) : Below w0.heap.size w0 w1 :=
  below_trans hw ⟨hk.os, hk.tape, hk.output, hk.size, fun j hj => hk.block j (Nat.lt_of_lt_of_le hj hw.size) (fun h => by have := hF j h; omega)⟩
variable {w0 w w1 : World} {t : Nat} {s s' : HS} {S : Side}
theorem OwnS.bel (h : OwnS w0 t s S w) : Below w0.heap.size w0 w := h.elim fun _ h => h.2.2.1
theorem OwnS.side (h : OwnS w0 t s S w) : S.P w := h.elim fun _ h => h.2.2.2.1
theorem OwnS.below (h : OwnS w0 t s S w) (hb : Below w.heap.size w w1) : OwnS w0 t s S w1 := by
  obtain ⟨F, h1, h2, h3, h4, h5⟩ := h
  exact ⟨F, h1.below hb, h2, below_trans h3 (below_le hb h3.size), S.mv (H := fun _ => False) (Keep.ofBelow hb) (fun _ _ h => h) h4, h5⟩
theorem OwnS.drewN (h : OwnS w0 t s S w) (m : Nat) : OwnS w0 t s S (w.drewN m) := h.below (pw_below_drewN (Below.refl _ _) m)
theorem OwnS.of (h : Own w0 t s w) : OwnS w0 t s Side.nothing w := by
  obtain ⟨F, h1, h2, h3⟩ := h
  exact ⟨F, h1, h2, h3, trivial, fun _ h => h.elim⟩
theorem OwnS.off (h : OwnS w0 t s S w) : OwnS w0 t s Side.nothing w := by
  obtain ⟨F, h1, h2, h3, _⟩ := h
  exact ⟨F, h1, h2, h3, trivial, fun _ h => h.elim⟩
theorem OwnS.new (h : OwnS w0 t s S w) (hb : Below w.heap.size w w1) (S' : Side) (hp : S'.P w1) (hd : ∀ j, S'.D j → w.heap.size ≤ j) : OwnS w0 t s (S.and S') w1 := by
  obtain ⟨F, h1, h2, h3, h4, h5⟩ := h
  exact ⟨F, h1.below hb, h2, below_trans h3 (below_le hb h3.size), ⟨S.mv (H := fun _ => False) (Keep.ofBelow hb) (fun _ _ h => h) h4, hp⟩, fun j hj => hj.elim (h5 j) (fun h hF => by have := hpOld h1 j hF; have := hd j h; omega)⟩
/-- What stands beside turns. -/
theorem OwnS.turnSide (h : OwnS w0 t s S w) (S' : Side) (hk : Keep S.D w w1) (hD : ∀ j, S.D j → w0.heap.size ≤ j) (hp : S'.P w1) (hd : ∀ j, S'.D j → S.D j ∨ w.heap.size ≤ j) : OwnS w0 t s S' w1 := by
  obtain ⟨F, h1, h2, h3, h4, h5⟩ := h
  exact ⟨F, hpKeep h1 hk (fun j hF hj => h5 j hj hF), h2, below_off hD h3 hk, hp, fun j hj => (hd j hj).elim (h5 j) (fun h hF => by have := hpOld h1 j hF; omega)⟩
theorem OwnS.turn (h : OwnS w0 t s S w) {f : FuncId} {args : Array Value} {Q : Ending → Prop} (hc : ∀ F, Hp w t s F → Calls Try.prog f args w fun e w' => Q e ∧ Left w t s' F w') :
    Calls Try.prog f args w fun e w' => Q e ∧ OwnS w0 t s' S w' := by
  obtain ⟨F, h1, h2, h3, h4, h5⟩ := h
  refine (hc F h1).mono fun e w' ⟨he, F', hp, hk, hs⟩ => ⟨he, F', hp, fun j hj => (hs j hj).elim (h2 j) (fun h => Nat.le_trans h3.size h), below_off h2 h3 hk, S.mv hk h5 h4, fun j hj hF => ?_⟩
  rcases hs j hF with h | h
  · exact h5 j hj h
  · have := S.lt w h4 j hj; omega
theorem OwnS.quiet (h : OwnS w0 t s S w) {f : FuncId} {args : Array Value} {Q : Ending → Prop} (hc : ∀ F, Hp w t s F → Calls Try.prog f args w fun e w' => Q e ∧ Below w.heap.size w w') :
    Calls Try.prog f args w fun e w' => Q e ∧ OwnS w0 t s S w' :=
  h.elim fun F h1 => (hc F h1.1).mono fun e w' ⟨he, hb⟩ => ⟨he, h.below hb⟩
/-- Push, whatever the number. -/
theorem OwnS.push (h : OwnS w0 t s S w) (hg : Good s) (i : Int) (hr : s.r.length < 1048576) :
    Calls Try.prog 19 #[ptr t, .int .i64 i] w fun e w' => ∃ s' c, e = .returned (.int .i64 c) ∧ OwnS w0 t s' S w' ∧ Good s' ∧ s'.w = s.w ∧ s'.r.length ≤ s.r.length + 1 ∧
      ((c = 2 ∧ s' = s ∧ knownM s i = false) ∨ (c = 8 ∧ s' = s ∧ ∃ x : Nat, i = (x : Int) ∧ In s x) ∨ (c = 0 ∧ ∃ x : Nat, i = (x : Int) ∧ x < s.w.length ∧ ¬ In s x ∧ s'.r.length = s.r.length + 1 ∧ ∀ y, y < s.w.length → (In s' y ↔ In s y ∨ y = x))) := by
  cases hk : knownM s i with
  | false => exact (h.quiet (Q := fun e => e = .returned (.int .i64 2)) (fun F hF => Push_unknown w t s F i hF hk)).mono fun e w' ⟨he, ho⟩ => ⟨s, 2, he, ho, hg, rfl, by omega, .inl ⟨rfl, rfl, rfl⟩⟩
  | true =>
    obtain ⟨h0, h1⟩ := (known_iff s i).1 hk
    obtain ⟨x, rfl⟩ : ∃ x : Nat, i = (x : Int) := ⟨i.toNat, by omega⟩
    have hx : x < s.w.length := by omega
    have hxp : x < s.p.length := by rw [hg.wf.len]; exact hx
    by_cases hp : 0 ≤ s.p.getD x 0
    · exact (h.quiet (Q := fun e => e = .returned (.int .i64 8)) (fun F hF => Push_twice w t s F x hF hxp hk hp)).mono fun e w' ⟨he, ho⟩ => ⟨s, 8, he, ho, hg, rfl, by omega, .inr (.inl ⟨rfl, rfl, x, rfl, hx, hp⟩)⟩
    · obtain ⟨g1, g2, g3, g4⟩ := push_good hg hx (by show s.p.getD x 0 < 0; omega) hr
      exact (h.turn (s' := pushM s x) (Q := fun e => e = .returned (.int .i64 0)) (fun F hF => Push_new w t s F x hF hg.wf hx (by omega) hr)).mono fun e w' ⟨he, ho⟩ => ⟨_, 0, he, ho, g1, g2, by omega, .inr (.inr ⟨rfl, x, rfl, hx, fun q => hp q.2, g3, fun y hy => by
        unfold In
        rw [g2, g4]
        exact ⟨fun q => q.2.imp (fun r => ⟨hy, r⟩) id, fun q => ⟨hy, q.imp And.right id⟩⟩⟩)⟩
/-- Pop of one that has some. -/
theorem OwnS.pop (h : OwnS w0 t s S w) (hg : Good s) (h0 : 0 < s.r.length) :
    Calls Try.prog 21 #[ptr t] w fun e w' => ∃ s', e = .returned (.tuple #[.int .i64 (R s 0 : Nat), .bool true]) ∧ OwnS w0 t s' S w' ∧ Good s' ∧ s'.w = s.w ∧ s'.r.length + 1 = s.r.length ∧ ∀ y, y < s.w.length → (In s' y ↔ In s y ∧ y ≠ R s 0) := by
  obtain ⟨g1, g2, g3, g4⟩ := pop_good hg h0
  exact (h.turn (s' := popM s) (Q := fun e => e = .returned (.tuple #[.int .i64 (R s 0 : Nat), .bool true])) (fun F hF => Pop_calls w t s F hF hg.wf h0)).mono fun e w' ⟨he, ho⟩ => ⟨_, he, ho, g1, g2, g3, fun y hy => by
    unfold In
    rw [g2, g4 y hy]
    exact ⟨fun q => ⟨⟨hy, q.2.1⟩, q.2.2⟩, fun q => ⟨hy, q.1.2, q.2⟩⟩⟩
theorem OwnS.popNone (h : OwnS w0 t s S w) (h0 : s.r.length = 0) : Calls Try.prog 21 #[ptr t] w fun e w' => e = .returned (.tuple #[.int .i64 0, .bool false]) ∧ OwnS w0 t s S w' :=
  h.quiet (Q := fun e => e = .returned (.tuple #[.int .i64 0, .bool false])) (fun F hF => Pop_none w t s F hF h0)
/-- What Raise answers, and does. -/
def raiseE (s : HS) (i d : Int) : Int := if knownM s i = false ∨ d < 0 then 2 else if d > 4611686018427387904 - s.w.getD i.toNat 0 then 6 else 0
theorem OwnS.raise (h : OwnS w0 t s S w) (hg : Good s) (i d : Int) :
    Calls Try.prog 20 #[ptr t, .int .i64 i, .int .i64 d] w fun e w' => ∃ s', e = .returned (.int .i64 (raiseE s i d)) ∧ OwnS w0 t s' S w' ∧ Good s' ∧ s'.w = (if raiseE s i d = 0 then s.w.set i.toNat (s.w.getD i.toNat 0 + d) else s.w) ∧ s'.r.length = s.r.length ∧ ∀ y, 0 ≤ P s' y ↔ 0 ≤ P s y := by
  unfold raiseE
  by_cases c1 : knownM s i = false ∨ d < 0
  · rw [if_pos c1, if_neg (by decide)]
    exact (h.quiet (Q := fun e => e = .returned (.int .i64 2)) (fun F hF => Raise_arg w t s F i d hF c1)).mono fun e w' ⟨he, ho⟩ => ⟨s, he, ho, hg, rfl, rfl, fun _ => Iff.rfl⟩
  · rw [if_neg c1]
    have hk : knownM s i = true := by
      cases hk : knownM s i with
      | true => rfl
      | false => exact absurd (.inl hk) c1
    obtain ⟨h0, h1⟩ := (known_iff s i).1 hk
    obtain ⟨x, rfl⟩ : ∃ x : Nat, i = (x : Int) := ⟨i.toNat, by omega⟩
    have hx : x < s.w.length := by omega
    have hd : 0 ≤ d := by omega
    rw [Int.toNat_natCast]
    obtain ⟨b0, b1⟩ := hg.wat hx
    by_cases c2 : d > 4611686018427387904 - s.w.getD x 0
    · rw [if_pos c2, if_neg (by decide)]
      exact (h.quiet (Q := fun e => e = .returned (.int .i64 6)) (fun F hF => Raise_over w t s F x d hF hx hd b0 b1 c2)).mono fun e w' ⟨he, ho⟩ => ⟨s, he, ho, hg, rfl, rfl, fun _ => Iff.rfl⟩
    · rw [if_neg c2, if_pos rfl]
      obtain ⟨g1, g2, g3, g4⟩ := raise_good hg hx hd (by omega)
      exact (h.turn (s' := raiseM s x d) (Q := fun e => e = .returned (.int .i64 0)) (fun F hF => Raise_calls w t s F x d hF hg.wf hx hd b0 b1 c2 (fun hp => by
        obtain ⟨i, hi, h1, _⟩ := hg.ps.pr x hx hp
        unfold P at h1
        omega))).mono fun e w' ⟨he, ho⟩ => ⟨_, he, ho, g1, g2, g3, g4⟩
theorem OwnS.weight (h : OwnS w0 t s S w) (i : Int) : Calls Try.prog 22 #[ptr t, .int .i64 i] w fun e w' => e = .returned (.int .i64 (weightM s i)) ∧ OwnS w0 t s S w' :=
  h.quiet (Q := fun e => e = .returned (.int .i64 (weightM s i))) (fun F hF => Weight_calls w t s F i hF)
theorem OwnS.has (h : OwnS w0 t s S w) (hg : Good s) (i : Int) : Calls Try.prog 34 #[ptr t, .int .i64 i] w fun e w' => e = .returned (.bool (hasM s i)) ∧ OwnS w0 t s S w' :=
  h.quiet (Q := fun e => e = .returned (.bool (hasM s i))) (fun F hF => Has_calls w t s F i hF hg.wf.len)
theorem OwnS.len (h : OwnS w0 t s S w) : Calls Try.prog 37 #[ptr t] w fun e w' => e = .returned (.int .i64 s.r.length) ∧ OwnS w0 t s S w' :=
  h.quiet (Q := fun e => e = .returned (.int .i64 s.r.length)) (fun F hF => Len_calls w t s F hF)
theorem OwnS.size (h : OwnS w0 t s S w) : Calls Try.prog 25 #[ptr t] w fun e w' => e = .returned (.int .i64 s.w.length) ∧ OwnS w0 t s S w' :=
  h.quiet (Q := fun e => e = .returned (.int .i64 s.w.length)) (fun F hF => Size_calls w t s F hF)
theorem OwnS.first (h : OwnS w0 t s S w) : Calls Try.prog 31 #[ptr t] w fun e w' => e = .returned (.tuple (if 0 < s.r.length then #[.int .i64 (R s 0 : Nat), .bool true] else #[.int .i64 0, .bool false])) ∧ OwnS w0 t s S w' :=
  h.quiet (Q := fun e => e = .returned (.tuple (if 0 < s.r.length then #[.int .i64 (R s 0 : Nat), .bool true] else #[.int .i64 0, .bool false]))) (fun F hF => First_calls w t s F hF)
theorem OwnS.halve (h : OwnS w0 t s S w) (hg : Good s) : Calls Try.prog 29 #[ptr t] w fun e w' => e = .returned (.tuple #[]) ∧ OwnS w0 t (halveM s) S w' :=
  h.turn (s' := halveM s) (Q := fun e => e = .returned (.tuple #[])) (fun F hF => (Halve_calls w t s F hF hg.wf hg.wt).mono fun e w' ⟨he, hp, hk⟩ => ⟨he, F, hp, hk, fun _ h => .inl h⟩)
end Go.Proofs.Ytegcfaohhcjajaa.HM
