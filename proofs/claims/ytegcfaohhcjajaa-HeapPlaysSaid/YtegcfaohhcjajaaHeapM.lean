/- The heap of layer 2 in plain Lean, and its calls: who stands ahead, what is set, up, down. -/
import Derived.Test.YtegcfaohhcjajaaChecked
import Derived.Test.YtegcfaohhcjajaaOb
import Derived.Test.YtegcfaohhcjajaaWMore
import Derived.Test.YtegcfaohhcjajaaWGuard
import Derived.Test.YtegcfaohhcjajaaWLast
import Derived.WalkKit
import Derived.WalkSpells
import Derived.IntWalk
import Derived.BigQuiet
import Derived.Deep.LoopGhost
import Derived.Deep.DrawnRows
import Derived.Deep.QuietTactic
namespace Go.Proofs.Ytegcfaohhcjajaa.HM
open Go.RowKit Go.Proofs.YtegcfaohhcjajaaW.PrintWords Go.Proofs.YtegcfaohhcjajaaW.PrintLast Go.Proofs.YtegcfaohhcjajaaW.PrintMore Go.Proofs.Ytegcfaohhcjajaa.MM
attribute [local go_sem ↓] Go.wp_at_zero Go.wp_at_succ
set_option linter.unusedSimpArgs false
set_option linter.unusedVariables false

/-- Weights, places, the heap; the weights' slice, which stays. -/
structure HS where
  w : List Int
  p : List Int
  r : List Nat
  v : Value
def aheadM (w : List Int) (a b : Nat) : Bool := decide (w.getD a 0 > w.getD b 0) || (decide (w.getD a 0 = w.getD b 0) && decide (a < b))
def setM (s : HS) (at_ i : Nat) : HS := { s with r := s.r.set at_ i, p := s.p.set i (at_ : Int) }
def upL : Nat → HS → Nat → Nat → HS
  | 0, s, i, at_ => setM s at_ i
  | k + 1, s, i, at_ => if 0 < at_ ∧ aheadM s.w i (s.r.getD ((at_ - 1) / 2) 0) = true then upL k (setM s at_ (s.r.getD ((at_ - 1) / 2) 0)) i ((at_ - 1) / 2) else setM s at_ i
def upM (s : HS) (at_ : Nat) : HS := upL at_ s (s.r.getD at_ 0) at_
/-- The one of two below a place that stands ahead. -/
def nextM (s : HS) (at_ : Nat) : Nat := if 2 * at_ + 2 < s.r.length ∧ aheadM s.w (s.r.getD (2 * at_ + 2) 0) (s.r.getD (2 * at_ + 1) 0) = true then 2 * at_ + 2 else 2 * at_ + 1
def downL : Nat → HS → Nat → Nat → HS
  | 0, s, i, at_ => setM s at_ i
  | k + 1, s, i, at_ => if 2 * at_ + 1 < s.r.length ∧ aheadM s.w (s.r.getD (nextM s at_) 0) i = true then downL k (setM s at_ (s.r.getD (nextM s at_) 0)) i (nextM s at_) else setM s at_ i
def downM (s : HS) (at_ : Nat) : HS := downL s.r.length s (s.r.getD at_ 0) at_
/-- All numbers are known. -/
structure Wf (s : HS) : Prop where
  len : s.p.length = s.w.length
  big : s.w.length ≤ 1048576
  rbig : s.r.length ≤ 1048576
  row : ∀ x ∈ s.r, x < s.w.length
theorem getD_mem {l : List Nat} {i : Nat} (h : i < l.length) : l.getD i 0 ∈ l := by
  rw [List.getD_eq_getElem?_getD, List.getElem?_eq_getElem h]
  exact List.getElem_mem h
theorem Wf.at {s : HS} (h : Wf s) {i : Nat} (hi : i < s.r.length) : s.r.getD i 0 < s.w.length := h.row _ (getD_mem hi)
theorem Wf.set {s : HS} (h : Wf s) {at_ i : Nat} (hi : i < s.w.length) : Wf (setM s at_ i) where
  len := by simp [setM, h.len]
  big := h.big
  rbig := by simpa [setM] using h.rbig
  row := fun x hx => by
    rcases List.mem_or_eq_of_mem_set hx with hx | rfl
    · exact h.row x hx
    · exact hi
@[simp] theorem setM_rlen (s : HS) (a i : Nat) : (setM s a i).r.length = s.r.length := by simp [setM]
@[simp] theorem setM_w (s : HS) (a i : Nat) : (setM s a i).w = s.w := rfl

/-- The heap in memory. -/
abbrev HpO (w : World) (t : Nat) (vw vp vr : Value) (s : HS) (F : Nat → Prop) : Prop := Ob 67 w t [vw, vp, vr] [(2, lits s.w), (3, lits s.p), (3, nats s.r)] F
def Hp (w : World) (t : Nat) (s : HS) (F : Nat → Prop) : Prop := ∃ vw vp vr, HpO w t vw vp vr s F ∧ Hid (vw = s.v)
abbrev ptr (t : Nat) : Value := .pointer (some ⟨t, 0, none⟩)
/-- All of it but the weights' block. -/
abbrev Fv (s : HS) (F : Nat → Prop) : Nat → Prop := fun j => F j ∧ s.v.ownBlock ≠ some j
/-- What a call leaves. -/
def Left (w : World) (t : Nat) (s : HS) (F : Nat → Prop) (w' : World) : Prop := ∃ F', Hp w' t s F' ∧ Keep F w w' ∧ ∀ j, F' j → F j ∨ w.heap.size ≤ j
theorem Hp.below {w w1 : World} {t : Nat} {s : HS} {F : Nat → Prop} (h : Hp w t s F) (hb : Below w.heap.size w w1) : Hp w1 t s F := by
  obtain ⟨vw, vp, vr, h, hv⟩ := h
  exact ⟨vw, vp, vr, h.below hb, hv⟩
theorem lits_get (l : List Int) (i : Nat) (h : i < l.length) : (lits l)[i]? = some (.int .i64 (l.getD i 0)) := by simp [lits, h]
theorem nats_get (l : List Nat) (i : Nat) (h : i < l.length) : (nats l)[i]? = some (.int .i64 (l.getD i 0 : Nat)) := by simp [nats, h]
theorem lits_set (l : List Int) (i : Nat) (x : Int) : lits (l.set i x) = (lits l).set i (.int .i64 x) := List.map_set ..
theorem nats_set (l : List Nat) (i : Nat) (x : Nat) : nats (l.set i x) = (nats l).set i (.int .i64 x) := List.map_set ..
/-- A slice of it that shows something. -/
theorem row_at {ts : TypeId} {w : World} {t : Nat} {cs : List Value} {rs : List (TypeId × List Value)} {F : Nat → Prop} (h : Ob ts w t cs rs F) (i : Nat) (e : TypeId) (xs : List Value) (v : Value) (hr : rs[i]? = some (e, xs)) (hv : cs[i]? = some v) (h0 : 0 < xs.length) :
    ∃ g off cap, v = .slice (some ⟨g, off, none⟩) xs.length cap ∧ xs.length ≤ cap ∧ g < w.heap.size ∧ (∀ i, i < xs.length → w.cell? ⟨g, off + i, none⟩ = xs[i]?) ∧ ∀ o, w.frozen? ⟨g, o, none⟩ = false := by
  obtain ⟨g, off, cap, h1, h2, _, h3, h4, h5⟩ := (h.row i e xs v hr hv).cells h0
  exact ⟨g, off, cap, h1, h2, h3, h4, h5⟩

/-! #### ahead -/
set_option maxHeartbeats 3200000 in
theorem ahead_walk (w : World) (t g off cap n a b : Nat) (xa xb : Int) (hc : w.cell? ⟨t, 0, none⟩ = some (.slice (some ⟨g, off, none⟩) n cap)) (hxa : w.cell? ⟨g, off + a, none⟩ = some (.int .i64 xa)) (hxb : w.cell? ⟨g, off + b, none⟩ = some (.int .i64 xb)) (ha : a < n) (hb : b < n) :
    Calls Try.prog 50 #[ptr t, .int .i64 a, .int .i64 b] w fun e w' => e = .returned (.bool (decide (xa > xb) || (decide (xa = xb) && decide (a < b)))) ∧ ∃ m, w' = w.drewN m := by
  have ha' : (a : Int) < (n : Int) := by omega
  have hb' : (b : Int) < (n : Int) := by omega
  by_cases c1 : xa > xb
  · have e1 : decide (xb < xa) = true := decide_eq_true c1
    rw [decide_eq_true c1, Bool.true_or]
    go_enter Try.func50, Try.ntmps50
    go_wp2
    repeat (go_quiet (fail); try go_wp2)
    trace_state
    go_ret
    exact ⟨rfl, _, rfl⟩
  · have e1 : decide (xb < xa) = false := decide_eq_false c1
    rw [decide_eq_false c1, Bool.false_or]
    by_cases c2 : xa = xb
    · have e2 : (xa == xb) = true := beq_iff_eq.mpr c2
      rw [decide_eq_true c2, Bool.true_and]
      by_cases c3 : a < b
      · have e3 : decide ((a : Int) < (b : Int)) = true := by simpa using c3
        rw [decide_eq_true c3]
        clear c2
        go_enter Try.func50, Try.ntmps50
        go_wp2
        repeat (go_quiet (fail); try go_wp2)
        go_ret
        exact ⟨rfl, _, rfl⟩
      · have e3 : decide ((a : Int) < (b : Int)) = false := by simp; omega
        rw [decide_eq_false c3]
        clear c2
        go_enter Try.func50, Try.ntmps50
        go_wp2
        repeat (go_quiet (fail); try go_wp2)
        go_ret
        exact ⟨rfl, _, rfl⟩
    · have e2 : (xa == xb) = false := by simpa using c2
      rw [decide_eq_false c2, Bool.false_and]
      go_enter Try.func50, Try.ntmps50
      go_wp2
      repeat (go_quiet (fail); try go_wp2)
      go_ret
      exact ⟨rfl, _, rfl⟩
theorem ahead_quiet (w : World) (t : Nat) (s : HS) (F : Nat → Prop) (a b : Nat) (h : Hp w t s F) (ha : a < s.w.length) (hb : b < s.w.length) :
    Calls Try.prog 50 #[ptr t, .int .i64 a, .int .i64 b] w fun e w' => e = .returned (.bool (aheadM s.w a b)) ∧ ∃ m, w' = w.drewN m := by
  obtain ⟨vw, vp, vr, h, HV⟩ := h
  obtain ⟨g, off, cap, hv, hcap, hg, hcells, _⟩ := row_at h 0 _ _ vw rfl rfl (by simp; omega)
  rw [List.length_map] at hv hcap
  subst hv
  have hxa := hcells a (by simpa using ha)
  have hxb := hcells b (by simpa using hb)
  rw [lits_get _ _ ha] at hxa
  rw [lits_get _ _ hb] at hxb
  exact ahead_walk w t g off cap _ a b _ _ (h.cell 0 _ rfl) hxa hxb ha hb
theorem Hp.drewN {w : World} {t : Nat} {s : HS} {F : Nat → Prop} (h : Hp w t s F) (m : Nat) : Hp (w.drewN m) t s F := h.below (pw_below_drewN (Below.refl _ _) m)
theorem ahead_calls (w : World) (t : Nat) (s : HS) (F : Nat → Prop) (a b : Nat) (h : Hp w t s F) (ha : a < s.w.length) (hb : b < s.w.length) :
    Calls Try.prog 50 #[ptr t, .int .i64 a, .int .i64 b] w fun e w' => e = .returned (.bool (aheadM s.w a b)) ∧ Below w.heap.size w w' :=
  (ahead_quiet w t s F a b h ha hb).mono fun e w' ⟨he, m, hm⟩ => ⟨he, by rw [hm]; exact pw_below_drewN (Below.refl _ _) m⟩
end Go.Proofs.Ytegcfaohhcjajaa.HM
