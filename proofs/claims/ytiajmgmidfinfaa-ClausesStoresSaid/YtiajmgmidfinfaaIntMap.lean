/- Maps of the call's own from whole numbers to whole numbers, told as functions: what a look-up and a store do. Over any program. -/
import Derived.Maps.OwnOps
import Derived.Maps.OwnSet
import Derived.WalkKit
namespace Go.Proofs.Ytiajmgmidfinfaa.IM
open Go.RowKit Go.Maps

/-- Block b is a map of at most n entries, which is f (0 where nothing is). -/
def IMap (P : Program) (K E : TypeId) (w : World) (b n : Nat) (f : Int → Int) : Prop :=
  ∃ D : DataW Unit, w.ownsMap P K (plainElem P E) b n D ∧ ∀ x : Int, (Lit.int .i64 x).wf = true → D.atKey (.int .i64 x) (.lit (.int .i64 0)) = .lit (.int .i64 (f x))
def upd (f : Int → Int) (x v : Int) : Int → Int := fun y => if y = x then v else f y

variable {P : Program} {K E : TypeId} {w w1 : World} {b n : Nat} {f : Int → Int}

theorem IMap.made (w : World) : IMap P K E (w.alloc (.map #[] 0)) w.heap.size 0 (fun _ => 0) := ⟨.map [], World.ownsMap_made _ _ _ _, fun _ _ => rfl⟩
theorem IMap.lt (h : IMap P K E w b n f) : b < w.heap.size := by obtain ⟨D, h, _⟩ := h; exact h.lt
theorem IMap.move (h : IMap P K E w b n f) (hm : w1.heap[b]? = w.heap[b]?) : IMap P K E w1 b n f := by
  obtain ⟨D, ⟨es, cl, h1, h2⟩, h3⟩ := h
  exact ⟨D, ⟨es, cl, hm.trans h1, h2⟩, h3⟩
theorem IMap.below (h : IMap P K E w b n f) (hb : Below w.heap.size w w1) : IMap P K E w1 b n f := h.move (hb.block b h.lt)
theorem IMap.congr {g : Int → Int} (h : IMap P K E w b n f) (e : ∀ x, (Lit.int .i64 x).wf = true → f x = g x) : IMap P K E w b n g := by
  obtain ⟨D, h1, h2⟩ := h
  exact ⟨D, h1, fun x hx => by rw [h2 x hx, e x hx]⟩
theorem IMap.more (h : IMap P K E w b n f) {m : Nat} (hm : n ≤ m) : IMap P K E w b m f := by
  obtain ⟨D, h1, h2⟩ := h
  exact ⟨D, h1.mono hm, h2⟩

theorem wp_lookup_imap (w : World) {ops : Array Oper} {rest : List Oper} {o : Oper} {a : Act} {Q : Exit → Act → World → Prop} (hg : o.guard = none) (m x : Operand) (t : TypeId) (hop : o.op = Op.lookup t m x false)
    (hk : P.underlying K = some (.int .i64)) (he : P.underlying E = some (.int .i64)) (ht : P.underlying t = some (.map K E)) (hz : (zeroValue E).run P w = .ok (.int .i64 0) w)
    (b n : Nat) (f : Int → Int) (h : IMap P K E w b n f) (key : Int) (hm : a.eval m = .map (some b)) (hx : a.eval x = .int .i64 key) (hwf : (Lit.int .i64 key).wf = true)
    (hK : wpList P ops Q rest (a.put o.dst (.int .i64 (f key))) w) : wpList P ops Q (o :: rest) a w := by
  obtain ⟨D, hown, hat⟩ := h
  refine wpList_lookup_own_int w hg m x t hop K E .i64 (int_keyed hk) ht he hz b n D hm hown (.int .i64 key) (.int .i64 key) hx (keyOf_int_mk hk hwf) ?_
  intro c hc _
  rw [hat key hwf] at hc
  injection hc with hc
  injection hc with _ hc
  subst hc
  exact hK

theorem isKey (x : Int) : WideAt.IsKeyLit (.int .i64 x) := by
  first | exact trivial | exact rfl | simp [WideAt.IsKeyLit]

theorem wp_update_imap (w : World) {ops : Array Oper} {rest : List Oper} {o : Oper} {a : Act} {Q : Exit → Act → World → Prop} (hg : o.guard = none) (m x v : Operand) (t : TypeId) (hop : o.op = Op.mapUpdate t m x v)
    (hk : P.underlying K = some (.int .i64)) (he : P.underlying E = some (.int .i64)) (ht : P.underlying t = some (.map K E))
    (b n : Nat) (f : Int → Int) (h : IMap P K E w b n f) (key val : Int) (hm : a.eval m = .map (some b)) (hx : a.eval x = .int .i64 key) (hv : a.eval v = .int .i64 val) (hwf : (Lit.int .i64 key).wf = true) (hwv : (Lit.int .i64 val).wf = true) (hn : n < maxLen)
    (hK : ∀ w', IMap P K E w' b (n + 1) (upd f key val) → w.grownBy w' (some b) → wpList P ops Q rest (a.put o.dst undef) w') : wpList P ops Q (o :: rest) a w := by
  obtain ⟨D, hown, hat⟩ := h
  refine wpList_mapUpdate_own w hg m x v t hop K E (int_keyed hk) ht _ b n D hm hown hn (.int .i64 key) (.int .i64 val) (.int .i64 key) hx hv (keyOf_int_mk hk hwf) (.lit (.int .i64 val)) [] (plainElem_int he hwv) ?_
  intro w' hown' hg'
  refine hK w' ⟨_, hown', fun y hy => ?_⟩ hg'
  unfold upd
  by_cases e : y = key
  · subst e
    rw [if_pos rfl, Maps.atKey_put_same hown.isMap (isKey y)]
  · rw [if_neg e, Maps.atKey_put_other (by intro h; injection h with _ h; exact e h), hat y hy]
end Go.Proofs.Ytiajmgmidfinfaa.IM
