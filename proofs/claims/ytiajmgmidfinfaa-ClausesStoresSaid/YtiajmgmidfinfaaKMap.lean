/- Maps of a call's own whose keys tell things of any kind: what a look-up, a store and the length do. Over any program. -/
import Derived.Maps.OwnOps
import Derived.Maps.OwnSet
import Derived.Maps.Range
import Derived.WalkKit
namespace Go.Proofs.Ytiajmgmidfinfaa.KM
open Go.Maps
set_option linter.unusedVariables false

/-- Each element tells itself. -/
def raw (v : Value) : Option (DataW Value × List MemPlace) := some (.held v, [])
/-- Block b is a map of n entries; at the key that tells a it holds g a. -/
def KMap (P : Program) (K : TypeId) {α : Type} (val : α → Value) (w : World) (b n : Nat) (g : α → Option Value) : Prop :=
  ∃ D : DataW Value, w.ownsMap P K raw b n D ∧ Maps.size D = n ∧ ∀ a kl, keyOf P K (val a) = some kl → ∀ z : DataW Value, D.atKey kl z = (match g a with | some v => .held v | none => z)
open Classical in
noncomputable def upd {α β : Type} (g : α → Option β) (k : α) (v : β) : α → Option β := fun y => if y = k then some v else g y

variable {P : Program} {K E : TypeId} {α : Type} {val : α → Value} {w w1 : World} {b n : Nat} {g : α → Option Value}

theorem KMap.made (w : World) : KMap P K val (w.alloc (.map #[] 0)) w.heap.size 0 (fun _ => none) := ⟨.map [], World.ownsMap_made _ _ _ _, rfl, fun _ _ _ _ => rfl⟩
theorem KMap.lt (h : KMap P K val w b n g) : b < w.heap.size := by obtain ⟨D, h, _⟩ := h; exact h.lt
theorem KMap.move (h : KMap P K val w b n g) (hm : w1.heap[b]? = w.heap[b]?) : KMap P K val w1 b n g := by
  obtain ⟨D, ⟨es, cl, h1, h2⟩, h3⟩ := h
  exact ⟨D, ⟨es, cl, hm.trans h1, h2⟩, h3⟩
theorem KMap.obj (h : KMap P K val w b n g) : ∃ es cl, w.heap[b]? = some (.map es cl) := by
  obtain ⟨D, ⟨es, cl, h1, _⟩, _⟩ := h
  exact ⟨es, cl, h1⟩
theorem KMap.congr {g' : α → Option Value} (h : KMap P K val w b n g) (e : ∀ a, g a = g' a) : KMap P K val w b n g' := by
  have : g = g' := funext e
  rw [← this]
  exact h
theorem KMap.has {D : DataW Value} {kl : Lit} {r : Option Value} (h : ∀ z : DataW Value, D.atKey kl z = (match r with | some v => .held v | none => z)) : Maps.has D kl = r.isSome := by
  cases e : r with
  | none => exact Maps.has_false_of_atKey (fun zd => by rw [h zd, e])
  | some u => exact Maps.has_true_of_atKey (y := .held u) (fun zd => by rw [h zd, e])
theorem KMap.look_ok {t : TypeId} (h : KMap P K val w b n g) (hK : Keyed P K) (ht : P.underlying t = some (.map K E)) {z : Value} (hz : (zeroValue E).run P w = .ok z w) {a : α} (hkey : ∃ kl, keyOf P K (val a) = some kl) :
    (Instr.lookup t (.map (some b)) (val a) true).run P w = .ok (.tuple #[(g a).getD z, .bool (g a).isSome]) w := by
  obtain ⟨D, hown, _, hat⟩ := h
  obtain ⟨kl, hkey⟩ := hkey
  obtain ⟨v, ps, hrun, hv⟩ := hown.look_ok hK ht hz (zd := .held z) (zp := []) rfl hkey
  rw [hat a kl hkey] at hv
  rw [hrun, KMap.has (hat a kl hkey)]
  cases h : g a with
  | none => rw [h] at hv; injection hv with hv; injection hv with hv _; injection hv with hv; rw [hv]; rfl
  | some u => rw [h] at hv; injection hv with hv; injection hv with hv _; injection hv with hv; rw [hv]; rfl
theorem KMap.look {t : TypeId} (h : KMap P K val w b n g) (hK : Keyed P K) (ht : P.underlying t = some (.map K E)) {z : Value} (hz : (zeroValue E).run P w = .ok z w) {a : α} (hkey : ∃ kl, keyOf P K (val a) = some kl) :
    (Instr.lookup t (.map (some b)) (val a) false).run P w = .ok ((g a).getD z) w := by
  obtain ⟨D, hown, _, hat⟩ := h
  obtain ⟨kl, hkey⟩ := hkey
  obtain ⟨v, ps, hrun, hv⟩ := hown.lookup hK ht hz (zd := .held z) (zp := []) rfl hkey
  rw [hat a kl hkey] at hv
  rw [hrun]
  cases h : g a with
  | none => rw [h] at hv; injection hv with hv; injection hv with hv _; injection hv with hv; rw [hv]; rfl
  | some u => rw [h] at hv; injection hv with hv; injection hv with hv _; injection hv with hv; rw [hv]; rfl
theorem KMap.len {t : TypeId} (h : KMap P K val w b n g) (ht : P.underlying t = some (.map K E)) (ty : TypeId) : (Builtin.len_ #[t] ty #[.map (some b)]).run P w = .ok (.int .i64 n) w := by
  obtain ⟨D, hown, hs, _⟩ := h
  rw [hown.len ht ty, hs]
/-- A key more. -/
theorem KMap.store {t : TypeId} (h : KMap P K val w b n g) (hK : Keyed P K) (ht : P.underlying t = some (.map K E)) (hn : n < maxLen) {a : α} (hkey : ∃ kl, keyOf P K (val a) = some kl) (hval : ∀ x y, val x = val y → x = y) (hg : g a = none) (v : Value) :
    ∃ w', (Instr.mapUpdate t (.map (some b)) (val a) v).run P w = .ok () w' ∧ KMap P K val w' b (n + 1) (upd g a v) ∧ w.grownBy w' (some b) := by
  obtain ⟨D, hown, hs, hat⟩ := h
  obtain ⟨kl, hkey⟩ := hkey
  obtain ⟨w', hrun, h1, h2⟩ := hown.update hK ht hn (d := .held v) (ps := []) hkey rfl
  refine ⟨w', hrun, ⟨_, h1, ?_, fun y ly hy z => ?_⟩, h2⟩
  · rw [Maps.size_put (hown.tidy hK), KMap.has (hat a kl hkey), hg, hs]
    rfl
  · unfold upd
    by_cases e : y = a
    · subst e
      rw [hkey] at hy
      cases hy
      rw [if_pos rfl, Maps.atKey_put_same hown.isMap (hK.key hkey)]
    · have hne : ly ≠ kl := fun h3 => e (hval _ _ (hK.inj (h3 ▸ hy) hkey))
      rw [if_neg e, Maps.atKey_put_other hne, hat y ly hy]
/-- The world behind a store. -/
noncomputable def putW (P : Program) (t : TypeId) (w : World) (b : Nat) (key v : Value) : World :=
  match (Instr.mapUpdate t (.map (some b)) key v).run P w with
  | .ok _ w' => w'
  | _ => w
theorem KMap.put_run {t : TypeId} (h : KMap P K val w b n g) (hK : Keyed P K) (ht : P.underlying t = some (.map K E)) (hn : n < maxLen) {a : α} (hkey : ∃ kl, keyOf P K (val a) = some kl) (hval : ∀ x y, val x = val y → x = y) (hg : g a = none) (v : Value) :
    (Instr.mapUpdate t (.map (some b)) (val a) v).run P w = .ok () (putW P t w b (val a) v) ∧ KMap P K val (putW P t w b (val a) v) b (n + 1) (upd g a v) ∧ w.grownBy (putW P t w b (val a) v) (some b) := by
  obtain ⟨w', hrun, h1, h2⟩ := h.store hK ht hn hkey hval hg v
  have : putW P t w b (val a) v = w' := by unfold putW; rw [hrun]
  rw [this]
  exact ⟨hrun, h1, h2⟩
theorem wp_len_k (w : World) {ops : Array Oper} {rest : List Oper} {o : Oper} {a : Act} {Q : Exit → Act → World → Prop} (hg : o.guard = none) (m : Operand) (t : TypeId) (hop : o.op = Op.call { callee := Callee.builtin Builtin.len, args := #[m], argTypes := #[t] })
    (ht : P.underlying t = some (.map K E)) (b n : Nat) (g : α → Option Value) (h : KMap P K val w b n g) (hm : a.eval m = .map (some b))
    (hQ : wpList P ops Q rest (a.put o.dst (.int .i64 n)) w) : wpList P ops Q (o :: rest) a w := by
  obtain ⟨D, hown, hs, _⟩ := h
  refine wpList_len_own w hg m t hop K E ht raw b n D hm hown ?_
  rw [hs]
  exact hQ
theorem wp_update_k (w : World) {ops : Array Oper} {rest : List Oper} {o : Oper} {a : Act} {Q : Exit → Act → World → Prop} (hg : o.guard = none) (m x v : Operand) (t : TypeId) (hop : o.op = Op.mapUpdate t m x v)
    (hK : Keyed P K) (ht : P.underlying t = some (.map K E)) (b n : Nat) (g : α → Option Value) (h : KMap P K val w b n g) (k : α) (u : Value) (hm : a.eval m = .map (some b)) (hx : a.eval x = val k) (hv : a.eval v = u) (hkey : ∃ kl, keyOf P K (val k) = some kl) (hval : ∀ x y, val x = val y → x = y) (hgk : g k = none) (hn : n < maxLen)
    (hQ : ∀ w', KMap P K val w' b (n + 1) (upd g k u) → w.grownBy w' (some b) → wpList P ops Q rest (a.put o.dst undef) w') : wpList P ops Q (o :: rest) a w := by
  refine wpList_plain hg fun K' hK' => ?_
  obtain ⟨w', hrun, h1, h2⟩ := h.store hK ht hn hkey hval hgk u
  unfold Oper.wp
  simp [execOp, hop, hm, hx, hv, hrun, Result.andThen]
  exact hK' _ _ (hQ w' h1 h2)
end Go.Proofs.Ytiajmgmidfinfaa.KM
