/- What stands beside an object in memory. -/
import Derived.Test.YtiajmgmidfinfaaOb
namespace Go.Proofs.Ytiajmgmidfinfaa.TW
open Go.RowKit Go.Proofs.YtiajmgmidfinfaaW.PrintWords Go.Proofs.Ytiajmgmidfinfaa.MM
set_option linter.unusedVariables false

/-- What stands beside: said of a world, and of some blocks alone. -/
structure Side where
  P : World → Prop
  D : Nat → Prop
  mv : ∀ {H : Nat → Prop} {w w1 : World}, Keep H w w1 → (∀ j, D j → ¬ H j) → P w → P w1
  lt : ∀ w, P w → ∀ j, D j → j < w.heap.size
def Side.nothing : Side := ⟨fun _ => True, fun _ => False, fun _ _ h => h, fun _ _ _ h => h.elim⟩
def Side.obj (b : Nat) (o : Obj) : Side := ⟨fun w => w.heap[b]? = some o, fun j => j = b, fun hk hd h => hk.blk h (hd b rfl), fun w h j hj => by rw [hj]; exact blk_lt h⟩
def Side.row (e : TypeId) (v : Value) (xs : List Value) : Side := ⟨fun w => Row w e v xs, fun j => v.ownBlock = some j, fun hk hd h => h.keep hk hd, fun w h j hj => h.lt j hj⟩
def Side.and (a b : Side) : Side := ⟨fun w => a.P w ∧ b.P w, fun j => a.D j ∨ b.D j, fun hk hd h => ⟨a.mv hk (fun j hj => hd j (.inl hj)) h.1, b.mv hk (fun j hj => hd j (.inr hj)) h.2⟩, fun w h j hj => hj.elim (a.lt w h.1 j) (b.lt w h.2 j)⟩
end Go.Proofs.Ytiajmgmidfinfaa.TW
