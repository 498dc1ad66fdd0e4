/- When calls that are handed in are such as the laws' walks take. -/
import Derived.Test.YtmgbodmpjholiaaOpsT
import Derived.Test.YtmgbodmpjholiaaManFullLaw
namespace Go.Proofs.Ytmgbodmpjholiaa.BT
open Go.RowKit Go.Proofs.Ytmgbodmpjholiaa.MM Go.Proofs.Ytmgbodmpjholiaa.KM Go.Proofs.Ytmgbodmpjholiaa.TM Go.Proofs.Ytmgbodmpjholiaa.RT Go.Proofs.Ytmgbodmpjholiaa.TW Go.Proofs.Ytmgbodmpjholiaa.Hk
structure OkO (x : S45) : Prop where
  a : wf64 x.f1
  b : wf64 x.f2
  c : wf64 x.f3
  L : ∀ y ∈ x.f4, wf64 y
  fn : wf64 x.f5
  so : wf64 x.f6
  n : wf64 x.f7
  len : x.f4.length ≤ 17592186043904
theorem len_lens (xs : List S45) (x : S45) (h : x ∈ xs) : x.f4.length ≤ lensO xs := by
  induction xs with
  | nil => cases h
  | cons a l ih =>
    have e : lensO (a :: l) = a.f4.length + lensO l := by simp [lensO]
    rcases List.mem_cons.1 h with rfl | h
    · omega
    · have := ih h
      omega
theorem OkO.wf {xs : List S45} {most : Nat} (ht : tameB xs most = true) (h : ∀ x ∈ xs, OkO x) : ∀ x ∈ xs, WfO (opOf x) := fun x hx =>
  have h1 := h x hx
  ⟨h1.a, h1.b, h1.c, h1.L, h1.fn, h1.so, h1.n, by
    have h2 := len_lens xs x hx
    have h3 : lensO xs ≤ 6000 := by
      unfold tameB at ht
      simp at ht
      exact ht.2
    exact Nat.le_trans h2 h3⟩
theorem OkO.of {x : S45} (h : ((Lit.int .i64 x.f0).wf = true) ∧ ((Lit.int .i64 x.f1).wf = true) ∧ ((Lit.int .i64 x.f2).wf = true) ∧ ((Lit.int .i64 x.f3).wf = true) ∧ ((∀ y ∈ x.f4, (Lit.int .i64 y).wf = true) ∧ x.f4.length * 8 ≤ 140737488351232) ∧ ((Lit.int .i64 x.f5).wf = true) ∧ ((Lit.int .i64 x.f6).wf = true) ∧ ((Lit.int .i64 x.f7).wf = true) ∧ (True)) : OkO x :=
  ⟨wf_i64 h.2.1, wf_i64 h.2.2.1, wf_i64 h.2.2.2.1, fun y hy => wf_i64 (h.2.2.2.2.1.1 y hy), wf_i64 h.2.2.2.2.2.1, wf_i64 h.2.2.2.2.2.2.1, wf_i64 h.2.2.2.2.2.2.2.1, by have := h.2.2.2.2.1.2; omega⟩
end Go.Proofs.Ytmgbodmpjholiaa.BT
