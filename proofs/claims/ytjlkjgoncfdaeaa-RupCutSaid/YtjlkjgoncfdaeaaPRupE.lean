/- Plain laws of rup: with more clauses and more given literals, more comes. -/
import Derived.Test.YtjlkjgoncfdaeaaHkx0
import Derived.Test.YtjlkjgoncfdaeaaPRups
namespace Go.Proofs.Ytjlkjgoncfdaeaa.Pure
open Go.RowKit Go.Proofs.Ytjlkjgoncfdaeaa.Hk Go.Proofs.YtjlkjgoncfdaeaaW.PrintWords Go.Proofs.YtjlkjgoncfdaeaaW.PrintLast Go.Proofs.YtjlkjgoncfdaeaaW.PrintMore Go.Proofs.Ytjlkjgoncfdaeaa.LF Go.Proofs.Ytjlkjgoncfdaeaa.MC Go.Proofs.Ytjlkjgoncfdaeaa.RM

theorem drv_more {db db' : List (List Int)} {g g' : List Int} (hd : ∀ c ∈ db, c ∈ db') (hg : ∀ x ∈ g, x ∈ g') {x : Int} (h : Drv db g x) : Drv db' g' x :=
  Drv.least (S := Drv db' g') (fun x hx => .given (hg x hx)) (fun _ hc _ hx hy => .unit (hd _ hc) hx hy) h
theorem conf_more {db db' : List (List Int)} {g g' : List Int} (hd : ∀ c ∈ db, c ∈ db') (hg : ∀ x ∈ g, x ∈ g') (h : Conf db g) : Conf db' g' := by
  rcases h with h | ⟨x, h1, h2⟩
  · exact .inl (hd _ h)
  · exact .inr ⟨x, drv_more hd hg h1, drv_more hd hg h2⟩
theorem fol_more {db db' : List (List Int)} {c : List Int} (hd : ∀ d ∈ db, d ∈ db') (h : fol db c = true) : fol db' c = true := by
  rcases fol_iff.1 h with h | h
  · exact fol_iff.2 (.inl (conf_more hd (fun _ h => h) h))
  · exact fol_iff.2 (.inr h)
end Go.Proofs.Ytjlkjgoncfdaeaa.Pure
