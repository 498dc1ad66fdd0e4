/- The law TermsOnce in plain Lean: what a call made, once more. -/
import Derived.Test.YtmgbodmpjholiaaTermPO
namespace Go.Proofs.Ytmgbodmpjholiaa.TM
open Go.Proofs.Ytmgbodmpjholiaa.BT
set_option linter.unusedVariables false

def Exts (l : List NodeM) (r : Ans) : Prop := ∃ d, r.2.2 = l ++ d
theorem exts_same (l : List NodeM) (t e : Int) : Exts l (t, e, l) := ⟨[], by simp⟩
theorem exts_put (l : List NodeM) (n : NodeM) : Exts l (putM l n) := put_ext l n
theorem exts_if {c : Prop} [Decidable c] {l : List NodeM} {r s : Ans} (h1 : Exts l r) (h2 : Exts l s) : Exts l (if c then r else s) := by
  split
  · exact h1
  · exact h2
theorem exts_num (l : List NodeM) (n : Int) : Exts l (numM l n) := exts_if (exts_same ..) (exts_put ..)
theorem exts_many (l : List NodeM) (op z : Int) (xs : List Int) : Exts l (manyM l op z xs) :=
  exts_if (exts_same ..) (exts_if (exts_same ..) (exts_if (exts_same ..) (exts_if (exts_same ..) (exts_if (exts_same ..) (exts_put ..)))))
theorem made_ext (l : List NodeM) (o : OpM) : Exts l (madeM l o) :=
  exts_if (exts_if (exts_same ..) (exts_if (exts_same ..) (exts_put ..))) <| exts_if (exts_many ..) <| exts_if (exts_many ..) <| exts_if (exts_if (exts_same ..) (exts_if (exts_same ..) (exts_put ..))) <|
  exts_if (exts_if (exts_same ..) (exts_if (exts_same ..) (exts_if (exts_same ..) (exts_put ..)))) <| exts_if (exts_if (exts_same ..) (exts_if (exts_same ..) (exts_if (exts_same ..) (exts_if (exts_same ..) (exts_put ..))))) <|
  exts_if (exts_num ..) <|
  exts_if (exts_if (exts_same ..) (exts_if (exts_same ..) (exts_if (exts_same ..) (exts_if (exts_num ..) (exts_if (exts_same ..) (exts_put ..)))))) <|
  exts_if (exts_if (exts_same ..) (exts_if (exts_same ..) (exts_if (exts_same ..) (exts_if (exts_same ..) (exts_if (exts_same ..) (exts_if (exts_if (exts_same ..) (exts_same ..)) (exts_put ..))))))) (exts_same ..)
/-- The call o once made the term t. -/
def Told (S : List NodeM) (o : OpM) (t : Int) : Prop := o.m = false ∧ ∃ S0 e, (madeM S0 o).1 = t ∧ (madeM S0 o).2.1 = 0 ∧ S = (madeM S0 o).2.2 ++ e
theorem Told.made {S : List NodeM} {o : OpM} (hm : o.m = false) (h : (madeM S o).2.1 = 0) : Told (madeM S o).2.2 o (madeM S o).1 := ⟨hm, S, [], rfl, h, by simp⟩
theorem Told.more {S : List NodeM} {o : OpM} {t : Int} (h : Told S o t) (o' : OpM) : Told (madeM S o').2.2 o t := by
  obtain ⟨hm, S0, e, h1, h2, h3⟩ := h
  obtain ⟨d, hd⟩ := made_ext S o'
  exact ⟨hm, S0, e ++ d, h1, h2, by rw [hd, h3, List.append_assoc]⟩
theorem Told.again {S : List NodeM} {o : OpM} {t : Int} (h : Told S o t) : madeM S o = (t, 0, S) := by
  obtain ⟨hm, S0, e, h1, h2, h3⟩ := h
  have := made_again S0 o hm h2 e
  rw [h3, ← h1]
  exact this
/-- The call as it was, its terms told. -/
def toldO (S : List NodeM) (o : OpM) : OpM := ⟨o.kd, near1 S o o.a, near1 S o o.b, near1 S o o.c, nearL S o o.L, o.fn, o.so, o.n, false⟩
theorem toldO.wf {S : List NodeM} {o : OpM} (h : WfO o) (hS : S.length ≤ 20000) : WfO (toldO S o) :=
  ⟨nearM_wf h.a hS, nearM_wf h.b hS, nearM_wf h.c hS, fun x hx => by
    obtain ⟨y, hy, rfl⟩ := List.mem_map.1 hx
    exact nearM_wf (h.L y hy) hS, h.fn, h.so, h.n, by
    show (List.map _ _).length ≤ _
    rw [List.length_map]
    exact h.len⟩
end Go.Proofs.Ytmgbodmpjholiaa.TM
