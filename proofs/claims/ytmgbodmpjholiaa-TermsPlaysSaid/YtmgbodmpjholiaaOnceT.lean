/- The law TermsOnce: what its loops hold in memory. -/
import Derived.Test.YtmgbodmpjholiaaOnceM
import Derived.Test.YtmgbodmpjholiaaOpers
import Derived.Test.YtmgbodmpjholiaaTwoT
namespace Go.Proofs.Ytmgbodmpjholiaa.BT
open Go.RowKit Go.Maps Go.Shelf Go.Lib Go.Proofs.YtmgbodmpjholiaaW.PrintWords Go.Proofs.YtmgbodmpjholiaaW.PrintLast Go.Proofs.YtmgbodmpjholiaaW.PrintMore Go.Proofs.Ytmgbodmpjholiaa.MM Go.Proofs.Ytmgbodmpjholiaa.KM Go.Proofs.Ytmgbodmpjholiaa.TM Go.Proofs.Ytmgbodmpjholiaa.RT Go.Proofs.Ytmgbodmpjholiaa.TW
set_option linter.unusedVariables false

variable {sd sd2 sd3 : Side} {w0 w w1 : World} {s u : Nat} {S S2 : List NodeM} {q : Nat}
/-- The same, said of what stands beside in other words. -/
theorem TwoAt.conv (h : TwoAt sd w0 w s u S S2 q) (hP : sd.P w → sd2.P w) (hD : ∀ j, sd2.D j → sd.D j) : TwoAt sd2 w0 w s u S S2 q := by
  obtain ⟨F, G, a1, a2, a3, a4⟩ := h.st
  exact ⟨h.bel, ⟨F, G, a1, a2, fun j hj => ⟨(a3 j hj).1, (a3 j hj).2.1, fun hd => (a3 j hj).2.2 (hD j hd)⟩, fun j hj => ⟨(a4 j hj).1, fun hd => (a4 j hj).2 (hD j hd)⟩⟩, hP h.side⟩
theorem TwoAt.swap (h : TwoAt (sd.and sd2) w0 w s u S S2 q) : TwoAt (sd2.and sd) w0 w s u S S2 q := h.conv (fun h => ⟨h.2, h.1⟩) (fun j hj => hj.elim .inr .inl)
/-- Calls beside. -/
def sideOps (v : Value) (l : List OpM) (A : Nat → Prop) : Side := ⟨fun w => Opers w v l A, fun j => v.ownBlock = some j ∨ A j, fun hk hd h => h.keep hk (fun g hg => hd g (.inl hg)) (fun g hg => hd g (.inr hg)), fun w h j hj => hj.elim (h.lt j) (h.old j)⟩
/-- After so many calls: the terms and the calls that are kept. -/
structure OnceAt (w : World) (s u i : Nat) (S : List NodeM) (T : List (OpM × Int)) (vx vc : Value) (wr : World) : Prop where
  two : ∃ A, TwoAt ((Side.row 26 vx (lits (T.map (·.2)))).and (sideOps vc (T.map (·.1)) A)) w wr s u S S (6000 + 2000 * i) ∧ (∀ j, vx.ownBlock = some j → ¬ (sideOps vc (T.map (·.1)) A).D j) ∧ (∀ j, vx.ownBlock = some j → w.heap.size ≤ j) ∧ ∀ j, (sideOps vc (T.map (·.1)) A).D j → w.heap.size ≤ j
  good : TM.Good S
  told : ∀ p ∈ T, TM.Told S p.1 p.2
  wf : ∀ p ∈ T, WfO p.1
  len : T.length ≤ i
/-- The call of which the terms are told, its list on the way. -/
def half (S : List NodeM) (o : OpM) : OpM := ⟨o.kd, near1 S o o.a, near1 S o o.b, near1 S o o.c, o.L, o.fn, o.so, o.n, o.m⟩
structure ToldAt (sd : Side) (w : World) (s u : Nat) (S : List NodeM) (q : Nat) (o : OpM) (b k : Nat) (vl : Value) (wr : World) : Prop where
  two : TwoAt ((sd.and (Side.row 26 vl (lits (nearL S o (o.L.take k))))).and (Side.obj b (.cells (opCells (half S o) vl).toArray 45 (0, 0)))) w wr s u S S q
  sdb : ∀ j, sd.D j → j < b
  base : w.heap.size ≤ b
  fresh : ∀ g, vl.ownBlock = some g → b < g
  kl : k ≤ o.L.length
theorem ToldAt.box {sd : Side} {o : OpM} {b k : Nat} {vl : Value} {wr : World} (h : ToldAt sd w s u S q o b k vl wr) : wr.heap[b]? = some (.cells (opCells (half S o) vl).toArray 45 (0, 0)) := h.two.side.2
theorem ToldAt.row {sd : Side} {o : OpM} {b k : Nat} {vl : Value} {wr : World} (h : ToldAt sd w s u S q o b k vl wr) : Row wr 26 vl (lits (nearL S o (o.L.take k))) := h.two.side.1.2
theorem ToldAt.step {sd : Side} {o : OpM} {b k : Nat} {vl v2 : Value} {wr w2 : World} (h : ToldAt sd w s u S q o b k vl wr) (hk : k < o.L.length) (hr : Row w2 26 v2 (lits (nearL S o (o.L.take (k + 1))))) (hkw : Keep (fun g => vl.ownBlock = some g) wr w2) (hat : ∀ g, v2.ownBlock = some g → vl.ownBlock = some g ∨ wr.heap.size ≤ g) :
    ToldAt sd w s u S q o b (k + 1) v2 (w2.setCell ⟨b, 4, none⟩ v2) := by
  have hb := blk_lt h.box
  have hf : ∀ g, v2.ownBlock = some g → b < g := fun g hg => (hat g hg).elim (h.fresh g) fun e => by omega
  have t1 : TwoAt ((sd.and (Side.obj b (.cells (opCells (half S o) vl).toArray 45 (0, 0)))).and (Side.row 26 vl (lits (nearL S o (o.L.take k))))) w wr s u S S q :=
    h.two.conv (fun h => ⟨⟨h.1.1, h.2⟩, h.1.2⟩) (fun j hj => by
      rcases hj with (hj | hj) | hj
      · exact .inl (.inl hj)
      · exact .inr hj
      · exact .inl (.inr hj))
  have t2 := t1.turn (sd3 := Side.row 26 v2 (lits (nearL S o (o.L.take (k + 1))))) hkw (fun j hj e => by
      have h1 : b < j := h.fresh j e
      rcases hj with hj | hj
      · have := h.sdb j hj
        omega
      · have h2 : j = b := hj
        omega) (fun j hj => by have h1 : b < j := h.fresh j hj; have := h.base; omega) hr (fun j hj => hat j hj)
  have t3 : TwoAt ((sd.and (Side.row 26 v2 (lits (nearL S o (o.L.take (k + 1)))))).and (Side.obj b (.cells (opCells (half S o) vl).toArray 45 (0, 0)))) w w2 s u S S q :=
    t2.conv (fun h => ⟨⟨h.1.1, h.2⟩, h.1.2⟩) (fun j hj => by
      rcases hj with (hj | hj) | hj
      · exact .inl (.inl hj)
      · exact .inr hj
      · exact .inl (.inr hj))
  have hbx : w2.heap[b]? = some (.cells (opCells (half S o) vl).toArray 45 (0, 0)) := t3.side.2
  refine ⟨t3.turn (sd3 := Side.obj b (.cells (opCells (half S o) v2).toArray 45 (0, 0))) (setCell_keep w2 b 4 v2) (fun j hj e => ?_) (fun j hj => ?_) ((blk_set hbx 4 _).trans (by simp)) (fun j hj => .inl hj), h.sdb, h.base, hf, hk⟩
  · have h2 : j = b := e
    rcases hj with hj | hj
    · have := h.sdb j hj
      omega
    · have := hf j hj
      omega
  · have h2 : j = b := hj
    have := h.base
    omega
end Go.Proofs.Ytmgbodmpjholiaa.BT
