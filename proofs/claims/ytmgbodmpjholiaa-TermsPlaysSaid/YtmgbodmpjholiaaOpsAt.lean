/- Where a call that is handed in stands, in every later world. -/
import Derived.Test.YtmgbodmpjholiaaOpsT
namespace Go.Proofs.Ytmgbodmpjholiaa.BT
open Go.RowKit Go.Maps Go.Shelf Go.Lib Go.Proofs.YtmgbodmpjholiaaW.PrintWords Go.Proofs.YtmgbodmpjholiaaW.PrintLast Go.Proofs.YtmgbodmpjholiaaW.PrintMore Go.Proofs.Ytmgbodmpjholiaa.MM Go.Proofs.Ytmgbodmpjholiaa.KM Go.Proofs.Ytmgbodmpjholiaa.TM Go.Proofs.Ytmgbodmpjholiaa.RT Go.Proofs.Ytmgbodmpjholiaa.TW Go.Proofs.Ytmgbodmpjholiaa.Hk
set_option linter.unusedVariables false
structure OpAt (b off i : Nat) (A4 : Option Addr) (c4 : Nat) (o : OpM) (W : World) : Prop where
  lt : b < W.heap.size
  k0 : W.cell? ⟨b, off + i * 9, none⟩ = some (.int .i64 o.kd)
  k1 : W.cell? ⟨b, off + i * 9 + 1, none⟩ = some (.int .i64 o.a)
  k2 : W.cell? ⟨b, off + i * 9 + 2, none⟩ = some (.int .i64 o.b)
  k3 : W.cell? ⟨b, off + i * 9 + 3, none⟩ = some (.int .i64 o.c)
  k4 : W.cell? ⟨b, off + i * 9 + 4, none⟩ = some (.slice A4 o.L.length c4)
  k5 : W.cell? ⟨b, off + i * 9 + 5, none⟩ = some (.int .i64 o.fn)
  k6 : W.cell? ⟨b, off + i * 9 + 6, none⟩ = some (.int .i64 o.so)
  k7 : W.cell? ⟨b, off + i * 9 + 7, none⟩ = some (.int .i64 o.n)
  k8 : W.cell? ⟨b, off + i * 9 + 8, none⟩ = some (.bool o.m)
  rd : Reads W (.slice A4 o.L.length c4) o.L
theorem OpAt.below {b off i c4 : Nat} {A4 : Option Addr} {o : OpM} {w W : World} (h : OpAt b off i A4 c4 o w) (hb : Below w.heap.size w W) : OpAt b off i A4 c4 o W :=
  ⟨Nat.lt_of_lt_of_le h.lt hb.size, (hb.cell (p := ⟨b, _, none⟩) h.lt).trans h.k0, (hb.cell (p := ⟨b, _, none⟩) h.lt).trans h.k1, (hb.cell (p := ⟨b, _, none⟩) h.lt).trans h.k2, (hb.cell (p := ⟨b, _, none⟩) h.lt).trans h.k3, (hb.cell (p := ⟨b, _, none⟩) h.lt).trans h.k4, (hb.cell (p := ⟨b, _, none⟩) h.lt).trans h.k5, (hb.cell (p := ⟨b, _, none⟩) h.lt).trans h.k6, (hb.cell (p := ⟨b, _, none⟩) h.lt).trans h.k7, (hb.cell (p := ⟨b, _, none⟩) h.lt).trans h.k8, h.rd.bel hb⟩
theorem ops_at {w : World} {A : Option Addr} {n : Nat} {xs : List S45} (h : Kd.C k45 w A n xs) (i : Nat) (hi : i < n) (hx : i < xs.length) : ∃ b off A4 c4, A = some ⟨b, off, none⟩ ∧ OpAt b off i A4 c4 (opOf xs[i]) w := by
  obtain ⟨b, off, A4, c4, rfl, c0, c1, c2, c3, c4', c5, c6, c7, c8, hrd⟩ := ops_cells h i hi hx
  exact ⟨b, off, A4, c4, rfl, World.block_lt_of_cell? w ⟨b, _, none⟩ c0, c0, c1, c2, c3, c4', c5, c6, c7, c8, hrd⟩
end Go.Proofs.Ytmgbodmpjholiaa.BT
