/- The keys of the terms' maps: what they are read as. -/
import Derived.Test.YtmgbodmpjholiaaChecked
import Derived.Test.YtmgbodmpjholiaaKMap
import Derived.Test.YtmgbodmpjholiaaTermM
import Derived.DeepKeys4
namespace Go.Proofs.Ytmgbodmpjholiaa.TM
open Go.RowKit Go.Maps Go.Proofs.Ytmgbodmpjholiaa.KM
set_option linter.unusedVariables false
set_option linter.unusedSimpArgs false

theorem laidOut : laidOutB Try.prog = true := by kernel_rfl
theorem rowKey : (79 : TypeId) < Try.prog.types.size := of_decide_eq_true (by kernel_rfl)
theorem rowCell : (82 : TypeId) < Try.prog.types.size := of_decide_eq_true (by kernel_rfl)
theorem wideKey : (match Try.prog.underlying 79 with | some (.array _ _) | some (.struct _) => true | _ => false) = true := by kernel_rfl
theorem wideCell : (match Try.prog.underlying 82 with | some (.array _ _) | some (.struct _) => true | _ => false) = true := by kernel_rfl
theorem keyedKey : Keyed Try.prog 79 := Keyed.of_law (deep_law_laid laidOut (m := 2) (by omega) rowKey (by kernel_rfl) wideKey)
theorem keyedCell : Keyed Try.prog 82 := Keyed.of_law (deep_law_laid laidOut (m := 2) (by omega) rowCell (by kernel_rfl) wideCell)
theorem keyTypeKey : Try.prog.keyType 79 = true := by kernel_rfl
theorem keyTypeCell : Try.prog.keyType 82 = true := by kernel_rfl
theorem cellsKey : Try.prog.cellsOf 79 = 5 := by kernel_rfl
theorem cellsCell : Try.prog.cellsOf 82 = 2 := by kernel_rfl

def keyV (k : KeyM) : Value := .agg #[.int .u8 k.op, .int .i64 k.fn, .int .i64 k.num, .int .i64 k.sort, .int .i64 (k.list : Int)]
def cellV (c : Nat × Int) : Value := .agg #[.int .i64 (c.1 : Int), .int .i64 c.2]
theorem keyV_inj (x y : KeyM) (h : keyV x = keyV y) : x = y := by
  cases x
  cases y
  simp [keyV] at h
  obtain ⟨h1, h2, h3, h4, h5⟩ := h
  subst h1 h2 h3 h4
  have := Int.ofNat.inj h5
  subst this
  rfl
theorem cellV_inj (x y : Nat × Int) (h : cellV x = cellV y) : x = y := by
  cases x
  cases y
  simp [cellV] at h
  obtain ⟨h1, h2⟩ := h
  subst h2
  have := Int.ofNat.inj h1
  subst this
  rfl
theorem sizeT : ∃ d, Try.prog.types.size + 1 = d + 2 := ⟨Try.prog.types.size - 1, by have h : 0 < Try.prog.types.size := Nat.lt_of_le_of_lt (Nat.zero_le _) rowKey; omega⟩
theorem lit_int {P : Program} {d : Nat} {t : TypeId} {q : IntKind} (ht : P.underlying t = some (.int q)) {x : Int} (hx : (Lit.int q x).wf = true) : P.keyLits (d + 1) t [.int q x] = some [.int q x] := by
  unfold Program.keyLits
  rw [ht]
  simp [hx]
theorem i64_wf {x : Int} (h : wf64 x) : (Lit.int .i64 x).wf = true := by
  unfold wf64 at h
  simp [Lit.wf, IntKind.min, IntKind.max, IntKind.wrap, IntKind.signed, IntKind.bits]
  omega
theorem u8_wf {x : Int} (h : 0 ≤ x ∧ x ≤ 255) : (Lit.int .u8 x).wf = true := by
  simp [Lit.wf, IntKind.min, IntKind.max, IntKind.wrap, IntKind.signed, IntKind.bits]
  omega
theorem cell_key (c : Nat × Int) (h1 : wf64 c.1) (h2 : wf64 c.2) : ∃ kl, keyOf Try.prog 82 (cellV c) = some kl := by
  obtain ⟨d, hd⟩ := sizeT
  have hf : (cellV c).formed Try.prog 82 = true := by
    simp [cellV, Value.formed, Try.underlying82, cellsCell]
  have hl : Try.prog.keyLits (d + 2) 82 [.int .i64 (c.1 : Int), .int .i64 c.2] = some [.int .i64 (c.1 : Int), .int .i64 c.2] := by
    have a1 := lit_int (P := Try.prog) (d := d) Try.underlying3 (i64_wf h1)
    have a2 := lit_int (P := Try.prog) (d := d) Try.underlying26 (i64_wf h2)
    have k1 : Try.prog.cellsOf 3 = 1 := by kernel_rfl
    have k2 : Try.prog.cellsOf 26 = 1 := by kernel_rfl
    unfold Program.keyLits
    rw [Try.underlying82]
    simp [cellsCell, k1, k2, a1, a2]
  refine ⟨.string (keyBytes [.int .i64 (c.1 : Int), .int .i64 c.2]), ?_⟩
  unfold keyOf
  rw [Try.underlying82]
  simp only [keyTypeCell, hf, Bool.and_self, if_true, hd]
  rw [show (cellV c).cells.toList = [.int .i64 (c.1 : Int), .int .i64 c.2] from rfl, hl]
  rfl
theorem key_key (k : KeyM) (h0 : 0 ≤ k.op ∧ k.op ≤ 255) (h1 : wf64 k.fn) (h2 : wf64 k.num) (h3 : wf64 k.sort) (h4 : wf64 k.list) : ∃ kl, keyOf Try.prog 79 (keyV k) = some kl := by
  obtain ⟨d, hd⟩ := sizeT
  have hf : (keyV k).formed Try.prog 79 = true := by
    simp [keyV, Value.formed, Try.underlying79, cellsKey]
  have hl : Try.prog.keyLits (d + 2) 79 [.int .u8 k.op, .int .i64 k.fn, .int .i64 k.num, .int .i64 k.sort, .int .i64 (k.list : Int)] = some [.int .u8 k.op, .int .i64 k.fn, .int .i64 k.num, .int .i64 k.sort, .int .i64 (k.list : Int)] := by
    have a0 := lit_int (P := Try.prog) (d := d) Try.underlying52 (u8_wf h0)
    have a1 := lit_int (P := Try.prog) (d := d) Try.underlying3 (i64_wf h1)
    have a2 := lit_int (P := Try.prog) (d := d) Try.underlying2 (i64_wf h2)
    have a3 := lit_int (P := Try.prog) (d := d) Try.underlying30 (i64_wf h3)
    have a4 := lit_int (P := Try.prog) (d := d) Try.underlying3 (i64_wf h4)
    have k0 : Try.prog.cellsOf 52 = 1 := by kernel_rfl
    have k1 : Try.prog.cellsOf 3 = 1 := by kernel_rfl
    have k2 : Try.prog.cellsOf 2 = 1 := by kernel_rfl
    have k3 : Try.prog.cellsOf 30 = 1 := by kernel_rfl
    unfold Program.keyLits
    rw [Try.underlying79]
    simp [cellsKey, k0, k1, k2, k3, a0, a1, a2, a3, a4]
  refine ⟨.string (keyBytes [.int .u8 k.op, .int .i64 k.fn, .int .i64 k.num, .int .i64 k.sort, .int .i64 (k.list : Int)]), ?_⟩
  unfold keyOf
  rw [Try.underlying79]
  simp only [keyTypeKey, hf, Bool.and_self, if_true, hd]
  rw [show (keyV k).cells.toList = [.int .u8 k.op, .int .i64 k.fn, .int .i64 k.num, .int .i64 k.sort, .int .i64 (k.list : Int)] from rfl, hl]
  rfl
end Go.Proofs.Ytmgbodmpjholiaa.TM
