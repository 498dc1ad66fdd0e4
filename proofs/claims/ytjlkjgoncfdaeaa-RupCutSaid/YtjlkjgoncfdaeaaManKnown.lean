/- The rows of the known case of rup's laws, in memory. -/
import Derived.Test.YtjlkjgoncfdaeaaRupRu
namespace Go.Proofs.Ytjlkjgoncfdaeaa.RM
open Go.RowKit Go.Proofs.YtjlkjgoncfdaeaaW.PrintWords Go.Proofs.YtjlkjgoncfdaeaaW.PrintLast Go.Proofs.YtjlkjgoncfdaeaaW.PrintMore Go.Sort Go.Shelf Go.Maps Go.Proofs.Ytjlkjgoncfdaeaa.LF Go.Proofs.Ytjlkjgoncfdaeaa.MC Go.Proofs.Ytjlkjgoncfdaeaa.MM

/-- A row that was just built. -/
theorem new_C (W : World) (l : List Int) (hl : l.length ≤ 9223372036854775807) : Kd.C (Kd.int .i64) (W.alloc (.cells (lits l).toArray 46)) (some ⟨W.heap.size, 0, none⟩) l.length l := by
  refine Kd.C_of_reads (d := (0 : Int)) (h1 := fun _ => rfl) ⟨rfl, hl, fun _ => ⟨_, rfl, fun j hj => ?_⟩⟩
  rw [Addr.add_lit, blk_cell (heap_alloc_new W _)]
  simp [lits, hj]
theorem below_alloc1 (W : World) (o : Obj) : Below W.heap.size W (W.alloc o) := (Below.refl _ _).alloc (Nat.le_refl _) _
abbrev knownDb : List (List Int) := [[1, 2], [-1, 3], [-2, 3]]
abbrev kw1 (w : World) : World := w.alloc (.cells #[.int .i64 1, .int .i64 2] 46)
abbrev kw2 (w : World) : World := (kw1 w).alloc (.cells #[.int .i64 (-1), .int .i64 3] 46)
abbrev kw3 (w : World) : World := (kw2 w).alloc (.cells #[.int .i64 (-2), .int .i64 3] 46)
abbrev kw4 (w : World) : World := (kw3 w).alloc (.cells #[.slice (some ⟨w.heap.size, 0, none⟩) 2 2, .slice (some ⟨w.heap.size + 1, 0, none⟩) 2 2, .slice (some ⟨w.heap.size + 1 + 1, 0, none⟩) 2 2] 31)
theorem new1_C (W : World) (n : Nat) (h : W.heap.size = n) (x : Int) : Kd.C (Kd.int .i64) (W.alloc (.cells #[.int .i64 x] 46)) (some ⟨n, 0, none⟩) 1 [x] := by
  subst h
  exact new_C W [x] (by simp)
theorem known_C (w : World) : CC (kw4 w) (some ⟨w.heap.size + 1 + 1 + 1, 0, none⟩) knownDb := by
  have s1 : (kw1 w).heap.size = w.heap.size + 1 := by simp
  have s2 : (kw2 w).heap.size = w.heap.size + 1 + 1 := by simp
  have s3 : (kw3 w).heap.size = w.heap.size + 1 + 1 + 1 := by simp
  have c1 : Kd.C (Kd.int .i64) (kw4 w) (some ⟨w.heap.size, 0, none⟩) 2 [1, 2] := Kd.C_below (Kd.C_below (Kd.C_below (new_C w [1, 2] (by simp)) (below_alloc1 _ _)) (below_alloc1 _ _)) (below_alloc1 _ _)
  have c2 : Kd.C (Kd.int .i64) (kw4 w) (some ⟨w.heap.size + 1, 0, none⟩) 2 [-1, 3] := by
    rw [← s1]
    exact Kd.C_below (Kd.C_below (new_C (kw1 w) [-1, 3] (by simp)) (below_alloc1 _ _)) (below_alloc1 _ _)
  have c3 : Kd.C (Kd.int .i64) (kw4 w) (some ⟨w.heap.size + 1 + 1, 0, none⟩) 2 [-2, 3] := by
    rw [← s2]
    exact Kd.C_below (new_C (kw2 w) [-2, 3] (by simp)) (below_alloc1 _ _)
  have hblk := heap_alloc_new (kw3 w) (.cells #[.slice (some ⟨w.heap.size, 0, none⟩) 2 2, .slice (some ⟨w.heap.size + 1, 0, none⟩) 2 2, .slice (some ⟨w.heap.size + 1 + 1, 0, none⟩) 2 2] 31)
  rw [s3] at hblk
  refine ⟨rfl, by simp, fun _ => ⟨⟨w.heap.size + 1 + 1 + 1, 0, none⟩, rfl, fun j p hj => ?_⟩⟩
  have cell : ∀ (i : Nat) (v : Value), (#[Value.slice (some ⟨w.heap.size, 0, none⟩) 2 2, .slice (some ⟨w.heap.size + 1, 0, none⟩) 2 2, .slice (some ⟨w.heap.size + 1 + 1, 0, none⟩) 2 2] : Array Value)[i]? = some v → ∀ (q : Nat) u, [v][q]? = some u → (kw4 w).cell? ((⟨w.heap.size + 1 + 1 + 1, 0, none⟩ : Addr).add (i * (Kd.slice 46 (Kd.int .i64)).sz + q)) = some u := by
    intro i v hv q u hu
    have hq : q = 0 := by have := (List.getElem?_eq_some_iff.1 hu).1; simpa using this
    subst hq
    have hu : v = u := by simpa using hu
    subst hu
    rw [show i * (Kd.slice 46 (Kd.int .i64)).sz + 0 = i from by show i * 1 + 0 = i; omega, Addr.add_lit, blk_cell hblk, Nat.zero_add]
    exact hv
  match j, hj with
  | 0, hj =>
    have hj : ([1, 2] : List Int) = p := by simpa using hj
    subst hj
    exact ⟨[.slice (some ⟨w.heap.size, 0, none⟩) 2 2], rfl, ⟨_, 2, rfl, Nat.le_refl _, c1⟩, cell 0 _ rfl⟩
  | 1, hj =>
    have hj : ([-1, 3] : List Int) = p := by simpa using hj
    subst hj
    exact ⟨[.slice (some ⟨w.heap.size + 1, 0, none⟩) 2 2], rfl, ⟨_, 2, rfl, Nat.le_refl _, c2⟩, cell 1 _ rfl⟩
  | 2, hj =>
    have hj : ([-2, 3] : List Int) = p := by simpa using hj
    subst hj
    exact ⟨[.slice (some ⟨w.heap.size + 1 + 1, 0, none⟩) 2 2], rfl, ⟨_, 2, rfl, Nat.le_refl _, c3⟩, cell 2 _ rfl⟩
  | j + 3, hj => simp at hj
theorem known_below (w : World) : Below w.heap.size w (kw4 w) := ((((Below.refl _ _).alloc (Nat.le_refl _) _).alloc (by simp) _).alloc (by simp; omega) _).alloc (by simp; omega) _
theorem known_size (w : World) : (kw4 w).heap.size = w.heap.size + 1 + 1 + 1 + 1 := by simp
theorem known_f1 : followsR knownDb [3] = some (true, 0) := by kernel_rfl
theorem known_f2 : followsR knownDb [1] = some (false, 0) := by kernel_rfl
theorem known_f3 : unitsR knownDb [-1] = some ([-1, 2, 3], false, 0) := by kernel_rfl
end Go.Proofs.Ytjlkjgoncfdaeaa.RM
