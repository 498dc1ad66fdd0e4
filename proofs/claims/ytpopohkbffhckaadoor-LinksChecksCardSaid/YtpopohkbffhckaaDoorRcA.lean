/- The document's look at a certificate in memory: what is told, the literals so far: two rows of its own. The document's look at one link: its copy, the pair that is told now, and both rows, in memory. Plain laws: the document's shape of a store of terms, and what it reads of a given literal. Plain law: the atom of a literal, as the printed function tells it. Plain law: the document's form of a list without 0 is the form. -/
import Derived.Test.YtpopohkbffhckaaDoorLkBase
import Derived.Test.YtpopohkbffhckaaDoorPLk
import Derived.Test.YtpopohkbffhckaaDoorHkx0
import Derived.Test.YtpopohkbffhckaaDoorHkx2
import Derived.Test.YtpopohkbffhckaaDoorHkx3
import Derived.Test.YtpopohkbffhckaaDoorLkN
import Derived.Test.YtpopohkbffhckaaDoorEv
import Derived.Test.YtpopohkbffhckaaDoorManA
import Derived.Test.YtpopohkbffhckaaDoorPHas
namespace Go.Proofs.YtpopohkbffhckaaDoor.KL
open Go.RowKit Go.Proofs.YtpopohkbffhckaaDoorW.PrintWords Go.Proofs.YtpopohkbffhckaaDoorW.PrintLast Go.Proofs.YtpopohkbffhckaaDoorW.PrintMore Go.Proofs.YtpopohkbffhckaaDoor.MM Go.Proofs.YtpopohkbffhckaaDoor.Hk
set_option linter.unusedVariables false
structure Rc (W0 : World) (t : List Pr) (s : List Int) (tv sv : Value) (w : World) : Prop where
 below : Below W0.heap.size W0 w
 told : w.ownsRow 0 60 2 tv t.length (prs t)
 lts : w.ownsRow 0 33 1 sv s.length (MM.lits s)
 tnew : ∀ g, tv.ownBlock = some g → W0.heap.size ≤ g
 snew : ∀ g, sv.ownBlock = some g → W0.heap.size ≤ g
 ap : ∀ g, tv.ownBlock = some g → sv.ownBlock ≠ some g
variable {W0 w w1 w2 : World} {t : List Pr} {s : List Int} {tv sv : Value}
theorem Rc.tshape (h : Rc W0 t s tv sv w) : ∃ A c, tv = .slice A t.length c := by
 rcases h.told.2 with ⟨rfl, h0⟩ | ⟨g, cap, cur, rfl, _⟩
 ·
  exact ⟨none, 0, by rw [h0]⟩
 ·
  exact ⟨_, _, rfl⟩
theorem Rc.sshape (h : Rc W0 t s tv sv w) : ∃ A c, sv = .slice A s.length c ∧ s.length ≤ c ∧ Kd.C (Kd.int .i64) w A s.length s := C_of_Row (Row.ofOwns h.lts).1
theorem Rc.told_at (h : Rc W0 t s tv sv w) (i : Nat) (hi : i < t.length) : ∃ g cap, tv = .slice (some ⟨g, 0, none⟩) t.length cap ∧ w.cell? ⟨g, i * 2, none⟩ = some (.int .i64 (t.getD i (0, 0)).1) ∧ w.cell? ⟨g, i * 2 + 1, none⟩ = some (.int .i64 (t.getD i (0, 0)).2) := by
 have hg := prs_get t i (t.getD i (0, 0)) (by simp [hi])
 rcases h.told.2 with ⟨rfl, h0⟩ | ⟨g, cap, cur, rfl, _⟩
 ·
  omega
 ·
  have hc := h.told.cells (g := g) rfl
  refine ⟨g, cap, rfl, ?_, ?_⟩
  ·
   have := hc _ _ hg.1
   rw [← this, Addr.add_lit, Nat.zero_add]
  ·
   have := hc _ _ hg.2
   rw [← this, Addr.add_lit, Nat.zero_add]
theorem Rc.move (h : Rc W0 t s tv sv w) (hb : Below w.heap.size w w1) : Rc W0 t s tv sv w1 where
 below := h.below.trans (hb.mono h.below.size)
 told := own_move h.told fun g hg => hb.block g (h.told.lt g hg).2
 lts := own_move h.lts fun g hg => hb.block g (h.lts.lt g hg).2
 tnew := h.tnew
 snew := h.snew
 ap := h.ap
/-- A store into a block that is neither row's. -/
theorem Rc.keep (h : Rc W0 t s tv sv w) (hb : Below W0.heap.size W0 w1) {k : Nat} (hk : ∀ g, g < w.heap.size → g ≠ k → w1.heap[g]? = w.heap[g]?) (ht : tv.ownBlock ≠ some k) (hs : sv.ownBlock ≠ some k) : Rc W0 t s tv sv w1 where
 below := hb
 told := own_move h.told fun g hg => hk g (h.told.lt g hg).2 fun e => ht (e ▸ hg)
 lts := own_move h.lts fun g hg => hk g (h.lts.lt g hg).2 fun e => hs (e ▸ hg)
 tnew := h.tnew
 snew := h.snew
 ap := h.ap
theorem Rc.start (hb : Below W0.heap.size W0 w) : Rc W0 [] [] (.slice none 0 0) (.slice none 0 0) w where
 below := hb
 told := World.ownsRow_nil _ _ _ _
 lts := World.ownsRow_nil _ _ _ _
 tnew := by intro g hg; cases hg
 snew := by intro g hg; cases hg
 ap := by intro g hg; cases hg
/-- A pair more is told. -/
theorem Rc.pushT (h : Rc W0 t s tv sv w) (p : Pr) {tv' : Value} (ho : w1.ownsRow 0 60 2 tv' (t.length + 1) (prs t ++ prV p)) (hg : w.grownBy w1 tv.ownBlock) (hat : ∀ g, tv'.ownBlock = some g → tv.ownBlock = some g ∨ w.heap.size ≤ g) : Rc W0 (t ++ [p]) s tv' sv w1 := by
 have hn : ∀ g, tv'.ownBlock = some g → W0.heap.size ≤ g := fun g hg' => by
  rcases hat g hg' with h1 | h1
  ·
   exact h.tnew g h1
  ·
   exact Nat.le_trans h.below.size h1
 refine ⟨h.below.grown hg h.below.size (fun j hj => h.tnew j hj), ?_, own_move h.lts fun g hg' => hg.block g (h.lts.lt g hg').2 fun e => h.ap g e.symm hg', hn, h.snew, fun g hg' hs => ?_⟩
 ·
  rw [prs_snoc, List.length_append, List.length_singleton]
  exact ho
 ·
  rcases hat g hg' with h1 | h1
  ·
   exact h.ap g h1 hs
  ·
   have := (h.lts.lt g hs).2
   omega
/-- A literal more. -/
theorem Rc.pushS (h : Rc W0 t s tv sv w) (x : Int) {sv' : Value} (ho : w1.ownsRow 0 33 1 sv' (s.length + 1) (MM.lits s ++ [.int .i64 x])) (hg : w.grownBy w1 sv.ownBlock) (hat : ∀ g, sv'.ownBlock = some g → sv.ownBlock = some g ∨ w.heap.size ≤ g) : Rc W0 t (s ++ [x]) tv sv' w1 := by
 have hn : ∀ g, sv'.ownBlock = some g → W0.heap.size ≤ g := fun g hg' => by
  rcases hat g hg' with h1 | h1
  ·
   exact h.snew g h1
  ·
   exact Nat.le_trans h.below.size h1
 refine ⟨h.below.grown hg h.below.size (fun j hj => h.snew j hj), own_move h.told fun g hg' => hg.block g (h.told.lt g hg').2 fun e => h.ap g hg' e.symm, ?_, h.tnew, hn, fun g hg' hs => ?_⟩
 ·
  rw [MM.lits, List.map_append, List.length_append]
  exact ho
 ·
  rcases hat g hs with h1 | h1
  ·
   exact h.ap g hg' h1
  ·
   have := (h.told.lt g hg').2
   omega
/-- What a link of the document's look leaves told, and whether it is right. -/
theorem tellM_some {t : List Pr} {i : Int} (h : 0 ≤ i) (h' : i < (t.length : Int)) : tellM t i = some (t.getD i.toNat (0, 0)) := by unfold tellM; rw [if_pos ⟨h, h'⟩]
theorem tellM_none {t : List Pr} {i : Int} (h : ¬ (0 ≤ i ∧ i < (t.length : Int))) : tellM t i = none := by unfold tellM; rw [if_neg h]
end Go.Proofs.YtpopohkbffhckaaDoor.KL

namespace Go.Proofs.YtpopohkbffhckaaDoor.KL
open Go.RowKit Go.Proofs.YtpopohkbffhckaaDoorW.PrintWords Go.Proofs.YtpopohkbffhckaaDoorW.PrintLast Go.Proofs.YtpopohkbffhckaaDoorW.PrintMore Go.Proofs.YtpopohkbffhckaaDoor.MM Go.Proofs.YtpopohkbffhckaaDoor.Hk
set_option linter.unusedVariables false
/-- kx: the block of the link's copy; the next one holds the pair. -/
structure Rn (W0 : World) (t : List Pr) (s : List Int) (tv sv : Value) (kx : Nat) (C : Array Value) (p q : Int) (w : World) : Prop where
 rc : Rc W0 t s tv sv w
 lk : w.heap[kx]? = some (.cells C 36 (0, 0))
 nw : w.heap[kx + 1]? = some (.cells #[.int .i64 p, .int .i64 q] 60 (0, 0))
 new : W0.heap.size ≤ kx
 kt : tv.ownBlock ≠ some kx ∧ tv.ownBlock ≠ some (kx + 1)
 ks : sv.ownBlock ≠ some kx ∧ sv.ownBlock ≠ some (kx + 1)
variable {W0 w w1 w2 : World} {t : List Pr} {s : List Int} {tv sv : Value} {kx : Nat} {C : Array Value} {p q : Int}
theorem Rn.made (h : Rc W0 t s tv sv w) (C : Array Value) : Rn W0 t s tv sv w.heap.size C 0 0 ((w.alloc (.cells C 36)).alloc (.cells #[.int .i64 0, .int .i64 0] 60)) where
 rc := h.move (((Below.refl _ _).alloc (Nat.le_refl _) _).alloc (by simp) _)
 lk := (heap_alloc_old _ _ (by simp)).trans (heap_alloc_new w _)
 nw := by rw [show w.heap.size + 1 = (w.alloc (.cells C 36)).heap.size by simp]; exact heap_alloc_new _ _
 new := h.below.size
 kt := ⟨fun e => by have := (h.told.lt _ e).2; omega, fun e => by have := (h.told.lt _ e).2; omega⟩
 ks := ⟨fun e => by have := (h.lts.lt _ e).2; omega, fun e => by have := (h.lts.lt _ e).2; omega⟩
theorem Rn.lt (h : Rn W0 t s tv sv kx C p q w) : kx + 1 < w.heap.size := blk_lt h.nw
theorem Rn.move (h : Rn W0 t s tv sv kx C p q w) (hb : Below w.heap.size w w1) : Rn W0 t s tv sv kx C p q w1 where
 rc := h.rc.move hb
 lk := (hb.block _ (blk_lt h.lk)).trans h.lk
 nw := (hb.block _ (blk_lt h.nw)).trans h.nw
 new := h.new
 kt := h.kt
 ks := h.ks
theorem Rn.drew (h : Rn W0 t s tv sv kx C p q w) : Rn W0 t s tv sv kx C p q w.drew := h.move (Below.refl _ _).drew
theorem Rn.store (h : Rn W0 t s tv sv kx C p q w) (x y : Int) : Rn W0 t s tv sv kx C x y ((w.setCell ⟨kx + 1, 0, none⟩ (.int .i64 x)).setCell ⟨kx + 1, 1, none⟩ (.int .i64 y)) := by
 have hk : ∀ g, g ≠ kx + 1 → ((w.setCell ⟨kx + 1, 0, none⟩ (.int .i64 x)).setCell ⟨kx + 1, 1, none⟩ (.int .i64 y)).heap[g]? = w.heap[g]? := fun g hg => (Below.heap_setCell _ ⟨kx + 1, 1, none⟩ _ g hg).trans (Below.heap_setCell _ ⟨kx + 1, 0, none⟩ _ g hg)
 have hn := h.new
 refine ⟨h.rc.keep ((h.rc.below.setCell (p := ⟨kx + 1, 0, none⟩) (by show _ ≤ kx + 1; omega) _).setCell (p := ⟨kx + 1, 1, none⟩) (by show _ ≤ kx + 1; omega) _) (k := kx + 1) (fun g _ hg => hk g hg) h.kt.2 h.ks.2, (hk kx (by omega)).trans h.lk, ?_, h.new, h.kt, h.ks⟩
 have h1 := blk_set h.nw 0 (.int .i64 x)
 have h2 := blk_set h1 1 (.int .i64 y)
 exact h2
theorem Rn.l (h : Rn W0 t s tv sv kx C p q w) (i : Nat) : w.cell? ⟨kx, i, none⟩ = C[i]? := blk_cell h.lk i
theorem Rn.n0 (h : Rn W0 t s tv sv kx C p q w) : w.cell? ⟨kx + 1, 0, none⟩ = some (.int .i64 p) := (blk_cell h.nw 0).trans rfl
theorem Rn.n1 (h : Rn W0 t s tv sv kx C p q w) : w.cell? ⟨kx + 1, 1, none⟩ = some (.int .i64 q) := (blk_cell h.nw 1).trans rfl
theorem Rn.f0 (h : Rn W0 t s tv sv kx C p q w) : w.frozen? ⟨kx + 1, 0, none⟩ = false := blk_frozen h.nw 0
theorem Rn.f1 (h : Rn W0 t s tv sv kx C p q w) : w.frozen? ⟨kx + 1, 1, none⟩ = false := blk_frozen h.nw 1
theorem Rn.form {At : Option Addr} {n ct : Nat} (h : Rn W0 t s (.slice At n ct) sv kx C p q w) (hn : 0 < t.length) : ∃ g, At = some ⟨g, 0, none⟩ := by
 obtain ⟨g, cap, e, _⟩ := h.rc.told_at 0 hn
 injection e with e1 e2 e3
 exact ⟨g, e1⟩
theorem Rn.told {g n ct : Nat} (h : Rn W0 t s (.slice (some ⟨g, 0, none⟩) n ct) sv kx C p q w) (m : Nat) {i : Nat} (hi : i = t.length) (hm : m < i) {r : Pr} (hr : t.getD m (0, 0) = r) : w.cell? ⟨g, m * 2, none⟩ = some (.int .i64 r.1) ∧ w.cell? ⟨g, m * 2 + 1, none⟩ = some (.int .i64 r.2) := by
 obtain ⟨g', cap, e, c1, c2⟩ := h.rc.told_at m (by omega)
 injection e with e1 e2 e3
 injection e1 with e1
 injection e1 with e1
 subst e1
 rw [hr] at c1 c2
 exact ⟨c1, c2⟩
theorem rtell_no {i : Nat} {y : Int} (hi : i = t.length) (h : inB i y = false) : tellM t y = none := tellM_none (by
 subst hi
 rintro ⟨h1, h2⟩
 unfold inB at h
 simp only [Bool.and_eq_false_iff, decide_eq_false_iff_not] at h
 omega)
theorem rtell_yes {i : Nat} {y : Int} (hi : i = t.length) (h : inB i y = true) : ∃ m : Nat, y = (m : Int) ∧ m < i ∧ tellM t y = some (t.getD m (0, 0)) := by
 unfold inB at h
 simp only [Bool.and_eq_true, decide_eq_true_eq] at h
 refine ⟨y.toNat, by omega, by omega, tellM_some h.1 (by omega)⟩
theorem neg_wf (f : Int) : (Lit.int .i64 (wrap64 (-f))).wf = true := by
 simp only [Lit.wf, Bool.and_eq_true, decide_eq_true_eq]
 show -9223372036854775808 ≤ wrap64 (-f) ∧ wrap64 (-f) ≤ 9223372036854775807
 unfold wrap64
 omega
theorem neg_none {a : List At} {f : Int} (hl : (Lit.int .i64 f).wf = true) (h : f < 0) (ha : a.length ≤ 1000) (hn : atomM a f = none) : givenM a (wrap64 (-f)) = none := by
 have hr := lit_range f hl
 unfold givenM
 have : atomM a (wrap64 (-f)) = none := by
  unfold atomM at hn ⊢
  split at hn
  ·
   cases hn
  ·
   rename_i h1
   rw [if_neg]
   intro h2
   apply h1
   unfold litN wrap64 at *
   split at h2 <;> split <;> omega
 rw [this]
theorem neg_some {a : List At} {f : Int} {y : At} (hl : (Lit.int .i64 f).wf = true) (h : f < 0) (ha : a.length ≤ 1000) (hn : atomM a f = some y) :
 ∃ k : Nat, k < a.length ∧ wrap64 (-f) = (k : Int) + 1 ∧ a.getD k at0 = y ∧ givenM a (wrap64 (-f)) = if y.f0 = 1 then some (y.f1, y.f2) else if y.f0 = 3 then some (y.f1, 0) else none := by
 have hr := lit_range f hl
 unfold atomM at hn
 split at hn
 ·
  rename_i h1
  have hN : litN f = -f := by unfold litN; rw [if_pos h]
  rw [hN] at h1 hn
  have hw : wrap64 (-f) = -f := Go.IntWalk.wrap64_in _ ⟨by omega, by omega⟩
  refine ⟨(-f - 1).toNat, by omega, by rw [hw]; omega, Option.some.inj hn, ?_⟩
  rw [hw]
  unfold givenM
  have hN2 : litN (-f) = -f := by unfold litN; rw [if_neg (by omega)]
  have h2 : atomM a (-f) = some y := by
   unfold atomM
   rw [hN2, if_pos h1]
   exact hn
  rw [h2]
  have h3 : 0 < -f := by omega
  by_cases y1 : y.f0 = 1
  ·
   simp [y1, h]
  ·
   by_cases y3 : y.f0 = 3
   ·
    simp [y3, h]
   ·
    simp [y1, y3]
 ·
  cases hn
/-- A literal more. -/
theorem Rn.pushS (h : Rn W0 t s tv sv kx C p q w) (x : Int) {sv' : Value} (ho : w1.ownsRow 0 33 1 sv' (s.length + 1) (MM.lits s ++ [.int .i64 x])) (hg : w.grownBy w1 sv.ownBlock) (hat : ∀ g, sv'.ownBlock = some g → sv.ownBlock = some g ∨ w.heap.size ≤ g) : Rn W0 t (s ++ [x]) tv sv' kx C p q w1 where
 rc := h.rc.pushS x ho hg hat
 lk := (hg.block kx (blk_lt h.lk) (fun e => h.ks.1 e.symm)).trans h.lk
 nw := (hg.block (kx + 1) (blk_lt h.nw) (fun e => h.ks.2 e.symm)).trans h.nw
 new := h.new
 kt := h.kt
 ks := ⟨fun e => by
  rcases hat _ e with h1 | h1
  ·
   exact h.ks.1 h1
  ·
   have := h.lt
   omega, fun e => by
  rcases hat _ e with h1 | h1
  ·
   exact h.ks.2 h1
  ·
   have := h.lt
   omega⟩
/-- With two vertices' copies beside it. -/
structure Ra (W0 : World) (t : List Pr) (s : List Int) (tv sv : Value) (kx : Nat) (C : Array Value) (b8 b9 : Nat) (V8 V9 : Array Value) (w : World) : Prop where
 rn : Rn W0 t s tv sv kx C 0 0 w
 h8 : w.heap[b8]? = some (.cells V8 46 (0, 0))
 h9 : w.heap[b9]? = some (.cells V9 46 (0, 0))
theorem Ra.move {b8 b9 : Nat} {V8 V9 : Array Value} (h : Ra W0 t s tv sv kx C b8 b9 V8 V9 w) (hb : Below w.heap.size w w1) : Ra W0 t s tv sv kx C b8 b9 V8 V9 w1 :=
 ⟨h.rn.move hb, (hb.block _ (blk_lt h.h8)).trans h.h8, (hb.block _ (blk_lt h.h9)).trans h.h9⟩
theorem apply_no2 {v : List Vx} {t : List Pr} {x : Lk} (h : inB v.length x.f2 = false) : applyM v t x = none := by unfold applyM applyB; rw [h]; simp
theorem apply_no3 {v : List Vx} {t : List Pr} {x : Lk} (h : inB v.length x.f3 = false) : applyM v t x = none := by unfold applyM applyB; rw [h]; simp
theorem apply_eq {v : List Vx} {t : List Pr} {x : Lk} (h2 : inB v.length x.f2 = true) (h3 : inB v.length x.f3 = true) : applyM v t x = if (sameFn (vxM v x.f2) (vxM v x.f3) && (decide (x.f6.length = (vxM v x.f2).f1.length) && listM t x.f6 (vxM v x.f2).f1 (vxM v x.f3).f1)) = true then some (x.f2, x.f3) else none := by unfold applyM applyB; rw [h2, h3]; rfl
end Go.Proofs.YtpopohkbffhckaaDoor.KL

namespace Go.Proofs.YtpopohkbffhckaaDoor.KL
open Go.RowKit Go.Proofs.YtpopohkbffhckaaDoor.Hk Go.Proofs.YtpopohkbffhckaaDoor.Pure Go.Proofs.YtpopohkbffhckaaDoorW.PrintWords Go.Proofs.YtpopohkbffhckaaDoorW.PrintLast Go.Proofs.YtpopohkbffhckaaDoorW.PrintMore
set_option linter.unusedVariables false
/-- What the document tells of a literal: two vertices (of no matter if the third is false). -/
theorem told_ev (a : List At) (l : Int) (hl : (Lit.int .i64 l).wf = true) (ha : a.length < 4611686018427387904) :
 ∃ p : Pr, Ev (fun k => juristref17_Told.f k a l) (p.1, p.2, (givenM a l).isSome) ∧ ∀ q, givenM a l = some q → p = q := by
 have hb := wf_bd hl
 have key : ∀ n : Int, (n = litN l ∨ n < 1 ∧ litN l = 9223372036854775808) → ∃ p : Pr, Ev (fun k => juristref17_Told.j0 k a l n) (p.1, p.2, (givenM a l).isSome) ∧ ∀ q, givenM a l = some q → p = q := by
  intro n hn
  by_cases h1 : 1 ≤ litN l ∧ litN l ≤ (a.length : Int)
  ·
   obtain rfl : n = litN l := by rcases hn with h | h; exact h; omega
   have hr : (rd_T66 a (wrap64 (litN l - 1))) = a.getD (litN l - 1).toNat at0 := by rw [wrap_in (by omega) (by omega)]; rfl
   have hat : atomM a l = some (a.getD (litN l - 1).toNat at0) := by unfold atomM; rw [if_pos h1]
   have hw : wrap64 (litN l - 1) = litN l - 1 := wrap_in (by omega) (by omega)
   have base : ∀ r, Ev (fun k => juristref17_Told.j1 k a l (litN l) false) r → Ev (fun k => juristref17_Told.j0 k a l (litN l)) r := fun r h => by
    refine Ev.step (fun k => by simp only [juristref17_Told.j0]; rw [if_neg (by omega)]) ?_
    have : decide (litN l > (a.length : Int)) = false := by simp; omega
    rw [this]
    exact h
   obtain ⟨x, hx⟩ : ∃ x, a.getD (litN l - 1).toNat at0 = x := ⟨_, rfl⟩
   rw [hx] at hr hat
   by_cases k1 : x.f0 = 1
   ·
    refine ⟨(x.f1, x.f2), base _ ?_, fun q hq => ?_⟩
    ·
     refine Ev.step (f := fun _ => some (x.f1, x.f2, decide (l > 0))) (fun k => by simp only [juristref17_Told.j1]; rw [if_neg (by simp), if_pos (by omega), if_pos (by omega), hr, if_pos k1]) ?_
     have : (givenM a l).isSome = decide (l > 0) := by
      unfold givenM
      rw [hat]
      by_cases h0 : 0 < l
      ·
       simp [k1, h0]
      ·
       simp [k1, h0]
     rw [this]
     exact ev_ret _
    ·
     unfold givenM at hq
     rw [hat] at hq
     by_cases h0 : 0 < l
     ·
      simpa [k1, h0] using hq
     ·
      simp [k1, h0] at hq
   ·
    by_cases k3 : x.f0 = 3
    ·
     by_cases h0 : 0 < l
     ·
      have hg : givenM a l = some (x.f1, 0) := by unfold givenM; rw [hat]; simp [k3, h0]
      refine ⟨(x.f1, 0), base _ ?_, fun q hq => by rw [hg] at hq; exact Option.some.inj hq⟩
      refine Ev.step (f := fun _ => some (x.f1, 0, true)) (fun k => by simp only [juristref17_Told.j1]; rw [if_neg (by simp), if_pos (by omega), if_pos (by omega), hr, if_neg k1, if_pos k3, if_pos h0]) ?_
      rw [hg]
      exact ev_ret _
     ·
      have hg : givenM a l = some (x.f1, 1) := by unfold givenM; rw [hat]; simp [k3, h0]
      refine ⟨(x.f1, 1), base _ ?_, fun q hq => by rw [hg] at hq; exact Option.some.inj hq⟩
      refine Ev.step (f := fun _ => some (x.f1, 1, true)) (fun k => by simp only [juristref17_Told.j1]; rw [if_neg (by simp), if_pos (by omega), if_pos (by omega), hr, if_neg k1, if_pos k3, if_neg h0]) ?_
      rw [hg]
      exact ev_ret _
    ·
     have hg : givenM a l = none := by unfold givenM; rw [hat]; simp [k1, k3]
     refine ⟨(0, 0), base _ ?_, fun q hq => by rw [hg] at hq; cases hq⟩
     refine Ev.step (f := fun _ => some (0, 0, false)) (fun k => by simp only [juristref17_Told.j1]; rw [if_neg (by simp), if_pos (by omega), if_pos (by omega), hr, if_neg k1, if_neg k3]) ?_
     rw [hg]
     exact ev_ret _
  ·
   have hg : givenM a l = none := by unfold givenM atomM; rw [if_neg h1]
   refine ⟨(0, 0), ?_, fun q hq => by rw [hg] at hq; cases hq⟩
   have hj : Ev (fun k => juristref17_Told.j1 k a l n true) (0, 0, false) := Ev.step (f := fun _ => some (0, 0, false)) (fun k => by simp only [juristref17_Told.j1]; rw [if_pos trivial]) (ev_ret _)
   rw [hg]
   by_cases h2 : n < 1
   ·
    exact Ev.step (fun k => by simp only [juristref17_Told.j0]; rw [if_pos h2]) hj
   ·
    refine Ev.step (fun k => by simp only [juristref17_Told.j0]; rw [if_neg h2]) ?_
    have : decide (n > (a.length : Int)) = true := by simp; omega
    rw [this]
    exact hj
 unfold juristref17_Told.f
 by_cases h0 : l < 0
 ·
  obtain ⟨p, h1, h2⟩ := key (wrap64 (-l)) (by unfold litN wrap64; rw [if_pos h0]; omega)
  exact ⟨p, ev_pos h0 h1, h2⟩
 ·
  obtain ⟨p, h1, h2⟩ := key l (.inl (by unfold litN; rw [if_neg h0]))
  exact ⟨p, ev_neg h0 h1, h2⟩
theorem getD_at {α : Type} (l : List α) (d : α) (i : Nat) (h : i < l.length) : l.getD i d = l[i] := by simp [List.getD_eq_getElem?_getD, h]
theorem rdV (v : List Vx) (i : Nat) : rd_T46 v (i : Int) = v.getD i vx0 := by unfold rd_T46; rw [Int.toNat_natCast]
theorem rdA (a : List At) (i : Nat) : rd_T66 a (i : Int) = a.getD i at0 := by unfold rd_T66; rw [Int.toNat_natCast]
theorem mayA_ev (v : List Vx) (a : List At) (ha : a.length < 4611686018427387904) : Ev (fun k => juristref17_May.l2 k v a 0) (a.all (atB v.length)) := by
 refine ev_upto a.length (fun k i => juristref17_May.l2 k v a i) (fun i r => r = (a.drop i).all (atB v.length)) ?_ ?_ a.length 0 (by omega) _ (by simp)
 ·
  rintro r rfl
  refine Ev.step (f := fun _ => some true) (fun k => by simp only [juristref17_May.l2]; rw [if_neg (by omega)]) ?_
  simpa using ev_ret true
 ·
  rintro i h r rfl ih
  rw [all_drop _ _ at0 i h]
  obtain ⟨x, hx⟩ : ∃ x, a.getD i at0 = x := ⟨_, rfl⟩
  have hr := rdA a i
  rw [hx] at hr ⊢
  have e1 : inB v.length x.f1 = !(decide (x.f1 < 0) || decide (x.f1 ≥ (v.length : Int))) := by unfold inB; by_cases q : x.f1 < 0 <;> by_cases q' : x.f1 ≥ (v.length : Int) <;> simp [q, q'] <;> omega
  have e2 : inB v.length x.f2 = !(decide (x.f2 < 0) || decide (x.f2 ≥ (v.length : Int))) := by unfold inB; by_cases q : x.f2 < 0 <;> by_cases q' : x.f2 ≥ (v.length : Int) <;> simp [q, q'] <;> omega
  have j5t : Ev (fun k => juristref17_May.j5 k v a (i : Int) true) false := Ev.step (f := fun _ => some false) (fun k => by simp only [juristref17_May.j5]; rw [if_pos trivial]) (ev_ret _)
  have hn := ih _ rfl
  by_cases k1 : x.f0 = 1
  ·
   by_cases q1 : x.f1 < 0
   ·
    have : atB v.length x = false := by unfold atB; simp [k1, e1, q1]
    rw [this]
    exact Ev.step (fun k => by simp only [juristref17_May.l2]; rw [if_pos (by omega), if_pos (by omega), hr, if_pos k1, if_pos q1]) j5t
   ·
    refine Ev.step (f := fun k => juristref17_May.j5 k v a (i : Int) (decide (x.f1 ≥ (v.length : Int)))) (fun k => by simp only [juristref17_May.l2]; rw [if_pos (by omega), if_pos (by omega), hr, if_pos k1, if_neg q1]) ?_
    by_cases q2 : x.f1 ≥ (v.length : Int)
    ·
     have : atB v.length x = false := by unfold atB; simp [k1, e1, q2]
     rw [this, decide_eq_true q2]
     exact j5t
    ·
     rw [decide_eq_false q2]
     by_cases q3 : x.f2 < 0
     ·
      have : atB v.length x = false := by unfold atB; simp [k1, e2, q3]
      rw [this]
      exact Ev.step (f := fun _ => some false) (fun k => by simp only [juristref17_May.j5]; rw [if_neg (by simp), if_pos (by omega), if_pos (by omega), hr, if_pos k1, if_pos q3]) (ev_ret _)
     ·
      by_cases q4 : x.f2 ≥ (v.length : Int)
      ·
       have : atB v.length x = false := by unfold atB; simp [k1, e2, q4]
       rw [this]
       exact Ev.step (f := fun _ => some false) (fun k => by simp only [juristref17_May.j5]; rw [if_neg (by simp), if_pos (by omega), if_pos (by omega), hr, if_pos k1, if_neg q3, if_pos q4]) (ev_ret _)
      ·
       have : atB v.length x = true := by unfold atB; simp [k1, e1, e2, q1, q2, q3, q4]
       rw [this]
       exact Ev.step (f := fun k => juristref17_May.l2 k v a ((i + 1 : Nat) : Int)) (fun k => by simp only [juristref17_May.j5]; rw [if_neg (by simp), if_pos (by omega), if_pos (by omega), hr, if_pos k1, if_neg q3, if_neg q4, wrap_succ (by omega)]) hn
  ·
   have j5f : Ev (fun k => juristref17_May.j5 k v a (i : Int) false) ((a.drop (i + 1)).all (atB v.length)) :=
    Ev.step (f := fun k => juristref17_May.l2 k v a ((i + 1 : Nat) : Int)) (fun k => by simp only [juristref17_May.j5]; rw [if_neg (by simp), if_pos (by omega), if_pos (by omega), hr, if_neg k1, wrap_succ (by omega)]) hn
   by_cases k3 : x.f0 = 3
   ·
    by_cases q1 : x.f1 < 0
    ·
     have : atB v.length x = false := by unfold atB; simp [k3, e1, q1]
     rw [this]
     exact Ev.step (fun k => by simp only [juristref17_May.l2]; rw [if_pos (by omega), if_pos (by omega), hr, if_neg k1, if_pos k3, if_pos q1]) j5t
    ·
     refine Ev.step (f := fun k => juristref17_May.j5 k v a (i : Int) (decide (x.f1 ≥ (v.length : Int)))) (fun k => by simp only [juristref17_May.l2]; rw [if_pos (by omega), if_pos (by omega), hr, if_neg k1, if_pos k3, if_neg q1]) ?_
     by_cases q2 : x.f1 ≥ (v.length : Int)
     ·
      have : atB v.length x = false := by unfold atB; simp [k3, e1, q2]
      rw [this, decide_eq_true q2]
      exact j5t
     ·
      have : atB v.length x = true := by unfold atB; simp [k3, e1, q1, q2]
      rw [this, decide_eq_false q2]
      exact j5f
   ·
    have : atB v.length x = true := by unfold atB; simp [k1, k3]
    rw [this]
    exact Ev.step (fun k => by simp only [juristref17_May.l2]; rw [if_pos (by omega), if_pos (by omega), hr, if_neg k1, if_neg k3]) j5f
theorem mayI_ev (v : List Vx) (a : List At) (i : Nat) (hi : i < v.length) (hf : (v.getD i vx0).f1.length < 4611686018427387904) (hv : v.length < 4611686018427387904) (R : Bool) (hn : Ev (fun k => juristref17_May.l0 k v a ((i + 1 : Nat) : Int)) R) :
 Ev (fun k => juristref17_May.l1 k v a (i : Int) 0) ((v.getD i vx0).f1.all (inB v.length) && R) := by
 have hr := rdV v i
 obtain ⟨x, hx⟩ : ∃ x, v.getD i vx0 = x := ⟨_, rfl⟩
 rw [hx] at hr hf ⊢
 refine ev_upto x.f1.length (fun k j => juristref17_May.l1 k v a (i : Int) j) (fun j r => r = ((x.f1.drop j).all (inB v.length) && R)) ?_ ?_ x.f1.length 0 (by omega) _ (by simp)
 ·
  rintro r rfl
  refine Ev.step (f := fun k => juristref17_May.l0 k v a ((i + 1 : Nat) : Int)) (fun k => by simp only [juristref17_May.l1]; rw [if_pos (by omega), if_pos (by omega), hr, if_neg (by omega), wrap_succ (by omega)]) ?_
  simpa using hn
 ·
  rintro j h r rfl ih
  rw [drop_rd h, List.all_cons]
  by_cases q1 : rd x.f1 (j : Int) < 0
  ·
   have : inB v.length (rd x.f1 (j : Int)) = false := by unfold inB; simp; omega
   rw [this]
   exact Ev.step (f := fun _ => some false) (fun k => by simp only [juristref17_May.l1]; rw [if_pos (by omega), if_pos (by omega), hr, if_pos (by omega), if_pos (by omega), if_pos q1]) (ev_ret _)
  ·
   by_cases q2 : rd x.f1 (j : Int) ≥ (v.length : Int)
   ·
    have : inB v.length (rd x.f1 (j : Int)) = false := by unfold inB; simp; omega
    rw [this]
    exact Ev.step (f := fun _ => some false) (fun k => by simp only [juristref17_May.l1]; rw [if_pos (by omega), if_pos (by omega), hr, if_pos (by omega), if_pos (by omega), if_neg q1, if_pos q2]) (ev_ret _)
   ·
    have : inB v.length (rd x.f1 (j : Int)) = true := by unfold inB; simp; omega
    rw [this, Bool.true_and]
    exact Ev.step (f := fun k => juristref17_May.l1 k v a (i : Int) ((j + 1 : Nat) : Int)) (fun k => by simp only [juristref17_May.l1]; rw [if_pos (by omega), if_pos (by omega), hr, if_pos (by omega), if_pos (by omega), if_neg q1, if_neg q2, wrap_succ (by omega)]) (ih _ rfl)
/-- All that a maker may be but the first two. -/
def mk2 (x : Vx) (i : Nat) : Bool := if 1 < i then decide (0 ≤ x.f0) || x.f0 == -3 else true
def vx2 (n : Nat) : Nat → List Vx → Bool
 | _, [] => true
 | i, x :: l => (mk2 x i && x.f1.all (inB n)) && vx2 n (i + 1) l
theorem mayV_ev (v : List Vx) (a : List At) (hv : v.length < 4611686018427387904) (ha : a.length < 4611686018427387904) (hf : ∀ x ∈ v, x.f1.length < 4611686018427387904) :
 Ev (fun k => juristref17_May.l0 k v a 0) (vx2 v.length 0 v && a.all (atB v.length)) := by
 refine ev_upto v.length (fun k i => juristref17_May.l0 k v a i) (fun i r => r = (vx2 v.length i (v.drop i) && a.all (atB v.length))) ?_ ?_ v.length 0 (by omega) _ (by simp)
 ·
  rintro r rfl
  refine Ev.step (f := fun k => juristref17_May.l2 k v a 0) (fun k => by simp only [juristref17_May.l0]; rw [if_neg (by omega)]) ?_
  simpa [vx2] using mayA_ev v a ha
 ·
  rintro i h r rfl ih
  have hd : v.drop i = v.getD i vx0 :: v.drop (i + 1) := by rw [List.drop_eq_getElem_cons h, getD_at _ _ _ h]
  rw [hd]
  have hr := rdV v i
  have hI := mayI_ev v a i h (hf _ (by rw [getD_at _ _ _ h]; exact List.getElem_mem h)) hv _ (ih _ rfl)
  obtain ⟨x, hx⟩ : ∃ x, v.getD i vx0 = x := ⟨_, rfl⟩
  rw [hx] at hr hI ⊢
  show Ev _ (((mk2 x i && x.f1.all (inB v.length)) && vx2 v.length (i + 1) (v.drop (i + 1))) && a.all (atB v.length))
  have j2t : Ev (fun k => juristref17_May.j2 k v a (i : Int) true) false := Ev.step (f := fun _ => some false) (fun k => by simp only [juristref17_May.j2]; rw [if_pos trivial]) (ev_ret _)
  have j2f : Ev (fun k => juristref17_May.j2 k v a (i : Int) false) (x.f1.all (inB v.length) && (vx2 v.length (i + 1) (v.drop (i + 1)) && a.all (atB v.length))) :=
   Ev.step (fun k => by simp only [juristref17_May.j2]; rw [if_neg (by simp)]) hI
  by_cases h1 : 1 < i
  ·
   by_cases h0 : x.f0 < 0
   ·
    refine Ev.step (f := fun k => juristref17_May.j2 k v a (i : Int) (x.f0 != -3)) (fun k => by simp only [juristref17_May.l0]; rw [if_pos (by omega), if_pos (by omega), if_pos (by omega), hr, if_pos h0]) ?_
    by_cases h3 : x.f0 = -3
    ·
     have e1 : mk2 x i = true := by unfold mk2; simp [h1, h3]
     have e2 : (x.f0 != -3) = false := by simp [h3]
     rw [e1, e2, Bool.true_and, Bool.and_assoc]
     exact j2f
    ·
     have e1 : mk2 x i = false := by unfold mk2; simp [h1, h3]; omega
     have e2 : (x.f0 != -3) = true := by simp [h3]
     rw [e1, e2]
     simpa using j2t
   ·
    have e1 : mk2 x i = true := by unfold mk2; simp [h1]; omega
    rw [e1, Bool.true_and, Bool.and_assoc]
    exact Ev.step (fun k => by simp only [juristref17_May.l0]; rw [if_pos (by omega), if_pos (by omega), if_pos (by omega), hr, if_neg h0]) j2f
  ·
   have e1 : mk2 x i = true := by unfold mk2; simp [h1]
   rw [e1, Bool.true_and, Bool.and_assoc]
   exact Ev.step (fun k => by simp only [juristref17_May.l0]; rw [if_pos (by omega), if_neg (by omega)]) j2f
theorem vx2_drop (n : Nat) : ∀ (l : List Vx) (i : Nat), 1 < i → vxsB n (i : Int) l = vx2 n i l
 | [], _, _ => rfl
 | x :: l, i, h => by
  show (vxB n (i : Int) x && vxsB n ((i : Int) + 1) l) = ((mk2 x i && x.f1.all (inB n)) && vx2 n (i + 1) l)
  rw [show (i : Int) + 1 = ((i + 1 : Nat) : Int) by omega, vx2_drop n l (i + 1) (by omega)]
  unfold vxB makerM mk2
  rw [if_neg (by omega), if_neg (by omega), if_pos h]
theorem mayR_ev (v : List Vx) (a : List At) (hv : v.length < 4611686018427387904) (ha : a.length < 4611686018427387904) (hf : ∀ x ∈ v, x.f1.length < 4611686018427387904) : Ev (fun k => juristref17_May.f k v a) (mayM v a) := by
 have j0t : Ev (fun k => juristref17_May.j0 k v a true) false := Ev.step (f := fun _ => some false) (fun k => by simp only [juristref17_May.j0]; rw [if_pos trivial]) (ev_ret _)
 have j0f : Ev (fun k => juristref17_May.j0 k v a false) (vx2 v.length 0 v && a.all (atB v.length)) := Ev.step (fun k => by simp only [juristref17_May.j0]; rw [if_neg (by simp)]) (mayV_ev v a hv ha hf)
 unfold juristref17_May.f mayM
 by_cases h2 : v.length < 2
 ·
  have : decide (2 ≤ v.length) = false := by simp; omega
  rw [this]
  exact ev_pos (by omega) j0t
 ·
  refine ev_neg (by omega) ?_
  rw [decide_eq_true (show 2 ≤ v.length by omega), Bool.true_and]
  by_cases h3 : v.length > 20000
  ·
   have : decide (v.length ≤ 20000) = false := by simp; omega
   rw [this]
   exact ev_pos (by omega) j0t
  ·
   refine ev_neg (by omega) (ev_pos (by omega) ?_)
   rw [decide_eq_true (show v.length ≤ 20000 by omega), Bool.true_and]
   obtain ⟨x, y, l, rfl⟩ : ∃ x y l, v = x :: y :: l := by
    cases v with
    | nil => simp at h2
    | cons x v =>
     cases v with
     | nil => simp at h2
     | cons y l => exact ⟨x, y, l, rfl⟩
   have hx : (rd_T46 (x :: y :: l) 0) = x := rfl
   have hy : (rd_T46 (x :: y :: l) 1) = y := rfl
   have hs : vxsB (x :: y :: l).length 0 (x :: y :: l) = ((x.f0 == -1 && x.f1.all (inB (x :: y :: l).length)) && ((y.f0 == -2 && y.f1.all (inB (x :: y :: l).length)) && vx2 (x :: y :: l).length 2 l)) := by
    rw [← vx2_drop _ l 2 (by omega)]
    rfl
   have ht : vx2 (x :: y :: l).length 0 (x :: y :: l) = (x.f1.all (inB (x :: y :: l).length) && (y.f1.all (inB (x :: y :: l).length) && vx2 (x :: y :: l).length 2 l)) := by
    simp [vx2, mk2]
   rw [hs]
   rw [ht] at j0f
   rw [hx, hy]
   have hlen : (2 : Int) ≤ ((x :: y :: l).length : Int) := by omega
   by_cases q0 : x.f0 = -1
   ·
    refine ev_pos q0 (ev_pos (by omega) ?_)
    by_cases q1 : y.f0 = -2
    ·
     have e1 : (y.f0 != -2) = false := by simp [q1]
     have e0 : (x.f0 == -1) = true := by simp [q0]
     have e2 : (y.f0 == -2) = true := by simp [q1]
     rw [e1, e0, e2, Bool.true_and, Bool.true_and]
     exact j0f
    ·
     have e1 : (y.f0 != -2) = true := by simp [q1]
     have e2 : (y.f0 == -2) = false := by simp [q1]
     rw [e1, e2]
     simpa using j0t
   ·
    refine ev_neg q0 ?_
    have e0 : (x.f0 == -1) = false := by simp [q0]
    rw [e0]
    simpa using j0t
end Go.Proofs.YtpopohkbffhckaaDoor.KL

namespace Go.Proofs.YtpopohkbffhckaaDoor.Pure
open Go.RowKit Go.Proofs.YtpopohkbffhckaaDoor.Hk Go.Proofs.YtpopohkbffhckaaDoorW.PrintWords Go.Proofs.YtpopohkbffhckaaDoorW.PrintLast Go.Proofs.YtpopohkbffhckaaDoorW.PrintMore
theorem atom_some {x : Int} (h : (Lit.int .i64 x).wf = true) : juristref14_Atom.f x = some (wrap64 (LF.litAtom x)) := by
 have := wf_bd h
 unfold juristref14_Atom.f LF.litAtom
 split
 ·
  rfl
 ·
  rw [wrap_in (by omega) (by omega)]

end Go.Proofs.YtpopohkbffhckaaDoor.Pure

namespace Go.Proofs.YtpopohkbffhckaaDoor.Pure
open Go.RowKit Go.Proofs.YtpopohkbffhckaaDoor.Hk Go.Proofs.YtpopohkbffhckaaDoorW.PrintWords Go.Proofs.YtpopohkbffhckaaDoorW.PrintLast Go.Proofs.YtpopohkbffhckaaDoorW.PrintMore Go.Proofs.YtpopohkbffhckaaDoor.LF

/-- The least one of those that are not out yet, or 0. -/
def bestOf (out : List Int) : List Int → Int → Int
 | [], b => b
 | x :: l, b => bestOf out l (if out.contains x then b else if b = 0 then x else if litLt x b then x else b)

theorem bestOf_spec (out : List Int) : ∀ (l : List Int) (b : Int), (∀ x ∈ l, x ≠ 0) →
 (bestOf out l b = 0 ↔ b = 0 ∧ ∀ x ∈ l, x ∈ out) ∧
 (bestOf out l b ≠ 0 → (bestOf out l b = b ∨ (bestOf out l b ∈ l ∧ bestOf out l b ∉ out)) ∧ (b ≠ 0 → ¬ litLt b (bestOf out l b)) ∧ (∀ x ∈ l, x ∉ out → ¬ litLt x (bestOf out l b)))
 | [], b, _ => by simp [bestOf, litLt_irrefl]
 | y :: l, b, h0 => by
  have hy : y ≠ 0 := h0 y (by simp)
  unfold bestOf
  by_cases hc : out.contains y = true
  ·
   rw [if_pos hc]
   have hm : y ∈ out := by simpa using hc
   obtain ⟨h1, h2⟩ := bestOf_spec out l b (fun x hx => h0 x (by simp [hx]))
   refine ⟨?_, fun hne => ?_⟩
   ·
    rw [h1]; simp [hm]
   ·
    obtain ⟨a, c, d⟩ := h2 hne
    refine ⟨?_, c, fun x hx hxo => ?_⟩
    ·
     rcases a with a | ⟨a, a'⟩
     ·
      exact .inl a
     ·
      exact .inr ⟨by simp [a], a'⟩
    ·
     rcases List.mem_cons.1 hx with rfl | hx
     ·
      exact absurd hm hxo
     ·
      exact d x hx hxo
  ·
   rw [if_neg hc]
   have hm : y ∉ out := by simpa using hc
   have key : ∀ b', (b' = y ∨ b' = b) → b' ≠ 0 → (b ≠ 0 → ¬ litLt b b') → ¬ litLt y b' →
    (bestOf out l b' = 0 ↔ b = 0 ∧ ∀ x ∈ y :: l, x ∈ out) ∧
    (bestOf out l b' ≠ 0 → (bestOf out l b' = b ∨ (bestOf out l b' ∈ y :: l ∧ bestOf out l b' ∉ out)) ∧ (b ≠ 0 → ¬ litLt b (bestOf out l b')) ∧ (∀ x ∈ y :: l, x ∉ out → ¬ litLt x (bestOf out l b'))) := by
    intro b' hb' hne' hbb hyb
    obtain ⟨h1, h2⟩ := bestOf_spec out l b' (fun x hx => h0 x (by simp [hx]))
    refine ⟨?_, fun hne => ?_⟩
    ·
     rw [h1]
     constructor
     ·
      rintro ⟨h, _⟩; exact absurd h hne'
     ·
      rintro ⟨_, h⟩; exact absurd (h y (by simp)) hm
    ·
     obtain ⟨a, c, d⟩ := h2 hne
     have c := c hne'
     have tr : ∀ z, ¬ litLt z b' → ¬ litLt z (bestOf out l b') := by
      intro z hz hz'
      rcases litLt_total b' (bestOf out l b') with k | k | k
      ·
       exact c k
      ·
       rw [← k] at hz'; exact hz hz'
      ·
       exact hz (litLt_trans hz' k)
     refine ⟨?_, fun hb => tr b (hbb hb), fun x hx hxo => ?_⟩
     ·
      rcases a with a | ⟨a, a'⟩
      ·
       rcases hb' with rfl | rfl
       ·
        exact .inr ⟨by simp [a], by rw [a]; exact hm⟩
       ·
        exact .inl a
      ·
       exact .inr ⟨by simp [a], a'⟩
     ·
      rcases List.mem_cons.1 hx with rfl | hx
      ·
       exact tr x hyb
      ·
       exact d x hx hxo
   by_cases hb : b = 0
   ·
    rw [if_pos hb]
    exact key y (.inl rfl) hy (fun h => absurd hb h) (litLt_irrefl y)
   ·
    rw [if_neg hb]
    by_cases hlt : litLt y b
    ·
     rw [if_pos hlt]
     exact key y (.inl rfl) hy (fun _ => litLt_asymm hlt) (litLt_irrefl y)
    ·
     rw [if_neg hlt]
     exact key b (.inr rfl) hb (fun _ => litLt_irrefl b) hlt

theorem litAtom_wf {x : Int} (h : -9223372036854775807 ≤ x ∧ x ≤ 9223372036854775807) : wrap64 (litAtom x) = litAtom x := by
 unfold litAtom; split <;> exact wrap_in (by omega) (by omega)

/-- The inner loop: the best one, and on. -/
theorem normal_inner (l out : List Int) (r : List Int) (hl : l.length < 4611686018427387904) (ho : out.length < 4611686018427387904) (hw : ∀ x ∈ l, x ≠ 0 ∧ -9223372036854775807 ≤ x ∧ x ≤ 9223372036854775807) :
 ∀ d i, i + d = l.length → ∀ b : Int, -9223372036854775807 ≤ b ∧ b ≤ 9223372036854775807 →
  Ev (fun k => if bestOf out (l.drop i) b = 0 then some out else if out.length < 17592186044416 then juristref14_Normal.l0 k l (out ++ [bestOf out (l.drop i) b]) else none) r →
  Ev (fun k => juristref14_Normal.l1 k l out b (i : Int)) r := by
 intro d
 induction d with
 | zero =>
  intro i hi b _ h
  obtain rfl : i = l.length := by omega
  rw [List.drop_length] at h
  exact Ev.step (fun k => by simp only [juristref14_Normal.l1]; rw [if_neg (by omega)]; rfl) h
 | succ d ih =>
  intro i hi b hb h
  have hlt : i < l.length := by omega
  have hx := hw _ (rd_mem hlt)
  rw [drop_rd hlt] at h
  unfold bestOf at h
  have hhas := has_ev out (rd l (i : Int)) ho
  have hwx : (Lit.int .i64 (rd l (i : Int))).wf = true := wfI_iff.2 (by omega)
  have hwb : (Lit.int .i64 b).wf = true := wfI_iff.2 (by omega)
  have e1 : juristref14_Atom.f (rd l (i : Int)) = some (litAtom (rd l (i : Int))) := by rw [atom_some hwx, litAtom_wf hx.2]
  have e2 : juristref14_Atom.f b = some (litAtom b) := by rw [atom_some hwb, litAtom_wf hb]
  have next := fun b' hb' => ih (i + 1) (by omega) b' hb'
  refine Ev.step (fun k => by simp only [juristref14_Normal.l1]; rw [if_pos (by omega), if_pos (by omega), wrap_succ (by omega)]) ?_
  refine Ev.bind hhas ?_
  by_cases hc : out.contains (rd l (i : Int)) = true
  ·
   rw [if_pos hc] at h
   refine ev_pos hc (next b hb h)
  ·
   rw [if_neg hc] at h
   refine ev_neg hc ?_
   by_cases hb0 : b = 0
   ·
    rw [if_pos hb0] at h
    exact ev_pos hb0 (next _ hx.2 h)
   ·
    rw [if_neg hb0] at h
    refine ev_neg hb0 ?_
    refine ev_got e1 (ev_got e2 ?_)
    by_cases hlt2 : litAtom (rd l (i : Int)) < litAtom b
    ·
     rw [if_pos (.inl hlt2)] at h
     exact ev_pos hlt2 (next _ hx.2 h)
    ·
     refine ev_neg hlt2 (ev_got e1 (ev_got e2 ?_))
     by_cases heq : litAtom (rd l (i : Int)) = litAtom b
     ·
      refine ev_pos heq ?_
      by_cases hgt : rd l (i : Int) > b
      ·
       rw [if_pos (.inr ⟨heq, hgt⟩)] at h
       exact ev_pos hgt (next _ hx.2 h)
      ·
       rw [if_neg (by unfold litLt; omega)] at h
       exact ev_neg hgt (next b hb h)
     ·
      rw [if_neg (by unfold litLt; omega)] at h
      exact ev_neg heq (next b hb h)

theorem length_filter_lt {p : Int → Bool} : ∀ {l : List Int} {x : Int}, x ∈ l → p x = false → (l.filter p).length < l.length
 | [], _, h, _ => by simp at h
 | y :: l, x, h, hp => by
  rw [List.length_cons]
  rcases List.mem_cons.1 h with rfl | h
  ·
   rw [List.filter_cons_of_neg (by simp [hp])]
   have := List.length_filter_le p l
   omega
  ·
   have := length_filter_lt h hp
   by_cases hy : p y = true
   ·
    rw [List.filter_cons_of_pos hy, List.length_cons]; omega
   ·
    rw [List.filter_cons_of_neg hy]; omega

/-- The document's form of a list without 0. -/
theorem normal_ev (l : List Int) (hl : l.length < 17592186044416) (hw : ∀ x ∈ l, x ≠ 0 ∧ -9223372036854775807 ≤ x ∧ x ≤ 9223372036854775807) : Ev (fun k => juristref14_Normal.f k l) (canon l) := by
 unfold juristref14_Normal.f
 suffices H : ∀ n (out : List Int), (l.filter fun x => !out.contains x).length ≤ n → out.length + n ≤ l.length → out.Pairwise litLt → (∀ x ∈ out, x ∈ l) → (∀ x ∈ out, ∀ y ∈ l, y ∉ out → litLt x y) → Ev (fun k => juristref14_Normal.l0 k l out) (canon l) from
  H l.length [] (List.length_filter_le _ _) (by simp) (by simp) (by simp) (by simp)
 intro n
 induction n with
 | zero =>
  intro out hn hlen hp hs ha
  have hall : ∀ x ∈ l, x ∈ out := by
   intro x hx
   have h0 : (l.filter fun x => !out.contains x) = [] := List.eq_nil_of_length_eq_zero (by omega)
   have := List.filter_eq_nil_iff.1 h0 x hx
   simpa using this
  refine Ev.step (f := fun k => juristref14_Normal.l1 k l out 0 0) (fun k => rfl) ?_
  refine normal_inner l out _ (by omega) (by omega) hw l.length 0 (by omega) 0 (by omega) ?_
  have hb : bestOf out (l.drop 0) 0 = 0 := ((bestOf_spec out _ 0 (fun x hx => (hw x (by simpa using hx)).1)).1).2 ⟨rfl, by simpa using hall⟩
  refine ev_pos hb ?_
  rw [canon_eq hp (fun x => ⟨fun h => hs x h, fun h => hall x h⟩)]
  exact ev_ret _
 | succ n ih =>
  intro out hn hlen hp hs ha
  refine Ev.step (f := fun k => juristref14_Normal.l1 k l out 0 0) (fun k => rfl) ?_
  refine normal_inner l out _ (by omega) (by omega) hw l.length 0 (by omega) 0 (by omega) ?_
  rw [List.drop_zero]
  obtain ⟨h1, h2⟩ := bestOf_spec out l 0 (fun x hx => (hw x hx).1)
  by_cases hb : bestOf out l 0 = 0
  ·
   refine ev_pos hb ?_
   have hall := (h1.1 hb).2
   rw [canon_eq hp (fun x => ⟨fun h => hs x h, fun h => hall x h⟩)]
   exact ev_ret _
  ·
   refine ev_neg hb (ev_pos (by omega) ?_)
   obtain ⟨a, _, c⟩ := h2 hb
   have hm : bestOf out l 0 ∈ l ∧ bestOf out l 0 ∉ out := by
    rcases a with a | a
    ·
     exact absurd a hb
    ·
     exact a
   generalize bestOf out l 0 = b at *
   refine ih (out ++ [b]) ?_ (by simp; omega) ?_ ?_ ?_
   ·
    have e : (l.filter fun x => !(out ++ [b]).contains x) = (l.filter fun x => !out.contains x).filter fun x => x != b := by
     rw [List.filter_filter]
     congr 1
     funext x
     rw [Bool.eq_iff_iff]
     simp [and_comm]
    rw [e]
    have : b ∈ l.filter fun x => !out.contains x := by
     rw [List.mem_filter]; exact ⟨hm.1, by simpa using hm.2⟩
    have := length_filter_lt (p := fun x => x != b) this (by simp)
    omega
   ·
    rw [List.pairwise_append]
    refine ⟨hp, by simp, fun x hx y hy => ?_⟩
    have : y = b := by simpa using hy
    subst this
    exact ha x hx y hm.1 hm.2
   ·
    intro x hx
    rcases List.mem_append.1 hx with hx | hx
    ·
     exact hs x hx
    ·
     have : x = b := by simpa using hx
     subst this; exact hm.1
   ·
    intro x hx y hy hyo
    have hyo' : y ∉ out ∧ y ≠ b := by simpa using hyo
    rcases List.mem_append.1 hx with hx | hx
    ·
     exact ha x hx y hy hyo'.1
    ·
     have : x = b := by simpa using hx
     subst this
     rcases litLt_total x y with k | k | k
     ·
      exact k
     ·
      exact absurd k.symm hyo'.2
     ·
      exact absurd k (c y hy hyo'.1)
end Go.Proofs.YtpopohkbffhckaaDoor.Pure
