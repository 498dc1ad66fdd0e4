/- Walks of the look at a certificate: link. Walks of the look at a certificate: link of no kind. Walks of the look at a certificate: link of the kind 2. Walks of the look at a certificate: link of the kind 3. Walks of the look at a certificate: link of the kind 5. -/
import Derived.Test.YtpopohkbffhckaaDoorLkY
import Derived.Deep.DeepCutAuto
import Derived.Deep.RegionHeld3
import Derived.StillTailTactics
import Derived.Outline
namespace Go.Proofs.YtpopohkbffhckaaDoor.KL
open Go.RowKit Go.Proofs.YtpopohkbffhckaaDoorW.PrintWords Go.Proofs.YtpopohkbffhckaaDoorW.PrintLast Go.Proofs.YtpopohkbffhckaaDoorW.PrintMore Go.Proofs.YtpopohkbffhckaaDoor.MM Go.Proofs.YtpopohkbffhckaaDoor.Hk
set_option linter.unusedSimpArgs false
set_option linter.unusedVariables false
variable {W0 w w1 w2 : World} {k : Nat} {A0 A1 : Option Addr} {c0 c1 : Nat} {v : List Vx} {a : List At} {t : List Pr} {s : List Int} {tv sv : Value}

theorem drew_blk {w : World} {b : Nat} {o : Option Obj} (h : w.heap[b]? = o) : w.drew.heap[b]? = o := h
abbrev lkK (K : Int) (x : Lk) (L : Value) : Array Value := #[.int .u8 K, .int .i64 x.f1, .int .i64 x.f2, .int .i64 x.f3, .int .i64 x.f4, .int .i64 x.f5, L]
/-- What a link answers, and the look behind it. -/
def Linked (W0 : World) (k : Nat) (A0 : Option Addr) (c0 : Nat) (v : List Vx) (A1 : Option Addr) (c1 : Nat) (a : List At) (t : List Pr) (s : List Int) (tv : Value) (x : Lk) (e : Ending) (w' : World) : Prop :=
 e = .returned (.tuple #[prA (linkM v a t x).1, .bool (linkM v a t x).2.1, .bool (linkM v a t x).2.2]) ∧ ∃ sv', Look W0 k A0 c0 v A1 c1 a t (s ++ litsOf x) tv sv' w'
theorem Linked.still {x : Lk} (h : Look W0 k A0 c0 v A1 c1 a t s tv sv w) (hl : litsOf x = []) {w' : World} (hb : Below w.heap.size w w') {p : Pr} {b c : Bool} (hm : linkM v a t x = (p, b, c)) :
 Linked W0 k A0 c0 v A1 c1 a t s tv x (.returned (.tuple #[prA p, .bool b, .bool c])) w' := by
 refine ⟨by rw [hm], sv, ?_⟩
 rw [hl, List.append_nil]
 exact h.move hb
/-- A frame of a link: its box and its result's block. -/
structure Fr (w : World) (K : Int) (x : Lk) (L p q : Value) (W : World) : Prop where
 below : Below w.heap.size w W
 bx : W.heap[w.heap.size]? = some (.cells (lkK K x L) 36 (0, 0))
 rb : W.heap[w.heap.size + 1]? = some (.cells #[p, q] 54 (0, 0))
theorem Fr.made (w : World) (K : Int) (x : Lk) (L : Value) : Fr w K x L (.int .i64 0) (.int .i64 0) ((w.alloc (.cells (lkK K x L) 36)).alloc (.cells #[.int .i64 0, .int .i64 0] 54)) :=
 ⟨((Below.refl _ _).alloc (Nat.le_refl _) _).alloc (by simp) _, (Go.heap_alloc_old _ _ (by simp)).trans (heap_alloc_new w _), new2 _ _ _⟩
theorem Fr.move {K : Int} {x : Lk} {L p q : Value} {W W' : World} (h : Fr w K x L p q W) (hb : Below W.heap.size W W') : Fr w K x L p q W' :=
 ⟨h.below.trans (hb.mono h.below.size), (hb.block _ (blk_lt h.bx)).trans h.bx, (hb.block _ (blk_lt h.rb)).trans h.rb⟩
theorem Fr.alloc {K : Int} {x : Lk} {L p q : Value} {W : World} (h : Fr w K x L p q W) (o : Obj) : Fr w K x L p q (W.alloc o) := h.move ((Below.refl _ _).alloc (Nat.le_refl _) _)
theorem Fr.set {K : Int} {x : Lk} {L p q : Value} {W : World} (h : Fr w K x L p q W) (p' q' : Value) : Fr w K x L p' q' ((W.setCell ⟨w.heap.size + 1, 0, none⟩ p').setCell ⟨w.heap.size + 1, 1, none⟩ q') :=
 ⟨two_below h.below (Nat.le_succ _) _ _, (Below.heap_setCell _ _ _ _ (by simp)).trans ((Below.heap_setCell _ _ _ _ (by simp)).trans h.bx), two_set h.rb _ _⟩
theorem Fr.drew {K : Int} {x : Lk} {L p q : Value} {W : World} (h : Fr w K x L p q W) : Fr w K x L p q W.drew := ⟨h.below.drew, h.bx, h.rb⟩
theorem Fr.facts {K : Int} {x : Lk} {L p q : Value} {W : World} (h : Fr w K x L p q W) : W.frozen? ⟨w.heap.size + 1, 0, none⟩ = false ∧ W.frozen? ⟨w.heap.size + 1, 1, none⟩ = false ∧ W.cell? ⟨w.heap.size + 1, 0, none⟩ = some p ∧ W.cell? ⟨w.heap.size + 1, 1, none⟩ = some q ∧ w.heap.size + 1 < W.heap.size :=
 ⟨blk_frozen h.rb 0, blk_frozen h.rb 1, (blk_cell h.rb 0).trans rfl, (blk_cell h.rb 1).trans rfl, blk_lt h.rb⟩
theorem Fr.cells {K : Int} {x : Lk} {L p q : Value} {W : World} (h : Fr w K x L p q W) : W.cell? ⟨w.heap.size, 0, none⟩ = some (.int .u8 K) ∧ W.cell? ⟨w.heap.size, 1, none⟩ = some (.int .i64 x.f1) ∧ W.cell? ⟨w.heap.size, 2, none⟩ = some (.int .i64 x.f2) ∧ W.cell? ⟨w.heap.size, 3, none⟩ = some (.int .i64 x.f3) ∧ W.cell? ⟨w.heap.size, 4, none⟩ = some (.int .i64 x.f4) ∧ W.cell? ⟨w.heap.size, 5, none⟩ = some (.int .i64 x.f5) ∧ W.cell? ⟨w.heap.size, 6, none⟩ = some L :=
 ⟨(blk_cell h.bx 0).trans rfl, (blk_cell h.bx 1).trans rfl, (blk_cell h.bx 2).trans rfl, (blk_cell h.bx 3).trans rfl, (blk_cell h.bx 4).trans rfl, (blk_cell h.bx 5).trans rfl, (blk_cell h.bx 6).trans rfl⟩
theorem Look.far {W : World} (h : Look W0 k A0 c0 v A1 c1 a t s tv sv W) (b o : Nat) (u : Value) (hb : W0.heap.size ≤ b) (hk : b ≠ k) (ht : tv.ownBlock ≠ some b) (hs : sv.ownBlock ≠ some b) : Look W0 k A0 c0 v A1 c1 a t s tv sv (W.setCell ⟨b, o, none⟩ u) where
 ctx := h.ctx
 below := h.below.setCell hb _
 new := h.new
 blk := (Below.heap_setCell _ _ _ _ (fun e => hk e.symm)).trans h.blk
 told := own_move h.told fun g hg => Below.heap_setCell _ _ _ _ (fun e => ht (by rw [hg, e]))
 lts := own_move h.lts fun g hg => Below.heap_setCell _ _ _ _ (fun e => hs (by rw [hg, e]))
 tnew := h.tnew
 snew := h.snew
 ap := h.ap
theorem Look.drew {W : World} (h : Look W0 k A0 c0 v A1 c1 a t s tv sv W) : Look W0 k A0 c0 v A1 c1 a t s tv sv W.drew where
 ctx := h.ctx
 below := h.below.drew
 new := h.new
 blk := h.blk
 told := own_move h.told fun g hg => rfl
 lts := own_move h.lts fun g hg => rfl
 tnew := h.tnew
 snew := h.snew
 ap := h.ap
theorem tell_ctx {i : Int} {n : Nat} (h : t.length = n) : tellM t i = none ∨ ∃ p, tellM t i = some p := by
 cases tellM t i with
 | none => exact .inl rfl
 | some p => exact .inr ⟨p, rfl⟩
end Go.Proofs.YtpopohkbffhckaaDoor.KL

namespace Go.Proofs.YtpopohkbffhckaaDoor.KL
open Go.RowKit Go.Proofs.YtpopohkbffhckaaDoorW.PrintWords Go.Proofs.YtpopohkbffhckaaDoorW.PrintLast Go.Proofs.YtpopohkbffhckaaDoorW.PrintMore Go.Proofs.YtpopohkbffhckaaDoor.MM Go.Proofs.YtpopohkbffhckaaDoor.Hk
set_option linter.unusedSimpArgs false
set_option linter.unusedVariables false
variable {W0 w w1 w2 : World} {k : Nat} {A0 A1 : Option Addr} {c0 c1 : Nat} {v : List Vx} {a : List At} {t : List Pr} {s : List Int} {tv sv : Value}
set_option maxRecDepth 100000 in
set_option maxHeartbeats 3200000 in
theorem link_0 (h : Look W0 k A0 c0 v A1 c1 a t s tv sv w) (x : Lk) (A6 : Option Addr) (c6 : Nat) (hC : (Kd.int .i64).C W0 A6 x.f6.length x.f6) (hl : (Lit.int .i64 x.f1).wf = true) (ha : a.length ≤ 1000) (hv : v.length ≤ 1000) (hL : x.f6.length ≤ 1000) (hs : s.length ≤ 1000) (hK : ¬ x.f0 = 1 ∧ ¬ x.f0 = 2 ∧ ¬ x.f0 = 3 ∧ ¬ x.f0 = 4 ∧ ¬ x.f0 = 5 ∧ ¬ x.f0 = 6 ∧ ¬ x.f0 = 7) :
 Calls Tryd.prog 19 #[ptr k, lkA x (.slice A6 x.f6.length c6)] w (Linked W0 k A0 c0 v A1 c1 a t s tv x) := by
 obtain ⟨k1, k2, k3, k4, k5, k6, k7⟩ := hK
 have HM := hid (show linkM v a t x = ((0, 0), false, false) by unfold linkM; rw [if_neg k1, if_neg k2, if_neg k3, if_neg k4, if_neg k5, if_neg k6, if_neg k7])
 have HL := hid (show litsOf x = [] by unfold litsOf; rw [if_neg (by omega)])
 have H := hid h
 clear h hC
 go_enter Tryd.func19, Tryd.ntmps19
 go_wp2
 refine bodyPost_ret (results_ctt rfl _ _ _ _ _ _ _ rfl (new2 _ _ _) Tryd.underlying54 rfl (by kernel_rfl)) rfl ?_
 exact Linked.still H.out HL.out (((Below.refl _ _).alloc (Nat.le_refl _) _).alloc (by simp) _) HM.out
end Go.Proofs.YtpopohkbffhckaaDoor.KL

namespace Go.Proofs.YtpopohkbffhckaaDoor.KL
open Go.RowKit Go.Proofs.YtpopohkbffhckaaDoorW.PrintWords Go.Proofs.YtpopohkbffhckaaDoorW.PrintLast Go.Proofs.YtpopohkbffhckaaDoorW.PrintMore Go.Proofs.YtpopohkbffhckaaDoor.MM Go.Proofs.YtpopohkbffhckaaDoor.Hk
set_option linter.unusedSimpArgs false
set_option linter.unusedVariables false
variable {W0 w w1 w2 : World} {k : Nat} {A0 A1 : Option Addr} {c0 c1 : Nat} {v : List Vx} {a : List At} {t : List Pr} {s : List Int} {tv sv : Value}
set_option maxRecDepth 100000 in
set_option maxHeartbeats 3200000 in
theorem link_2 (h : Look W0 k A0 c0 v A1 c1 a t s tv sv w) (x : Lk) (A6 : Option Addr) (c6 : Nat) (hC : (Kd.int .i64).C W0 A6 x.f6.length x.f6) (hl : (Lit.int .i64 x.f1).wf = true) (ha : a.length ≤ 1000) (hv : v.length ≤ 1000) (hL : x.f6.length ≤ 1000) (hs : s.length ≤ 1000) (hK : x.f0 = 2) :
 Calls Tryd.prog 19 #[ptr k, lkA x (.slice A6 x.f6.length c6)] w (Linked W0 k A0 c0 v A1 c1 a t s tv x) := by
 have hk := h.lt
 obtain ⟨hc0, hc1, hc2, hc3⟩ := h.cells
 obtain ⟨nv, hnv⟩ : ∃ n, n = v.length := ⟨_, rfl⟩
 have HM0 := hid (show linkM v a t x = ((x.f2, x.f2), false, inB v.length x.f2) by unfold linkM; rw [if_neg (by omega), if_pos hK])
 rw [← hnv] at hc0 hv HM0
 have HL := hid (show litsOf x = [] by unfold litsOf; rw [if_neg (by omega)])
 have H := hid h
 clear h hC hnv
 have kn : ¬ k = w.heap.size + 1 := by omega
 have kn' : ¬ w.heap.size + 1 = k := by omega
 by_cases j1 : 0 ≤ x.f2
 ·
  by_cases j2 : x.f2 < (nv : Int)
  ·
   have HM := hid (show linkM v a t x = ((x.f2, x.f2), false, true) by rw [HM0.out]; unfold inB; simp [j1, j2])
   clear HM0
   go_enter Tryd.func19, Tryd.ntmps19
   go_wp2_with fail
   obtain ⟨W1, hW1⟩ : ∃ W1, W1 = (w.alloc (.cells (lkK 2 x (.slice A6 x.f6.length c6)) 36)).alloc (.cells #[.int .i64 0, .int .i64 0] 54) := ⟨_, rfl⟩
   have hb : Below w.heap.size w W1 := by rw [hW1]; exact ((Below.refl _ _).alloc (Nat.le_refl _) _).alloc (by simp) _
   have hbx : W1.heap[w.heap.size]? = some (.cells (lkK 2 x (.slice A6 x.f6.length c6)) 36 (0, 0)) := by
    rw [hW1]
    exact (Go.heap_alloc_old _ _ (by simp)).trans (heap_alloc_new w _)
   have hrb : W1.heap[w.heap.size + 1]? = some (.cells #[.int .i64 0, .int .i64 0] 54 (0, 0)) := by rw [hW1]; exact new2 _ _ _
   rw [← hW1]
   have HB := hid hb
   have HRB := hid hrb
   have z2 : W1.cell? ⟨w.heap.size, 2, none⟩ = some (.int .i64 x.f2) := (blk_cell hbx 2).trans rfl
   have z0 : W1.cell? ⟨k, 0, none⟩ = some (.slice A0 nv c0) := (hb.cell (p := ⟨k, 0, none⟩) hk).trans hc0
   have f0 := blk_frozen hrb 0
   have f1 := blk_frozen hrb 1
   have r0 : W1.cell? ⟨w.heap.size + 1, 0, none⟩ = some (.int .i64 0) := (blk_cell hrb 0).trans rfl
   have r1 : W1.cell? ⟨w.heap.size + 1, 1, none⟩ = some (.int .i64 0) := (blk_cell hrb 1).trans rfl
   clear hb hbx hrb hW1
   go_region_held3 (fun w' => w'.cell? ⟨k, 0, none⟩ = some (.slice A0 nv c0) ∧ w'.cell? ⟨w.heap.size, 2, none⟩ = some (.int .i64 x.f2)) (go_keep) (fail)
   go_wp2
   refine bodyPost_ret (results_ctt rfl _ _ _ _ _ _ _ rfl (drew_blk (two_set (two_set HRB.out _ _) _ _)) Tryd.underlying54 rfl (by kernel_rfl)) rfl ?_
   have hB := (two_below (two_below HB.out (Nat.le_succ _) (.int .i64 x.f2) (.int .i64 x.f2)) (Nat.le_succ _) (.int .i64 x.f2) (.int .i64 x.f2)).drew
   exact Linked.still (p := (x.f2, x.f2)) (b := false) (c := true) H.out HL.out hB HM.out
  ·
   have HM := hid (show linkM v a t x = ((x.f2, x.f2), false, false) by rw [HM0.out]; unfold inB; simp [j2])
   have j3 : decide (x.f2 < (nv : Int)) = false := by simpa using j2
   clear HM0
   go_enter Tryd.func19, Tryd.ntmps19
   go_wp2_with fail
   obtain ⟨W1, hW1⟩ : ∃ W1, W1 = (w.alloc (.cells (lkK 2 x (.slice A6 x.f6.length c6)) 36)).alloc (.cells #[.int .i64 0, .int .i64 0] 54) := ⟨_, rfl⟩
   have hb : Below w.heap.size w W1 := by rw [hW1]; exact ((Below.refl _ _).alloc (Nat.le_refl _) _).alloc (by simp) _
   have hbx : W1.heap[w.heap.size]? = some (.cells (lkK 2 x (.slice A6 x.f6.length c6)) 36 (0, 0)) := by
    rw [hW1]
    exact (Go.heap_alloc_old _ _ (by simp)).trans (heap_alloc_new w _)
   have hrb : W1.heap[w.heap.size + 1]? = some (.cells #[.int .i64 0, .int .i64 0] 54 (0, 0)) := by rw [hW1]; exact new2 _ _ _
   rw [← hW1]
   have HB := hid hb
   have HRB := hid hrb
   have z2 : W1.cell? ⟨w.heap.size, 2, none⟩ = some (.int .i64 x.f2) := (blk_cell hbx 2).trans rfl
   have z0 : W1.cell? ⟨k, 0, none⟩ = some (.slice A0 nv c0) := (hb.cell (p := ⟨k, 0, none⟩) hk).trans hc0
   have f0 := blk_frozen hrb 0
   have f1 := blk_frozen hrb 1
   have r0 : W1.cell? ⟨w.heap.size + 1, 0, none⟩ = some (.int .i64 0) := (blk_cell hrb 0).trans rfl
   have r1 : W1.cell? ⟨w.heap.size + 1, 1, none⟩ = some (.int .i64 0) := (blk_cell hrb 1).trans rfl
   clear hb hbx hrb hW1
   go_region_held3 (fun w' => w'.cell? ⟨k, 0, none⟩ = some (.slice A0 nv c0) ∧ w'.cell? ⟨w.heap.size, 2, none⟩ = some (.int .i64 x.f2)) (go_keep) (fail)
   go_wp2
   refine bodyPost_ret (results_ctt rfl _ _ _ _ _ _ _ rfl (drew_blk (two_set (two_set HRB.out _ _) _ _)) Tryd.underlying54 rfl (by kernel_rfl)) rfl ?_
   have hB := (two_below (two_below HB.out (Nat.le_succ _) (.int .i64 x.f2) (.int .i64 x.f2)) (Nat.le_succ _) (.int .i64 x.f2) (.int .i64 x.f2)).drew
   exact Linked.still (p := (x.f2, x.f2)) (b := false) (c := false) H.out HL.out hB HM.out
 ·
  have HM := hid (show linkM v a t x = ((x.f2, x.f2), false, false) by rw [HM0.out]; unfold inB; simp [j1])
  have j3 : decide (0 ≤ x.f2) = false := by simpa using j1
  have j4 : decide (x.f2 ≥ 0) = false := by simpa using j1
  have j5 : x.f2 < 0 := by omega
  clear HM0
  go_enter Tryd.func19, Tryd.ntmps19
  go_wp2_with fail
  obtain ⟨W1, hW1⟩ : ∃ W1, W1 = (w.alloc (.cells (lkK 2 x (.slice A6 x.f6.length c6)) 36)).alloc (.cells #[.int .i64 0, .int .i64 0] 54) := ⟨_, rfl⟩
  have hb : Below w.heap.size w W1 := by rw [hW1]; exact ((Below.refl _ _).alloc (Nat.le_refl _) _).alloc (by simp) _
  have hbx : W1.heap[w.heap.size]? = some (.cells (lkK 2 x (.slice A6 x.f6.length c6)) 36 (0, 0)) := by
   rw [hW1]
   exact (Go.heap_alloc_old _ _ (by simp)).trans (heap_alloc_new w _)
  have hrb : W1.heap[w.heap.size + 1]? = some (.cells #[.int .i64 0, .int .i64 0] 54 (0, 0)) := by rw [hW1]; exact new2 _ _ _
  rw [← hW1]
  have HB := hid hb
  have HRB := hid hrb
  have z2 : W1.cell? ⟨w.heap.size, 2, none⟩ = some (.int .i64 x.f2) := (blk_cell hbx 2).trans rfl
  have z0 : W1.cell? ⟨k, 0, none⟩ = some (.slice A0 nv c0) := (hb.cell (p := ⟨k, 0, none⟩) hk).trans hc0
  have f0 := blk_frozen hrb 0
  have f1 := blk_frozen hrb 1
  have r0 : W1.cell? ⟨w.heap.size + 1, 0, none⟩ = some (.int .i64 0) := (blk_cell hrb 0).trans rfl
  have r1 : W1.cell? ⟨w.heap.size + 1, 1, none⟩ = some (.int .i64 0) := (blk_cell hrb 1).trans rfl
  clear hb hbx hrb hW1
  have hSS : (fun w' : World => w'.cell? ⟨k, 0, none⟩ = some (.slice A0 nv c0) ∧ w'.cell? ⟨w.heap.size, 2, none⟩ = some (.int .i64 x.f2)) W1.drew := ⟨z0, z2⟩
  refine wp_region_noPanic ?_
  refine start_ (n := 20) (S := (fun w' : World => w'.cell? ⟨k, 0, none⟩ = some (.slice A0 nv c0) ∧ w'.cell? ⟨w.heap.size, 2, none⟩ = some (.int .i64 x.f2))) (ds := []) (msk 0 20) (by kernel_rfl) rfl rfl hSS (fun hHeld => ?_)
  refine take_ (i := 0) (N := some 39) (v := ?_) (a' := ?_) (msk 1 20) rfl rfl (by kernel_rfl) (fun _ _ _ h => h) (Or.inl ⟨by rfl, ?_⟩) hHeld ?_ ?_
  rotate_left
  · rintro w' ⟨s0, s1⟩; go_simp; with_reducible rfl
  rotate_left
  · simp only [Act.put, sA, sB, sC]; rfl
  refine take_ (i := 1) (N := some 40) (v := ?_) (a' := ?_) (msk 2 20) rfl rfl (by kernel_rfl) (fun _ _ _ h => h) (Or.inl ⟨by rfl, ?_⟩) hHeld ?_ ?_
  rotate_left
  · rintro w' ⟨s0, s1⟩; go_simp; with_reducible rfl
  rotate_left
  · simp only [Act.put, sA, sB, sC]; rfl
  refine take_ (i := 2) (N := some 41) (v := ?_) (a' := ?_) (msk 3 20) rfl rfl (by kernel_rfl) (fun _ _ _ h => h) (Or.inl ⟨by rfl, ?_⟩) hHeld ?_ ?_
  rotate_left
  · rintro w' ⟨s0, s1⟩; go_simp; with_reducible rfl
  rotate_left
  · simp only [Act.put, sA, sB, sC]; rfl
  refine take_ (i := 3) (N := some 42) (v := ?_) (a' := ?_) (msk 4 20) rfl rfl (by kernel_rfl) (fun _ _ _ h => h) (Or.inl ⟨by rfl, ?_⟩) hHeld ?_ ?_
  rotate_left
  · rintro w' ⟨s0, s1⟩; go_simp; with_reducible rfl
  rotate_left
  · simp only [Act.put, sA, sB, sC]; rfl
  refine take_ (i := 4) (N := some 43) (v := ?_) (a' := ?_) (msk 5 20) rfl rfl (by kernel_rfl) (fun _ _ _ h => h) (Or.inl ⟨by rfl, ?_⟩) hHeld ?_ ?_
  rotate_left
  · rintro w' ⟨s0, s1⟩; go_simp; with_reducible rfl
  rotate_left
  · simp only [Act.put, sA, sB, sC]; rfl
  refine take_ (i := 5) (N := some 44) (v := ?_) (a' := ?_) (msk 6 20) rfl rfl (by kernel_rfl) (fun _ _ _ h => h) (Or.inl ⟨by rfl, ?_⟩) hHeld ?_ ?_
  rotate_left
  · rintro w' ⟨s0, s1⟩; go_simp; with_reducible rfl
  rotate_left
  · simp only [Act.put, sA, sB, sC]; rfl
  refine take_ (i := 6) (N := some 45) (v := ?_) (a' := ?_) (msk 7 20) rfl rfl (by kernel_rfl) (fun _ _ _ h => h) (Or.inl ⟨by rfl, ?_⟩) hHeld ?_ ?_
  rotate_left
  · rintro w' ⟨s0, s1⟩; go_simp; with_reducible rfl
  rotate_left
  · simp only [Act.put, sA, sB, sC]; rfl
  refine take_ (i := 7) (N := some 46) (v := ?_) (a' := ?_) (msk 8 20) rfl rfl (by kernel_rfl) (fun _ _ _ h => h) (Or.inl ⟨by rfl, ?_⟩) hHeld ?_ ?_
  rotate_left
  · rintro w' ⟨s0, s1⟩; go_simp; with_reducible rfl
  rotate_left
  · simp only [Act.put, sA, sB, sC]; rfl
  refine take_ (i := 8) (N := some 47) (v := ?_) (a' := ?_) (msk 9 20) rfl rfl (by kernel_rfl) (fun _ _ _ h => h) (Or.inl ⟨by rfl, ?_⟩) hHeld ?_ ?_
  rotate_left
  · rintro w' ⟨s0, s1⟩; go_simp; with_reducible rfl
  rotate_left
  · simp only [Act.put, sA, sB, sC]; rfl
  refine take_ (i := 9) (N := some 48) (v := undef) (a' := ?_) (msk 10 20) rfl rfl (by kernel_rfl) (fun _ _ _ h => h) (Or.inr ⟨by rfl, rfl⟩) hHeld ?_ ?_
  rotate_left
  · simp only [Act.put, sA, sB, sC]; rfl
  refine take_ (i := 10) (N := some 49) (v := undef) (a' := ?_) (msk 11 20) rfl rfl (by kernel_rfl) (fun _ _ _ h => h) (Or.inr ⟨by rfl, rfl⟩) hHeld ?_ ?_
  rotate_left
  · simp only [Act.put, sA, sB, sC]; rfl
  refine take_ (i := 11) (N := some 50) (v := undef) (a' := ?_) (msk 12 20) rfl rfl (by kernel_rfl) (fun _ _ _ h => h) (Or.inr ⟨by rfl, rfl⟩) hHeld ?_ ?_
  rotate_left
  · simp only [Act.put, sA, sB, sC]; rfl
  refine take_ (i := 12) (N := some 51) (v := undef) (a' := ?_) (msk 13 20) rfl rfl (by kernel_rfl) (fun _ _ _ h => h) (Or.inr ⟨by rfl, rfl⟩) hHeld ?_ ?_
  rotate_left
  · simp only [Act.put, sA, sB, sC]; rfl
  refine take_ (i := 13) (N := some 52) (v := undef) (a' := ?_) (msk 14 20) rfl rfl (by kernel_rfl) (fun _ _ _ h => h) (Or.inr ⟨by rfl, rfl⟩) hHeld ?_ ?_
  rotate_left
  · simp only [Act.put, sA, sB, sC]; rfl
  refine take_ (i := 14) (N := some 53) (v := undef) (a' := ?_) (msk 15 20) rfl rfl (by kernel_rfl) (fun _ _ _ h => h) (Or.inr ⟨by rfl, rfl⟩) hHeld ?_ ?_
  rotate_left
  · simp only [Act.put, sA, sB, sC]; rfl
  refine take_ (i := 15) (N := some 54) (v := undef) (a' := ?_) (msk 16 20) rfl rfl (by kernel_rfl) (fun _ _ _ h => h) (Or.inr ⟨by rfl, rfl⟩) hHeld ?_ ?_
  rotate_left
  · simp only [Act.put, sA, sB, sC]; rfl
  refine take_ (i := 16) (N := some 55) (v := undef) (a' := ?_) (msk 17 20) rfl rfl (by kernel_rfl) (fun _ _ _ h => h) (Or.inr ⟨by rfl, rfl⟩) hHeld ?_ ?_
  rotate_left
  · simp only [Act.put, sA, sB, sC]; rfl
  refine take_ (i := 17) (N := some 56) (v := ?_) (a' := ?_) (msk 18 20) rfl rfl (by kernel_rfl) (fun _ _ _ h => h) (Or.inl ⟨by rfl, ?_⟩) hHeld ?_ ?_
  rotate_left
  · rintro w' ⟨s0, s1⟩; go_simp; with_reducible rfl
  rotate_left
  · simp only [Act.put, sA, sB, sC]; rfl
  refine one_ (i := 18) (N := none) (msk 19 20) rfl rfl (by kernel_rfl) (by decide) (fun K hK => ?_)
  refine skip_ (by rfl) rfl (w1 := (W1.drew.setCell ⟨w.heap.size + 1, 0, none⟩ (.int .i64 x.f2)).setCell ⟨w.heap.size + 1, 1, none⟩ (.int .i64 x.f2)) (by go_simp; first | done | rfl) ?_
  refine hK.out _ _ (by constructor <;> (go_simp; first | done | assumption)) (fun hHeld => ?_)
  refine take_ (i := 19) (N := some 6) (v := ?_) (a' := ?_) (msk 20 20) rfl rfl (by kernel_rfl) (fun _ _ _ h => h) (Or.inl ⟨by rfl, ?_⟩) hHeld ?_ ?_
  rotate_left
  · rintro w' ⟨s0, s1⟩; go_simp; with_reducible rfl
  rotate_left
  · simp only [Act.put, sA, sB, sC]; rfl
  refine done_ (by kernel_rfl) ?_
  try simp only [NoPanic, Exit.then]
  go_wp2
  refine bodyPost_ret (results_ctt rfl _ _ _ _ _ _ _ rfl (drew_blk (two_set (two_set HRB.out _ _) _ _)) Tryd.underlying54 rfl (by kernel_rfl)) rfl ?_
  have hB := (two_below (two_below HB.out (Nat.le_succ _) (.int .i64 x.f2) (.int .i64 x.f2)) (Nat.le_succ _) (.int .i64 x.f2) (.int .i64 x.f2)).drew
  exact Linked.still (p := (x.f2, x.f2)) (b := false) (c := false) H.out HL.out hB HM.out
end Go.Proofs.YtpopohkbffhckaaDoor.KL

namespace Go.Proofs.YtpopohkbffhckaaDoor.KL
open Go.RowKit Go.Proofs.YtpopohkbffhckaaDoorW.PrintWords Go.Proofs.YtpopohkbffhckaaDoorW.PrintLast Go.Proofs.YtpopohkbffhckaaDoorW.PrintMore Go.Proofs.YtpopohkbffhckaaDoor.MM Go.Proofs.YtpopohkbffhckaaDoor.Hk
set_option linter.unusedSimpArgs false
set_option linter.unusedVariables false
variable {W0 w w1 w2 : World} {k : Nat} {A0 A1 : Option Addr} {c0 c1 : Nat} {v : List Vx} {a : List At} {t : List Pr} {s : List Int} {tv sv : Value}
set_option maxRecDepth 100000 in
set_option maxHeartbeats 3200000 in
theorem link_3 (h : Look W0 k A0 c0 v A1 c1 a t s tv sv w) (x : Lk) (A6 : Option Addr) (c6 : Nat) (hC : (Kd.int .i64).C W0 A6 x.f6.length x.f6) (hl : (Lit.int .i64 x.f1).wf = true) (ha : a.length ≤ 1000) (hv : v.length ≤ 1000) (hL : x.f6.length ≤ 1000) (hs : s.length ≤ 1000) (hK : x.f0 = 3) :
 Calls Tryd.prog 19 #[ptr k, lkA x (.slice A6 x.f6.length c6)] w (Linked W0 k A0 c0 v A1 c1 a t s tv x) := by
 have hk := h.lt
 have HM0 := hid (show linkM v a t x = (((prO (tellM t x.f4)).2, (prO (tellM t x.f4)).1), false, (tellM t x.f4).isSome) by unfold linkM; rw [if_neg (by omega), if_neg (by omega), if_pos hK])
 have HL := hid (show litsOf x = [] by unfold litsOf; rw [if_neg (by omega)])
 have H := hid h
 cases ht : tellM t x.f4 with
 | none =>
  have HT := hid (fun W (hW : Below w.heap.size w W) => tell_no (h.move hW) ht)
  have HM := hid (show linkM v a t x = ((-1, -1), false, false) by rw [HM0.out, ht]; rfl)
  clear h hC HM0 ht
  go_enter Tryd.func19, Tryd.ntmps19
  go_wp2_with fail
  obtain ⟨W1, hW1⟩ : ∃ W1, W1 = (w.alloc (.cells (lkK 3 x (.slice A6 x.f6.length c6)) 36)).alloc (.cells #[.int .i64 0, .int .i64 0] 54) := ⟨_, rfl⟩
  have F1 := hid (Fr.made w 3 x (.slice A6 x.f6.length c6))
  rw [← hW1] at F1 ⊢
  clear hW1
  refine (HT.out W1 F1.out.below).mono ?_
  rintro e w2 ⟨rfl, hb2⟩
  have F2 := hid (F1.out.move hb2)
  obtain ⟨f0, f1, r0, r1, hsz⟩ := F2.out.facts
  clear hb2
  have F9 := hid (((F2.out.set (.int .i64 (-1)) (.int .i64 (-1))).set (.int .i64 (-1)) (.int .i64 (-1))).alloc (.cells #[(.int .i64 (-1)), (.int .i64 (-1))] 54))
  go_wp2
  refine bodyPost_ret (results_ctt rfl _ _ _ _ _ _ _ rfl F9.out.rb Tryd.underlying54 rfl (by kernel_rfl)) rfl ?_
  refine Linked.still (p := (-1, -1)) (b := false) (c := false) H.out HL.out ?_ HM.out
  with_reducible exact F9.out.below
 | some p =>
  obtain ⟨p1, p2⟩ := p
  have HT := hid (fun W (hW : Below w.heap.size w W) => tell_yes (h.move hW) ht)
  have HM := hid (show linkM v a t x = ((p2, p1), false, true) by rw [HM0.out, ht]; rfl)
  clear h hC HM0 ht
  go_enter Tryd.func19, Tryd.ntmps19
  go_wp2_with fail
  obtain ⟨W1, hW1⟩ : ∃ W1, W1 = (w.alloc (.cells (lkK 3 x (.slice A6 x.f6.length c6)) 36)).alloc (.cells #[.int .i64 0, .int .i64 0] 54) := ⟨_, rfl⟩
  have F1 := hid (Fr.made w 3 x (.slice A6 x.f6.length c6))
  rw [← hW1] at F1 ⊢
  clear hW1
  refine (HT.out W1 F1.out.below).mono ?_
  rintro e w2 ⟨rfl, hb2⟩
  have F2 := hid (F1.out.move hb2)
  obtain ⟨f0, f1, r0, r1, hsz⟩ := F2.out.facts
  clear hb2
  have F9 := hid (((F2.out.set (.int .i64 p2) (.int .i64 p1)).set (.int .i64 p2) (.int .i64 p1)).alloc (.cells #[(.int .i64 p1), (.int .i64 p2)] 54))
  go_wp2
  refine bodyPost_ret (results_ctt rfl _ _ _ _ _ _ _ rfl F9.out.rb Tryd.underlying54 rfl (by kernel_rfl)) rfl ?_
  refine Linked.still (p := (p2, p1)) (b := false) (c := true) H.out HL.out ?_ HM.out
  with_reducible exact F9.out.below
end Go.Proofs.YtpopohkbffhckaaDoor.KL

namespace Go.Proofs.YtpopohkbffhckaaDoor.KL
open Go.RowKit Go.Proofs.YtpopohkbffhckaaDoorW.PrintWords Go.Proofs.YtpopohkbffhckaaDoorW.PrintLast Go.Proofs.YtpopohkbffhckaaDoorW.PrintMore Go.Proofs.YtpopohkbffhckaaDoor.MM Go.Proofs.YtpopohkbffhckaaDoor.Hk
set_option linter.unusedSimpArgs false
set_option linter.unusedVariables false
variable {W0 w w1 w2 : World} {k : Nat} {A0 A1 : Option Addr} {c0 c1 : Nat} {v : List Vx} {a : List At} {t : List Pr} {s : List Int} {tv sv : Value}
set_option maxRecDepth 100000 in
set_option maxHeartbeats 3200000 in
theorem link_5 (h : Look W0 k A0 c0 v A1 c1 a t s tv sv w) (x : Lk) (A6 : Option Addr) (c6 : Nat) (hC : (Kd.int .i64).C W0 A6 x.f6.length x.f6) (hl : (Lit.int .i64 x.f1).wf = true) (ha : a.length ≤ 1000) (hv : v.length ≤ 1000) (hL : x.f6.length ≤ 1000) (hs : s.length ≤ 1000) (hK : x.f0 = 5) :
 Calls Tryd.prog 19 #[ptr k, lkA x (.slice A6 x.f6.length c6)] w (Linked W0 k A0 c0 v A1 c1 a t s tv x) := by
 have hk := h.lt
 have HM0 := hid (show linkM v a t x = (prO (applyM v t x), false, (applyM v t x).isSome) by unfold linkM; rw [if_neg (by omega), if_neg (by omega), if_neg (by omega), if_neg (by omega), if_pos hK])
 have HL := hid (show litsOf x = [] by unfold litsOf; rw [if_neg (by omega)])
 have H := hid h
 obtain ⟨⟨p1, p2⟩, hp⟩ : ∃ p, prO (applyM v t x) = p := ⟨_, rfl⟩
 obtain ⟨b, hb⟩ : ∃ b, (applyM v t x).isSome = b := ⟨_, rfl⟩
 rw [hp, hb] at HM0
 have HT : Hid (∀ W, Below w.heap.size w W → Calls Tryd.prog 29 #[ptr k, .agg (lkK 5 x (.slice A6 x.f6.length c6))] W fun e w' => e = .returned (.tuple #[.agg #[.int .i64 p1, .int .i64 p2], .bool b]) ∧ Below W.heap.size W w') := hid (fun W hW => by
  have h1 := apply_calls (h.move hW) x A6 c6 (Kd.C_below hC (h.move hW).below) hv hL
  rw [hp, hb] at h1
  unfold lkA at h1
  rw [hK] at h1
  exact h1)
 clear h hC hp hb
 go_enter Tryd.func19, Tryd.ntmps19
 go_wp2_with fail
 obtain ⟨W1, hW1⟩ : ∃ W1, W1 = (w.alloc (.cells (lkK 5 x (.slice A6 x.f6.length c6)) 36)).alloc (.cells #[.int .i64 0, .int .i64 0] 54) := ⟨_, rfl⟩
 have F1 := hid (Fr.made w 5 x (.slice A6 x.f6.length c6))
 rw [← hW1] at F1 ⊢
 clear hW1
 obtain ⟨z0, z1, z2, z3, z4, z5, z6⟩ := F1.out.cells
 refine (HT.out W1 F1.out.below).mono ?_
 rintro e w2 ⟨rfl, hb2⟩
 have F2 := hid (F1.out.move hb2)
 obtain ⟨f0, f1, r0, r1, hsz⟩ := F2.out.facts
 clear hb2 z0 z1 z2 z3 z4 z5 z6
 have F9 := hid ((F2.out.set (.int .i64 p1) (.int .i64 p2)).set (.int .i64 p1) (.int .i64 p2))
 go_wp2
 refine bodyPost_ret (results_ctt rfl _ _ _ _ _ _ _ rfl F9.out.rb Tryd.underlying54 rfl (by kernel_rfl)) rfl ?_
 refine Linked.still (p := (p1, p2)) (b := false) (c := b) H.out HL.out ?_ HM0.out
 with_reducible exact F9.out.below
end Go.Proofs.YtpopohkbffhckaaDoor.KL
