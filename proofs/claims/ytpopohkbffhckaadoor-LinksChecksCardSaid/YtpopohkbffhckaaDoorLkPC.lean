/- Walks of the look at a certificate: link of the kind 1. Walks of the look at a certificate: link of the kind 6. Walks of the look at a certificate: link of the kind 7. Walks of the look at a certificate: link. -/
import Derived.Test.YtpopohkbffhckaaDoorLkPA
import Derived.Deep.DeepCutAuto
import Derived.Deep.RegionHeld3
import Derived.StillTailTactics
import Derived.Outline
import Derived.Test.YtpopohkbffhckaaDoorLkPB
namespace Go.Proofs.YtpopohkbffhckaaDoor.KL
open Go.RowKit Go.Proofs.YtpopohkbffhckaaDoorW.PrintWords Go.Proofs.YtpopohkbffhckaaDoorW.PrintLast Go.Proofs.YtpopohkbffhckaaDoorW.PrintMore Go.Proofs.YtpopohkbffhckaaDoor.MM Go.Proofs.YtpopohkbffhckaaDoor.Hk
set_option linter.unusedSimpArgs false
set_option linter.unusedVariables false
variable {W0 w w1 w2 : World} {k : Nat} {A0 A1 : Option Addr} {c0 c1 : Nat} {v : List Vx} {a : List At} {t : List Pr} {s : List Int} {tv sv : Value}
set_option maxRecDepth 100000 in
set_option maxHeartbeats 3200000 in
theorem link_1 (h : Look W0 k A0 c0 v A1 c1 a t s tv sv w) (x : Lk) (A6 : Option Addr) (c6 : Nat) (hC : (Kd.int .i64).C W0 A6 x.f6.length x.f6) (hl : (Lit.int .i64 x.f1).wf = true) (ha : a.length ≤ 1000) (hv : v.length ≤ 1000) (hL : x.f6.length ≤ 1000) (hs : s.length ≤ 1000) (hK : x.f0 = 1) :
 Calls Tryd.prog 19 #[ptr k, lkA x (.slice A6 x.f6.length c6)] w (Linked W0 k A0 c0 v A1 c1 a t s tv x) := by
 have hk := h.lt
 obtain ⟨As, cs, rfl, hcs, hCs⟩ := h.sshape
 obtain ⟨ns, hns⟩ : ∃ n, n = s.length := ⟨_, rfl⟩
 have HNS := hid hns
 have H := hid h
 rw [← hns] at hs H
 have HT0 := hid (show W0.heap.size ≤ w.heap.size + 1 ∧ ∀ b, tv.ownBlock = some b → b < w.heap.size from ⟨Nat.le_succ_of_le h.below.size, fun b hb => (h.told.lt b hb).2⟩)
 have HM0 := hid (show linkM v a t x = (prO (givenM a x.f1), false, (givenM a x.f1).isSome) by unfold linkM; rw [if_pos hK])
 have HL := hid (show litsOf x = [x.f1] by unfold litsOf; rw [if_pos (by omega)])
 obtain ⟨⟨p1, p2⟩, hp⟩ : ∃ p, prO (givenM a x.f1) = p := ⟨_, rfl⟩
 obtain ⟨b, hb⟩ : ∃ b, (givenM a x.f1).isSome = b := ⟨_, rfl⟩
 rw [hp, hb] at HM0
 have HT : Hid (∀ W, Below w.heap.size w W → Calls Tryd.prog 27 #[ptr k, .int .i64 x.f1] W fun e w' => e = .returned (.tuple #[.agg #[.int .i64 p1, .int .i64 p2], .bool b]) ∧ Below W.heap.size W w') := hid (fun W hW => by
  have h1 := given_calls (h.move hW) x.f1 hl ha
  rw [hp, hb] at h1
  exact h1)
 clear h hC hp hb hns hcs hCs
 go_enter Tryd.func19, Tryd.ntmps19
 go_wp2_with fail
 obtain ⟨W1, hW1⟩ : ∃ W1, W1 = (w.alloc (.cells (lkK 1 x (.slice A6 x.f6.length c6)) 36)).alloc (.cells #[.int .i64 0, .int .i64 0] 54) := ⟨_, rfl⟩
 have F1 := hid (Fr.made w 1 x (.slice A6 x.f6.length c6))
 rw [← hW1] at F1 ⊢
 clear hW1
 obtain ⟨z0, z1, z2, z3, z4, z5, z6⟩ := F1.out.cells
 refine (HT.out W1 F1.out.below).mono ?_
 rintro e w2 ⟨rfl, hb2⟩
 have F2 := hid (F1.out.move hb2)
 obtain ⟨f0, f1, r0, r1, hsz⟩ := F2.out.facts
 clear hb2 z0 z1 z2 z3 z4 z5 z6
 go_wp2_with fail
 obtain ⟨W3, hW3⟩ : ∃ W3, W3 = (w2.setCell ⟨w.heap.size + 1, 0, none⟩ (.int .i64 p1)).setCell ⟨w.heap.size + 1, 1, none⟩ (.int .i64 p2) := ⟨_, rfl⟩
 have F3 := hid (F2.out.set (.int .i64 p1) (.int .i64 p2))
 rw [← hW3] at F3 ⊢
 have HL3 := hid (H.out.move F3.out.below)
 clear f0 f1 r0 r1 hsz hW3
 obtain ⟨i33, hi33, hz0, hz1, hz2⟩ := info_parts info33
 have hk3 := HL3.out.lt
 obtain ⟨_, _, _, y3⟩ := HL3.out.cells
 have z1 : W3.cell? ⟨w.heap.size, 1, none⟩ = some (.int .i64 x.f1) := F3.out.cells.2.1
 have hsz3 : w.heap.size + 1 < W3.heap.size := F3.out.facts.2.2.2.2
 have HLA := hid (HL3.out.drew.move ((Below.refl _ W3.drew).alloc (Nat.le_refl _) (.cells #[.int .i64 x.f1] 33)))
 have HOW := hid (show (W3.drew.alloc (.cells #[.int .i64 x.f1] 33)).ownsRow 0 33 1 (.slice As ns cs) ns (MM.lits s) by
  have h1 := HLA.out.lts
  rw [← HNS.out] at h1
  exact h1)
 have HKS := hid (show some k ≠ (Value.slice As ns cs).ownBlock from fun e => (HL3.out.snew k e.symm).2 rfl)
 have hSS : (fun w' : World => w'.cell? ⟨k, 3, none⟩ = some (.slice As ns cs) ∧ w'.cell? ⟨w.heap.size, 1, none⟩ = some (.int .i64 x.f1)) W3.drew := ⟨y3, z1⟩
 refine wp_region_noPanic ?_
 refine start_ (n := 12) (S := (fun w' : World => w'.cell? ⟨k, 3, none⟩ = some (.slice As ns cs) ∧ w'.cell? ⟨w.heap.size, 1, none⟩ = some (.int .i64 x.f1))) (ds := [8, 11]) (msk 0 12) (by kernel_rfl) rfl rfl hSS (fun hHeld => ?_)
 refine pure_ (i := 0) (N := some 26) (v := ?_) (a' := ?_) (msk 1 12) rfl rfl (by kernel_rfl) (fun _ _ _ h => h) (Or.inl ⟨by rfl, ?_⟩) ?_ ?_
 rotate_left
 · intro w'; go_simp; with_reducible rfl
 rotate_left
 · simp only [Act.put, sA, sB, sC]; rfl
 refine take_ (i := 1) (N := some 27) (v := ?_) (a' := ?_) (msk 2 12) rfl rfl (by kernel_rfl) (fun _ _ _ h => h) (Or.inl ⟨by rfl, ?_⟩) hHeld ?_ ?_
 rotate_left
 · rintro w' ⟨s0, s1⟩; go_simp; with_reducible rfl
 rotate_left
 · simp only [Act.put, sA, sB, sC]; rfl
 refine take_ (i := 2) (N := some 28) (v := ?_) (a' := ?_) (msk 3 12) rfl rfl (by kernel_rfl) (fun _ _ _ h => h) (Or.inl ⟨by rfl, ?_⟩) hHeld ?_ ?_
 rotate_left
 · rintro w' ⟨s0, s1⟩; go_simp; with_reducible rfl
 rotate_left
 · simp only [Act.put, sA, sB, sC]; rfl
 refine take_ (i := 3) (N := some 29) (v := ?_) (a' := ?_) (msk 4 12) rfl rfl (by kernel_rfl) (fun _ _ _ h => h) (Or.inl ⟨by rfl, ?_⟩) hHeld ?_ ?_
 rotate_left
 · rintro w' ⟨s0, s1⟩; go_simp; with_reducible rfl
 rotate_left
 · simp only [Act.put, sA, sB, sC]; rfl
 refine take_ (i := 4) (N := some 30) (v := ?_) (a' := ?_) (msk 5 12) rfl rfl (by kernel_rfl) (fun _ _ _ h => h) (Or.inl ⟨by rfl, ?_⟩) hHeld ?_ ?_
 rotate_left
 · rintro w' ⟨s0, s1⟩; go_simp; with_reducible rfl
 rotate_left
 · simp only [Act.put, sA, sB, sC]; rfl
 refine take_ (i := 5) (N := some 31) (v := ?_) (a' := ?_) (msk 6 12) rfl rfl (by kernel_rfl) (fun _ _ _ h => h) (Or.inl ⟨by rfl, ?_⟩) hHeld ?_ ?_
 rotate_left
 · rintro w' ⟨s0, s1⟩; go_simp; with_reducible rfl
 rotate_left
 · simp only [Act.put, sA, sB, sC]; rfl
 refine take_ (i := 6) (N := some 32) (v := ?_) (a' := ?_) (msk 7 12) rfl rfl (by kernel_rfl) (fun _ _ _ h => h) (Or.inl ⟨by rfl, ?_⟩) hHeld ?_ ?_
 rotate_left
 · rintro w' ⟨s0, s1⟩; go_simp; with_reducible rfl
 rotate_left
 · simp only [Act.put, sA, sB, sC]; rfl
 refine one_ (i := 7) (N := some 33) (msk 8 12) rfl rfl (by kernel_rfl) (by decide) (fun K hK => ?_)
 refine value_ (by rfl) rfl (v := .slice (some ⟨W3.heap.size, 0, none⟩) 1 1) (w1 := W3.drew.alloc (.cells #[.int .i64 x.f1] 33)) (by go_simp; first | done | rfl) ?_
 refine hK.out _ _ ⟨(HLA.out.cells).2.2.2, (F3.out.alloc _).cells.2.1⟩ (fun hHeld => ?_)
 refine norm_ (a' := ?_) ?_ ?_
 rotate_left
 · simp only [Act.put, sA, sB, sC]; rfl
 refine last_ (i := 8) (N := some 34) (msk 9 12) rfl rfl (by kernel_rfl) (by decide) (fun K hK => ?_)
 refine step_append_lies _ (by rfl) _ _ _ (by rfl) 0 33 i33 (.int .i64 0) 1 8 Tryd.underlying28 hi33 hz0 hz1 hz2 rfl (by omega) (.slice As ns cs) ns (MM.lits s) (by rfl) HOW.out ⟨W3.heap.size, 0, none⟩ 1 1 [.int .i64 x.f1] (by rfl) (by rfl) (fun j u hu => World.news_of_block (heap_alloc_new W3.drew (.cells #[.int .i64 x.f1] 33)) j u (by simpa using hu)) (by simp [Value.oneCell']) (by omega) (by unfold maxLen; omega) (by omega) (Nat.zero_le _) (W3.heap.size + 1) (by simp) ?_
 intro g cap w5 ho5 hg5 hat5 hlt5
 refine hK.out _ _ ?_
 refine norm_ (a' := ?_) ?_ ?_
 rotate_left
 · simp only [Act.put, sA, sB, sC]; rfl
 have hk5 := (hg5.block k (by simp; omega) HKS.out).trans HLA.out.blk
 have c5 : w5.cell? ⟨k, 3, none⟩ = some (.slice As ns cs) := (blk_cell hk5 3).trans rfl
 have f5 : w5.frozen? ⟨k, 3, none⟩ = false := blk_frozen hk5 3
 refine pure_ (i := 9) (N := some 35) (v := ?_) (a' := ?_) (msk 10 12) rfl rfl (by kernel_rfl) (fun _ _ _ h => h) (Or.inl ⟨by rfl, ?_⟩) ?_ ?_
 rotate_left
 · intro w'; go_simp; with_reducible rfl
 rotate_left
 · simp only [Act.put, sA, sB, sC]; rfl
 refine pure_ (i := 10) (N := some 36) (v := ?_) (a' := ?_) (msk 11 12) rfl rfl (by kernel_rfl) (fun _ _ _ h => h) (Or.inl ⟨by rfl, ?_⟩) ?_ ?_
 rotate_left
 · intro w'; go_simp; with_reducible rfl
 rotate_left
 · simp only [Act.put, sA, sB, sC]; rfl
 refine last_ (i := 11) (N := none) (msk 12 12) rfl rfl (by kernel_rfl) (by decide) (fun K hK => ?_)
 refine skip_ (by rfl) rfl (w1 := w5.setCell ⟨k, 3, none⟩ (.slice (some ⟨g, 0, none⟩) (ns + 1) cap)) (by go_simp; first | done | rfl) ?_
 refine hK.out _ _ ?_
 refine done_ (by kernel_rfl) ?_
 try simp only [NoPanic, Exit.then]
 have hb5 : ∀ b, b = w.heap.size ∨ b = w.heap.size + 1 → (w5.setCell ⟨k, 3, none⟩ (.slice (some ⟨g, 0, none⟩) (ns + 1) cap)).heap[b]? = W3.heap[b]? := fun b hb =>
  (Below.heap_setCell _ _ _ _ (by have := H.out.lt; simp; omega)).trans ((hg5.block b (by simp; omega) (fun e => by have h1 := (H.out.lts.lt b e.symm).2; omega)).trans (Go.heap_alloc_old W3.drew _ (by show b < W3.heap.size; omega)))
 have HB5 := hid hb5
 have HL7 := hid (HLA.out.pushS x.f1 (sv' := .slice (some ⟨g, 0, none⟩) (ns + 1) cap) (by rw [show s.length + 1 = ns + 1 by rw [HNS.out]]; exact ho5) hg5 (fun g' hg' => by
  have hg' : g = g' := by simpa [Value.ownBlock] using hg'
  rcases hat5 with h1 | h1
  ·
   exact .inl (by rw [← hg']; exact h1)
  ·
   exact .inr (by simp; omega)))
 have HG := hid (show g ≠ w.heap.size ∧ g ≠ w.heap.size + 1 by
  rcases hat5 with h1 | h1
  ·
   have := (H.out.lts.lt g h1).2
   omega
  ·
   omega)
 clear hb5 ho5 hg5 hat5 hlt5 hk5 c5 f5 hi33 hz0 hz1 hz2 y3 z1 HLA HKS HOW
 obtain ⟨W7, hW7⟩ : ∃ W7, W7 = w5.setCell ⟨k, 3, none⟩ (.slice (some ⟨g, 0, none⟩) (ns + 1) cap) := ⟨_, rfl⟩
 rw [← hW7] at HB5 HL7 ⊢
 have hs7 : w.heap.size + 1 < W7.heap.size := blk_lt ((HB5.out _ (.inr rfl)).trans F3.out.rb)
 clear hW7
 have hrb := (HB5.out _ (.inr rfl)).trans F3.out.rb
 have HRB := hid hrb
 have f0 := blk_frozen hrb 0
 have f1 := blk_frozen hrb 1
 have r0 : W7.cell? ⟨w.heap.size + 1, 0, none⟩ = some (.int .i64 p1) := (blk_cell hrb 0).trans rfl
 have r1 : W7.cell? ⟨w.heap.size + 1, 1, none⟩ = some (.int .i64 p2) := (blk_cell hrb 1).trans rfl
 have hR := hid (two_set hrb (.int .i64 p1) (.int .i64 p2))
 clear hrb
 go_wp2
 refine bodyPost_ret (results_ctt rfl _ _ _ _ _ _ _ rfl hR.out Tryd.underlying54 rfl (by kernel_rfl)) rfl ?_
 refine ⟨by rw [HM0.out]; rfl, .slice (some ⟨g, 0, none⟩) (ns + 1) cap, ?_⟩
 rw [HL.out]
 have hkn : w.heap.size + 1 ≠ k := by omega
 have htn : tv.ownBlock ≠ some (w.heap.size + 1) := fun e => by have := HT0.out.2 _ e; omega
 have hsn : (Value.slice (some ⟨g, 0, none⟩) (ns + 1) cap).ownBlock ≠ some (w.heap.size + 1) := fun e => HG.out.2 (by simpa [Value.ownBlock] using e)
 exact (HL7.out.far _ 0 _ HT0.out.1 hkn htn hsn).far _ 1 _ HT0.out.1 hkn htn hsn
end Go.Proofs.YtpopohkbffhckaaDoor.KL

namespace Go.Proofs.YtpopohkbffhckaaDoor.KL
open Go.RowKit Go.Proofs.YtpopohkbffhckaaDoorW.PrintWords Go.Proofs.YtpopohkbffhckaaDoorW.PrintLast Go.Proofs.YtpopohkbffhckaaDoorW.PrintMore Go.Proofs.YtpopohkbffhckaaDoor.MM Go.Proofs.YtpopohkbffhckaaDoor.Hk
set_option linter.unusedSimpArgs false
set_option linter.unusedVariables false
variable {W0 w w1 w2 : World} {k : Nat} {A0 A1 : Option Addr} {c0 c1 : Nat} {v : List Vx} {a : List At} {t : List Pr} {s : List Int} {tv sv : Value}
set_option maxRecDepth 100000 in
set_option maxHeartbeats 3200000 in
theorem link_6 (h : Look W0 k A0 c0 v A1 c1 a t s tv sv w) (x : Lk) (A6 : Option Addr) (c6 : Nat) (hC : (Kd.int .i64).C W0 A6 x.f6.length x.f6) (hl : (Lit.int .i64 x.f1).wf = true) (ha : a.length ≤ 1000) (hv : v.length ≤ 1000) (hL : x.f6.length ≤ 1000) (hs : s.length ≤ 1000) (hK : x.f0 = 6) :
 Calls Tryd.prog 19 #[ptr k, lkA x (.slice A6 x.f6.length c6)] w (Linked W0 k A0 c0 v A1 c1 a t s tv x) := by
 have hk := h.lt
 obtain ⟨As, cs, rfl, hcs, hCs⟩ := h.sshape
 obtain ⟨ns, hns⟩ : ∃ n, n = s.length := ⟨_, rfl⟩
 have HNS := hid hns
 have H := hid h
 rw [← hns] at hs H
 have HT0 := hid (show W0.heap.size ≤ w.heap.size + 1 ∧ ∀ b, tv.ownBlock = some b → b < w.heap.size from ⟨Nat.le_succ_of_le h.below.size, fun b hb => (h.told.lt b hb).2⟩)
 have HL := hid (show litsOf x = [x.f1] by unfold litsOf; rw [if_pos (by omega)])
 obtain ⟨b, hb⟩ : ∃ b, againstM a t x = b := ⟨_, rfl⟩
 have HM0 := hid (show linkM v a t x = ((-1, -1), true, b) by unfold linkM; rw [if_neg (by omega), if_neg (by omega), if_neg (by omega), if_neg (by omega), if_neg (by omega), if_pos hK, hb])
 have HA : Hid (∀ W, (∃ sv', Look W0 k A0 c0 v A1 c1 a t (s ++ [x.f1]) tv sv' W) → Calls Tryd.prog 30 #[ptr k, .agg (lkK 6 x (.slice A6 x.f6.length c6))] W fun e w' => e = .returned (.bool b) ∧ Below W.heap.size W w') := hid (fun W hW => by
  obtain ⟨sv', hW⟩ := hW
  have h1 := against_calls hW x A6 x.f6.length c6 hl ha
  rw [hb] at h1
  unfold lkA at h1
  rw [hK] at h1
  exact h1)
 clear h hC hb hns hcs hCs
 go_enter Tryd.func19, Tryd.ntmps19
 go_wp2_with fail
 obtain ⟨W1, hW1⟩ : ∃ W1, W1 = (w.alloc (.cells (lkK 6 x (.slice A6 x.f6.length c6)) 36)).alloc (.cells #[.int .i64 0, .int .i64 0] 54) := ⟨_, rfl⟩
 have F1 := hid (Fr.made w 6 x (.slice A6 x.f6.length c6))
 rw [← hW1] at F1 ⊢
 clear hW1
 obtain ⟨W3, hW3⟩ : ∃ W3, W3 = W1 := ⟨_, rfl⟩
 have F3 := hid F1.out
 rw [← hW3] at F3 ⊢
 have HL3 := hid (H.out.move F3.out.below)
 clear hW3
 obtain ⟨i33, hi33, hz0, hz1, hz2⟩ := info_parts info33
 have hk3 := HL3.out.lt
 obtain ⟨_, _, _, y3⟩ := HL3.out.cells
 have z1 : W3.cell? ⟨w.heap.size, 1, none⟩ = some (.int .i64 x.f1) := F3.out.cells.2.1
 have hsz3 : w.heap.size + 1 < W3.heap.size := F3.out.facts.2.2.2.2
 have HLA := hid (HL3.out.drew.move ((Below.refl _ W3.drew).alloc (Nat.le_refl _) (.cells #[.int .i64 x.f1] 33)))
 have HOW := hid (show (W3.drew.alloc (.cells #[.int .i64 x.f1] 33)).ownsRow 0 33 1 (.slice As ns cs) ns (MM.lits s) by
  have h1 := HLA.out.lts
  rw [← HNS.out] at h1
  exact h1)
 have HKS := hid (show some k ≠ (Value.slice As ns cs).ownBlock from fun e => (HL3.out.snew k e.symm).2 rfl)
 have hSS : (fun w' : World => w'.cell? ⟨k, 3, none⟩ = some (.slice As ns cs) ∧ w'.cell? ⟨w.heap.size, 1, none⟩ = some (.int .i64 x.f1)) W3.drew := ⟨y3, z1⟩
 refine wp_region_noPanic ?_
 refine start_ (n := 12) (S := (fun w' : World => w'.cell? ⟨k, 3, none⟩ = some (.slice As ns cs) ∧ w'.cell? ⟨w.heap.size, 1, none⟩ = some (.int .i64 x.f1))) (ds := [8, 11]) (msk 0 12) (by kernel_rfl) rfl rfl hSS (fun hHeld => ?_)
 refine pure_ (i := 0) (N := some 114) (v := ?_) (a' := ?_) (msk 1 12) rfl rfl (by kernel_rfl) (fun _ _ _ h => h) (Or.inl ⟨by rfl, ?_⟩) ?_ ?_
 rotate_left
 · intro w'; go_simp; with_reducible rfl
 rotate_left
 · simp only [Act.put, sA, sB, sC]; rfl
 refine take_ (i := 1) (N := some 115) (v := ?_) (a' := ?_) (msk 2 12) rfl rfl (by kernel_rfl) (fun _ _ _ h => h) (Or.inl ⟨by rfl, ?_⟩) hHeld ?_ ?_
 rotate_left
 · rintro w' ⟨s0, s1⟩; go_simp; with_reducible rfl
 rotate_left
 · simp only [Act.put, sA, sB, sC]; rfl
 refine take_ (i := 2) (N := some 116) (v := ?_) (a' := ?_) (msk 3 12) rfl rfl (by kernel_rfl) (fun _ _ _ h => h) (Or.inl ⟨by rfl, ?_⟩) hHeld ?_ ?_
 rotate_left
 · rintro w' ⟨s0, s1⟩; go_simp; with_reducible rfl
 rotate_left
 · simp only [Act.put, sA, sB, sC]; rfl
 refine take_ (i := 3) (N := some 117) (v := ?_) (a' := ?_) (msk 4 12) rfl rfl (by kernel_rfl) (fun _ _ _ h => h) (Or.inl ⟨by rfl, ?_⟩) hHeld ?_ ?_
 rotate_left
 · rintro w' ⟨s0, s1⟩; go_simp; with_reducible rfl
 rotate_left
 · simp only [Act.put, sA, sB, sC]; rfl
 refine take_ (i := 4) (N := some 118) (v := ?_) (a' := ?_) (msk 5 12) rfl rfl (by kernel_rfl) (fun _ _ _ h => h) (Or.inl ⟨by rfl, ?_⟩) hHeld ?_ ?_
 rotate_left
 · rintro w' ⟨s0, s1⟩; go_simp; with_reducible rfl
 rotate_left
 · simp only [Act.put, sA, sB, sC]; rfl
 refine take_ (i := 5) (N := some 119) (v := ?_) (a' := ?_) (msk 6 12) rfl rfl (by kernel_rfl) (fun _ _ _ h => h) (Or.inl ⟨by rfl, ?_⟩) hHeld ?_ ?_
 rotate_left
 · rintro w' ⟨s0, s1⟩; go_simp; with_reducible rfl
 rotate_left
 · simp only [Act.put, sA, sB, sC]; rfl
 refine take_ (i := 6) (N := some 120) (v := ?_) (a' := ?_) (msk 7 12) rfl rfl (by kernel_rfl) (fun _ _ _ h => h) (Or.inl ⟨by rfl, ?_⟩) hHeld ?_ ?_
 rotate_left
 · rintro w' ⟨s0, s1⟩; go_simp; with_reducible rfl
 rotate_left
 · simp only [Act.put, sA, sB, sC]; rfl
 refine one_ (i := 7) (N := some 121) (msk 8 12) rfl rfl (by kernel_rfl) (by decide) (fun K hK => ?_)
 refine value_ (by rfl) rfl (v := .slice (some ⟨W3.heap.size, 0, none⟩) 1 1) (w1 := W3.drew.alloc (.cells #[.int .i64 x.f1] 33)) (by go_simp; first | done | rfl) ?_
 refine hK.out _ _ ⟨(HLA.out.cells).2.2.2, (F3.out.alloc _).cells.2.1⟩ (fun hHeld => ?_)
 refine norm_ (a' := ?_) ?_ ?_
 rotate_left
 · simp only [Act.put, sA, sB, sC]; rfl
 refine last_ (i := 8) (N := some 122) (msk 9 12) rfl rfl (by kernel_rfl) (by decide) (fun K hK => ?_)
 refine step_append_lies _ (by rfl) _ _ _ (by rfl) 0 33 i33 (.int .i64 0) 1 8 Tryd.underlying28 hi33 hz0 hz1 hz2 rfl (by omega) (.slice As ns cs) ns (MM.lits s) (by rfl) HOW.out ⟨W3.heap.size, 0, none⟩ 1 1 [.int .i64 x.f1] (by rfl) (by rfl) (fun j u hu => World.news_of_block (heap_alloc_new W3.drew (.cells #[.int .i64 x.f1] 33)) j u (by simpa using hu)) (by simp [Value.oneCell']) (by omega) (by unfold maxLen; omega) (by omega) (Nat.zero_le _) (W3.heap.size + 1) (by simp) ?_
 intro g cap w5 ho5 hg5 hat5 hlt5
 refine hK.out _ _ ?_
 refine norm_ (a' := ?_) ?_ ?_
 rotate_left
 · simp only [Act.put, sA, sB, sC]; rfl
 have hk5 := (hg5.block k (by simp; omega) HKS.out).trans HLA.out.blk
 have c5 : w5.cell? ⟨k, 3, none⟩ = some (.slice As ns cs) := (blk_cell hk5 3).trans rfl
 have f5 : w5.frozen? ⟨k, 3, none⟩ = false := blk_frozen hk5 3
 refine pure_ (i := 9) (N := some 123) (v := ?_) (a' := ?_) (msk 10 12) rfl rfl (by kernel_rfl) (fun _ _ _ h => h) (Or.inl ⟨by rfl, ?_⟩) ?_ ?_
 rotate_left
 · intro w'; go_simp; with_reducible rfl
 rotate_left
 · simp only [Act.put, sA, sB, sC]; rfl
 refine pure_ (i := 10) (N := some 124) (v := ?_) (a' := ?_) (msk 11 12) rfl rfl (by kernel_rfl) (fun _ _ _ h => h) (Or.inl ⟨by rfl, ?_⟩) ?_ ?_
 rotate_left
 · intro w'; go_simp; with_reducible rfl
 rotate_left
 · simp only [Act.put, sA, sB, sC]; rfl
 refine last_ (i := 11) (N := none) (msk 12 12) rfl rfl (by kernel_rfl) (by decide) (fun K hK => ?_)
 refine skip_ (by rfl) rfl (w1 := w5.setCell ⟨k, 3, none⟩ (.slice (some ⟨g, 0, none⟩) (ns + 1) cap)) (by go_simp; first | done | rfl) ?_
 refine hK.out _ _ ?_
 refine done_ (by kernel_rfl) ?_
 try simp only [NoPanic, Exit.then]
 have hb5 : ∀ b, b = w.heap.size ∨ b = w.heap.size + 1 → (w5.setCell ⟨k, 3, none⟩ (.slice (some ⟨g, 0, none⟩) (ns + 1) cap)).heap[b]? = W3.heap[b]? := fun b hb =>
  (Below.heap_setCell _ _ _ _ (by have := H.out.lt; simp; omega)).trans ((hg5.block b (by simp; omega) (fun e => by have h1 := (H.out.lts.lt b e.symm).2; omega)).trans (Go.heap_alloc_old W3.drew _ (by show b < W3.heap.size; omega)))
 have HB5 := hid hb5
 have HL7 := hid (HLA.out.pushS x.f1 (sv' := .slice (some ⟨g, 0, none⟩) (ns + 1) cap) (by rw [show s.length + 1 = ns + 1 by rw [HNS.out]]; exact ho5) hg5 (fun g' hg' => by
  have hg' : g = g' := by simpa [Value.ownBlock] using hg'
  rcases hat5 with h1 | h1
  ·
   exact .inl (by rw [← hg']; exact h1)
  ·
   exact .inr (by simp; omega)))
 have HG := hid (show g ≠ w.heap.size ∧ g ≠ w.heap.size + 1 by
  rcases hat5 with h1 | h1
  ·
   have := (H.out.lts.lt g h1).2
   omega
  ·
   omega)
 clear hb5 ho5 hg5 hat5 hlt5 hk5 c5 f5 hi33 hz0 hz1 hz2 y3 z1 HLA HKS HOW
 obtain ⟨W7, hW7⟩ : ∃ W7, W7 = w5.setCell ⟨k, 3, none⟩ (.slice (some ⟨g, 0, none⟩) (ns + 1) cap) := ⟨_, rfl⟩
 rw [← hW7] at HB5 HL7 ⊢
 have hs7 : w.heap.size + 1 < W7.heap.size := blk_lt ((HB5.out _ (.inr rfl)).trans F3.out.rb)
 clear hW7
 go_wp2_with fail
 have hrb := (HB5.out _ (.inr rfl)).trans F3.out.rb
 have hbx := (HB5.out _ (.inl rfl)).trans F3.out.bx
 obtain ⟨n0, n1⟩ := HL7.out.no
 have y0 : W7.cell? ⟨w.heap.size, 0, none⟩ = some (.int .u8 6) := (blk_cell hbx 0).trans rfl
 have y1 : W7.cell? ⟨w.heap.size, 1, none⟩ = some (.int .i64 x.f1) := (blk_cell hbx 1).trans rfl
 have y2 : W7.cell? ⟨w.heap.size, 2, none⟩ = some (.int .i64 x.f2) := (blk_cell hbx 2).trans rfl
 have y3 : W7.cell? ⟨w.heap.size, 3, none⟩ = some (.int .i64 x.f3) := (blk_cell hbx 3).trans rfl
 have y4 : W7.cell? ⟨w.heap.size, 4, none⟩ = some (.int .i64 x.f4) := (blk_cell hbx 4).trans rfl
 have y5 : W7.cell? ⟨w.heap.size, 5, none⟩ = some (.int .i64 x.f5) := (blk_cell hbx 5).trans rfl
 have y6 : W7.cell? ⟨w.heap.size, 6, none⟩ = some (.slice A6 x.f6.length c6) := (blk_cell hbx 6).trans rfl
 have hSS : (fun w' : World => w'.cell? ⟨0, 0, none⟩ = some (.int .i64 (-1)) ∧ w'.cell? ⟨0, 1, none⟩ = some (.int .i64 (-1)) ∧ w'.cell? ⟨w.heap.size, 0, none⟩ = some (.int .u8 6) ∧ w'.cell? ⟨w.heap.size, 1, none⟩ = some (.int .i64 x.f1) ∧ w'.cell? ⟨w.heap.size, 2, none⟩ = some (.int .i64 x.f2) ∧ w'.cell? ⟨w.heap.size, 3, none⟩ = some (.int .i64 x.f3) ∧ w'.cell? ⟨w.heap.size, 4, none⟩ = some (.int .i64 x.f4) ∧ w'.cell? ⟨w.heap.size, 5, none⟩ = some (.int .i64 x.f5) ∧ w'.cell? ⟨w.heap.size, 6, none⟩ = some (.slice A6 x.f6.length c6)) W7.drew := ⟨n0, n1, y0, y1, y2, y3, y4, y5, y6⟩
 refine wp_region_noPanic ?_
 refine start_ (n := 7) (S := (fun w' : World => w'.cell? ⟨0, 0, none⟩ = some (.int .i64 (-1)) ∧ w'.cell? ⟨0, 1, none⟩ = some (.int .i64 (-1)) ∧ w'.cell? ⟨w.heap.size, 0, none⟩ = some (.int .u8 6) ∧ w'.cell? ⟨w.heap.size, 1, none⟩ = some (.int .i64 x.f1) ∧ w'.cell? ⟨w.heap.size, 2, none⟩ = some (.int .i64 x.f2) ∧ w'.cell? ⟨w.heap.size, 3, none⟩ = some (.int .i64 x.f3) ∧ w'.cell? ⟨w.heap.size, 4, none⟩ = some (.int .i64 x.f4) ∧ w'.cell? ⟨w.heap.size, 5, none⟩ = some (.int .i64 x.f5) ∧ w'.cell? ⟨w.heap.size, 6, none⟩ = some (.slice A6 x.f6.length c6))) (ds := [4]) (msk 0 7) (by kernel_rfl) rfl rfl hSS (fun hHeld => ?_)
 refine take_ (i := 0) (N := some 125) (v := ?_) (a' := ?_) (msk 1 7) rfl rfl (by kernel_rfl) (fun _ _ _ h => h) (Or.inl ⟨by rfl, ?_⟩) hHeld ?_ ?_
 rotate_left
 · rintro w' ⟨s0, s1, s2, s3, s4, s5, s6, s7, s8⟩; go_simp; with_reducible rfl
 rotate_left
 · simp only [Act.put, sA, sB, sC]; rfl
 refine take_ (i := 1) (N := some 126) (v := ?_) (a' := ?_) (msk 2 7) rfl rfl (by kernel_rfl) (fun _ _ _ h => h) (Or.inl ⟨by rfl, ?_⟩) hHeld ?_ ?_
 rotate_left
 · rintro w' ⟨s0, s1, s2, s3, s4, s5, s6, s7, s8⟩; go_simp; with_reducible rfl
 rotate_left
 · simp only [Act.put, sA, sB, sC]; rfl
 refine take_ (i := 2) (N := some 127) (v := ?_) (a' := ?_) (msk 3 7) rfl rfl (by kernel_rfl) (fun _ _ _ h => h) (Or.inl ⟨by rfl, ?_⟩) hHeld ?_ ?_
 rotate_left
 · rintro w' ⟨s0, s1, s2, s3, s4, s5, s6, s7, s8⟩; go_simp; with_reducible rfl
 rotate_left
 · simp only [Act.put, sA, sB, sC]; rfl
 refine one_ (i := 3) (N := some 128) (msk 4 7) rfl rfl (by kernel_rfl) (by decide) (fun K hK => ?_)
 refine goes_ Tryd.func30 (by kernel_rfl) rfl #[ptr k, .agg (lkK 6 x (.slice A6 x.f6.length c6))] (by rfl) rfl rfl (by simp only [List.map_toArray, List.map_cons, List.map_nil]; rfl) ?_
 refine (HA.out W7.drew ⟨_, HL7.out.drew⟩).mono ?_
 rintro e w8 ⟨rfl, hb8⟩
 refine ⟨_, rfl, ?_⟩
 have hb8' : Below W7.heap.size W7 w8 := ⟨hb8.os, hb8.tape, hb8.output, hb8.size, hb8.block⟩
 have hlt : w.heap.size < W7.heap.size := by omega
 have hlt0 : 0 < W7.heap.size := by omega
 refine hK.out _ _ ⟨(hb8'.cell (p := ⟨0, 0, none⟩) hlt0).trans n0, (hb8'.cell (p := ⟨0, 1, none⟩) hlt0).trans n1, (hb8'.cell (p := ⟨w.heap.size, 0, none⟩) hlt).trans y0, (hb8'.cell (p := ⟨w.heap.size, 1, none⟩) hlt).trans y1, (hb8'.cell (p := ⟨w.heap.size, 2, none⟩) hlt).trans y2, (hb8'.cell (p := ⟨w.heap.size, 3, none⟩) hlt).trans y3, (hb8'.cell (p := ⟨w.heap.size, 4, none⟩) hlt).trans y4, (hb8'.cell (p := ⟨w.heap.size, 5, none⟩) hlt).trans y5, (hb8'.cell (p := ⟨w.heap.size, 6, none⟩) hlt).trans y6⟩ (fun hHeld => ?_)
 refine norm_ (a' := ?_) ?_ ?_
 rotate_left
 · simp only [Act.put, sA, sB, sC]; rfl
 have hr8 : w8.heap[w.heap.size + 1]? = some (.cells #[.int .i64 0, .int .i64 0] 54 (0, 0)) := (hb8'.block _ hs7).trans hrb
 have f0 := blk_frozen hr8 0
 have f1 := blk_frozen hr8 1
 have r0 : w8.cell? ⟨w.heap.size + 1, 0, none⟩ = some (.int .i64 0) := (blk_cell hr8 0).trans rfl
 have r1 : w8.cell? ⟨w.heap.size + 1, 1, none⟩ = some (.int .i64 0) := (blk_cell hr8 1).trans rfl
 refine last_ (i := 4) (N := none) (msk 5 7) rfl rfl (by kernel_rfl) (by decide) (fun K hK => ?_)
 refine skip_ (by rfl) rfl (w1 := (w8.setCell ⟨w.heap.size + 1, 0, none⟩ (.int .i64 (-1))).setCell ⟨w.heap.size + 1, 1, none⟩ (.int .i64 (-1))) (by go_simp; first | done | rfl) ?_
 refine hK.out _ _ ?_
 refine pure_ (i := 5) (N := some 5) (v := ?_) (a' := ?_) (msk 6 7) rfl rfl (by kernel_rfl) (fun _ _ _ h => h) (Or.inl ⟨by rfl, ?_⟩) ?_ ?_
 rotate_left
 · intro w'; go_simp; with_reducible rfl
 rotate_left
 · simp only [Act.put, sA, sB, sC]; rfl
 refine pure_ (i := 6) (N := some 6) (v := ?_) (a' := ?_) (msk 7 7) rfl rfl (by kernel_rfl) (fun _ _ _ h => h) (Or.inl ⟨by rfl, ?_⟩) ?_ ?_
 rotate_left
 · intro w'; go_simp; with_reducible rfl
 rotate_left
 · simp only [Act.put, sA, sB, sC]; rfl
 refine done_ (by kernel_rfl) ?_
 try simp only [NoPanic, Exit.then]
 have HR := hid (two_set hr8 (.int .i64 (-1)) (.int .i64 (-1)))
 go_wp2
 refine bodyPost_ret (results_ctt rfl _ _ _ _ _ _ _ rfl HR.out Tryd.underlying54 rfl (by kernel_rfl)) rfl ?_
 refine ⟨by rw [HM0.out]; rfl, .slice (some ⟨g, 0, none⟩) (ns + 1) cap, ?_⟩
 rw [HL.out]
 have hkn : w.heap.size + 1 ≠ k := by omega
 have htn : tv.ownBlock ≠ some (w.heap.size + 1) := fun e => by have := HT0.out.2 _ e; omega
 have hsn : (Value.slice (some ⟨g, 0, none⟩) (ns + 1) cap).ownBlock ≠ some (w.heap.size + 1) := fun e => HG.out.2 (by simpa [Value.ownBlock] using e)
 exact ((HL7.out.move hb8').far _ 0 _ HT0.out.1 hkn htn hsn).far _ 1 _ HT0.out.1 hkn htn hsn
end Go.Proofs.YtpopohkbffhckaaDoor.KL

namespace Go.Proofs.YtpopohkbffhckaaDoor.KL
open Go.RowKit Go.Proofs.YtpopohkbffhckaaDoorW.PrintWords Go.Proofs.YtpopohkbffhckaaDoorW.PrintLast Go.Proofs.YtpopohkbffhckaaDoorW.PrintMore Go.Proofs.YtpopohkbffhckaaDoor.MM Go.Proofs.YtpopohkbffhckaaDoor.Hk
set_option linter.unusedSimpArgs false
set_option linter.unusedVariables false
variable {W0 w w1 w2 : World} {k : Nat} {A0 A1 : Option Addr} {c0 c1 : Nat} {v : List Vx} {a : List At} {t : List Pr} {s : List Int} {tv sv : Value}
set_option maxRecDepth 100000 in
set_option maxHeartbeats 3200000 in
theorem link_7 (h : Look W0 k A0 c0 v A1 c1 a t s tv sv w) (x : Lk) (A6 : Option Addr) (c6 : Nat) (hC : (Kd.int .i64).C W0 A6 x.f6.length x.f6) (hl : (Lit.int .i64 x.f1).wf = true) (ha : a.length ≤ 1000) (hv : v.length ≤ 1000) (hL : x.f6.length ≤ 1000) (hs : s.length ≤ 1000) (hK : x.f0 = 7) :
 Calls Tryd.prog 19 #[ptr k, lkA x (.slice A6 x.f6.length c6)] w (Linked W0 k A0 c0 v A1 c1 a t s tv x) := by
 have hk := h.lt
 have HM0 := hid (show linkM v a t x = ((-1, -1), true, (tellM t x.f4).isSome && decide (prO (tellM t x.f4) = (0, 1))) by unfold linkM; rw [if_neg (by omega), if_neg (by omega), if_neg (by omega), if_neg (by omega), if_neg (by omega), if_neg (by omega), if_pos hK])
 have HL := hid (show litsOf x = [] by unfold litsOf; rw [if_neg (by omega)])
 have H := hid h
 cases ht : tellM t x.f4 with
 | none =>
  have HT := hid (fun W (hW : Below w.heap.size w W) => tell_no (h.move hW) ht)
  have HM := hid (show linkM v a t x = ((-1, -1), true, false) by rw [HM0.out, ht]; rfl)
  clear h hC HM0 ht
  go_enter Tryd.func19, Tryd.ntmps19
  go_wp2_with fail
  obtain ⟨W1, hW1⟩ : ∃ W1, W1 = (w.alloc (.cells (lkK 7 x (.slice A6 x.f6.length c6)) 36)).alloc (.cells #[.int .i64 0, .int .i64 0] 54) := ⟨_, rfl⟩
  have F1 := hid (Fr.made w 7 x (.slice A6 x.f6.length c6))
  rw [← hW1] at F1 ⊢
  clear hW1
  refine (HT.out W1 F1.out.below).mono ?_
  rintro e w2 ⟨rfl, hb2⟩
  have F2 := hid (F1.out.move hb2)
  clear hb2
  go_wp2_with fail
  obtain ⟨W3, hW3⟩ : ∃ W3, W3 = w2.alloc (.cells #[(.int .i64 (-1)), (.int .i64 (-1))] 54) := ⟨_, rfl⟩
  have F3 := hid (F2.out.alloc (.cells #[(.int .i64 (-1)), (.int .i64 (-1))] 54))
  have g3 : W3.heap[w2.heap.size]? = some (.cells #[(.int .i64 (-1)), (.int .i64 (-1))] 54 (0, 0)) := by rw [hW3]; exact heap_alloc_new _ _
  rw [← hW3] at F3 ⊢
  obtain ⟨f0, f1, r0, r1, hsz⟩ := F3.out.facts
  obtain ⟨n0, n1⟩ := (H.out.move F3.out.below).no
  have a0 : W3.cell? ⟨w2.heap.size, 0, none⟩ = some (.int .i64 (-1)) := (blk_cell g3 0).trans rfl
  have a1 : W3.cell? ⟨w2.heap.size, 1, none⟩ = some (.int .i64 (-1)) := (blk_cell g3 1).trans rfl
  have hs2 : w.heap.size + 1 < w2.heap.size := F2.out.facts.2.2.2.2
  have n3 : ¬ w.heap.size + 1 = w2.heap.size := by omega
  have n4 : ¬ w2.heap.size = w.heap.size + 1 := by omega
  clear hW3 g3
  have hSS : (fun w' : World => w'.cell? ⟨0, 0, none⟩ = some (.int .i64 (-1)) ∧ w'.cell? ⟨0, 1, none⟩ = some (.int .i64 (-1)) ∧ w'.cell? ⟨w2.heap.size, 0, none⟩ = some (.int .i64 (-1)) ∧ w'.cell? ⟨w2.heap.size, 1, none⟩ = some (.int .i64 (-1))) W3.drew := ⟨n0, n1, a0, a1⟩
  refine wp_region_noPanic ?_
  refine start_ (n := 10) (S := (fun w' : World => w'.cell? ⟨0, 0, none⟩ = some (.int .i64 (-1)) ∧ w'.cell? ⟨0, 1, none⟩ = some (.int .i64 (-1)) ∧ w'.cell? ⟨w2.heap.size, 0, none⟩ = some (.int .i64 (-1)) ∧ w'.cell? ⟨w2.heap.size, 1, none⟩ = some (.int .i64 (-1)))) (ds := []) (msk 0 10) (by kernel_rfl) rfl rfl hSS (fun hHeld => ?_)
  refine take_ (i := 0) (N := some 138) (v := ?_) (a' := ?_) (msk 1 10) rfl rfl (by kernel_rfl) (fun _ _ _ h => h) (Or.inl ⟨by rfl, ?_⟩) hHeld ?_ ?_
  rotate_left
  · rintro w' ⟨s0, s1, s2, s3⟩; go_simp; with_reducible rfl
  rotate_left
  · simp only [Act.put, sA, sB, sC]; rfl
  refine take_ (i := 1) (N := some 139) (v := ?_) (a' := ?_) (msk 2 10) rfl rfl (by kernel_rfl) (fun _ _ _ h => h) (Or.inl ⟨by rfl, ?_⟩) hHeld ?_ ?_
  rotate_left
  · rintro w' ⟨s0, s1, s2, s3⟩; go_simp; with_reducible rfl
  rotate_left
  · simp only [Act.put, sA, sB, sC]; rfl
  refine take_ (i := 2) (N := some 140) (v := ?_) (a' := ?_) (msk 3 10) rfl rfl (by kernel_rfl) (fun _ _ _ h => h) (Or.inl ⟨by rfl, ?_⟩) hHeld ?_ ?_
  rotate_left
  · rintro w' ⟨s0, s1, s2, s3⟩; go_simp; with_reducible rfl
  rotate_left
  · simp only [Act.put, sA, sB, sC]; rfl
  refine take_ (i := 3) (N := some 141) (v := undef) (a' := ?_) (msk 4 10) rfl rfl (by kernel_rfl) (fun _ _ _ h => h) (Or.inr ⟨by rfl, rfl⟩) hHeld ?_ ?_
  rotate_left
  · simp only [Act.put, sA, sB, sC]; rfl
  refine take_ (i := 4) (N := some 142) (v := undef) (a' := ?_) (msk 5 10) rfl rfl (by kernel_rfl) (fun _ _ _ h => h) (Or.inr ⟨by rfl, rfl⟩) hHeld ?_ ?_
  rotate_left
  · simp only [Act.put, sA, sB, sC]; rfl
  refine take_ (i := 5) (N := some 143) (v := undef) (a' := ?_) (msk 6 10) rfl rfl (by kernel_rfl) (fun _ _ _ h => h) (Or.inr ⟨by rfl, rfl⟩) hHeld ?_ ?_
  rotate_left
  · simp only [Act.put, sA, sB, sC]; rfl
  refine take_ (i := 6) (N := some 144) (v := ?_) (a' := ?_) (msk 7 10) rfl rfl (by kernel_rfl) (fun _ _ _ h => h) (Or.inl ⟨by rfl, ?_⟩) hHeld ?_ ?_
  rotate_left
  · rintro w' ⟨s0, s1, s2, s3⟩; go_simp; with_reducible rfl
  rotate_left
  · simp only [Act.put, sA, sB, sC]; rfl
  refine one_ (i := 7) (N := none) (msk 8 10) rfl rfl (by kernel_rfl) (by decide) (fun K hK => ?_)
  refine skip_ (by rfl) rfl (w1 := (W3.drew.setCell ⟨w.heap.size + 1, 0, none⟩ (.int .i64 (-1))).setCell ⟨w.heap.size + 1, 1, none⟩ (.int .i64 (-1))) (by go_simp; first | done | rfl) ?_
  refine hK.out _ _ (by refine ⟨?_, ?_, ?_, ?_⟩ <;> (go_simp; first | done | assumption)) (fun hHeld => ?_)
  refine pure_ (i := 8) (N := some 5) (v := ?_) (a' := ?_) (msk 9 10) rfl rfl (by kernel_rfl) (fun _ _ _ h => h) (Or.inl ⟨by rfl, ?_⟩) ?_ ?_
  rotate_left
  · intro w'; go_simp; with_reducible rfl
  rotate_left
  · simp only [Act.put, sA, sB, sC]; rfl
  refine pure_ (i := 9) (N := some 6) (v := ?_) (a' := ?_) (msk 10 10) rfl rfl (by kernel_rfl) (fun _ _ _ h => h) (Or.inl ⟨by rfl, ?_⟩) ?_ ?_
  rotate_left
  · intro w'; go_simp; with_reducible rfl
  rotate_left
  · simp only [Act.put, sA, sB, sC]; rfl
  refine done_ (by kernel_rfl) ?_
  try simp only [NoPanic, Exit.then]
  have F9 := hid ((F3.out.set (.int .i64 (-1)) (.int .i64 (-1))).drew)
  go_wp2
  refine bodyPost_ret (results_ctt rfl _ _ _ _ _ _ _ rfl F9.out.rb Tryd.underlying54 rfl (by kernel_rfl)) rfl ?_
  refine Linked.still (p := (-1, -1)) (b := true) (c := false) H.out HL.out ?_ HM.out
  with_reducible exact F9.out.below
 | some p =>
  obtain ⟨p1, p2⟩ := p
  have HT := hid (fun W (hW : Below w.heap.size w W) => tell_yes (h.move hW) ht)
  by_cases hq : p1 = 0 ∧ p2 = 1
  ·
   obtain ⟨rfl, rfl⟩ := hq
   have HM := hid (show linkM v a t x = ((-1, -1), true, true) by rw [HM0.out, ht]; simp [prO])
   clear h hC HM0 ht
   go_enter Tryd.func19, Tryd.ntmps19
   go_wp2_with fail
   obtain ⟨W1, hW1⟩ : ∃ W1, W1 = (w.alloc (.cells (lkK 7 x (.slice A6 x.f6.length c6)) 36)).alloc (.cells #[.int .i64 0, .int .i64 0] 54) := ⟨_, rfl⟩
   have F1 := hid (Fr.made w 7 x (.slice A6 x.f6.length c6))
   rw [← hW1] at F1 ⊢
   clear hW1
   refine (HT.out W1 F1.out.below).mono ?_
   rintro e w2 ⟨rfl, hb2⟩
   have F2 := hid (F1.out.move hb2)
   clear hb2
   go_wp2_with fail
   obtain ⟨W3, hW3⟩ : ∃ W3, W3 = w2.alloc (.cells #[(.int .i64 0), (.int .i64 1)] 54) := ⟨_, rfl⟩
   have F3 := hid (F2.out.alloc (.cells #[(.int .i64 0), (.int .i64 1)] 54))
   have g3 : W3.heap[w2.heap.size]? = some (.cells #[(.int .i64 0), (.int .i64 1)] 54 (0, 0)) := by rw [hW3]; exact heap_alloc_new _ _
   rw [← hW3] at F3 ⊢
   obtain ⟨f0, f1, r0, r1, hsz⟩ := F3.out.facts
   obtain ⟨n0, n1⟩ := (H.out.move F3.out.below).no
   have a0 : W3.cell? ⟨w2.heap.size, 0, none⟩ = some (.int .i64 0) := (blk_cell g3 0).trans rfl
   have a1 : W3.cell? ⟨w2.heap.size, 1, none⟩ = some (.int .i64 1) := (blk_cell g3 1).trans rfl
   have hs2 : w.heap.size + 1 < w2.heap.size := F2.out.facts.2.2.2.2
   have n3 : ¬ w.heap.size + 1 = w2.heap.size := by omega
   have n4 : ¬ w2.heap.size = w.heap.size + 1 := by omega
   clear hW3 g3
   have hpe : ∀ W, (Op.equalIn 10000 54 (.agg #[.int .i64 0, .int .i64 1]) (.agg #[.int .i64 0, .int .i64 1])).run Tryd.prog W = .ok true W := fun W => by rw [pair_equal]; simp
   have hSS : (fun w' : World => w'.cell? ⟨0, 0, none⟩ = some (.int .i64 (-1)) ∧ w'.cell? ⟨0, 1, none⟩ = some (.int .i64 (-1)) ∧ w'.cell? ⟨w2.heap.size, 0, none⟩ = some (.int .i64 0) ∧ w'.cell? ⟨w2.heap.size, 1, none⟩ = some (.int .i64 1)) W3.drew := ⟨n0, n1, a0, a1⟩
   refine wp_region_noPanic ?_
   refine start_ (n := 10) (S := (fun w' : World => w'.cell? ⟨0, 0, none⟩ = some (.int .i64 (-1)) ∧ w'.cell? ⟨0, 1, none⟩ = some (.int .i64 (-1)) ∧ w'.cell? ⟨w2.heap.size, 0, none⟩ = some (.int .i64 0) ∧ w'.cell? ⟨w2.heap.size, 1, none⟩ = some (.int .i64 1))) (ds := []) (msk 0 10) (by kernel_rfl) rfl rfl hSS (fun hHeld => ?_)
   refine take_ (i := 0) (N := some 138) (v := ?_) (a' := ?_) (msk 1 10) rfl rfl (by kernel_rfl) (fun _ _ _ h => h) (Or.inl ⟨by rfl, ?_⟩) hHeld ?_ ?_
   rotate_left
   · rintro w' ⟨s0, s1, s2, s3⟩; go_simp; with_reducible rfl
   rotate_left
   · simp only [Act.put, sA, sB, sC]; rfl
   refine take_ (i := 1) (N := some 139) (v := ?_) (a' := ?_) (msk 2 10) rfl rfl (by kernel_rfl) (fun _ _ _ h => h) (Or.inl ⟨by rfl, ?_⟩) hHeld ?_ ?_
   rotate_left
   · rintro w' ⟨s0, s1, s2, s3⟩; go_simp; with_reducible rfl
   rotate_left
   · simp only [Act.put, sA, sB, sC]; rfl
   refine take_ (i := 2) (N := some 140) (v := ?_) (a' := ?_) (msk 3 10) rfl rfl (by kernel_rfl) (fun _ _ _ h => h) (Or.inl ⟨by rfl, ?_⟩) hHeld ?_ ?_
   rotate_left
   · rintro w' ⟨s0, s1, s2, s3⟩; go_simp; with_reducible rfl
   rotate_left
   · simp only [Act.put, sA, sB, sC]; rfl
   refine take_ (i := 3) (N := some 141) (v := ?_) (a' := ?_) (msk 4 10) rfl rfl (by kernel_rfl) (fun _ _ _ h => h) (Or.inl ⟨by rfl, ?_⟩) hHeld ?_ ?_
   rotate_left
   · rintro w' ⟨s0, s1, s2, s3⟩; go_simp; with_reducible rfl
   rotate_left
   · simp only [Act.put, sA, sB, sC]; rfl
   refine take_ (i := 4) (N := some 142) (v := ?_) (a' := ?_) (msk 5 10) rfl rfl (by kernel_rfl) (fun _ _ _ h => h) (Or.inl ⟨by rfl, ?_⟩) hHeld ?_ ?_
   rotate_left
   · rintro w' ⟨s0, s1, s2, s3⟩; go_simp; with_reducible rfl
   rotate_left
   · simp only [Act.put, sA, sB, sC]; rfl
   refine take_ (i := 5) (N := some 143) (v := ?_) (a' := ?_) (msk 6 10) rfl rfl (by kernel_rfl) (fun _ _ _ h => h) (Or.inl ⟨by rfl, ?_⟩) hHeld ?_ ?_
   rotate_left
   · rintro w' ⟨s0, s1, s2, s3⟩; go_simp; with_reducible rfl
   rotate_left
   · simp only [Act.put, sA, sB, sC]; rfl
   refine take_ (i := 6) (N := some 144) (v := ?_) (a' := ?_) (msk 7 10) rfl rfl (by kernel_rfl) (fun _ _ _ h => h) (Or.inl ⟨by rfl, ?_⟩) hHeld ?_ ?_
   rotate_left
   · rintro w' ⟨s0, s1, s2, s3⟩; go_simp; with_reducible rfl
   rotate_left
   · simp only [Act.put, sA, sB, sC]; rfl
   refine one_ (i := 7) (N := none) (msk 8 10) rfl rfl (by kernel_rfl) (by decide) (fun K hK => ?_)
   refine skip_ (by rfl) rfl (w1 := (W3.drew.setCell ⟨w.heap.size + 1, 0, none⟩ (.int .i64 (-1))).setCell ⟨w.heap.size + 1, 1, none⟩ (.int .i64 (-1))) (by go_simp; first | done | rfl) ?_
   refine hK.out _ _ (by refine ⟨?_, ?_, ?_, ?_⟩ <;> (go_simp; first | done | assumption)) (fun hHeld => ?_)
   refine pure_ (i := 8) (N := some 5) (v := ?_) (a' := ?_) (msk 9 10) rfl rfl (by kernel_rfl) (fun _ _ _ h => h) (Or.inl ⟨by rfl, ?_⟩) ?_ ?_
   rotate_left
   · intro w'; go_simp; with_reducible rfl
   rotate_left
   · simp only [Act.put, sA, sB, sC]; rfl
   refine pure_ (i := 9) (N := some 6) (v := ?_) (a' := ?_) (msk 10 10) rfl rfl (by kernel_rfl) (fun _ _ _ h => h) (Or.inl ⟨by rfl, ?_⟩) ?_ ?_
   rotate_left
   · intro w'; go_simp; with_reducible rfl
   rotate_left
   · simp only [Act.put, sA, sB, sC]; rfl
   refine done_ (by kernel_rfl) ?_
   try simp only [NoPanic, Exit.then]
   have F9 := hid ((F3.out.set (.int .i64 (-1)) (.int .i64 (-1))).drew)
   go_wp2
   refine bodyPost_ret (results_ctt rfl _ _ _ _ _ _ _ rfl F9.out.rb Tryd.underlying54 rfl (by kernel_rfl)) rfl ?_
   refine Linked.still (p := (-1, -1)) (b := true) (c := true) H.out HL.out ?_ HM.out
   with_reducible exact F9.out.below
  ·
   have HM := hid (show linkM v a t x = ((-1, -1), true, false) by rw [HM0.out, ht]; simp [prO]; omega)
   have hpe : ∀ W, (Op.equalIn 10000 54 (.agg #[.int .i64 p1, .int .i64 p2]) (.agg #[.int .i64 0, .int .i64 1])).run Tryd.prog W = .ok false W := fun W => by
    rw [pair_equal]
    congr 1
    simp only [Bool.and_eq_false_iff, beq_eq_false_iff_ne, ne_eq]
    omega
   clear h hC HM0 ht hq
   go_enter Tryd.func19, Tryd.ntmps19
   go_wp2_with fail
   obtain ⟨W1, hW1⟩ : ∃ W1, W1 = (w.alloc (.cells (lkK 7 x (.slice A6 x.f6.length c6)) 36)).alloc (.cells #[.int .i64 0, .int .i64 0] 54) := ⟨_, rfl⟩
   have F1 := hid (Fr.made w 7 x (.slice A6 x.f6.length c6))
   rw [← hW1] at F1 ⊢
   clear hW1
   refine (HT.out W1 F1.out.below).mono ?_
   rintro e w2 ⟨rfl, hb2⟩
   have F2 := hid (F1.out.move hb2)
   clear hb2
   go_wp2_with fail
   obtain ⟨W3, hW3⟩ : ∃ W3, W3 = w2.alloc (.cells #[(.int .i64 p1), (.int .i64 p2)] 54) := ⟨_, rfl⟩
   have F3 := hid (F2.out.alloc (.cells #[(.int .i64 p1), (.int .i64 p2)] 54))
   have g3 : W3.heap[w2.heap.size]? = some (.cells #[(.int .i64 p1), (.int .i64 p2)] 54 (0, 0)) := by rw [hW3]; exact heap_alloc_new _ _
   rw [← hW3] at F3 ⊢
   obtain ⟨f0, f1, r0, r1, hsz⟩ := F3.out.facts
   obtain ⟨n0, n1⟩ := (H.out.move F3.out.below).no
   have a0 : W3.cell? ⟨w2.heap.size, 0, none⟩ = some (.int .i64 p1) := (blk_cell g3 0).trans rfl
   have a1 : W3.cell? ⟨w2.heap.size, 1, none⟩ = some (.int .i64 p2) := (blk_cell g3 1).trans rfl
   have hs2 : w.heap.size + 1 < w2.heap.size := F2.out.facts.2.2.2.2
   have n3 : ¬ w.heap.size + 1 = w2.heap.size := by omega
   have n4 : ¬ w2.heap.size = w.heap.size + 1 := by omega
   clear hW3 g3
   have hSS : (fun w' : World => w'.cell? ⟨0, 0, none⟩ = some (.int .i64 (-1)) ∧ w'.cell? ⟨0, 1, none⟩ = some (.int .i64 (-1)) ∧ w'.cell? ⟨w2.heap.size, 0, none⟩ = some (.int .i64 p1) ∧ w'.cell? ⟨w2.heap.size, 1, none⟩ = some (.int .i64 p2)) W3.drew := ⟨n0, n1, a0, a1⟩
   refine wp_region_noPanic ?_
   refine start_ (n := 10) (S := (fun w' : World => w'.cell? ⟨0, 0, none⟩ = some (.int .i64 (-1)) ∧ w'.cell? ⟨0, 1, none⟩ = some (.int .i64 (-1)) ∧ w'.cell? ⟨w2.heap.size, 0, none⟩ = some (.int .i64 p1) ∧ w'.cell? ⟨w2.heap.size, 1, none⟩ = some (.int .i64 p2))) (ds := []) (msk 0 10) (by kernel_rfl) rfl rfl hSS (fun hHeld => ?_)
   refine take_ (i := 0) (N := some 138) (v := ?_) (a' := ?_) (msk 1 10) rfl rfl (by kernel_rfl) (fun _ _ _ h => h) (Or.inl ⟨by rfl, ?_⟩) hHeld ?_ ?_
   rotate_left
   · rintro w' ⟨s0, s1, s2, s3⟩; go_simp; with_reducible rfl
   rotate_left
   · simp only [Act.put, sA, sB, sC]; rfl
   refine take_ (i := 1) (N := some 139) (v := ?_) (a' := ?_) (msk 2 10) rfl rfl (by kernel_rfl) (fun _ _ _ h => h) (Or.inl ⟨by rfl, ?_⟩) hHeld ?_ ?_
   rotate_left
   · rintro w' ⟨s0, s1, s2, s3⟩; go_simp; with_reducible rfl
   rotate_left
   · simp only [Act.put, sA, sB, sC]; rfl
   refine take_ (i := 2) (N := some 140) (v := ?_) (a' := ?_) (msk 3 10) rfl rfl (by kernel_rfl) (fun _ _ _ h => h) (Or.inl ⟨by rfl, ?_⟩) hHeld ?_ ?_
   rotate_left
   · rintro w' ⟨s0, s1, s2, s3⟩; go_simp; with_reducible rfl
   rotate_left
   · simp only [Act.put, sA, sB, sC]; rfl
   refine take_ (i := 3) (N := some 141) (v := ?_) (a' := ?_) (msk 4 10) rfl rfl (by kernel_rfl) (fun _ _ _ h => h) (Or.inl ⟨by rfl, ?_⟩) hHeld ?_ ?_
   rotate_left
   · rintro w' ⟨s0, s1, s2, s3⟩; go_simp; with_reducible rfl
   rotate_left
   · simp only [Act.put, sA, sB, sC]; rfl
   refine take_ (i := 4) (N := some 142) (v := ?_) (a' := ?_) (msk 5 10) rfl rfl (by kernel_rfl) (fun _ _ _ h => h) (Or.inl ⟨by rfl, ?_⟩) hHeld ?_ ?_
   rotate_left
   · rintro w' ⟨s0, s1, s2, s3⟩; go_simp; with_reducible rfl
   rotate_left
   · simp only [Act.put, sA, sB, sC]; rfl
   refine take_ (i := 5) (N := some 143) (v := ?_) (a' := ?_) (msk 6 10) rfl rfl (by kernel_rfl) (fun _ _ _ h => h) (Or.inl ⟨by rfl, ?_⟩) hHeld ?_ ?_
   rotate_left
   · rintro w' ⟨s0, s1, s2, s3⟩; go_simp; with_reducible rfl
   rotate_left
   · simp only [Act.put, sA, sB, sC]; rfl
   refine take_ (i := 6) (N := some 144) (v := ?_) (a' := ?_) (msk 7 10) rfl rfl (by kernel_rfl) (fun _ _ _ h => h) (Or.inl ⟨by rfl, ?_⟩) hHeld ?_ ?_
   rotate_left
   · rintro w' ⟨s0, s1, s2, s3⟩; go_simp; with_reducible rfl
   rotate_left
   · simp only [Act.put, sA, sB, sC]; rfl
   refine one_ (i := 7) (N := none) (msk 8 10) rfl rfl (by kernel_rfl) (by decide) (fun K hK => ?_)
   refine skip_ (by rfl) rfl (w1 := (W3.drew.setCell ⟨w.heap.size + 1, 0, none⟩ (.int .i64 (-1))).setCell ⟨w.heap.size + 1, 1, none⟩ (.int .i64 (-1))) (by go_simp; first | done | rfl) ?_
   refine hK.out _ _ (by refine ⟨?_, ?_, ?_, ?_⟩ <;> (go_simp; first | done | assumption)) (fun hHeld => ?_)
   refine pure_ (i := 8) (N := some 5) (v := ?_) (a' := ?_) (msk 9 10) rfl rfl (by kernel_rfl) (fun _ _ _ h => h) (Or.inl ⟨by rfl, ?_⟩) ?_ ?_
   rotate_left
   · intro w'; go_simp; with_reducible rfl
   rotate_left
   · simp only [Act.put, sA, sB, sC]; rfl
   refine pure_ (i := 9) (N := some 6) (v := ?_) (a' := ?_) (msk 10 10) rfl rfl (by kernel_rfl) (fun _ _ _ h => h) (Or.inl ⟨by rfl, ?_⟩) ?_ ?_
   rotate_left
   · intro w'; go_simp; with_reducible rfl
   rotate_left
   · simp only [Act.put, sA, sB, sC]; rfl
   refine done_ (by kernel_rfl) ?_
   try simp only [NoPanic, Exit.then]
   have F9 := hid ((F3.out.set (.int .i64 (-1)) (.int .i64 (-1))).drew)
   go_wp2
   refine bodyPost_ret (results_ctt rfl _ _ _ _ _ _ _ rfl F9.out.rb Tryd.underlying54 rfl (by kernel_rfl)) rfl ?_
   refine Linked.still (p := (-1, -1)) (b := true) (c := false) H.out HL.out ?_ HM.out
   with_reducible exact F9.out.below
end Go.Proofs.YtpopohkbffhckaaDoor.KL

namespace Go.Proofs.YtpopohkbffhckaaDoor.KL
open Go.RowKit Go.Proofs.YtpopohkbffhckaaDoorW.PrintWords Go.Proofs.YtpopohkbffhckaaDoorW.PrintLast Go.Proofs.YtpopohkbffhckaaDoorW.PrintMore Go.Proofs.YtpopohkbffhckaaDoor.MM Go.Proofs.YtpopohkbffhckaaDoor.Hk
variable {W0 w : World} {k : Nat} {A0 A1 : Option Addr} {c0 c1 : Nat} {v : List Vx} {a : List At} {t : List Pr} {s : List Int} {tv sv : Value}
theorem link_calls (h : Look W0 k A0 c0 v A1 c1 a t s tv sv w) (x : Lk) (A6 : Option Addr) (c6 : Nat) (hC : (Kd.int .i64).C W0 A6 x.f6.length x.f6) (hl : (Lit.int .i64 x.f1).wf = true) (ha : a.length ≤ 1000) (hv : v.length ≤ 1000) (hL : x.f6.length ≤ 1000) (hs : s.length ≤ 1000) :
 Calls Tryd.prog 19 #[ptr k, lkA x (.slice A6 x.f6.length c6)] w (Linked W0 k A0 c0 v A1 c1 a t s tv x) := by
 by_cases k1 : x.f0 = 1
 ·
  exact link_1 h x A6 c6 hC hl ha hv hL hs k1
 by_cases k2 : x.f0 = 2
 ·
  exact link_2 h x A6 c6 hC hl ha hv hL hs k2
 by_cases k3 : x.f0 = 3
 ·
  exact link_3 h x A6 c6 hC hl ha hv hL hs k3
 by_cases k4 : x.f0 = 4
 ·
  exact link_4 h x A6 c6 hC hl ha hv hL hs k4
 by_cases k5 : x.f0 = 5
 ·
  exact link_5 h x A6 c6 hC hl ha hv hL hs k5
 by_cases k6 : x.f0 = 6
 ·
  exact link_6 h x A6 c6 hC hl ha hv hL hs k6
 by_cases k7 : x.f0 = 7
 ·
  exact link_7 h x A6 c6 hC hl ha hv hL hs k7
 exact link_0 h x A6 c6 hC hl ha hv hL hs ⟨k1, k2, k3, k4, k5, k6, k7⟩
end Go.Proofs.YtpopohkbffhckaaDoor.KL
