/- Walks of the look at a certificate: link of the kind 4, first. Walks of the look at a certificate: link of the kind 4, second. Walks of the look at a certificate: link of the kind 4. -/
import Derived.Test.YtpopohkbffhckaaDoorLkPA
import Derived.Deep.DeepCutAuto
import Derived.Deep.RegionHeld3
import Derived.StillTailTactics
import Derived.Outline
namespace Go.Proofs.YtpopohkbffhckaaDoor.KL
open Go.RowKit Go.Proofs.YtpopohkbffhckaaDoorW.PrintWords Go.Proofs.YtpopohkbffhckaaDoorW.PrintLast Go.Proofs.YtpopohkbffhckaaDoorW.PrintMore Go.Proofs.YtpopohkbffhckaaDoor.MM Go.Proofs.YtpopohkbffhckaaDoor.Hk
set_option linter.unusedSimpArgs false
set_option linter.unusedVariables false
variable {W0 w w1 w2 : World} {k : Nat} {A0 A1 : Option Addr} {c0 c1 : Nat} {v : List Vx} {a : List At} {t : List Pr} {s : List Int} {tv sv : Value}
set_option maxRecDepth 100000 in
set_option maxHeartbeats 3200000 in
theorem link_4a (h : Look W0 k A0 c0 v A1 c1 a t s tv sv w) (x : Lk) (A6 : Option Addr) (c6 : Nat) (hC : (Kd.int .i64).C W0 A6 x.f6.length x.f6) (hl : (Lit.int .i64 x.f1).wf = true) (ha : a.length ≤ 1000) (hv : v.length ≤ 1000) (hL : x.f6.length ≤ 1000) (hs : s.length ≤ 1000) (hK : x.f0 = 4) {s1 s2 t1 t2 : Int} (ht : tellM t x.f4 = none) (hu : tellM t x.f5 = none) :
 Calls Tryd.prog 19 #[ptr k, lkA x (.slice A6 x.f6.length c6)] w (Linked W0 k A0 c0 v A1 c1 a t s tv x) := by
 have hk := h.lt
 have HM0 := hid (show linkM v a t x = (((prO (tellM t x.f4)).1, (prO (tellM t x.f5)).2), false, (tellM t x.f4).isSome && ((tellM t x.f5).isSome && decide ((prO (tellM t x.f4)).2 = (prO (tellM t x.f5)).1))) by unfold linkM; rw [if_neg (by omega), if_neg (by omega), if_neg (by omega), if_pos hK])
 have HL := hid (show litsOf x = [] by unfold litsOf; rw [if_neg (by omega)])
 have H := hid h
 have HT := hid (fun W (hW : Below w.heap.size w W) => tell_no (h.move hW) ht)
 have HU := hid (fun W (hW : Below w.heap.size w W) => tell_no (h.move hW) hu)
 have HM := hid (show linkM v a t x = ((-1, -1), false, false) by rw [HM0.out, ht, hu]; rfl)
 clear h hC HM0 ht hu
 go_enter Tryd.func19, Tryd.ntmps19
 go_wp2_with fail
 obtain ⟨W1, hW1⟩ : ∃ W1, W1 = (w.alloc (.cells (lkK 4 x (.slice A6 x.f6.length c6)) 36)).alloc (.cells #[.int .i64 0, .int .i64 0] 54) := ⟨_, rfl⟩
 have F1 := hid (Fr.made w 4 x (.slice A6 x.f6.length c6))
 rw [← hW1] at F1 ⊢
 clear hW1
 refine (HT.out W1 F1.out.below).mono ?_
 rintro e w2 ⟨rfl, hb2⟩
 have F2 := hid (F1.out.move hb2)
 have hs2 : w.heap.size + 1 < w2.heap.size := F2.out.facts.2.2.2.2
 have hs2' : w.heap.size < w2.heap.size := by omega
 obtain ⟨z0, z1, z2, z3, z4, z5, z6⟩ := F2.out.cells
 clear hb2
 go_wp2_with fail
 obtain ⟨W3, hW3⟩ : ∃ W3, W3 = w2.alloc (.cells #[(.int .i64 (-1)), (.int .i64 (-1))] 54) := ⟨_, rfl⟩
 have F3 := hid (F2.out.alloc (.cells #[(.int .i64 (-1)), (.int .i64 (-1))] 54))
 have g3 : W3.heap[w2.heap.size]? = some (.cells #[(.int .i64 (-1)), (.int .i64 (-1))] 54 (0, 0)) := by rw [hW3]; exact heap_alloc_new _ _
 rw [← hW3] at F3 ⊢
 clear hW3 z0 z1 z2 z3 z4 z5 z6
 refine (HU.out W3 F3.out.below).mono ?_
 rintro e w4 ⟨rfl, hb4⟩
 have hs4 : w2.heap.size < w4.heap.size := Nat.lt_of_lt_of_le (blk_lt g3) hb4.size
 have F4 := hid (F3.out.move hb4)
 have g4 : w4.heap[w2.heap.size]? = some (.cells #[(.int .i64 (-1)), (.int .i64 (-1))] 54 (0, 0)) := (hb4.block _ (blk_lt g3)).trans g3
 clear hb4 g3
 go_wp2_with fail
 obtain ⟨W5, hW5⟩ : ∃ W5, W5 = w4.alloc (.cells #[(.int .i64 (-1)), (.int .i64 (-1))] 54) := ⟨_, rfl⟩
 have F5 := hid (F4.out.alloc (.cells #[(.int .i64 (-1)), (.int .i64 (-1))] 54))
 have g5 : W5.heap[w2.heap.size]? = some (.cells #[(.int .i64 (-1)), (.int .i64 (-1))] 54 (0, 0)) := by rw [hW5]; exact (Go.heap_alloc_old _ _ hs4).trans g4
 have g6 : W5.heap[w4.heap.size]? = some (.cells #[(.int .i64 (-1)), (.int .i64 (-1))] 54 (0, 0)) := by rw [hW5]; exact heap_alloc_new _ _
 rw [← hW5] at F5 ⊢
 obtain ⟨f0, f1, r0, r1, hsz⟩ := F5.out.facts
 have a0 : W5.cell? ⟨w2.heap.size, 0, none⟩ = some (.int .i64 (-1)) := (blk_cell g5 0).trans rfl
 have a1 : W5.cell? ⟨w2.heap.size, 1, none⟩ = some (.int .i64 (-1)) := (blk_cell g5 1).trans rfl
 have b0 : W5.cell? ⟨w4.heap.size, 0, none⟩ = some (.int .i64 (-1)) := (blk_cell g6 0).trans rfl
 have b1 : W5.cell? ⟨w4.heap.size, 1, none⟩ = some (.int .i64 (-1)) := (blk_cell g6 1).trans rfl
 have n1 : ¬ w.heap.size + 1 = w2.heap.size := by omega
 have n2 : ¬ w.heap.size + 1 = w4.heap.size := by omega
 have n3 : ¬ w2.heap.size = w.heap.size + 1 := by omega
 have n4 : ¬ w4.heap.size = w.heap.size + 1 := by omega
 clear g4 g5 g6 hW5
 have hSS : (fun w' : World => w'.cell? ⟨w2.heap.size, 0, none⟩ = some (.int .i64 (-1)) ∧ w'.cell? ⟨w2.heap.size, 1, none⟩ = some (.int .i64 (-1)) ∧ w'.cell? ⟨w4.heap.size, 0, none⟩ = some (.int .i64 (-1)) ∧ w'.cell? ⟨w4.heap.size, 1, none⟩ = some (.int .i64 (-1))) W5.drew := ⟨a0, a1, b0, b1⟩
 refine wp_region_noPanic ?_
 refine start_ (n := 18) (S := (fun w' : World => w'.cell? ⟨w2.heap.size, 0, none⟩ = some (.int .i64 (-1)) ∧ w'.cell? ⟨w2.heap.size, 1, none⟩ = some (.int .i64 (-1)) ∧ w'.cell? ⟨w4.heap.size, 0, none⟩ = some (.int .i64 (-1)) ∧ w'.cell? ⟨w4.heap.size, 1, none⟩ = some (.int .i64 (-1)))) (ds := []) (msk 0 18) (by kernel_rfl) rfl rfl hSS (fun hHeld => ?_)
 refine take_ (i := 0) (N := some 88) (v := ?_) (a' := ?_) (msk 1 18) rfl rfl (by kernel_rfl) (fun _ _ _ h => h) (Or.inl ⟨by rfl, ?_⟩) hHeld ?_ ?_
 rotate_left
 · rintro w' ⟨s0, s1, s2, s3⟩; go_simp; with_reducible rfl
 rotate_left
 · simp only [Act.put, sA, sB, sC]; rfl
 refine take_ (i := 1) (N := some 89) (v := ?_) (a' := ?_) (msk 2 18) rfl rfl (by kernel_rfl) (fun _ _ _ h => h) (Or.inl ⟨by rfl, ?_⟩) hHeld ?_ ?_
 rotate_left
 · rintro w' ⟨s0, s1, s2, s3⟩; go_simp; with_reducible rfl
 rotate_left
 · simp only [Act.put, sA, sB, sC]; rfl
 refine take_ (i := 2) (N := some 90) (v := ?_) (a' := ?_) (msk 3 18) rfl rfl (by kernel_rfl) (fun _ _ _ h => h) (Or.inl ⟨by rfl, ?_⟩) hHeld ?_ ?_
 rotate_left
 · rintro w' ⟨s0, s1, s2, s3⟩; go_simp; with_reducible rfl
 rotate_left
 · simp only [Act.put, sA, sB, sC]; rfl
 refine take_ (i := 3) (N := some 91) (v := ?_) (a' := ?_) (msk 4 18) rfl rfl (by kernel_rfl) (fun _ _ _ h => h) (Or.inl ⟨by rfl, ?_⟩) hHeld ?_ ?_
 rotate_left
 · rintro w' ⟨s0, s1, s2, s3⟩; go_simp; with_reducible rfl
 rotate_left
 · simp only [Act.put, sA, sB, sC]; rfl
 refine take_ (i := 4) (N := some 92) (v := ?_) (a' := ?_) (msk 5 18) rfl rfl (by kernel_rfl) (fun _ _ _ h => h) (Or.inl ⟨by rfl, ?_⟩) hHeld ?_ ?_
 rotate_left
 · rintro w' ⟨s0, s1, s2, s3⟩; go_simp; with_reducible rfl
 rotate_left
 · simp only [Act.put, sA, sB, sC]; rfl
 refine take_ (i := 5) (N := some 93) (v := ?_) (a' := ?_) (msk 6 18) rfl rfl (by kernel_rfl) (fun _ _ _ h => h) (Or.inl ⟨by rfl, ?_⟩) hHeld ?_ ?_
 rotate_left
 · rintro w' ⟨s0, s1, s2, s3⟩; go_simp; with_reducible rfl
 rotate_left
 · simp only [Act.put, sA, sB, sC]; rfl
 refine take_ (i := 6) (N := some 94) (v := ?_) (a' := ?_) (msk 7 18) rfl rfl (by kernel_rfl) (fun _ _ _ h => h) (Or.inl ⟨by rfl, ?_⟩) hHeld ?_ ?_
 rotate_left
 · rintro w' ⟨s0, s1, s2, s3⟩; go_simp; with_reducible rfl
 rotate_left
 · simp only [Act.put, sA, sB, sC]; rfl
 refine take_ (i := 7) (N := some 95) (v := undef) (a' := ?_) (msk 8 18) rfl rfl (by kernel_rfl) (fun _ _ _ h => h) (Or.inr ⟨by rfl, rfl⟩) hHeld ?_ ?_
 rotate_left
 · simp only [Act.put, sA, sB, sC]; rfl
 refine take_ (i := 8) (N := some 96) (v := ?_) (a' := ?_) (msk 9 18) rfl rfl (by kernel_rfl) (fun _ _ _ h => h) (Or.inl ⟨by rfl, ?_⟩) hHeld ?_ ?_
 rotate_left
 · rintro w' ⟨s0, s1, s2, s3⟩; go_simp; with_reducible rfl
 rotate_left
 · simp only [Act.put, sA, sB, sC]; rfl
 refine take_ (i := 9) (N := some 97) (v := ?_) (a' := ?_) (msk 10 18) rfl rfl (by kernel_rfl) (fun _ _ _ h => h) (Or.inl ⟨by rfl, ?_⟩) hHeld ?_ ?_
 rotate_left
 · rintro w' ⟨s0, s1, s2, s3⟩; go_simp; with_reducible rfl
 rotate_left
 · simp only [Act.put, sA, sB, sC]; rfl
 refine take_ (i := 10) (N := some 98) (v := undef) (a' := ?_) (msk 11 18) rfl rfl (by kernel_rfl) (fun _ _ _ h => h) (Or.inr ⟨by rfl, rfl⟩) hHeld ?_ ?_
 rotate_left
 · simp only [Act.put, sA, sB, sC]; rfl
 refine take_ (i := 11) (N := some 99) (v := undef) (a' := ?_) (msk 12 18) rfl rfl (by kernel_rfl) (fun _ _ _ h => h) (Or.inr ⟨by rfl, rfl⟩) hHeld ?_ ?_
 rotate_left
 · simp only [Act.put, sA, sB, sC]; rfl
 refine take_ (i := 12) (N := some 100) (v := undef) (a' := ?_) (msk 13 18) rfl rfl (by kernel_rfl) (fun _ _ _ h => h) (Or.inr ⟨by rfl, rfl⟩) hHeld ?_ ?_
 rotate_left
 · simp only [Act.put, sA, sB, sC]; rfl
 refine take_ (i := 13) (N := some 101) (v := undef) (a' := ?_) (msk 14 18) rfl rfl (by kernel_rfl) (fun _ _ _ h => h) (Or.inr ⟨by rfl, rfl⟩) hHeld ?_ ?_
 rotate_left
 · simp only [Act.put, sA, sB, sC]; rfl
 refine take_ (i := 14) (N := some 102) (v := undef) (a' := ?_) (msk 15 18) rfl rfl (by kernel_rfl) (fun _ _ _ h => h) (Or.inr ⟨by rfl, rfl⟩) hHeld ?_ ?_
 rotate_left
 · simp only [Act.put, sA, sB, sC]; rfl
 refine take_ (i := 15) (N := some 103) (v := ?_) (a' := ?_) (msk 16 18) rfl rfl (by kernel_rfl) (fun _ _ _ h => h) (Or.inl ⟨by rfl, ?_⟩) hHeld ?_ ?_
 rotate_left
 · rintro w' ⟨s0, s1, s2, s3⟩; go_simp; with_reducible rfl
 rotate_left
 · simp only [Act.put, sA, sB, sC]; rfl
 refine one_ (i := 16) (N := none) (msk 17 18) rfl rfl (by kernel_rfl) (by decide) (fun K hK => ?_)
 refine skip_ (by rfl) rfl (w1 := (W5.drew.setCell ⟨w.heap.size + 1, 0, none⟩ (.int .i64 (-1))).setCell ⟨w.heap.size + 1, 1, none⟩ (.int .i64 (-1))) (by go_simp; first | done | rfl) ?_
 refine hK.out _ _ (by refine ⟨?_, ?_, ?_, ?_⟩ <;> (go_simp; first | done | assumption)) (fun hHeld => ?_)
 refine take_ (i := 17) (N := some 6) (v := ?_) (a' := ?_) (msk 18 18) rfl rfl (by kernel_rfl) (fun _ _ _ h => h) (Or.inl ⟨by rfl, ?_⟩) hHeld ?_ ?_
 rotate_left
 · rintro w' ⟨s0, s1, s2, s3⟩; go_simp; with_reducible rfl
 rotate_left
 · simp only [Act.put, sA, sB, sC]; rfl
 refine done_ (by kernel_rfl) ?_
 try simp only [NoPanic, Exit.then]
 have F9 := hid (((F5.out.set (.int .i64 (-1)) (.int .i64 (-1))).set (.int .i64 (-1)) (.int .i64 (-1))).drew)
 go_wp2
 refine bodyPost_ret (results_ctt rfl _ _ _ _ _ _ _ rfl F9.out.rb Tryd.underlying54 rfl (by kernel_rfl)) rfl ?_
 refine Linked.still (p := (-1, -1)) (b := false) (c := false) H.out HL.out ?_ HM.out
 with_reducible exact F9.out.below
set_option maxRecDepth 100000 in
set_option maxHeartbeats 3200000 in
theorem link_4b (h : Look W0 k A0 c0 v A1 c1 a t s tv sv w) (x : Lk) (A6 : Option Addr) (c6 : Nat) (hC : (Kd.int .i64).C W0 A6 x.f6.length x.f6) (hl : (Lit.int .i64 x.f1).wf = true) (ha : a.length ≤ 1000) (hv : v.length ≤ 1000) (hL : x.f6.length ≤ 1000) (hs : s.length ≤ 1000) (hK : x.f0 = 4) {s1 s2 t1 t2 : Int} (ht : tellM t x.f4 = none) (hu : tellM t x.f5 = some (t1, t2)) :
 Calls Tryd.prog 19 #[ptr k, lkA x (.slice A6 x.f6.length c6)] w (Linked W0 k A0 c0 v A1 c1 a t s tv x) := by
 have hk := h.lt
 have HM0 := hid (show linkM v a t x = (((prO (tellM t x.f4)).1, (prO (tellM t x.f5)).2), false, (tellM t x.f4).isSome && ((tellM t x.f5).isSome && decide ((prO (tellM t x.f4)).2 = (prO (tellM t x.f5)).1))) by unfold linkM; rw [if_neg (by omega), if_neg (by omega), if_neg (by omega), if_pos hK])
 have HL := hid (show litsOf x = [] by unfold litsOf; rw [if_neg (by omega)])
 have H := hid h
 have HT := hid (fun W (hW : Below w.heap.size w W) => tell_no (h.move hW) ht)
 have HU := hid (fun W (hW : Below w.heap.size w W) => tell_yes (h.move hW) hu)
 have HM := hid (show linkM v a t x = ((-1, t2), false, false) by rw [HM0.out, ht, hu]; rfl)
 clear h hC HM0 ht hu
 go_enter Tryd.func19, Tryd.ntmps19
 go_wp2_with fail
 obtain ⟨W1, hW1⟩ : ∃ W1, W1 = (w.alloc (.cells (lkK 4 x (.slice A6 x.f6.length c6)) 36)).alloc (.cells #[.int .i64 0, .int .i64 0] 54) := ⟨_, rfl⟩
 have F1 := hid (Fr.made w 4 x (.slice A6 x.f6.length c6))
 rw [← hW1] at F1 ⊢
 clear hW1
 refine (HT.out W1 F1.out.below).mono ?_
 rintro e w2 ⟨rfl, hb2⟩
 have F2 := hid (F1.out.move hb2)
 have hs2 : w.heap.size + 1 < w2.heap.size := F2.out.facts.2.2.2.2
 have hs2' : w.heap.size < w2.heap.size := by omega
 obtain ⟨z0, z1, z2, z3, z4, z5, z6⟩ := F2.out.cells
 clear hb2
 go_wp2_with fail
 obtain ⟨W3, hW3⟩ : ∃ W3, W3 = w2.alloc (.cells #[(.int .i64 (-1)), (.int .i64 (-1))] 54) := ⟨_, rfl⟩
 have F3 := hid (F2.out.alloc (.cells #[(.int .i64 (-1)), (.int .i64 (-1))] 54))
 have g3 : W3.heap[w2.heap.size]? = some (.cells #[(.int .i64 (-1)), (.int .i64 (-1))] 54 (0, 0)) := by rw [hW3]; exact heap_alloc_new _ _
 rw [← hW3] at F3 ⊢
 clear hW3 z0 z1 z2 z3 z4 z5 z6
 refine (HU.out W3 F3.out.below).mono ?_
 rintro e w4 ⟨rfl, hb4⟩
 have hs4 : w2.heap.size < w4.heap.size := Nat.lt_of_lt_of_le (blk_lt g3) hb4.size
 have F4 := hid (F3.out.move hb4)
 have g4 : w4.heap[w2.heap.size]? = some (.cells #[(.int .i64 (-1)), (.int .i64 (-1))] 54 (0, 0)) := (hb4.block _ (blk_lt g3)).trans g3
 clear hb4 g3
 go_wp2_with fail
 obtain ⟨W5, hW5⟩ : ∃ W5, W5 = w4.alloc (.cells #[(.int .i64 t1), (.int .i64 t2)] 54) := ⟨_, rfl⟩
 have F5 := hid (F4.out.alloc (.cells #[(.int .i64 t1), (.int .i64 t2)] 54))
 have g5 : W5.heap[w2.heap.size]? = some (.cells #[(.int .i64 (-1)), (.int .i64 (-1))] 54 (0, 0)) := by rw [hW5]; exact (Go.heap_alloc_old _ _ hs4).trans g4
 have g6 : W5.heap[w4.heap.size]? = some (.cells #[(.int .i64 t1), (.int .i64 t2)] 54 (0, 0)) := by rw [hW5]; exact heap_alloc_new _ _
 rw [← hW5] at F5 ⊢
 obtain ⟨f0, f1, r0, r1, hsz⟩ := F5.out.facts
 have a0 : W5.cell? ⟨w2.heap.size, 0, none⟩ = some (.int .i64 (-1)) := (blk_cell g5 0).trans rfl
 have a1 : W5.cell? ⟨w2.heap.size, 1, none⟩ = some (.int .i64 (-1)) := (blk_cell g5 1).trans rfl
 have b0 : W5.cell? ⟨w4.heap.size, 0, none⟩ = some (.int .i64 t1) := (blk_cell g6 0).trans rfl
 have b1 : W5.cell? ⟨w4.heap.size, 1, none⟩ = some (.int .i64 t2) := (blk_cell g6 1).trans rfl
 have n1 : ¬ w.heap.size + 1 = w2.heap.size := by omega
 have n2 : ¬ w.heap.size + 1 = w4.heap.size := by omega
 have n3 : ¬ w2.heap.size = w.heap.size + 1 := by omega
 have n4 : ¬ w4.heap.size = w.heap.size + 1 := by omega
 clear g4 g5 g6 hW5
 have hSS : (fun w' : World => w'.cell? ⟨w2.heap.size, 0, none⟩ = some (.int .i64 (-1)) ∧ w'.cell? ⟨w2.heap.size, 1, none⟩ = some (.int .i64 (-1)) ∧ w'.cell? ⟨w4.heap.size, 0, none⟩ = some (.int .i64 t1) ∧ w'.cell? ⟨w4.heap.size, 1, none⟩ = some (.int .i64 t2)) W5.drew := ⟨a0, a1, b0, b1⟩
 refine wp_region_noPanic ?_
 refine start_ (n := 18) (S := (fun w' : World => w'.cell? ⟨w2.heap.size, 0, none⟩ = some (.int .i64 (-1)) ∧ w'.cell? ⟨w2.heap.size, 1, none⟩ = some (.int .i64 (-1)) ∧ w'.cell? ⟨w4.heap.size, 0, none⟩ = some (.int .i64 t1) ∧ w'.cell? ⟨w4.heap.size, 1, none⟩ = some (.int .i64 t2))) (ds := []) (msk 0 18) (by kernel_rfl) rfl rfl hSS (fun hHeld => ?_)
 refine take_ (i := 0) (N := some 88) (v := ?_) (a' := ?_) (msk 1 18) rfl rfl (by kernel_rfl) (fun _ _ _ h => h) (Or.inl ⟨by rfl, ?_⟩) hHeld ?_ ?_
 rotate_left
 · rintro w' ⟨s0, s1, s2, s3⟩; go_simp; with_reducible rfl
 rotate_left
 · simp only [Act.put, sA, sB, sC]; rfl
 refine take_ (i := 1) (N := some 89) (v := ?_) (a' := ?_) (msk 2 18) rfl rfl (by kernel_rfl) (fun _ _ _ h => h) (Or.inl ⟨by rfl, ?_⟩) hHeld ?_ ?_
 rotate_left
 · rintro w' ⟨s0, s1, s2, s3⟩; go_simp; with_reducible rfl
 rotate_left
 · simp only [Act.put, sA, sB, sC]; rfl
 refine take_ (i := 2) (N := some 90) (v := ?_) (a' := ?_) (msk 3 18) rfl rfl (by kernel_rfl) (fun _ _ _ h => h) (Or.inl ⟨by rfl, ?_⟩) hHeld ?_ ?_
 rotate_left
 · rintro w' ⟨s0, s1, s2, s3⟩; go_simp; with_reducible rfl
 rotate_left
 · simp only [Act.put, sA, sB, sC]; rfl
 refine take_ (i := 3) (N := some 91) (v := ?_) (a' := ?_) (msk 4 18) rfl rfl (by kernel_rfl) (fun _ _ _ h => h) (Or.inl ⟨by rfl, ?_⟩) hHeld ?_ ?_
 rotate_left
 · rintro w' ⟨s0, s1, s2, s3⟩; go_simp; with_reducible rfl
 rotate_left
 · simp only [Act.put, sA, sB, sC]; rfl
 refine take_ (i := 4) (N := some 92) (v := ?_) (a' := ?_) (msk 5 18) rfl rfl (by kernel_rfl) (fun _ _ _ h => h) (Or.inl ⟨by rfl, ?_⟩) hHeld ?_ ?_
 rotate_left
 · rintro w' ⟨s0, s1, s2, s3⟩; go_simp; with_reducible rfl
 rotate_left
 · simp only [Act.put, sA, sB, sC]; rfl
 refine take_ (i := 5) (N := some 93) (v := ?_) (a' := ?_) (msk 6 18) rfl rfl (by kernel_rfl) (fun _ _ _ h => h) (Or.inl ⟨by rfl, ?_⟩) hHeld ?_ ?_
 rotate_left
 · rintro w' ⟨s0, s1, s2, s3⟩; go_simp; with_reducible rfl
 rotate_left
 · simp only [Act.put, sA, sB, sC]; rfl
 refine take_ (i := 6) (N := some 94) (v := ?_) (a' := ?_) (msk 7 18) rfl rfl (by kernel_rfl) (fun _ _ _ h => h) (Or.inl ⟨by rfl, ?_⟩) hHeld ?_ ?_
 rotate_left
 · rintro w' ⟨s0, s1, s2, s3⟩; go_simp; with_reducible rfl
 rotate_left
 · simp only [Act.put, sA, sB, sC]; rfl
 refine take_ (i := 7) (N := some 95) (v := undef) (a' := ?_) (msk 8 18) rfl rfl (by kernel_rfl) (fun _ _ _ h => h) (Or.inr ⟨by rfl, rfl⟩) hHeld ?_ ?_
 rotate_left
 · simp only [Act.put, sA, sB, sC]; rfl
 refine take_ (i := 8) (N := some 96) (v := ?_) (a' := ?_) (msk 9 18) rfl rfl (by kernel_rfl) (fun _ _ _ h => h) (Or.inl ⟨by rfl, ?_⟩) hHeld ?_ ?_
 rotate_left
 · rintro w' ⟨s0, s1, s2, s3⟩; go_simp; with_reducible rfl
 rotate_left
 · simp only [Act.put, sA, sB, sC]; rfl
 refine take_ (i := 9) (N := some 97) (v := ?_) (a' := ?_) (msk 10 18) rfl rfl (by kernel_rfl) (fun _ _ _ h => h) (Or.inl ⟨by rfl, ?_⟩) hHeld ?_ ?_
 rotate_left
 · rintro w' ⟨s0, s1, s2, s3⟩; go_simp; with_reducible rfl
 rotate_left
 · simp only [Act.put, sA, sB, sC]; rfl
 refine take_ (i := 10) (N := some 98) (v := undef) (a' := ?_) (msk 11 18) rfl rfl (by kernel_rfl) (fun _ _ _ h => h) (Or.inr ⟨by rfl, rfl⟩) hHeld ?_ ?_
 rotate_left
 · simp only [Act.put, sA, sB, sC]; rfl
 refine take_ (i := 11) (N := some 99) (v := undef) (a' := ?_) (msk 12 18) rfl rfl (by kernel_rfl) (fun _ _ _ h => h) (Or.inr ⟨by rfl, rfl⟩) hHeld ?_ ?_
 rotate_left
 · simp only [Act.put, sA, sB, sC]; rfl
 refine take_ (i := 12) (N := some 100) (v := undef) (a' := ?_) (msk 13 18) rfl rfl (by kernel_rfl) (fun _ _ _ h => h) (Or.inr ⟨by rfl, rfl⟩) hHeld ?_ ?_
 rotate_left
 · simp only [Act.put, sA, sB, sC]; rfl
 refine take_ (i := 13) (N := some 101) (v := undef) (a' := ?_) (msk 14 18) rfl rfl (by kernel_rfl) (fun _ _ _ h => h) (Or.inr ⟨by rfl, rfl⟩) hHeld ?_ ?_
 rotate_left
 · simp only [Act.put, sA, sB, sC]; rfl
 refine take_ (i := 14) (N := some 102) (v := undef) (a' := ?_) (msk 15 18) rfl rfl (by kernel_rfl) (fun _ _ _ h => h) (Or.inr ⟨by rfl, rfl⟩) hHeld ?_ ?_
 rotate_left
 · simp only [Act.put, sA, sB, sC]; rfl
 refine take_ (i := 15) (N := some 103) (v := ?_) (a' := ?_) (msk 16 18) rfl rfl (by kernel_rfl) (fun _ _ _ h => h) (Or.inl ⟨by rfl, ?_⟩) hHeld ?_ ?_
 rotate_left
 · rintro w' ⟨s0, s1, s2, s3⟩; go_simp; with_reducible rfl
 rotate_left
 · simp only [Act.put, sA, sB, sC]; rfl
 refine one_ (i := 16) (N := none) (msk 17 18) rfl rfl (by kernel_rfl) (by decide) (fun K hK => ?_)
 refine skip_ (by rfl) rfl (w1 := (W5.drew.setCell ⟨w.heap.size + 1, 0, none⟩ (.int .i64 (-1))).setCell ⟨w.heap.size + 1, 1, none⟩ (.int .i64 t2)) (by go_simp; first | done | rfl) ?_
 refine hK.out _ _ (by refine ⟨?_, ?_, ?_, ?_⟩ <;> (go_simp; first | done | assumption)) (fun hHeld => ?_)
 refine take_ (i := 17) (N := some 6) (v := ?_) (a' := ?_) (msk 18 18) rfl rfl (by kernel_rfl) (fun _ _ _ h => h) (Or.inl ⟨by rfl, ?_⟩) hHeld ?_ ?_
 rotate_left
 · rintro w' ⟨s0, s1, s2, s3⟩; go_simp; with_reducible rfl
 rotate_left
 · simp only [Act.put, sA, sB, sC]; rfl
 refine done_ (by kernel_rfl) ?_
 try simp only [NoPanic, Exit.then]
 have F9 := hid (((F5.out.set (.int .i64 (-1)) (.int .i64 t2)).set (.int .i64 (-1)) (.int .i64 t2)).drew)
 go_wp2
 refine bodyPost_ret (results_ctt rfl _ _ _ _ _ _ _ rfl F9.out.rb Tryd.underlying54 rfl (by kernel_rfl)) rfl ?_
 refine Linked.still (p := (-1, t2)) (b := false) (c := false) H.out HL.out ?_ HM.out
 with_reducible exact F9.out.below
end Go.Proofs.YtpopohkbffhckaaDoor.KL

namespace Go.Proofs.YtpopohkbffhckaaDoor.KL
open Go.RowKit Go.Proofs.YtpopohkbffhckaaDoorW.PrintWords Go.Proofs.YtpopohkbffhckaaDoorW.PrintLast Go.Proofs.YtpopohkbffhckaaDoorW.PrintMore Go.Proofs.YtpopohkbffhckaaDoor.MM Go.Proofs.YtpopohkbffhckaaDoor.Hk
set_option linter.unusedSimpArgs false
set_option linter.unusedVariables false
variable {W0 w w1 w2 : World} {k : Nat} {A0 A1 : Option Addr} {c0 c1 : Nat} {v : List Vx} {a : List At} {t : List Pr} {s : List Int} {tv sv : Value}
set_option maxRecDepth 100000 in
set_option maxHeartbeats 3200000 in
theorem link_4c (h : Look W0 k A0 c0 v A1 c1 a t s tv sv w) (x : Lk) (A6 : Option Addr) (c6 : Nat) (hC : (Kd.int .i64).C W0 A6 x.f6.length x.f6) (hl : (Lit.int .i64 x.f1).wf = true) (ha : a.length ≤ 1000) (hv : v.length ≤ 1000) (hL : x.f6.length ≤ 1000) (hs : s.length ≤ 1000) (hK : x.f0 = 4) {s1 s2 t1 t2 : Int} (ht : tellM t x.f4 = some (s1, s2)) (hu : tellM t x.f5 = none) :
 Calls Tryd.prog 19 #[ptr k, lkA x (.slice A6 x.f6.length c6)] w (Linked W0 k A0 c0 v A1 c1 a t s tv x) := by
 have hk := h.lt
 have HM0 := hid (show linkM v a t x = (((prO (tellM t x.f4)).1, (prO (tellM t x.f5)).2), false, (tellM t x.f4).isSome && ((tellM t x.f5).isSome && decide ((prO (tellM t x.f4)).2 = (prO (tellM t x.f5)).1))) by unfold linkM; rw [if_neg (by omega), if_neg (by omega), if_neg (by omega), if_pos hK])
 have HL := hid (show litsOf x = [] by unfold litsOf; rw [if_neg (by omega)])
 have H := hid h
 have HT := hid (fun W (hW : Below w.heap.size w W) => tell_yes (h.move hW) ht)
 have HU := hid (fun W (hW : Below w.heap.size w W) => tell_no (h.move hW) hu)
 have HM := hid (show linkM v a t x = ((s1, -1), false, false) by rw [HM0.out, ht, hu]; rfl)
 clear h hC HM0 ht hu
 go_enter Tryd.func19, Tryd.ntmps19
 go_wp2_with fail
 obtain ⟨W1, hW1⟩ : ∃ W1, W1 = (w.alloc (.cells (lkK 4 x (.slice A6 x.f6.length c6)) 36)).alloc (.cells #[.int .i64 0, .int .i64 0] 54) := ⟨_, rfl⟩
 have F1 := hid (Fr.made w 4 x (.slice A6 x.f6.length c6))
 rw [← hW1] at F1 ⊢
 clear hW1
 refine (HT.out W1 F1.out.below).mono ?_
 rintro e w2 ⟨rfl, hb2⟩
 have F2 := hid (F1.out.move hb2)
 have hs2 : w.heap.size + 1 < w2.heap.size := F2.out.facts.2.2.2.2
 have hs2' : w.heap.size < w2.heap.size := by omega
 obtain ⟨z0, z1, z2, z3, z4, z5, z6⟩ := F2.out.cells
 clear hb2
 go_wp2_with fail
 obtain ⟨W3, hW3⟩ : ∃ W3, W3 = w2.alloc (.cells #[(.int .i64 s1), (.int .i64 s2)] 54) := ⟨_, rfl⟩
 have F3 := hid (F2.out.alloc (.cells #[(.int .i64 s1), (.int .i64 s2)] 54))
 have g3 : W3.heap[w2.heap.size]? = some (.cells #[(.int .i64 s1), (.int .i64 s2)] 54 (0, 0)) := by rw [hW3]; exact heap_alloc_new _ _
 rw [← hW3] at F3 ⊢
 clear hW3 z0 z1 z2 z3 z4 z5 z6
 refine (HU.out W3 F3.out.below).mono ?_
 rintro e w4 ⟨rfl, hb4⟩
 have hs4 : w2.heap.size < w4.heap.size := Nat.lt_of_lt_of_le (blk_lt g3) hb4.size
 have F4 := hid (F3.out.move hb4)
 have g4 : w4.heap[w2.heap.size]? = some (.cells #[(.int .i64 s1), (.int .i64 s2)] 54 (0, 0)) := (hb4.block _ (blk_lt g3)).trans g3
 clear hb4 g3
 go_wp2_with fail
 obtain ⟨W5, hW5⟩ : ∃ W5, W5 = w4.alloc (.cells #[(.int .i64 (-1)), (.int .i64 (-1))] 54) := ⟨_, rfl⟩
 have F5 := hid (F4.out.alloc (.cells #[(.int .i64 (-1)), (.int .i64 (-1))] 54))
 have g5 : W5.heap[w2.heap.size]? = some (.cells #[(.int .i64 s1), (.int .i64 s2)] 54 (0, 0)) := by rw [hW5]; exact (Go.heap_alloc_old _ _ hs4).trans g4
 have g6 : W5.heap[w4.heap.size]? = some (.cells #[(.int .i64 (-1)), (.int .i64 (-1))] 54 (0, 0)) := by rw [hW5]; exact heap_alloc_new _ _
 rw [← hW5] at F5 ⊢
 obtain ⟨f0, f1, r0, r1, hsz⟩ := F5.out.facts
 have a0 : W5.cell? ⟨w2.heap.size, 0, none⟩ = some (.int .i64 s1) := (blk_cell g5 0).trans rfl
 have a1 : W5.cell? ⟨w2.heap.size, 1, none⟩ = some (.int .i64 s2) := (blk_cell g5 1).trans rfl
 have b0 : W5.cell? ⟨w4.heap.size, 0, none⟩ = some (.int .i64 (-1)) := (blk_cell g6 0).trans rfl
 have b1 : W5.cell? ⟨w4.heap.size, 1, none⟩ = some (.int .i64 (-1)) := (blk_cell g6 1).trans rfl
 have n1 : ¬ w.heap.size + 1 = w2.heap.size := by omega
 have n2 : ¬ w.heap.size + 1 = w4.heap.size := by omega
 have n3 : ¬ w2.heap.size = w.heap.size + 1 := by omega
 have n4 : ¬ w4.heap.size = w.heap.size + 1 := by omega
 clear g4 g5 g6 hW5
 have hSS : (fun w' : World => w'.cell? ⟨w2.heap.size, 0, none⟩ = some (.int .i64 s1) ∧ w'.cell? ⟨w2.heap.size, 1, none⟩ = some (.int .i64 s2) ∧ w'.cell? ⟨w4.heap.size, 0, none⟩ = some (.int .i64 (-1)) ∧ w'.cell? ⟨w4.heap.size, 1, none⟩ = some (.int .i64 (-1))) W5.drew := ⟨a0, a1, b0, b1⟩
 refine wp_region_noPanic ?_
 refine start_ (n := 18) (S := (fun w' : World => w'.cell? ⟨w2.heap.size, 0, none⟩ = some (.int .i64 s1) ∧ w'.cell? ⟨w2.heap.size, 1, none⟩ = some (.int .i64 s2) ∧ w'.cell? ⟨w4.heap.size, 0, none⟩ = some (.int .i64 (-1)) ∧ w'.cell? ⟨w4.heap.size, 1, none⟩ = some (.int .i64 (-1)))) (ds := []) (msk 0 18) (by kernel_rfl) rfl rfl hSS (fun hHeld => ?_)
 refine take_ (i := 0) (N := some 88) (v := ?_) (a' := ?_) (msk 1 18) rfl rfl (by kernel_rfl) (fun _ _ _ h => h) (Or.inl ⟨by rfl, ?_⟩) hHeld ?_ ?_
 rotate_left
 · rintro w' ⟨s0, s1, s2, s3⟩; go_simp; with_reducible rfl
 rotate_left
 · simp only [Act.put, sA, sB, sC]; rfl
 refine take_ (i := 1) (N := some 89) (v := ?_) (a' := ?_) (msk 2 18) rfl rfl (by kernel_rfl) (fun _ _ _ h => h) (Or.inl ⟨by rfl, ?_⟩) hHeld ?_ ?_
 rotate_left
 · rintro w' ⟨s0, s1, s2, s3⟩; go_simp; with_reducible rfl
 rotate_left
 · simp only [Act.put, sA, sB, sC]; rfl
 refine take_ (i := 2) (N := some 90) (v := ?_) (a' := ?_) (msk 3 18) rfl rfl (by kernel_rfl) (fun _ _ _ h => h) (Or.inl ⟨by rfl, ?_⟩) hHeld ?_ ?_
 rotate_left
 · rintro w' ⟨s0, s1, s2, s3⟩; go_simp; with_reducible rfl
 rotate_left
 · simp only [Act.put, sA, sB, sC]; rfl
 refine take_ (i := 3) (N := some 91) (v := ?_) (a' := ?_) (msk 4 18) rfl rfl (by kernel_rfl) (fun _ _ _ h => h) (Or.inl ⟨by rfl, ?_⟩) hHeld ?_ ?_
 rotate_left
 · rintro w' ⟨s0, s1, s2, s3⟩; go_simp; with_reducible rfl
 rotate_left
 · simp only [Act.put, sA, sB, sC]; rfl
 refine take_ (i := 4) (N := some 92) (v := ?_) (a' := ?_) (msk 5 18) rfl rfl (by kernel_rfl) (fun _ _ _ h => h) (Or.inl ⟨by rfl, ?_⟩) hHeld ?_ ?_
 rotate_left
 · rintro w' ⟨s0, s1, s2, s3⟩; go_simp; with_reducible rfl
 rotate_left
 · simp only [Act.put, sA, sB, sC]; rfl
 refine take_ (i := 5) (N := some 93) (v := ?_) (a' := ?_) (msk 6 18) rfl rfl (by kernel_rfl) (fun _ _ _ h => h) (Or.inl ⟨by rfl, ?_⟩) hHeld ?_ ?_
 rotate_left
 · rintro w' ⟨s0, s1, s2, s3⟩; go_simp; with_reducible rfl
 rotate_left
 · simp only [Act.put, sA, sB, sC]; rfl
 refine take_ (i := 6) (N := some 94) (v := ?_) (a' := ?_) (msk 7 18) rfl rfl (by kernel_rfl) (fun _ _ _ h => h) (Or.inl ⟨by rfl, ?_⟩) hHeld ?_ ?_
 rotate_left
 · rintro w' ⟨s0, s1, s2, s3⟩; go_simp; with_reducible rfl
 rotate_left
 · simp only [Act.put, sA, sB, sC]; rfl
 refine take_ (i := 7) (N := some 95) (v := ?_) (a' := ?_) (msk 8 18) rfl rfl (by kernel_rfl) (fun _ _ _ h => h) (Or.inl ⟨by rfl, ?_⟩) hHeld ?_ ?_
 rotate_left
 · rintro w' ⟨s0, s1, s2, s3⟩; go_simp; with_reducible rfl
 rotate_left
 · simp only [Act.put, sA, sB, sC]; rfl
 refine take_ (i := 8) (N := some 96) (v := ?_) (a' := ?_) (msk 9 18) rfl rfl (by kernel_rfl) (fun _ _ _ h => h) (Or.inl ⟨by rfl, ?_⟩) hHeld ?_ ?_
 rotate_left
 · rintro w' ⟨s0, s1, s2, s3⟩; go_simp; with_reducible rfl
 rotate_left
 · simp only [Act.put, sA, sB, sC]; rfl
 refine take_ (i := 9) (N := some 97) (v := ?_) (a' := ?_) (msk 10 18) rfl rfl (by kernel_rfl) (fun _ _ _ h => h) (Or.inl ⟨by rfl, ?_⟩) hHeld ?_ ?_
 rotate_left
 · rintro w' ⟨s0, s1, s2, s3⟩; go_simp; with_reducible rfl
 rotate_left
 · simp only [Act.put, sA, sB, sC]; rfl
 refine take_ (i := 10) (N := some 98) (v := undef) (a' := ?_) (msk 11 18) rfl rfl (by kernel_rfl) (fun _ _ _ h => h) (Or.inr ⟨by rfl, rfl⟩) hHeld ?_ ?_
 rotate_left
 · simp only [Act.put, sA, sB, sC]; rfl
 refine take_ (i := 11) (N := some 99) (v := undef) (a' := ?_) (msk 12 18) rfl rfl (by kernel_rfl) (fun _ _ _ h => h) (Or.inr ⟨by rfl, rfl⟩) hHeld ?_ ?_
 rotate_left
 · simp only [Act.put, sA, sB, sC]; rfl
 refine take_ (i := 12) (N := some 100) (v := undef) (a' := ?_) (msk 13 18) rfl rfl (by kernel_rfl) (fun _ _ _ h => h) (Or.inr ⟨by rfl, rfl⟩) hHeld ?_ ?_
 rotate_left
 · simp only [Act.put, sA, sB, sC]; rfl
 refine take_ (i := 13) (N := some 101) (v := undef) (a' := ?_) (msk 14 18) rfl rfl (by kernel_rfl) (fun _ _ _ h => h) (Or.inr ⟨by rfl, rfl⟩) hHeld ?_ ?_
 rotate_left
 · simp only [Act.put, sA, sB, sC]; rfl
 refine take_ (i := 14) (N := some 102) (v := undef) (a' := ?_) (msk 15 18) rfl rfl (by kernel_rfl) (fun _ _ _ h => h) (Or.inr ⟨by rfl, rfl⟩) hHeld ?_ ?_
 rotate_left
 · simp only [Act.put, sA, sB, sC]; rfl
 refine take_ (i := 15) (N := some 103) (v := ?_) (a' := ?_) (msk 16 18) rfl rfl (by kernel_rfl) (fun _ _ _ h => h) (Or.inl ⟨by rfl, ?_⟩) hHeld ?_ ?_
 rotate_left
 · rintro w' ⟨s0, s1, s2, s3⟩; go_simp; with_reducible rfl
 rotate_left
 · simp only [Act.put, sA, sB, sC]; rfl
 refine one_ (i := 16) (N := none) (msk 17 18) rfl rfl (by kernel_rfl) (by decide) (fun K hK => ?_)
 refine skip_ (by rfl) rfl (w1 := (W5.drew.setCell ⟨w.heap.size + 1, 0, none⟩ (.int .i64 s1)).setCell ⟨w.heap.size + 1, 1, none⟩ (.int .i64 (-1))) (by go_simp; first | done | rfl) ?_
 refine hK.out _ _ (by refine ⟨?_, ?_, ?_, ?_⟩ <;> (go_simp; first | done | assumption)) (fun hHeld => ?_)
 refine take_ (i := 17) (N := some 6) (v := ?_) (a' := ?_) (msk 18 18) rfl rfl (by kernel_rfl) (fun _ _ _ h => h) (Or.inl ⟨by rfl, ?_⟩) hHeld ?_ ?_
 rotate_left
 · rintro w' ⟨s0, s1, s2, s3⟩; go_simp; with_reducible rfl
 rotate_left
 · simp only [Act.put, sA, sB, sC]; rfl
 refine done_ (by kernel_rfl) ?_
 try simp only [NoPanic, Exit.then]
 have F9 := hid (((F5.out.set (.int .i64 s1) (.int .i64 (-1))).set (.int .i64 s1) (.int .i64 (-1))).drew)
 go_wp2
 refine bodyPost_ret (results_ctt rfl _ _ _ _ _ _ _ rfl F9.out.rb Tryd.underlying54 rfl (by kernel_rfl)) rfl ?_
 refine Linked.still (p := (s1, -1)) (b := false) (c := false) H.out HL.out ?_ HM.out
 with_reducible exact F9.out.below
set_option maxRecDepth 100000 in
set_option maxHeartbeats 3200000 in
theorem link_4d (h : Look W0 k A0 c0 v A1 c1 a t s tv sv w) (x : Lk) (A6 : Option Addr) (c6 : Nat) (hC : (Kd.int .i64).C W0 A6 x.f6.length x.f6) (hl : (Lit.int .i64 x.f1).wf = true) (ha : a.length ≤ 1000) (hv : v.length ≤ 1000) (hL : x.f6.length ≤ 1000) (hs : s.length ≤ 1000) (hK : x.f0 = 4) {s1 s2 t1 t2 : Int} (ht : tellM t x.f4 = some (s1, s2)) (hu : tellM t x.f5 = some (t1, t2)) :
 Calls Tryd.prog 19 #[ptr k, lkA x (.slice A6 x.f6.length c6)] w (Linked W0 k A0 c0 v A1 c1 a t s tv x) := by
 have hk := h.lt
 have HM0 := hid (show linkM v a t x = (((prO (tellM t x.f4)).1, (prO (tellM t x.f5)).2), false, (tellM t x.f4).isSome && ((tellM t x.f5).isSome && decide ((prO (tellM t x.f4)).2 = (prO (tellM t x.f5)).1))) by unfold linkM; rw [if_neg (by omega), if_neg (by omega), if_neg (by omega), if_pos hK])
 have HL := hid (show litsOf x = [] by unfold litsOf; rw [if_neg (by omega)])
 have H := hid h
 have HT := hid (fun W (hW : Below w.heap.size w W) => tell_yes (h.move hW) ht)
 have HU := hid (fun W (hW : Below w.heap.size w W) => tell_yes (h.move hW) hu)
 by_cases hq : s2 = t1
 ·
  subst hq
  have HM := hid (show linkM v a t x = ((s1, t2), false, true) by rw [HM0.out, ht, hu]; simp [prO])
  clear h hC HM0 ht hu
  go_enter Tryd.func19, Tryd.ntmps19
  go_wp2_with fail
  obtain ⟨W1, hW1⟩ : ∃ W1, W1 = (w.alloc (.cells (lkK 4 x (.slice A6 x.f6.length c6)) 36)).alloc (.cells #[.int .i64 0, .int .i64 0] 54) := ⟨_, rfl⟩
  have F1 := hid (Fr.made w 4 x (.slice A6 x.f6.length c6))
  rw [← hW1] at F1 ⊢
  clear hW1
  refine (HT.out W1 F1.out.below).mono ?_
  rintro e w2 ⟨rfl, hb2⟩
  have F2 := hid (F1.out.move hb2)
  have hs2 : w.heap.size + 1 < w2.heap.size := F2.out.facts.2.2.2.2
  have hs2' : w.heap.size < w2.heap.size := by omega
  obtain ⟨z0, z1, z2, z3, z4, z5, z6⟩ := F2.out.cells
  clear hb2
  go_wp2_with fail
  obtain ⟨W3, hW3⟩ : ∃ W3, W3 = w2.alloc (.cells #[(.int .i64 s1), (.int .i64 s2)] 54) := ⟨_, rfl⟩
  have F3 := hid (F2.out.alloc (.cells #[(.int .i64 s1), (.int .i64 s2)] 54))
  have g3 : W3.heap[w2.heap.size]? = some (.cells #[(.int .i64 s1), (.int .i64 s2)] 54 (0, 0)) := by rw [hW3]; exact heap_alloc_new _ _
  rw [← hW3] at F3 ⊢
  clear hW3 z0 z1 z2 z3 z4 z5 z6
  refine (HU.out W3 F3.out.below).mono ?_
  rintro e w4 ⟨rfl, hb4⟩
  have hs4 : w2.heap.size < w4.heap.size := Nat.lt_of_lt_of_le (blk_lt g3) hb4.size
  have F4 := hid (F3.out.move hb4)
  have g4 : w4.heap[w2.heap.size]? = some (.cells #[(.int .i64 s1), (.int .i64 s2)] 54 (0, 0)) := (hb4.block _ (blk_lt g3)).trans g3
  clear hb4 g3
  go_wp2_with fail
  obtain ⟨W5, hW5⟩ : ∃ W5, W5 = w4.alloc (.cells #[(.int .i64 s2), (.int .i64 t2)] 54) := ⟨_, rfl⟩
  have F5 := hid (F4.out.alloc (.cells #[(.int .i64 s2), (.int .i64 t2)] 54))
  have g5 : W5.heap[w2.heap.size]? = some (.cells #[(.int .i64 s1), (.int .i64 s2)] 54 (0, 0)) := by rw [hW5]; exact (Go.heap_alloc_old _ _ hs4).trans g4
  have g6 : W5.heap[w4.heap.size]? = some (.cells #[(.int .i64 s2), (.int .i64 t2)] 54 (0, 0)) := by rw [hW5]; exact heap_alloc_new _ _
  rw [← hW5] at F5 ⊢
  obtain ⟨f0, f1, r0, r1, hsz⟩ := F5.out.facts
  have a0 : W5.cell? ⟨w2.heap.size, 0, none⟩ = some (.int .i64 s1) := (blk_cell g5 0).trans rfl
  have a1 : W5.cell? ⟨w2.heap.size, 1, none⟩ = some (.int .i64 s2) := (blk_cell g5 1).trans rfl
  have b0 : W5.cell? ⟨w4.heap.size, 0, none⟩ = some (.int .i64 s2) := (blk_cell g6 0).trans rfl
  have b1 : W5.cell? ⟨w4.heap.size, 1, none⟩ = some (.int .i64 t2) := (blk_cell g6 1).trans rfl
  have n1 : ¬ w.heap.size + 1 = w2.heap.size := by omega
  have n2 : ¬ w.heap.size + 1 = w4.heap.size := by omega
  have n3 : ¬ w2.heap.size = w.heap.size + 1 := by omega
  have n4 : ¬ w4.heap.size = w.heap.size + 1 := by omega
  clear g4 g5 g6 hW5
  have hSS : (fun w' : World => w'.cell? ⟨w2.heap.size, 0, none⟩ = some (.int .i64 s1) ∧ w'.cell? ⟨w2.heap.size, 1, none⟩ = some (.int .i64 s2) ∧ w'.cell? ⟨w4.heap.size, 0, none⟩ = some (.int .i64 s2) ∧ w'.cell? ⟨w4.heap.size, 1, none⟩ = some (.int .i64 t2)) W5.drew := ⟨a0, a1, b0, b1⟩
  refine wp_region_noPanic ?_
  refine start_ (n := 18) (S := (fun w' : World => w'.cell? ⟨w2.heap.size, 0, none⟩ = some (.int .i64 s1) ∧ w'.cell? ⟨w2.heap.size, 1, none⟩ = some (.int .i64 s2) ∧ w'.cell? ⟨w4.heap.size, 0, none⟩ = some (.int .i64 s2) ∧ w'.cell? ⟨w4.heap.size, 1, none⟩ = some (.int .i64 t2))) (ds := []) (msk 0 18) (by kernel_rfl) rfl rfl hSS (fun hHeld => ?_)
  refine take_ (i := 0) (N := some 88) (v := ?_) (a' := ?_) (msk 1 18) rfl rfl (by kernel_rfl) (fun _ _ _ h => h) (Or.inl ⟨by rfl, ?_⟩) hHeld ?_ ?_
  rotate_left
  · rintro w' ⟨s0, s1, s2, s3⟩; go_simp; with_reducible rfl
  rotate_left
  · simp only [Act.put, sA, sB, sC]; rfl
  refine take_ (i := 1) (N := some 89) (v := ?_) (a' := ?_) (msk 2 18) rfl rfl (by kernel_rfl) (fun _ _ _ h => h) (Or.inl ⟨by rfl, ?_⟩) hHeld ?_ ?_
  rotate_left
  · rintro w' ⟨s0, s1, s2, s3⟩; go_simp; with_reducible rfl
  rotate_left
  · simp only [Act.put, sA, sB, sC]; rfl
  refine take_ (i := 2) (N := some 90) (v := ?_) (a' := ?_) (msk 3 18) rfl rfl (by kernel_rfl) (fun _ _ _ h => h) (Or.inl ⟨by rfl, ?_⟩) hHeld ?_ ?_
  rotate_left
  · rintro w' ⟨s0, s1, s2, s3⟩; go_simp; with_reducible rfl
  rotate_left
  · simp only [Act.put, sA, sB, sC]; rfl
  refine take_ (i := 3) (N := some 91) (v := ?_) (a' := ?_) (msk 4 18) rfl rfl (by kernel_rfl) (fun _ _ _ h => h) (Or.inl ⟨by rfl, ?_⟩) hHeld ?_ ?_
  rotate_left
  · rintro w' ⟨s0, s1, s2, s3⟩; go_simp; with_reducible rfl
  rotate_left
  · simp only [Act.put, sA, sB, sC]; rfl
  refine take_ (i := 4) (N := some 92) (v := ?_) (a' := ?_) (msk 5 18) rfl rfl (by kernel_rfl) (fun _ _ _ h => h) (Or.inl ⟨by rfl, ?_⟩) hHeld ?_ ?_
  rotate_left
  · rintro w' ⟨s0, s1, s2, s3⟩; go_simp; with_reducible rfl
  rotate_left
  · simp only [Act.put, sA, sB, sC]; rfl
  refine take_ (i := 5) (N := some 93) (v := ?_) (a' := ?_) (msk 6 18) rfl rfl (by kernel_rfl) (fun _ _ _ h => h) (Or.inl ⟨by rfl, ?_⟩) hHeld ?_ ?_
  rotate_left
  · rintro w' ⟨s0, s1, s2, s3⟩; go_simp; with_reducible rfl
  rotate_left
  · simp only [Act.put, sA, sB, sC]; rfl
  refine take_ (i := 6) (N := some 94) (v := ?_) (a' := ?_) (msk 7 18) rfl rfl (by kernel_rfl) (fun _ _ _ h => h) (Or.inl ⟨by rfl, ?_⟩) hHeld ?_ ?_
  rotate_left
  · rintro w' ⟨s0, s1, s2, s3⟩; go_simp; with_reducible rfl
  rotate_left
  · simp only [Act.put, sA, sB, sC]; rfl
  refine take_ (i := 7) (N := some 95) (v := ?_) (a' := ?_) (msk 8 18) rfl rfl (by kernel_rfl) (fun _ _ _ h => h) (Or.inl ⟨by rfl, ?_⟩) hHeld ?_ ?_
  rotate_left
  · rintro w' ⟨s0, s1, s2, s3⟩; go_simp; with_reducible rfl
  rotate_left
  · simp only [Act.put, sA, sB, sC]; rfl
  refine take_ (i := 8) (N := some 96) (v := ?_) (a' := ?_) (msk 9 18) rfl rfl (by kernel_rfl) (fun _ _ _ h => h) (Or.inl ⟨by rfl, ?_⟩) hHeld ?_ ?_
  rotate_left
  · rintro w' ⟨s0, s1, s2, s3⟩; go_simp; with_reducible rfl
  rotate_left
  · simp only [Act.put, sA, sB, sC]; rfl
  refine take_ (i := 9) (N := some 97) (v := ?_) (a' := ?_) (msk 10 18) rfl rfl (by kernel_rfl) (fun _ _ _ h => h) (Or.inl ⟨by rfl, ?_⟩) hHeld ?_ ?_
  rotate_left
  · rintro w' ⟨s0, s1, s2, s3⟩; go_simp; with_reducible rfl
  rotate_left
  · simp only [Act.put, sA, sB, sC]; rfl
  refine take_ (i := 10) (N := some 98) (v := ?_) (a' := ?_) (msk 11 18) rfl rfl (by kernel_rfl) (fun _ _ _ h => h) (Or.inl ⟨by rfl, ?_⟩) hHeld ?_ ?_
  rotate_left
  · rintro w' ⟨s0, s1, s2, s3⟩; go_simp; with_reducible rfl
  rotate_left
  · simp only [Act.put, sA, sB, sC]; rfl
  refine take_ (i := 11) (N := some 99) (v := ?_) (a' := ?_) (msk 12 18) rfl rfl (by kernel_rfl) (fun _ _ _ h => h) (Or.inl ⟨by rfl, ?_⟩) hHeld ?_ ?_
  rotate_left
  · rintro w' ⟨s0, s1, s2, s3⟩; go_simp; with_reducible rfl
  rotate_left
  · simp only [Act.put, sA, sB, sC]; rfl
  refine take_ (i := 12) (N := some 100) (v := ?_) (a' := ?_) (msk 13 18) rfl rfl (by kernel_rfl) (fun _ _ _ h => h) (Or.inl ⟨by rfl, ?_⟩) hHeld ?_ ?_
  rotate_left
  · rintro w' ⟨s0, s1, s2, s3⟩; go_simp; with_reducible rfl
  rotate_left
  · simp only [Act.put, sA, sB, sC]; rfl
  refine take_ (i := 13) (N := some 101) (v := ?_) (a' := ?_) (msk 14 18) rfl rfl (by kernel_rfl) (fun _ _ _ h => h) (Or.inl ⟨by rfl, ?_⟩) hHeld ?_ ?_
  rotate_left
  · rintro w' ⟨s0, s1, s2, s3⟩; go_simp; with_reducible rfl
  rotate_left
  · simp only [Act.put, sA, sB, sC]; rfl
  refine take_ (i := 14) (N := some 102) (v := ?_) (a' := ?_) (msk 15 18) rfl rfl (by kernel_rfl) (fun _ _ _ h => h) (Or.inl ⟨by rfl, ?_⟩) hHeld ?_ ?_
  rotate_left
  · rintro w' ⟨s0, s1, s2, s3⟩; go_simp; with_reducible rfl
  rotate_left
  · simp only [Act.put, sA, sB, sC]; rfl
  refine take_ (i := 15) (N := some 103) (v := ?_) (a' := ?_) (msk 16 18) rfl rfl (by kernel_rfl) (fun _ _ _ h => h) (Or.inl ⟨by rfl, ?_⟩) hHeld ?_ ?_
  rotate_left
  · rintro w' ⟨s0, s1, s2, s3⟩; go_simp; with_reducible rfl
  rotate_left
  · simp only [Act.put, sA, sB, sC]; rfl
  refine one_ (i := 16) (N := none) (msk 17 18) rfl rfl (by kernel_rfl) (by decide) (fun K hK => ?_)
  refine skip_ (by rfl) rfl (w1 := (W5.drew.setCell ⟨w.heap.size + 1, 0, none⟩ (.int .i64 s1)).setCell ⟨w.heap.size + 1, 1, none⟩ (.int .i64 t2)) (by go_simp; first | done | rfl) ?_
  refine hK.out _ _ (by refine ⟨?_, ?_, ?_, ?_⟩ <;> (go_simp; first | done | assumption)) (fun hHeld => ?_)
  refine take_ (i := 17) (N := some 6) (v := ?_) (a' := ?_) (msk 18 18) rfl rfl (by kernel_rfl) (fun _ _ _ h => h) (Or.inl ⟨by rfl, ?_⟩) hHeld ?_ ?_
  rotate_left
  · rintro w' ⟨s0, s1, s2, s3⟩; go_simp; with_reducible rfl
  rotate_left
  · simp only [Act.put, sA, sB, sC]; rfl
  refine done_ (by kernel_rfl) ?_
  try simp only [NoPanic, Exit.then]
  have F9 := hid (((F5.out.set (.int .i64 s1) (.int .i64 t2)).set (.int .i64 s1) (.int .i64 t2)).drew)
  go_wp2
  refine bodyPost_ret (results_ctt rfl _ _ _ _ _ _ _ rfl F9.out.rb Tryd.underlying54 rfl (by kernel_rfl)) rfl ?_
  refine Linked.still (p := (s1, t2)) (b := false) (c := true) H.out HL.out ?_ HM.out
  with_reducible exact F9.out.below
 ·
  have HM := hid (show linkM v a t x = ((s1, t2), false, false) by rw [HM0.out, ht, hu]; simp [prO, hq])
  have hq1 : (s2 == t1) = false := by simpa using hq
  have hq2 : decide (s2 = t1) = false := by simpa using hq
  clear h hC HM0 ht hu
  go_enter Tryd.func19, Tryd.ntmps19
  go_wp2_with fail
  obtain ⟨W1, hW1⟩ : ∃ W1, W1 = (w.alloc (.cells (lkK 4 x (.slice A6 x.f6.length c6)) 36)).alloc (.cells #[.int .i64 0, .int .i64 0] 54) := ⟨_, rfl⟩
  have F1 := hid (Fr.made w 4 x (.slice A6 x.f6.length c6))
  rw [← hW1] at F1 ⊢
  clear hW1
  refine (HT.out W1 F1.out.below).mono ?_
  rintro e w2 ⟨rfl, hb2⟩
  have F2 := hid (F1.out.move hb2)
  have hs2 : w.heap.size + 1 < w2.heap.size := F2.out.facts.2.2.2.2
  have hs2' : w.heap.size < w2.heap.size := by omega
  obtain ⟨z0, z1, z2, z3, z4, z5, z6⟩ := F2.out.cells
  clear hb2
  go_wp2_with fail
  obtain ⟨W3, hW3⟩ : ∃ W3, W3 = w2.alloc (.cells #[(.int .i64 s1), (.int .i64 s2)] 54) := ⟨_, rfl⟩
  have F3 := hid (F2.out.alloc (.cells #[(.int .i64 s1), (.int .i64 s2)] 54))
  have g3 : W3.heap[w2.heap.size]? = some (.cells #[(.int .i64 s1), (.int .i64 s2)] 54 (0, 0)) := by rw [hW3]; exact heap_alloc_new _ _
  rw [← hW3] at F3 ⊢
  clear hW3 z0 z1 z2 z3 z4 z5 z6
  refine (HU.out W3 F3.out.below).mono ?_
  rintro e w4 ⟨rfl, hb4⟩
  have hs4 : w2.heap.size < w4.heap.size := Nat.lt_of_lt_of_le (blk_lt g3) hb4.size
  have F4 := hid (F3.out.move hb4)
  have g4 : w4.heap[w2.heap.size]? = some (.cells #[(.int .i64 s1), (.int .i64 s2)] 54 (0, 0)) := (hb4.block _ (blk_lt g3)).trans g3
  clear hb4 g3
  go_wp2_with fail
  obtain ⟨W5, hW5⟩ : ∃ W5, W5 = w4.alloc (.cells #[(.int .i64 t1), (.int .i64 t2)] 54) := ⟨_, rfl⟩
  have F5 := hid (F4.out.alloc (.cells #[(.int .i64 t1), (.int .i64 t2)] 54))
  have g5 : W5.heap[w2.heap.size]? = some (.cells #[(.int .i64 s1), (.int .i64 s2)] 54 (0, 0)) := by rw [hW5]; exact (Go.heap_alloc_old _ _ hs4).trans g4
  have g6 : W5.heap[w4.heap.size]? = some (.cells #[(.int .i64 t1), (.int .i64 t2)] 54 (0, 0)) := by rw [hW5]; exact heap_alloc_new _ _
  rw [← hW5] at F5 ⊢
  obtain ⟨f0, f1, r0, r1, hsz⟩ := F5.out.facts
  have a0 : W5.cell? ⟨w2.heap.size, 0, none⟩ = some (.int .i64 s1) := (blk_cell g5 0).trans rfl
  have a1 : W5.cell? ⟨w2.heap.size, 1, none⟩ = some (.int .i64 s2) := (blk_cell g5 1).trans rfl
  have b0 : W5.cell? ⟨w4.heap.size, 0, none⟩ = some (.int .i64 t1) := (blk_cell g6 0).trans rfl
  have b1 : W5.cell? ⟨w4.heap.size, 1, none⟩ = some (.int .i64 t2) := (blk_cell g6 1).trans rfl
  have n1 : ¬ w.heap.size + 1 = w2.heap.size := by omega
  have n2 : ¬ w.heap.size + 1 = w4.heap.size := by omega
  have n3 : ¬ w2.heap.size = w.heap.size + 1 := by omega
  have n4 : ¬ w4.heap.size = w.heap.size + 1 := by omega
  clear g4 g5 g6 hW5
  have hSS : (fun w' : World => w'.cell? ⟨w2.heap.size, 0, none⟩ = some (.int .i64 s1) ∧ w'.cell? ⟨w2.heap.size, 1, none⟩ = some (.int .i64 s2) ∧ w'.cell? ⟨w4.heap.size, 0, none⟩ = some (.int .i64 t1) ∧ w'.cell? ⟨w4.heap.size, 1, none⟩ = some (.int .i64 t2)) W5.drew := ⟨a0, a1, b0, b1⟩
  refine wp_region_noPanic ?_
  refine start_ (n := 18) (S := (fun w' : World => w'.cell? ⟨w2.heap.size, 0, none⟩ = some (.int .i64 s1) ∧ w'.cell? ⟨w2.heap.size, 1, none⟩ = some (.int .i64 s2) ∧ w'.cell? ⟨w4.heap.size, 0, none⟩ = some (.int .i64 t1) ∧ w'.cell? ⟨w4.heap.size, 1, none⟩ = some (.int .i64 t2))) (ds := []) (msk 0 18) (by kernel_rfl) rfl rfl hSS (fun hHeld => ?_)
  refine take_ (i := 0) (N := some 88) (v := ?_) (a' := ?_) (msk 1 18) rfl rfl (by kernel_rfl) (fun _ _ _ h => h) (Or.inl ⟨by rfl, ?_⟩) hHeld ?_ ?_
  rotate_left
  · rintro w' ⟨s0, s1, s2, s3⟩; go_simp; with_reducible rfl
  rotate_left
  · simp only [Act.put, sA, sB, sC]; rfl
  refine take_ (i := 1) (N := some 89) (v := ?_) (a' := ?_) (msk 2 18) rfl rfl (by kernel_rfl) (fun _ _ _ h => h) (Or.inl ⟨by rfl, ?_⟩) hHeld ?_ ?_
  rotate_left
  · rintro w' ⟨s0, s1, s2, s3⟩; go_simp; with_reducible rfl
  rotate_left
  · simp only [Act.put, sA, sB, sC]; rfl
  refine take_ (i := 2) (N := some 90) (v := ?_) (a' := ?_) (msk 3 18) rfl rfl (by kernel_rfl) (fun _ _ _ h => h) (Or.inl ⟨by rfl, ?_⟩) hHeld ?_ ?_
  rotate_left
  · rintro w' ⟨s0, s1, s2, s3⟩; go_simp; with_reducible rfl
  rotate_left
  · simp only [Act.put, sA, sB, sC]; rfl
  refine take_ (i := 3) (N := some 91) (v := ?_) (a' := ?_) (msk 4 18) rfl rfl (by kernel_rfl) (fun _ _ _ h => h) (Or.inl ⟨by rfl, ?_⟩) hHeld ?_ ?_
  rotate_left
  · rintro w' ⟨s0, s1, s2, s3⟩; go_simp; with_reducible rfl
  rotate_left
  · simp only [Act.put, sA, sB, sC]; rfl
  refine take_ (i := 4) (N := some 92) (v := ?_) (a' := ?_) (msk 5 18) rfl rfl (by kernel_rfl) (fun _ _ _ h => h) (Or.inl ⟨by rfl, ?_⟩) hHeld ?_ ?_
  rotate_left
  · rintro w' ⟨s0, s1, s2, s3⟩; go_simp; with_reducible rfl
  rotate_left
  · simp only [Act.put, sA, sB, sC]; rfl
  refine take_ (i := 5) (N := some 93) (v := ?_) (a' := ?_) (msk 6 18) rfl rfl (by kernel_rfl) (fun _ _ _ h => h) (Or.inl ⟨by rfl, ?_⟩) hHeld ?_ ?_
  rotate_left
  · rintro w' ⟨s0, s1, s2, s3⟩; go_simp; with_reducible rfl
  rotate_left
  · simp only [Act.put, sA, sB, sC]; rfl
  refine take_ (i := 6) (N := some 94) (v := ?_) (a' := ?_) (msk 7 18) rfl rfl (by kernel_rfl) (fun _ _ _ h => h) (Or.inl ⟨by rfl, ?_⟩) hHeld ?_ ?_
  rotate_left
  · rintro w' ⟨s0, s1, s2, s3⟩; go_simp; with_reducible rfl
  rotate_left
  · simp only [Act.put, sA, sB, sC]; rfl
  refine take_ (i := 7) (N := some 95) (v := ?_) (a' := ?_) (msk 8 18) rfl rfl (by kernel_rfl) (fun _ _ _ h => h) (Or.inl ⟨by rfl, ?_⟩) hHeld ?_ ?_
  rotate_left
  · rintro w' ⟨s0, s1, s2, s3⟩; go_simp; with_reducible rfl
  rotate_left
  · simp only [Act.put, sA, sB, sC]; rfl
  refine take_ (i := 8) (N := some 96) (v := ?_) (a' := ?_) (msk 9 18) rfl rfl (by kernel_rfl) (fun _ _ _ h => h) (Or.inl ⟨by rfl, ?_⟩) hHeld ?_ ?_
  rotate_left
  · rintro w' ⟨s0, s1, s2, s3⟩; go_simp; with_reducible rfl
  rotate_left
  · simp only [Act.put, sA, sB, sC]; rfl
  refine take_ (i := 9) (N := some 97) (v := ?_) (a' := ?_) (msk 10 18) rfl rfl (by kernel_rfl) (fun _ _ _ h => h) (Or.inl ⟨by rfl, ?_⟩) hHeld ?_ ?_
  rotate_left
  · rintro w' ⟨s0, s1, s2, s3⟩; go_simp; with_reducible rfl
  rotate_left
  · simp only [Act.put, sA, sB, sC]; rfl
  refine take_ (i := 10) (N := some 98) (v := ?_) (a' := ?_) (msk 11 18) rfl rfl (by kernel_rfl) (fun _ _ _ h => h) (Or.inl ⟨by rfl, ?_⟩) hHeld ?_ ?_
  rotate_left
  · rintro w' ⟨s0, s1, s2, s3⟩; go_simp; with_reducible rfl
  rotate_left
  · simp only [Act.put, sA, sB, sC]; rfl
  refine take_ (i := 11) (N := some 99) (v := ?_) (a' := ?_) (msk 12 18) rfl rfl (by kernel_rfl) (fun _ _ _ h => h) (Or.inl ⟨by rfl, ?_⟩) hHeld ?_ ?_
  rotate_left
  · rintro w' ⟨s0, s1, s2, s3⟩; go_simp; with_reducible rfl
  rotate_left
  · simp only [Act.put, sA, sB, sC]; rfl
  refine take_ (i := 12) (N := some 100) (v := ?_) (a' := ?_) (msk 13 18) rfl rfl (by kernel_rfl) (fun _ _ _ h => h) (Or.inl ⟨by rfl, ?_⟩) hHeld ?_ ?_
  rotate_left
  · rintro w' ⟨s0, s1, s2, s3⟩; go_simp; with_reducible rfl
  rotate_left
  · simp only [Act.put, sA, sB, sC]; rfl
  refine take_ (i := 13) (N := some 101) (v := ?_) (a' := ?_) (msk 14 18) rfl rfl (by kernel_rfl) (fun _ _ _ h => h) (Or.inl ⟨by rfl, ?_⟩) hHeld ?_ ?_
  rotate_left
  · rintro w' ⟨s0, s1, s2, s3⟩; go_simp; with_reducible rfl
  rotate_left
  · simp only [Act.put, sA, sB, sC]; rfl
  refine take_ (i := 14) (N := some 102) (v := ?_) (a' := ?_) (msk 15 18) rfl rfl (by kernel_rfl) (fun _ _ _ h => h) (Or.inl ⟨by rfl, ?_⟩) hHeld ?_ ?_
  rotate_left
  · rintro w' ⟨s0, s1, s2, s3⟩; go_simp; with_reducible rfl
  rotate_left
  · simp only [Act.put, sA, sB, sC]; rfl
  refine take_ (i := 15) (N := some 103) (v := ?_) (a' := ?_) (msk 16 18) rfl rfl (by kernel_rfl) (fun _ _ _ h => h) (Or.inl ⟨by rfl, ?_⟩) hHeld ?_ ?_
  rotate_left
  · rintro w' ⟨s0, s1, s2, s3⟩; go_simp; with_reducible rfl
  rotate_left
  · simp only [Act.put, sA, sB, sC]; rfl
  refine one_ (i := 16) (N := none) (msk 17 18) rfl rfl (by kernel_rfl) (by decide) (fun K hK => ?_)
  refine skip_ (by rfl) rfl (w1 := (W5.drew.setCell ⟨w.heap.size + 1, 0, none⟩ (.int .i64 s1)).setCell ⟨w.heap.size + 1, 1, none⟩ (.int .i64 t2)) (by go_simp; first | done | rfl) ?_
  refine hK.out _ _ (by refine ⟨?_, ?_, ?_, ?_⟩ <;> (go_simp; first | done | assumption)) (fun hHeld => ?_)
  refine take_ (i := 17) (N := some 6) (v := ?_) (a' := ?_) (msk 18 18) rfl rfl (by kernel_rfl) (fun _ _ _ h => h) (Or.inl ⟨by rfl, ?_⟩) hHeld ?_ ?_
  rotate_left
  · rintro w' ⟨s0, s1, s2, s3⟩; go_simp; with_reducible rfl
  rotate_left
  · simp only [Act.put, sA, sB, sC]; rfl
  refine done_ (by kernel_rfl) ?_
  try simp only [NoPanic, Exit.then]
  have F9 := hid (((F5.out.set (.int .i64 s1) (.int .i64 t2)).set (.int .i64 s1) (.int .i64 t2)).drew)
  go_wp2
  refine bodyPost_ret (results_ctt rfl _ _ _ _ _ _ _ rfl F9.out.rb Tryd.underlying54 rfl (by kernel_rfl)) rfl ?_
  refine Linked.still (p := (s1, t2)) (b := false) (c := false) H.out HL.out ?_ HM.out
  with_reducible exact F9.out.below
end Go.Proofs.YtpopohkbffhckaaDoor.KL

namespace Go.Proofs.YtpopohkbffhckaaDoor.KL
open Go.RowKit Go.Proofs.YtpopohkbffhckaaDoorW.PrintWords Go.Proofs.YtpopohkbffhckaaDoorW.PrintLast Go.Proofs.YtpopohkbffhckaaDoorW.PrintMore Go.Proofs.YtpopohkbffhckaaDoor.MM Go.Proofs.YtpopohkbffhckaaDoor.Hk
set_option linter.unusedSimpArgs false
set_option linter.unusedVariables false
variable {W0 w w1 w2 : World} {k : Nat} {A0 A1 : Option Addr} {c0 c1 : Nat} {v : List Vx} {a : List At} {t : List Pr} {s : List Int} {tv sv : Value}
set_option maxRecDepth 100000 in
set_option maxHeartbeats 3200000 in
theorem link_4 (h : Look W0 k A0 c0 v A1 c1 a t s tv sv w) (x : Lk) (A6 : Option Addr) (c6 : Nat) (hC : (Kd.int .i64).C W0 A6 x.f6.length x.f6) (hl : (Lit.int .i64 x.f1).wf = true) (ha : a.length ≤ 1000) (hv : v.length ≤ 1000) (hL : x.f6.length ≤ 1000) (hs : s.length ≤ 1000) (hK : x.f0 = 4) :
 Calls Tryd.prog 19 #[ptr k, lkA x (.slice A6 x.f6.length c6)] w (Linked W0 k A0 c0 v A1 c1 a t s tv x) := by
 cases ht : tellM t x.f4 with
 | none =>
  cases hu : tellM t x.f5 with
  | none => exact link_4a (s1 := 0) (s2 := 0) (t1 := 0) (t2 := 0) h x A6 c6 hC hl ha hv hL hs hK ht hu
  | some p => exact link_4b (s1 := 0) (s2 := 0) h x A6 c6 hC hl ha hv hL hs hK ht hu
 | some q =>
  cases hu : tellM t x.f5 with
  | none => exact link_4c (t1 := 0) (t2 := 0) h x A6 c6 hC hl ha hv hL hs hK ht hu
  | some p => exact link_4d h x A6 c6 hC hl ha hv hL hs hK ht hu
end Go.Proofs.YtpopohkbffhckaaDoor.KL
