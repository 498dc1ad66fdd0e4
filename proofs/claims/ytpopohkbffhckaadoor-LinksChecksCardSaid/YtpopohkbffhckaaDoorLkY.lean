/- Walks of the look at a certificate: apply. -/
import Derived.Test.YtpopohkbffhckaaDoorLkBase
import Derived.Outline
import Derived.Deep.DeepCutAuto
import Derived.Deep.RegionHeld3
namespace Go.Proofs.YtpopohkbffhckaaDoor.KL
open Go.RowKit Go.Proofs.YtpopohkbffhckaaDoorW.PrintWords Go.Proofs.YtpopohkbffhckaaDoorW.PrintLast Go.Proofs.YtpopohkbffhckaaDoorW.PrintMore Go.Proofs.YtpopohkbffhckaaDoor.MM Go.Proofs.YtpopohkbffhckaaDoor.Hk
set_option linter.unusedSimpArgs false
set_option linter.unusedVariables false
variable {W0 w w1 w2 : World} {k : Nat} {A0 A1 : Option Addr} {c0 c1 : Nat} {v : List Vx} {a : List At} {t : List Pr} {s : List Int} {tv sv : Value}
theorem List_drop_rd {l : List Int} {i : Nat} (h : i < l.length) : l.drop i = rd l (i : Int) :: l.drop (i + 1) := by
 have e : rd l (i : Int) = l[i] := by unfold rd; rw [Int.toNat_natCast]; simp [List.getD_eq_getElem?_getD, h]
 rw [e]
 exact List.drop_eq_getElem_cons h
theorem inB_iff {n : Nat} {i : Int} : inB n i = true ↔ 0 ≤ i ∧ i < (n : Int) := by unfold inB; simp
theorem new2 (w : World) (o1 o2 : Obj) : ((w.alloc o1).alloc o2).heap[w.heap.size + 1]? = some o2 := by
 have := heap_alloc_new (w.alloc o1) o2
 simpa using this
abbrev vxV (x : Vx) (L : Value) : Array Value := #[.int .i64 x.f0, L, .int .i64 x.f2, .int .i64 x.f3, .int .i64 x.f4]
abbrev lkC (x : Lk) (L : Value) : Array Value := #[.int .u8 x.f0, .int .i64 x.f1, .int .i64 x.f2, .int .i64 x.f3, .int .i64 x.f4, .int .i64 x.f5, L]
set_option maxRecDepth 100000 in
set_option maxHeartbeats 3200000 in
theorem apply_calls (h : Look W0 k A0 c0 v A1 c1 a t s tv sv w) (x : Lk) (A6 : Option Addr) (c6 : Nat) (hC : (Kd.int .i64).C w A6 x.f6.length x.f6) (hv : v.length ≤ 1000) (hL : x.f6.length ≤ 1000) :
 Calls Tryd.prog 29 #[ptr k, lkA x (.slice A6 x.f6.length c6)] w fun e w' => e = .returned (.tuple #[prA (prO (applyM v t x)), .bool (applyM v t x).isSome]) ∧ Below w.heap.size w w' := by
 have hk := h.lt
 obtain ⟨hc0, hc1, hc2, hc3⟩ := h.cells
 have hp := h.no.pos
 obtain ⟨hn0, hn1⟩ := h.no
 obtain ⟨nv, hnv⟩ : ∃ n, n = v.length := ⟨_, rfl⟩
 rw [← hnv] at hc0 hv
 by_cases i2 : inB v.length x.f2 = true
 ·
  by_cases i3 : inB v.length x.f3 = true
  ·
   have HAP := hid (show applyM v t x = if (sameFn (vxM v x.f2) (vxM v x.f3) && (decide (x.f6.length = (vxM v x.f2).f1.length) && listM t x.f6 (vxM v x.f2).f1 (vxM v x.f3).f1)) = true then some (x.f2, x.f3) else none by unfold applyM applyB; rw [i2, i3]; rfl)
   have j2 := inB_iff.1 i2
   have j3 := inB_iff.1 i3
   rw [← hnv] at j2 j3
   obtain ⟨g1, g2⟩ := j2
   obtain ⟨g3, g4⟩ := j3
   have hV2 := h.hv
   have HT1 := hid (fun W (hW : Below w.heap.size w W) (i p1 p2 : Int) (h1 : tellM t i = some (p1, p2)) => tell_yes (h.move hW) h1)
   have HT0 := hid (fun W (hW : Below w.heap.size w W) (i : Int) (h1 : tellM t i = none) => tell_no (h.move hW) h1)
   rw [← hnv] at hV2
   obtain ⟨ad, B2, d2, rfl, x20, x21, x22, x23, x24, l2, C2⟩ := at_T46 hV2 x.f2 g1 g2
   obtain ⟨ad', B3, d3, he, x30, x31, x32, x33, x34, l3, C3⟩ := at_T46 hV2 x.f3 g3 g4
   obtain rfl : ad' = ad := (Option.some.inj he).symm
   have ev2 : rd_T46 v x.f2 = vxM v x.f2 := rfl
   have ev3 : rd_T46 v x.f3 = vxM v x.f3 := rfl
   rw [ev2] at x20 x21 x22 x23 x24 l2 C2
   rw [ev3] at x30 x31 x32 x33 x34 l3 C3
   obtain ⟨P, hP⟩ : ∃ P, vxM v x.f2 = P := ⟨_, rfl⟩
   obtain ⟨Q, hQ⟩ : ∃ Q, vxM v x.f3 = Q := ⟨_, rfl⟩
   rw [hP] at x20 x21 x22 x23 x24 l2 C2 HAP
   rw [hQ] at x30 x31 x32 x33 x34 l3 C3 HAP
   have HC2 := hid (And.intro l2 C2)
   have HC3 := hid (And.intro l3 C3)
   have HC6 := hid hC
   obtain ⟨n6, hn6⟩ : ∃ n, n = x.f6.length := ⟨_, rfl⟩
   obtain ⟨m2, hm2⟩ : ∃ n, n = P.f1.length := ⟨_, rfl⟩
   obtain ⟨m3, hm3⟩ : ∃ n, n = Q.f1.length := ⟨_, rfl⟩
   rw [← hn6] at hL ⊢
   rw [← hm2] at x21
   rw [← hm3] at x31
   have HN6 := hid hn6
   have HM2 := hid hm2
   have HM3 := hid hm3
   have e0 : ∀ W, (Instr.index 53 (.agg #[.int .i64 x.f2, .int .i64 x.f3]) (.int .i64 0)).run Tryd.prog W = .ok (.int .i64 x.f2) W := fun _ => by kernel_rfl
   have e1 : ∀ W, (Instr.index 53 (.agg #[.int .i64 x.f2, .int .i64 x.f3]) (.int .i64 1)).run Tryd.prog W = .ok (.int .i64 x.f3) W := fun _ => by kernel_rfl
   clear h hC i2 i3 hnv hV2 he ev2 ev3 hP hQ l2 C2 l3 C3 hn6 hm2 hm3
   go_enter Tryd.func29, Tryd.ntmps29
   go_wp2_with fail
   go_loopg [7, 19] 2 (fun left v7 v19 wr => ∃ i : Nat, i + left = 2 ∧ v19 = .int .i64 i ∧ wr = (w.alloc (.cells (lkC x (.slice A6 n6 c6)) 36)).alloc (.cells #[.int .i64 0, .int .i64 0] 54))
   case atStart => exact ⟨0, by omega, rfl, rfl⟩
   case round =>
    obtain ⟨i, hi, rfl, rfl⟩ := hrel
    rcases (show i = 0 ∨ i = 1 ∨ i = 2 by omega) with rfl | rfl | rfl
    ·
     go_wp2
     go_roundg 1
     case measure => omega
     case rel => exact ⟨1, by omega, by go_num, rfl⟩
    ·
     go_wp2
     go_roundg 0
     case measure => omega
     case rel => exact ⟨2, by omega, by go_num, rfl⟩
    ·
     clear e0 e1
     go_wp2_with fail
     obtain ⟨W1, hW1⟩ : ∃ W1, W1 = (w.alloc (.cells (lkC x (.slice A6 n6 c6)) 36)).alloc (.cells #[.int .i64 0, .int .i64 0] 54) := ⟨_, rfl⟩
     have hbW : Below w.heap.size w W1 := by rw [hW1]; exact ((Below.refl _ _).alloc (Nat.le_refl _) _).alloc (by simp) _
     have hsW : W1.heap.size = w.heap.size + 2 := by rw [hW1]; simp
     have hbx : W1.heap[w.heap.size]? = some (.cells (lkC x (.slice A6 n6 c6)) 36 (0, 0)) := by
      rw [hW1]
      exact (Go.heap_alloc_old _ _ (by simp)).trans (heap_alloc_new w _)
     have hb4 : W1.heap[w.heap.size + 1]? = some (.cells #[.int .i64 0, .int .i64 0] 54 (0, 0)) := by rw [hW1]; exact new2 _ _ _
     rw [← hW1]
     have k0 : W1.cell? ⟨k, 0, none⟩ = some (.slice (some ad') nv c0) := (hbW.cell (p := ⟨k, 0, none⟩) (cell_lt hc0)).trans hc0
     have y20 : W1.cell? (ad'.add (x.f2.toNat * 5)) = some (.int .i64 P.f0) := (hbW.cell (p := (ad'.add (x.f2.toNat * 5))) (cell_lt x20)).trans x20
     have y21 : W1.cell? ⟨(ad'.add (x.f2.toNat * 5)).block, (ad'.add (x.f2.toNat * 5)).off + 1, none⟩ = some (.slice B2 m2 d2) := (hbW.cell (p := ⟨(ad'.add (x.f2.toNat * 5)).block, (ad'.add (x.f2.toNat * 5)).off + 1, none⟩) (cell_lt x21)).trans x21
     have y22 : W1.cell? ⟨(ad'.add (x.f2.toNat * 5)).block, (ad'.add (x.f2.toNat * 5)).off + 2, none⟩ = some (.int .i64 P.f2) := (hbW.cell (p := ⟨(ad'.add (x.f2.toNat * 5)).block, (ad'.add (x.f2.toNat * 5)).off + 2, none⟩) (cell_lt x22)).trans x22
     have y23 : W1.cell? ⟨(ad'.add (x.f2.toNat * 5)).block, (ad'.add (x.f2.toNat * 5)).off + 3, none⟩ = some (.int .i64 P.f3) := (hbW.cell (p := ⟨(ad'.add (x.f2.toNat * 5)).block, (ad'.add (x.f2.toNat * 5)).off + 3, none⟩) (cell_lt x23)).trans x23
     have y24 : W1.cell? ⟨(ad'.add (x.f2.toNat * 5)).block, (ad'.add (x.f2.toNat * 5)).off + 4, none⟩ = some (.int .i64 P.f4) := (hbW.cell (p := ⟨(ad'.add (x.f2.toNat * 5)).block, (ad'.add (x.f2.toNat * 5)).off + 4, none⟩) (cell_lt x24)).trans x24
     have y30 : W1.cell? (ad'.add (x.f3.toNat * 5)) = some (.int .i64 Q.f0) := (hbW.cell (p := (ad'.add (x.f3.toNat * 5))) (cell_lt x30)).trans x30
     have y31 : W1.cell? ⟨(ad'.add (x.f3.toNat * 5)).block, (ad'.add (x.f3.toNat * 5)).off + 1, none⟩ = some (.slice B3 m3 d3) := (hbW.cell (p := ⟨(ad'.add (x.f3.toNat * 5)).block, (ad'.add (x.f3.toNat * 5)).off + 1, none⟩) (cell_lt x31)).trans x31
     have y32 : W1.cell? ⟨(ad'.add (x.f3.toNat * 5)).block, (ad'.add (x.f3.toNat * 5)).off + 2, none⟩ = some (.int .i64 Q.f2) := (hbW.cell (p := ⟨(ad'.add (x.f3.toNat * 5)).block, (ad'.add (x.f3.toNat * 5)).off + 2, none⟩) (cell_lt x32)).trans x32
     have y33 : W1.cell? ⟨(ad'.add (x.f3.toNat * 5)).block, (ad'.add (x.f3.toNat * 5)).off + 3, none⟩ = some (.int .i64 Q.f3) := (hbW.cell (p := ⟨(ad'.add (x.f3.toNat * 5)).block, (ad'.add (x.f3.toNat * 5)).off + 3, none⟩) (cell_lt x33)).trans x33
     have y34 : W1.cell? ⟨(ad'.add (x.f3.toNat * 5)).block, (ad'.add (x.f3.toNat * 5)).off + 4, none⟩ = some (.int .i64 Q.f4) := (hbW.cell (p := ⟨(ad'.add (x.f3.toNat * 5)).block, (ad'.add (x.f3.toNat * 5)).off + 4, none⟩) (cell_lt x34)).trans x34
     have z2 : W1.cell? ⟨w.heap.size, 2, none⟩ = some (.int .i64 x.f2) := (blk_cell hbx 2).trans rfl
     have z3 : W1.cell? ⟨w.heap.size, 3, none⟩ = some (.int .i64 x.f3) := (blk_cell hbx 3).trans rfl
     have := World.new_ne W1 _ k0
     have := World.new_ne W1 _ y20
     have := World.new_ne W1 _ y21
     have := World.new_ne W1 _ y22
     have := World.new_ne W1 _ y23
     have := World.new_ne W1 _ y24
     have := World.new_ne W1 _ y30
     have := World.new_ne W1 _ y31
     have := World.new_ne W1 _ y32
     have := World.new_ne W1 _ y33
     have := World.new_ne W1 _ y34
     have := World.new_ne W1 _ z2
     have := World.new_ne W1 _ z3
     have HSW := hid hsW
     have HBX := hid hbx
     have HB4 := hid hb4
     have HBW := hid hbW
     clear hbx hb4 hbW hW1 hsW
     go_cut [8, 9] (fun s8 s9 wc => ∃ b8 b9 : Nat, s8 = ptr b8 ∧ s9 = ptr b9 ∧ Hid (Below W1.heap.size W1 wc) ∧ W1.heap.size ≤ b8 ∧ W1.heap.size ≤ b9 ∧ b8 ≠ b9 ∧ wc.heap[b8]? = some (.cells (vxV P (.slice B2 m2 d2)) 46 (0, 0)) ∧ wc.heap[b9]? = some (.cells (vxV Q (.slice B3 m3 d3)) 46 (0, 0)))
     case first =>
      go_region_held3 (fun w' => w'.cell? ⟨k, 0, none⟩ = some (.slice (some ad') nv c0) ∧ w'.cell? (ad'.add (x.f2.toNat * 5)) = some (.int .i64 P.f0) ∧ w'.cell? ⟨(ad'.add (x.f2.toNat * 5)).block, (ad'.add (x.f2.toNat * 5)).off + 1, none⟩ = some (.slice B2 m2 d2) ∧ w'.cell? ⟨(ad'.add (x.f2.toNat * 5)).block, (ad'.add (x.f2.toNat * 5)).off + 2, none⟩ = some (.int .i64 P.f2) ∧ w'.cell? ⟨(ad'.add (x.f2.toNat * 5)).block, (ad'.add (x.f2.toNat * 5)).off + 3, none⟩ = some (.int .i64 P.f3) ∧ w'.cell? ⟨(ad'.add (x.f2.toNat * 5)).block, (ad'.add (x.f2.toNat * 5)).off + 4, none⟩ = some (.int .i64 P.f4) ∧ w'.cell? (ad'.add (x.f3.toNat * 5)) = some (.int .i64 Q.f0) ∧ w'.cell? ⟨(ad'.add (x.f3.toNat * 5)).block, (ad'.add (x.f3.toNat * 5)).off + 1, none⟩ = some (.slice B3 m3 d3) ∧ w'.cell? ⟨(ad'.add (x.f3.toNat * 5)).block, (ad'.add (x.f3.toNat * 5)).off + 2, none⟩ = some (.int .i64 Q.f2) ∧ w'.cell? ⟨(ad'.add (x.f3.toNat * 5)).block, (ad'.add (x.f3.toNat * 5)).off + 3, none⟩ = some (.int .i64 Q.f3) ∧ w'.cell? ⟨(ad'.add (x.f3.toNat * 5)).block, (ad'.add (x.f3.toNat * 5)).off + 4, none⟩ = some (.int .i64 Q.f4) ∧ w'.cell? ⟨w.heap.size, 2, none⟩ = some (.int .i64 x.f2) ∧ w'.cell? ⟨w.heap.size, 3, none⟩ = some (.int .i64 x.f3)) (go_keep) (fail)
      ·
       go_wp2_with fail
       go_meet
       exact ⟨_, _, rfl, rfl, hid (((Below.refl _ _).alloc (Nat.le_refl _) _).alloc (by simp) _).drew, Nat.le_refl _, by simp, by simp, (Go.heap_alloc_old _ _ (by simp)).trans (heap_alloc_new W1 _), new2 _ _ _⟩
      ·
       go_wp2_with fail
       go_meet
       exact ⟨_, _, rfl, rfl, hid (((Below.refl _ _).alloc (Nat.le_refl _) _).alloc (by simp) _).drew, by simp, Nat.le_refl _, by simp, new2 _ _ _, (Go.heap_alloc_old _ _ (by simp)).trans (heap_alloc_new W1 _)⟩
     case rest =>
      obtain ⟨b8, b9, rfl, rfl, HBC, hle8, hle9, hne, hb8, hb9⟩ := hcut
      clear k0 y20 y21 y22 y23 y24 y30 y31 y32 y33 y34 z2 z3
      have hbC : Below w.heap.size w wc := HBW.out.trans (HBC.out.mono HBW.out.size)
      have hszW : w.heap.size + 2 = W1.heap.size := HSW.out.symm
      have hbx : wc.heap[w.heap.size]? = some (.cells (lkC x (.slice A6 n6 c6)) 36 (0, 0)) := (HBC.out.block _ (by omega)).trans HBX.out
      have hb4 : wc.heap[w.heap.size + 1]? = some (.cells #[.int .i64 0, .int .i64 0] 54 (0, 0)) := (HBC.out.block _ (by omega)).trans HB4.out
      have z2 : wc.cell? ⟨w.heap.size, 2, none⟩ = some (.int .i64 x.f2) := (blk_cell hbx 2).trans rfl
      have z3 : wc.cell? ⟨w.heap.size, 3, none⟩ = some (.int .i64 x.f3) := (blk_cell hbx 3).trans rfl
      have z6 : wc.cell? ⟨w.heap.size, 6, none⟩ = some (.slice A6 n6 c6) := (blk_cell hbx 6).trans rfl
      have f0 := blk_frozen hb4 0
      have f1 := blk_frozen hb4 1
      have r0 : wc.cell? ⟨w.heap.size + 1, 0, none⟩ = some (.int .i64 0) := (blk_cell hb4 0).trans rfl
      have r1 : wc.cell? ⟨w.heap.size + 1, 1, none⟩ = some (.int .i64 0) := (blk_cell hb4 1).trans rfl
      have u0 : wc.cell? ⟨b8, 0, none⟩ = some (.int .i64 P.f0) := (blk_cell hb8 0).trans rfl
      have u1 : wc.cell? ⟨b8, 1, none⟩ = some (.slice B2 m2 d2) := (blk_cell hb8 1).trans rfl
      have v0 : wc.cell? ⟨b9, 0, none⟩ = some (.int .i64 Q.f0) := (blk_cell hb9 0).trans rfl
      have v1 : wc.cell? ⟨b9, 1, none⟩ = some (.slice B3 m3 d3) := (blk_cell hb9 1).trans rfl
      have n0 : wc.cell? ⟨0, 0, none⟩ = some (.int .i64 (-1)) := (hbC.cell (p := ⟨0, 0, none⟩) hp).trans hn0
      have n1 : wc.cell? ⟨0, 1, none⟩ = some (.int .i64 (-1)) := (hbC.cell (p := ⟨0, 1, none⟩) hp).trans hn1
      have HCW := hid hbC
      have hpw : 0 < wc.heap.size := cell_lt n0
      have hle : w.heap.size + 2 ≤ wc.heap.size := by have := HBC.out.size; omega
      have H4 := hid hb4
      have HB8 := hid hb8
      have HB9 := hid hb9
      have HB3 := hid (And.intro (show b8 < wc.heap.size from blk_lt hb8) (show b9 < wc.heap.size from blk_lt hb9))
      clear hbx hb4 hb8 hb9 hbC
      by_cases q1 : P.f0 < 0
      ·
       have HE := hid (show applyM v t x = none by rw [HAP.out]; simp [sameFn]; omega)
       go_wp2
       rw [HE.out]
       refine bodyPost_ret (results_ct rfl _ _ _ _ _ _ _ rfl (two_set H4.out _ _) Tryd.underlying54 rfl (by kernel_rfl)) rfl ?_
       exact ⟨rfl, two_below HCW.out (by omega) _ _⟩
      by_cases q2 : P.f0 = Q.f0
      case neg =>
       have HE := hid (show applyM v t x = none by rw [HAP.out]; simp [sameFn, q2])
       go_wp2
       rw [HE.out]
       refine bodyPost_ret (results_ct rfl _ _ _ _ _ _ _ rfl (two_set H4.out _ _) Tryd.underlying54 rfl (by kernel_rfl)) rfl ?_
       exact ⟨rfl, two_below HCW.out (by omega) _ _⟩
      by_cases q3 : m2 = m3
      case neg =>
       have HE := hid (show applyM v t x = none by rw [HAP.out]; simp [sameFn, ← HM2.out, ← HM3.out, q3])
       go_wp2
       rw [HE.out]
       refine bodyPost_ret (results_ct rfl _ _ _ _ _ _ _ rfl (two_set H4.out _ _) Tryd.underlying54 rfl (by kernel_rfl)) rfl ?_
       exact ⟨rfl, two_below HCW.out (by omega) _ _⟩
      subst q3
      by_cases q4 : n6 = m2
      case neg =>
       have hlen : ¬ x.f6.length = P.f1.length := by (have := HM2.out; have := HN6.out; omega)
       have HE := hid (show applyM v t x = none by rw [HAP.out]; simp [hlen])
       clear hlen
       have q41 : ((n6 : Int) == (m2 : Int)) = false := by simp; omega
       have q42 : ((n6 : Int) != (m2 : Int)) = true := by simp; omega
       have q43 : ¬ (n6 : Int) = (m2 : Int) := by omega
       go_wp2
       rw [HE.out]
       refine bodyPost_ret (results_ct rfl _ _ _ _ _ _ _ rfl (two_set H4.out _ _) Tryd.underlying54 rfl (by kernel_rfl)) rfl ?_
       exact ⟨rfl, two_below HCW.out (by omega) _ _⟩
      subst q4
      have HAP2 := hid (show applyM v t x = if listM t x.f6 P.f1 Q.f1 = true then some (x.f2, x.f3) else none by
       rw [HAP.out]
       have hs : sameFn P Q = true := by unfold sameFn; simp; exact ⟨by omega, q2, by rw [← HM2.out, ← HM3.out]⟩
       rw [hs, decide_eq_true (show x.f6.length = P.f1.length by rw [← HN6.out, ← HM2.out])]
       rfl)
      have HN0 := hid (And.intro n0 n1)
      have HZ := hid (And.intro z2 z3)
      have HU := hid (And.intro u1 v1)
      have HR := hid (And.intro r0 (And.intro r1 (And.intro f0 f1)))
      go_wp2_with fail
      clear n0 n1 z2 z3 z6 u0 u1 v0 v1 r0 r1 f0 f1
      go_loopg [10, 11, 12, 13, 83] n6 (fun left v10 v11 v12 v13 v83 wr => ∃ i : Nat, i + left = n6 ∧ v83 = .int .i64 i ∧ Hid (Below wc.heap.size wc wr) ∧ Hid (listM t (x.f6.drop i) (P.f1.drop i) (Q.f1.drop i) = listM t x.f6 P.f1 Q.f1))
      case atStart => exact ⟨0, by omega, rfl, hid (Below.refl _ _), hid rfl⟩
      case round =>
       obtain ⟨i, hi, rfl, HW, HL⟩ := hrel
       have hble : wc.heap.size ≤ wr.heap.size := HW.out.size
       have n0 : wr.cell? ⟨0, 0, none⟩ = some (.int .i64 (-1)) := (HW.out.cell (p := ⟨0, 0, none⟩) hpw).trans HN0.out.1
       have n1 : wr.cell? ⟨0, 1, none⟩ = some (.int .i64 (-1)) := (HW.out.cell (p := ⟨0, 1, none⟩) hpw).trans HN0.out.2
       have hbWr : Below w.heap.size w wr := HCW.out.trans (HW.out.mono HCW.out.size)
       have HWR := hid hbWr
       have h4r : wr.heap[w.heap.size + 1]? = some (.cells #[.int .i64 0, .int .i64 0] 54 (0, 0)) := (HW.out.block _ (by omega)).trans H4.out
       have H4R := hid h4r
       have f0 := blk_frozen h4r 0
       have f1 := blk_frozen h4r 1
       have r0 : wr.cell? ⟨w.heap.size + 1, 0, none⟩ = some (.int .i64 0) := (blk_cell h4r 0).trans rfl
       have r1 : wr.cell? ⟨w.heap.size + 1, 1, none⟩ = some (.int .i64 0) := (blk_cell h4r 1).trans rfl
       have z2 : wr.cell? ⟨w.heap.size, 2, none⟩ = some (.int .i64 x.f2) := (HW.out.cell (p := ⟨w.heap.size, 2, none⟩) (by simp; omega)).trans HZ.out.1
       have z3 : wr.cell? ⟨w.heap.size, 3, none⟩ = some (.int .i64 x.f3) := (HW.out.cell (p := ⟨w.heap.size, 3, none⟩) (by simp; omega)).trans HZ.out.2
       clear h4r hbWr
       cases gk with
       | zero =>
        have hin : ¬ ((i : Int) < (n6 : Int)) := by omega
        have HE := hid (show applyM v t x = some (x.f2, x.f3) by
         have : x.f6.drop i = [] := List.drop_eq_nil_of_le (by have := HN6.out; omega)
         rw [HAP2.out, ← HL.out, this]
         simp [listM])
        go_wp2
        rw [HE.out]
        refine bodyPost_ret (results_ct rfl _ _ _ _ _ _ _ rfl (two_set H4R.out _ _) Tryd.underlying54 rfl (by kernel_rfl)) rfl ?_
        exact ⟨rfl, two_below HWR.out (by omega) _ _⟩
       | succ left =>
        have hin : (i : Int) < (n6 : Int) := by omega
        obtain ⟨a6, rfl, x6⟩ := Kd.at_int (Kd.C_below HC6.out HWR.out) (i : Int) (by omega) (by have := HN6.out; omega)
        obtain ⟨a2, rfl, x2⟩ := Kd.at_int (Kd.C_below HC2.out.2 HWR.out) (i : Int) (by omega) (by have := HM2.out; omega)
        obtain ⟨a3, rfl, x3⟩ := Kd.at_int (Kd.C_below HC3.out.2 HWR.out) (i : Int) (by omega) (by have := HM3.out; omega)
        rw [Int.toNat_natCast] at x6 x2 x3
        have HLS := hid (show listM t x.f6 P.f1 Q.f1 = (decide (tellM t (rd x.f6 (i : Int)) = some (rd P.f1 (i : Int), rd Q.f1 (i : Int))) && listM t (x.f6.drop (i + 1)) (P.f1.drop (i + 1)) (Q.f1.drop (i + 1))) by
         rw [← HL.out, List_drop_rd (l := x.f6) (i := i) (by have := HN6.out; omega), List_drop_rd (l := P.f1) (i := i) (by have := HM2.out; omega), List_drop_rd (l := Q.f1) (i := i) (by have := HM3.out; omega)]
         rfl)
        obtain ⟨m, hm⟩ : ∃ m, rd x.f6 (i : Int) = m := ⟨_, rfl⟩
        obtain ⟨p', hp'⟩ : ∃ m, rd P.f1 (i : Int) = m := ⟨_, rfl⟩
        obtain ⟨q', hq'⟩ : ∃ m, rd Q.f1 (i : Int) = m := ⟨_, rfl⟩
        rw [hm] at x6 HLS
        rw [hp'] at x2 HLS
        rw [hq'] at x3 HLS
        clear hm hp' hq'
        have y6 : (a6.add i).block < wr.heap.size := cell_lt x6
        have y2 : (a2.add i).block < wr.heap.size := cell_lt x2
        have y3 : (a3.add i).block < wr.heap.size := cell_lt x3
        have u1 : wr.cell? ⟨b8, 1, none⟩ = some (.slice (some a2) n6 d2) := (HW.out.cell (p := ⟨b8, 1, none⟩) HB3.out.1).trans HU.out.1
        have v1 : wr.cell? ⟨b9, 1, none⟩ = some (.slice (some a3) n6 d3) := (HW.out.cell (p := ⟨b9, 1, none⟩) HB3.out.2).trans HU.out.2
        cases ht : tellM t m with
        | none =>
         have HE := hid (show applyM v t x = none by rw [HAP2.out, HLS.out, ht]; rfl)
         have HTT := hid (HT0.out wr HWR.out m ht)
         clear ht
         go_wp2_with fail
         refine HTT.out.mono ?_
         rintro e w3 ⟨rfl, hb3⟩
         have hb4 : Below wr.heap.size wr (w3.alloc (.cells #[.int .i64 (-1), .int .i64 (-1)] 54)) := hb3.alloc hb3.size _
         go_wp2_with fail
         obtain ⟨W4, hW4⟩ : ∃ W4, W4 = w3.alloc (.cells #[.int .i64 (-1), .int .i64 (-1)] 54) := ⟨_, rfl⟩
         rw [← hW4] at hb4 ⊢
         have h43 : W4.heap[w.heap.size + 1]? = some (.cells #[.int .i64 0, .int .i64 0] 54 (0, 0)) := (hb4.block _ (by omega)).trans H4R.out
         have H43 := hid h43
         have HB5 := hid (HWR.out.trans (hb4.mono HWR.out.size))
         have m0 : W4.cell? ⟨0, 0, none⟩ = some (.int .i64 (-1)) := (hb4.cell (p := ⟨0, 0, none⟩) (by simp; omega)).trans n0
         have m1 : W4.cell? ⟨0, 1, none⟩ = some (.int .i64 (-1)) := (hb4.cell (p := ⟨0, 1, none⟩) (by simp; omega)).trans n1
         have t0 := blk_frozen h43 0
         have t1 := blk_frozen h43 1
         have s0 : W4.cell? ⟨w.heap.size + 1, 0, none⟩ = some (.int .i64 0) := (blk_cell h43 0).trans rfl
         have s1 : W4.cell? ⟨w.heap.size + 1, 1, none⟩ = some (.int .i64 0) := (blk_cell h43 1).trans rfl
         have hs5 : wr.heap.size ≤ W4.heap.size := hb4.size
         clear n0 n1 f0 f1 r0 r1 z2 z3 x6 x2 x3 u1 v1 h43 hb3 hb4 hW4
         go_quiet (fail)
         go_wp2
         rw [HE.out]
         refine bodyPost_ret (results_ct rfl _ _ _ _ _ _ _ rfl (two_set H43.out _ _) Tryd.underlying54 rfl (by kernel_rfl)) rfl ?_
         exact ⟨rfl, two_below (pw_below_drewN HB5.out _) (by omega) _ _⟩
        | some r =>
         obtain ⟨e1, e2⟩ := r
         have HTT := hid (HT1.out wr HWR.out m e1 e2 ht)
         rw [ht] at HLS
         clear ht
         go_wp2_with fail
         refine HTT.out.mono ?_
         rintro e w3 ⟨rfl, hb3⟩
         have HB3' := hid hb3
         go_wp2_with fail
         obtain ⟨W4, hW4⟩ : ∃ W4, W4 = w3.alloc (.cells #[.int .i64 e1, .int .i64 e2] 54) := ⟨_, rfl⟩
         have hb4 : Below wr.heap.size wr W4 := by rw [hW4]; exact hb3.alloc hb3.size _
         have h44 : W4.heap[w.heap.size + 1]? = some (.cells #[.int .i64 0, .int .i64 0] 54 (0, 0)) := (hb4.block _ (by omega)).trans H4R.out
         have H44 := hid h44
         have h5 : W4.heap[w3.heap.size]? = some (.cells #[.int .i64 e1, .int .i64 e2] 54 (0, 0)) := by rw [hW4]; exact heap_alloc_new _ _
         have HB5 := hid (HWR.out.trans (hb4.mono HWR.out.size))
         have HB6 := hid (HW.out.trans (hb4.mono HW.out.size))
         have m0 : W4.cell? ⟨0, 0, none⟩ = some (.int .i64 (-1)) := (hb4.cell (p := ⟨0, 0, none⟩) (by simp; omega)).trans n0
         have m1 : W4.cell? ⟨0, 1, none⟩ = some (.int .i64 (-1)) := (hb4.cell (p := ⟨0, 1, none⟩) (by simp; omega)).trans n1
         have t0 := blk_frozen h44 0
         have t1 := blk_frozen h44 1
         have s0 : W4.cell? ⟨w.heap.size + 1, 0, none⟩ = some (.int .i64 0) := (blk_cell h44 0).trans rfl
         have s1 : W4.cell? ⟨w.heap.size + 1, 1, none⟩ = some (.int .i64 0) := (blk_cell h44 1).trans rfl
         have k0 : W4.cell? ⟨w3.heap.size, 0, none⟩ = some (.int .i64 e1) := (blk_cell h5 0).trans rfl
         have k1 : W4.cell? ⟨w3.heap.size, 1, none⟩ = some (.int .i64 e2) := (blk_cell h5 1).trans rfl
         have k2 : W4.cell? ⟨b8, 1, none⟩ = some (.slice (some a2) n6 d2) := (hb4.cell (p := ⟨b8, 1, none⟩) (by have := HB3.out.1; simp; omega)).trans u1
         have k3 : W4.cell? ⟨b9, 1, none⟩ = some (.slice (some a3) n6 d3) := (hb4.cell (p := ⟨b9, 1, none⟩) (by have := HB3.out.2; simp; omega)).trans v1
         have k4 : W4.cell? (a2.add i) = some (.int .i64 p') := (hb4.cell (p := a2.add i) y2).trans x2
         have k5 : W4.cell? (a3.add i) = some (.int .i64 q') := (hb4.cell (p := a3.add i) y3).trans x3
         have hs5 : wr.heap.size ≤ W4.heap.size := hb4.size
         rw [← hW4]
         clear n0 n1 f0 f1 r0 r1 z2 z3 x6 x2 x3 u1 v1 h44 hb3 hb4 hW4 h5
         by_cases hq : e1 = p' ∧ e2 = q'
         ·
          obtain ⟨rfl, rfl⟩ := hq
          have hpe : ∀ W, (Op.equalIn 10000 54 (.agg #[.int .i64 e1, .int .i64 e2]) (.agg #[.int .i64 e1, .int .i64 e2])).run Tryd.prog W = .ok true W := fun W => by rw [pair_equal]; simp
          go_quiet (fail)
          go_wp2
          go_roundg left
          case measure => omega
          case rel => exact ⟨i + 1, by omega, by go_num, hid (pw_below_drewN HB6.out _), hid (by rw [HLS.out]; simp)⟩
         ·
          have hpe : ∀ W, (Op.equalIn 10000 54 (.agg #[.int .i64 e1, .int .i64 e2]) (.agg #[.int .i64 p', .int .i64 q'])).run Tryd.prog W = .ok false W := fun W => by
           rw [pair_equal]
           congr 1
           simp only [Bool.and_eq_false_iff, beq_eq_false_iff_ne, ne_eq]
           omega
          have HE := hid (show applyM v t x = none by
           rw [HAP2.out, HLS.out]
           have : ¬ (some (e1, e2) = some (p', q')) := fun h => hq (by simpa using h)
           simp [this])
          clear hq
          go_quiet (fail)
          go_wp2
          rw [HE.out]
          refine bodyPost_ret (results_ct rfl _ _ _ _ _ _ _ rfl (two_set H44.out _ _) Tryd.underlying54 rfl (by kernel_rfl)) rfl ?_
          exact ⟨rfl, two_below (pw_below_drewN HB5.out _) (by omega) _ _⟩
  ·
   have HE := hid (show applyM v t x = none by unfold applyM applyB; rw [i2]; simp [i3])
   have j2 := inB_iff.1 i2
   have j3 : ¬ (0 ≤ x.f3 ∧ x.f3 < (nv : Int)) := fun h => i3 (inB_iff.2 (by rw [← hnv]; exact h))
   rw [← hnv] at j2
   obtain ⟨g1, g2⟩ := j2
   obtain ⟨X2, hX2⟩ : ∃ X, x.f2 = X := ⟨_, rfl⟩
   obtain ⟨X3, hX3⟩ : ∃ X, x.f3 = X := ⟨_, rfl⟩
   have e0 : ∀ W, (Instr.index 53 (.agg #[.int .i64 x.f2, .int .i64 x.f3]) (.int .i64 0)).run Tryd.prog W = .ok (.int .i64 x.f2) W := fun _ => by kernel_rfl
   have e1 : ∀ W, (Instr.index 53 (.agg #[.int .i64 x.f2, .int .i64 x.f3]) (.int .i64 1)).run Tryd.prog W = .ok (.int .i64 x.f3) W := fun _ => by kernel_rfl
   clear h hC i2 i3 hnv hX2 hX3
   rcases (show x.f3 < 0 ∨ (nv : Int) ≤ x.f3 by omega) with j3 | j3
   all_goals
    go_enter Tryd.func29, Tryd.ntmps29
    go_wp2_with fail
    go_loopg [7, 19] 2 (fun left v7 v19 wr => ∃ i : Nat, i + left = 2 ∧ i ≤ 1 ∧ v19 = .int .i64 i ∧ wr = (w.alloc (.cells (lkC x (.slice A6 x.f6.length c6)) 36)).alloc (.cells #[.int .i64 0, .int .i64 0] 54))
    case atStart => exact ⟨0, by omega, by omega, rfl, rfl⟩
    case round =>
     obtain ⟨i, hi, hi2, rfl, rfl⟩ := hrel
     rcases (show i = 0 ∨ i = 1 by omega) with rfl | rfl
     ·
      go_wp2
      go_roundg 1
      case measure => omega
      case rel => exact ⟨1, by omega, by omega, by go_num, rfl⟩
     ·
      go_wp2
      rw [HE.out]
      refine bodyPost_ret (results_ct rfl _ _ _ _ _ _ _ rfl (new2 _ _ _) Tryd.underlying54 rfl (by kernel_rfl)) rfl ?_
      exact ⟨rfl, ((Below.refl _ _).alloc (Nat.le_refl _) _).alloc (by simp) _⟩
 ·
  have HE := hid (show applyM v t x = none by unfold applyM applyB; simp [i2])
  have j2 : ¬ (0 ≤ x.f2 ∧ x.f2 < (nv : Int)) := fun h => i2 (inB_iff.2 (by rw [← hnv]; exact h))
  have e0 : ∀ W, (Instr.index 53 (.agg #[.int .i64 x.f2, .int .i64 x.f3]) (.int .i64 0)).run Tryd.prog W = .ok (.int .i64 x.f2) W := fun _ => by kernel_rfl
  clear h hC i2 hnv
  rcases (show x.f2 < 0 ∨ (nv : Int) ≤ x.f2 by omega) with j3 | j3
  all_goals
   go_enter Tryd.func29, Tryd.ntmps29
   go_wp2_with fail
   go_loopg [7, 19] 2 (fun left v7 v19 wr => left = 2 ∧ v19 = .int .i64 0 ∧ wr = (w.alloc (.cells (lkC x (.slice A6 x.f6.length c6)) 36)).alloc (.cells #[.int .i64 0, .int .i64 0] 54))
   case atStart => exact ⟨rfl, rfl, rfl⟩
   case round =>
    obtain ⟨rfl, rfl, rfl⟩ := hrel
    go_wp2
    rw [HE.out]
    refine bodyPost_ret (results_ct rfl _ _ _ _ _ _ _ rfl (new2 _ _ _) Tryd.underlying54 rfl (by kernel_rfl)) rfl ?_
    exact ⟨rfl, ((Below.refl _ _).alloc (Nat.le_refl _) _).alloc (by simp) _⟩
end Go.Proofs.YtpopohkbffhckaaDoor.KL
