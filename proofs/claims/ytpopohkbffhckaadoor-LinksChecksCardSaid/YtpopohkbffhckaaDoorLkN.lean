/- Walk of links.May: may vertices and atoms be? -/
import Derived.Test.YtpopohkbffhckaaDoorLkY
import Derived.Outline
namespace Go.Proofs.YtpopohkbffhckaaDoor.KL
open Go.RowKit Go.Proofs.YtpopohkbffhckaaDoorW.PrintWords Go.Proofs.YtpopohkbffhckaaDoorW.PrintLast Go.Proofs.YtpopohkbffhckaaDoorW.PrintMore Go.Proofs.YtpopohkbffhckaaDoor.MM Go.Proofs.YtpopohkbffhckaaDoor.Hk
set_option linter.unusedSimpArgs false
set_option linter.unusedVariables false
theorem maker_calls (i f : Int) (w : World) : Calls Tryd.prog 25 #[.int .i64 i, .int .i64 f] w fun e w' => e = .returned (.bool (makerM i f)) ∧ w' = w := by
 by_cases h0 : i = 0
 ·
  have e : makerM i f = (f == -1) := by unfold makerM; rw [if_pos h0]
  rw [e]
  clear e
  go_enter Tryd.func25, Tryd.ntmps25
  go_wp2
  go_ret
  exact ⟨rfl, rfl⟩
 by_cases h1 : i = 1
 ·
  have e : makerM i f = (f == -2) := by unfold makerM; rw [if_neg h0, if_pos h1]
  rw [e]
  clear e h0
  go_enter Tryd.func25, Tryd.ntmps25
  go_wp2
  go_ret
  exact ⟨rfl, rfl⟩
 by_cases h2 : 0 ≤ f
 ·
  have e : makerM i f = true := by unfold makerM; rw [if_neg h0, if_neg h1, decide_eq_true h2]; rfl
  rw [e]
  clear e
  go_enter Tryd.func25, Tryd.ntmps25
  go_wp2
  go_ret
  exact ⟨rfl, rfl⟩
 ·
  have e : makerM i f = (f == -3) := by unfold makerM; rw [if_neg h0, if_neg h1, decide_eq_false h2]; rfl
  rw [e]
  clear e
  have h3 : decide (0 ≤ f) = false := by simpa using h2
  go_enter Tryd.func25, Tryd.ntmps25
  go_wp2
  go_ret
  exact ⟨rfl, rfl⟩
theorem in_calls (b : Nat) (A : Option Addr) (n c : Nat) (x : Int) (w : World) (h : w.cell? ⟨b, 0, none⟩ = some (.slice A n c)) : Calls Tryd.prog 24 #[.int .i64 x, ptr b] w fun e w' => e = .returned (.bool (inB n x)) ∧ w' = w := by
 by_cases h0 : 0 ≤ x
 ·
  have e : inB n x = decide (x < (n : Int)) := by unfold inB; rw [decide_eq_true h0]; rfl
  rw [e]
  clear e
  go_enter Tryd.func24, Tryd.ntmps24
  go_wp2
  go_ret
  exact ⟨rfl, rfl⟩
 ·
  have e : inB n x = false := by unfold inB; rw [decide_eq_false h0]; rfl
  rw [e]
  clear e
  have h3 : decide (0 ≤ x) = false := by simpa using h0
  go_enter Tryd.func24, Tryd.ntmps24
  go_wp2
  go_ret
  exact ⟨rfl, rfl⟩
theorem in_as {b : Nat} {A : Option Addr} {n c : Nat} {x : Int} {w : World} {r : Bool} (hr : inB n x = r) (h : w.cell? ⟨b, 0, none⟩ = some (.slice A n c)) : Calls Tryd.prog 24 #[.int .i64 x, ptr b] w fun e w' => e = .returned (.bool r) ∧ w' = w := by
 have := in_calls b A n c x w h
 rw [hr] at this
 exact this
theorem maker_as {i f : Int} {w : World} {r : Bool} (hr : makerM i f = r) : Calls Tryd.prog 25 #[.int .i64 i, .int .i64 f] w fun e w' => e = .returned (.bool r) ∧ w' = w := by
 have := maker_calls i f w
 rw [hr] at this
 exact this
theorem vxs_drop (n : Nat) (v : List Vx) (i : Nat) (h : i < v.length) : vxsB n (i : Int) (v.drop i) = (vxB n (i : Int) (v.getD i vx0) && vxsB n ((i + 1 : Nat) : Int) (v.drop (i + 1))) := by
 rw [List.drop_eq_getElem_cons h, List.getD_eq_getElem?_getD, List.getElem?_eq_getElem h]
 rfl
theorem all_drop {α : Type} (p : α → Bool) (l : List α) (d : α) (i : Nat) (h : i < l.length) : (l.drop i).all p = (p (l.getD i d) && (l.drop (i + 1)).all p) := by
 rw [List.drop_eq_getElem_cons h, List.getD_eq_getElem?_getD, List.getElem?_eq_getElem h]
 rfl
set_option maxRecDepth 100000 in
set_option maxHeartbeats 3200000 in
theorem may_calls (A0 : Option Addr) (c0 : Nat) (v : List Vx) (A1 : Option Addr) (c1 : Nat) (a : List At) (w : World) (hv : Kd.C k46 w A0 v.length v) (ha : Kd.C k66 w A1 a.length a) :
 Calls Tryd.prog 13 #[.slice A0 v.length c0, .slice A1 a.length c1] w fun e w' => e = .returned (.bool (mayM v a)) ∧ Below w.heap.size w w' := by
 have hbv : v.length ≤ 9223372036854775807 := hv.2.1
 have hba : a.length ≤ 9223372036854775807 := ha.2.1
 obtain ⟨nv, hnv⟩ : ∃ n, n = v.length := ⟨_, rfl⟩
 obtain ⟨na, hna⟩ : ∃ n, n = a.length := ⟨_, rfl⟩
 have HM := hid (show mayM v a = (decide (2 ≤ nv) && (decide (nv ≤ 20000) && (vxsB nv 0 v && a.all (atB nv)))) by rw [hnv]; rfl)
 rw [← hnv] at hv hbv ⊢
 rw [← hna] at ha hba ⊢
 have HV := hid hv
 have HA := hid ha
 have HNV := hid hnv
 have HNA := hid hna
 clear hv ha hnv hna
 by_cases h2 : nv < 2
 ·
  have HE := hid (show mayM v a = false by rw [HM.out, decide_eq_false (by omega)]; rfl)
  go_enter Tryd.func13, Tryd.ntmps13
  go_wp2
  go_ret
  rw [HE.out]
  exact ⟨rfl, (Below.refl _ _).alloc (Nat.le_refl _) _⟩
 by_cases h3 : nv > 20000
 ·
  have HE := hid (show mayM v a = false by rw [HM.out, decide_eq_false (show ¬ nv ≤ 20000 by omega)]; simp)
  have h4 : ¬ (nv : Int) < 2 := by omega
  have h5 : (nv : Int) > 20000 := by omega
  go_enter Tryd.func13, Tryd.ntmps13
  go_wp2
  go_ret
  rw [HE.out]
  exact ⟨rfl, (Below.refl _ _).alloc (Nat.le_refl _) _⟩
 have HM2 := hid (show mayM v a = (vxsB nv 0 v && a.all (atB nv)) by rw [HM.out, decide_eq_true (show 2 ≤ nv by omega), decide_eq_true (show nv ≤ 20000 by omega)]; rfl)
 have h4 : ¬ (nv : Int) < 2 := by omega
 have h5 : ¬ (nv : Int) > 20000 := by omega
 have h6 : decide ((nv : Int) > 20000) = false := by simpa using h5
 have h7 : decide ((nv : Int) < 2) = false := by simpa using h4
 clear HM h2 h3
 go_enter Tryd.func13, Tryd.ntmps13
 go_wp2_with fail
 obtain ⟨W1, hW1⟩ : ∃ W1, W1 = w.alloc (.cells #[.slice A0 nv c0] 22) := ⟨_, rfl⟩
 have hb1 : Below w.heap.size w W1 := by rw [hW1]; exact (Below.refl _ _).alloc (Nat.le_refl _) _
 have hk1 : W1.heap[w.heap.size]? = some (.cells #[.slice A0 nv c0] 22 (0, 0)) := by rw [hW1]; exact heap_alloc_new _ _
 rw [← hW1]
 have HB1 := hid hb1
 have HK1 := hid hk1
 have HS1 := hid (show w.heap.size < W1.heap.size from blk_lt hk1)
 clear hW1 hb1 hk1
 go_loopg [6, 7, 9, 23] nv (fun left v6 v7 v9 v23 wr => ∃ i : Nat, i + left = nv ∧ v23 = .int .i64 i ∧ Hid (Below W1.heap.size W1 wr) ∧ Hid (vxsB nv (i : Int) (v.drop i) = vxsB nv 0 v))
 case atStart => exact ⟨0, by omega, rfl, hid (Below.refl _ _), hid rfl⟩
 case round =>
  obtain ⟨i, hi, rfl, HB, HL⟩ := hrel
  have hkr : wr.heap[w.heap.size]? = some (.cells #[.slice A0 nv c0] 22 (0, 0)) := (HB.out.block _ HS1.out).trans HK1.out
  have HBW := hid (HB1.out.trans (HB.out.mono HB1.out.size))
  have HKR := hid hkr
  have hsr : w.heap.size < wr.heap.size := blk_lt hkr
  clear hkr
  cases gk with
  | zero =>
   have hin : ¬ ((i : Int) < (nv : Int)) := by omega
   have HX := hid (show mayM v a = a.all (atB nv) by
    rw [HM2.out, ← HL.out, List.drop_eq_nil_of_le (by have := HNV.out; omega)]
    rfl)
   clear HL
   go_wp2_with fail
   obtain ⟨wo, rfl⟩ : ∃ wo : World, wo = wr := ⟨_, rfl⟩
   go_loopg [11, 48] na (fun left v11 v48 wr => ∃ j : Nat, j + left = na ∧ v48 = .int .i64 j ∧ Hid (Below wo.heap.size wo wr) ∧ Hid ((a.drop j).all (atB nv) = a.all (atB nv)))
   case atStart => exact ⟨0, by omega, rfl, hid (Below.refl _ _), hid rfl⟩
   case round =>
    obtain ⟨j, hj, rfl, HQ, HJ⟩ := hrel
    have hkq : wr.heap[w.heap.size]? = some (.cells #[.slice A0 nv c0] 22 (0, 0)) := (HQ.out.block _ hsr).trans HKR.out
    have HBQ := hid (HBW.out.trans (HQ.out.mono HBW.out.size))
    have hsq : w.heap.size < wr.heap.size := blk_lt hkq
    have HKQ := hid hkq
    clear hkq
    cases gk with
    | zero =>
     have hjn : ¬ ((j : Int) < (na : Int)) := by omega
     have HE := hid (show mayM v a = true by
      rw [HX.out, ← HJ.out, List.drop_eq_nil_of_le (by have := HNA.out; omega)]
      rfl)
     go_wp2
     go_ret
     rw [HE.out]
     exact ⟨rfl, HBQ.out⟩
    | succ left' =>
     have hjn : (j : Int) < (na : Int) := by omega
     obtain ⟨ad, rfl, x0, x1, x2, x3⟩ := at_T66 (Kd.C_below HA.out HBQ.out) (j : Int) (by omega) (by omega)
     have HJS := hid (show a.all (atB nv) = (atB nv (a.getD j at0) && (a.drop (j + 1)).all (atB nv)) by
      rw [← HJ.out, all_drop (atB nv) a at0 j (by have := HNA.out; omega)])
     rw [show rd_T66 a (j : Int) = a.getD j at0 from by show a.getD (j : Int).toNat _ = _; rw [Int.toNat_natCast]] at x0 x1 x2 x3
     rw [Int.toNat_natCast] at x0 x1 x2 x3
     obtain ⟨y, hy⟩ : ∃ y, a.getD j at0 = y := ⟨_, rfl⟩
     rw [hy] at x0 x1 x2 x3 HJS
     have ha0 : (ad.add (j * 4)).block < wr.heap.size := cell_lt x0
     clear hy HJ
     by_cases k1 : y.f0 = 1
     ·
      cases g1 : inB nv y.f1 with
      | false =>
       have HE := hid (show mayM v a = false by rw [HX.out, HJS.out]; unfold atB; rw [k1, g1]; rfl)
       go_wp2_with fail
       obtain ⟨W2, hW2⟩ : ∃ W2, W2 = wr.alloc (.cells #[.int .u8 1, .int .i64 y.f1, .int .i64 y.f2, .int .i64 y.f3] 66) := ⟨_, rfl⟩
       have HB2 := hid (show Below wr.heap.size wr W2 by rw [hW2]; exact (Below.refl _ _).alloc (Nat.le_refl _) _)
       have z0 : W2.cell? ⟨w.heap.size, 0, none⟩ = some (.slice A0 nv c0) := (HB2.out.cell (p := ⟨w.heap.size, 0, none⟩) hsq).trans ((blk_cell HKQ.out 0).trans rfl)
       have y0 : W2.cell? ⟨wr.heap.size, 0, none⟩ = some (.int .u8 1) := by rw [hW2]; exact (blk_cell (heap_alloc_new wr _) 0).trans rfl
       have y1 : W2.cell? ⟨wr.heap.size, 1, none⟩ = some (.int .i64 y.f1) := by rw [hW2]; exact (blk_cell (heap_alloc_new wr _) 1).trans rfl
       have y2 : W2.cell? ⟨wr.heap.size, 2, none⟩ = some (.int .i64 y.f2) := by rw [hW2]; exact (blk_cell (heap_alloc_new wr _) 2).trans rfl
       rw [← hW2]
       clear hW2 x0 x1 x2 x3
       refine (in_as g1 z0).mono ?_
       rintro e w3 ⟨rfl, rfl⟩
       go_wp2
       go_ret
       rw [HE.out]
       exact ⟨rfl, HBQ.out.trans (HB2.out.mono HBQ.out.size)⟩
      | true =>
       cases g2 : inB nv y.f2 with
       | false =>
        have HE := hid (show mayM v a = false by rw [HX.out, HJS.out]; unfold atB; rw [k1, g1, g2]; rfl)
        go_wp2_with fail
        obtain ⟨W2, hW2⟩ : ∃ W2, W2 = wr.alloc (.cells #[.int .u8 1, .int .i64 y.f1, .int .i64 y.f2, .int .i64 y.f3] 66) := ⟨_, rfl⟩
        have HB2 := hid (show Below wr.heap.size wr W2 by rw [hW2]; exact (Below.refl _ _).alloc (Nat.le_refl _) _)
        have z0 : W2.cell? ⟨w.heap.size, 0, none⟩ = some (.slice A0 nv c0) := (HB2.out.cell (p := ⟨w.heap.size, 0, none⟩) hsq).trans ((blk_cell HKQ.out 0).trans rfl)
        have y0 : W2.cell? ⟨wr.heap.size, 0, none⟩ = some (.int .u8 1) := by rw [hW2]; exact (blk_cell (heap_alloc_new wr _) 0).trans rfl
        have y1 : W2.cell? ⟨wr.heap.size, 1, none⟩ = some (.int .i64 y.f1) := by rw [hW2]; exact (blk_cell (heap_alloc_new wr _) 1).trans rfl
        have y2 : W2.cell? ⟨wr.heap.size, 2, none⟩ = some (.int .i64 y.f2) := by rw [hW2]; exact (blk_cell (heap_alloc_new wr _) 2).trans rfl
        rw [← hW2]
        clear hW2 x0 x1 x2 x3
        refine (in_as g1 z0).mono ?_
        rintro e w3 ⟨rfl, rfl⟩
        go_wp2_with fail
        refine (in_as g2 z0).mono ?_
        rintro e w3 ⟨rfl, rfl⟩
        go_wp2
        go_ret
        rw [HE.out]
        exact ⟨rfl, HBQ.out.trans (HB2.out.mono HBQ.out.size)⟩
       | true =>
        have HN := hid (show a.all (atB nv) = (a.drop (j + 1)).all (atB nv) by rw [HJS.out]; unfold atB; rw [k1, g1, g2]; rfl)
        go_wp2_with fail
        obtain ⟨W2, hW2⟩ : ∃ W2, W2 = wr.alloc (.cells #[.int .u8 1, .int .i64 y.f1, .int .i64 y.f2, .int .i64 y.f3] 66) := ⟨_, rfl⟩
        have HB2 := hid (show Below wr.heap.size wr W2 by rw [hW2]; exact (Below.refl _ _).alloc (Nat.le_refl _) _)
        have z0 : W2.cell? ⟨w.heap.size, 0, none⟩ = some (.slice A0 nv c0) := (HB2.out.cell (p := ⟨w.heap.size, 0, none⟩) hsq).trans ((blk_cell HKQ.out 0).trans rfl)
        have y0 : W2.cell? ⟨wr.heap.size, 0, none⟩ = some (.int .u8 1) := by rw [hW2]; exact (blk_cell (heap_alloc_new wr _) 0).trans rfl
        have y1 : W2.cell? ⟨wr.heap.size, 1, none⟩ = some (.int .i64 y.f1) := by rw [hW2]; exact (blk_cell (heap_alloc_new wr _) 1).trans rfl
        have y2 : W2.cell? ⟨wr.heap.size, 2, none⟩ = some (.int .i64 y.f2) := by rw [hW2]; exact (blk_cell (heap_alloc_new wr _) 2).trans rfl
        rw [← hW2]
        clear hW2 x0 x1 x2 x3
        refine (in_as g1 z0).mono ?_
        rintro e w3 ⟨rfl, rfl⟩
        go_wp2_with fail
        refine (in_as g2 z0).mono ?_
        rintro e w3 ⟨rfl, rfl⟩
        go_wp2_with fail
        go_roundg left'
        case measure => omega
        case rel => exact ⟨j + 1, by omega, by go_num, hid (HQ.out.trans (HB2.out.mono HQ.out.size)), hid HN.out.symm⟩
     by_cases k3 : y.f0 = 3
     ·
      cases g1 : inB nv y.f1 with
      | false =>
       have HE := hid (show mayM v a = false by rw [HX.out, HJS.out]; unfold atB; rw [k3, g1]; rfl)
       go_wp2_with fail
       obtain ⟨W2, hW2⟩ : ∃ W2, W2 = wr.alloc (.cells #[.int .u8 3, .int .i64 y.f1, .int .i64 y.f2, .int .i64 y.f3] 66) := ⟨_, rfl⟩
       have HB2 := hid (show Below wr.heap.size wr W2 by rw [hW2]; exact (Below.refl _ _).alloc (Nat.le_refl _) _)
       have z0 : W2.cell? ⟨w.heap.size, 0, none⟩ = some (.slice A0 nv c0) := (HB2.out.cell (p := ⟨w.heap.size, 0, none⟩) hsq).trans ((blk_cell HKQ.out 0).trans rfl)
       have y0 : W2.cell? ⟨wr.heap.size, 0, none⟩ = some (.int .u8 3) := by rw [hW2]; exact (blk_cell (heap_alloc_new wr _) 0).trans rfl
       have y1 : W2.cell? ⟨wr.heap.size, 1, none⟩ = some (.int .i64 y.f1) := by rw [hW2]; exact (blk_cell (heap_alloc_new wr _) 1).trans rfl
       have y2 : W2.cell? ⟨wr.heap.size, 2, none⟩ = some (.int .i64 y.f2) := by rw [hW2]; exact (blk_cell (heap_alloc_new wr _) 2).trans rfl
       rw [← hW2]
       clear hW2 x0 x1 x2 x3
       refine (in_as g1 z0).mono ?_
       rintro e w3 ⟨rfl, rfl⟩
       go_wp2
       go_ret
       rw [HE.out]
       exact ⟨rfl, HBQ.out.trans (HB2.out.mono HBQ.out.size)⟩
      | true =>
       have HN := hid (show a.all (atB nv) = (a.drop (j + 1)).all (atB nv) by rw [HJS.out]; unfold atB; rw [k3, g1]; rfl)
       go_wp2_with fail
       obtain ⟨W2, hW2⟩ : ∃ W2, W2 = wr.alloc (.cells #[.int .u8 3, .int .i64 y.f1, .int .i64 y.f2, .int .i64 y.f3] 66) := ⟨_, rfl⟩
       have HB2 := hid (show Below wr.heap.size wr W2 by rw [hW2]; exact (Below.refl _ _).alloc (Nat.le_refl _) _)
       have z0 : W2.cell? ⟨w.heap.size, 0, none⟩ = some (.slice A0 nv c0) := (HB2.out.cell (p := ⟨w.heap.size, 0, none⟩) hsq).trans ((blk_cell HKQ.out 0).trans rfl)
       have y0 : W2.cell? ⟨wr.heap.size, 0, none⟩ = some (.int .u8 3) := by rw [hW2]; exact (blk_cell (heap_alloc_new wr _) 0).trans rfl
       have y1 : W2.cell? ⟨wr.heap.size, 1, none⟩ = some (.int .i64 y.f1) := by rw [hW2]; exact (blk_cell (heap_alloc_new wr _) 1).trans rfl
       have y2 : W2.cell? ⟨wr.heap.size, 2, none⟩ = some (.int .i64 y.f2) := by rw [hW2]; exact (blk_cell (heap_alloc_new wr _) 2).trans rfl
       rw [← hW2]
       clear hW2 x0 x1 x2 x3
       refine (in_as g1 z0).mono ?_
       rintro e w3 ⟨rfl, rfl⟩
       go_wp2_with fail
       go_roundg left'
       case measure => omega
       case rel => exact ⟨j + 1, by omega, by go_num, hid (HQ.out.trans (HB2.out.mono HQ.out.size)), hid HN.out.symm⟩
     ·
      have HN := hid (show a.all (atB nv) = (a.drop (j + 1)).all (atB nv) by rw [HJS.out]; unfold atB; simp [k1, k3])
      go_wp2_with fail
      go_roundg left'
      case measure => omega
      case rel => exact ⟨j + 1, by omega, by go_num, hid (HQ.out.alloc HQ.out.size _), hid HN.out.symm⟩
  | succ left =>
   have hin : (i : Int) < (nv : Int) := by omega
   obtain ⟨ad, B1, d1, rfl, x0, x1, x2, x3, x4, l1, C1⟩ := at_T46 (Kd.C_below HV.out HBW.out) (i : Int) (by omega) (by omega)
   have HLS := hid (show vxsB nv 0 v = (vxB nv (i : Int) (v.getD i vx0) && vxsB nv ((i + 1 : Nat) : Int) (v.drop (i + 1))) by rw [← HL.out]; exact vxs_drop nv v i (by have := HNV.out; omega))
   rw [show rd_T46 v (i : Int) = v.getD i vx0 from by show v.getD (i : Int).toNat _ = _; rw [Int.toNat_natCast]] at x0 x1 x2 x3 x4 l1 C1
   obtain ⟨x, hx⟩ : ∃ x, v.getD i vx0 = x := ⟨_, rfl⟩
   rw [hx] at x0 x1 x2 x3 x4 l1 C1 HLS
   rw [Int.toNat_natCast] at x0 x1 x2 x3 x4
   obtain ⟨nx, hnx⟩ : ∃ n, n = x.f1.length := ⟨_, rfl⟩
   have hbx : nx ≤ 9223372036854775807 := by rw [hnx]; exact C1.2.1
   have HNX := hid hnx
   have HC1 := hid C1
   rw [← hnx] at x1
   clear hnx C1 hx HL l1
   have ha0 : (ad.add (i * 5)).block < wr.heap.size := cell_lt x0
   cases hm : makerM (i : Int) x.f0 with
   | false =>
    have HE := hid (show mayM v a = false by rw [HM2.out, HLS.out]; unfold vxB; rw [hm]; rfl)
    go_wp2_with fail
    refine (maker_as hm).mono ?_
    rintro e w2 ⟨rfl, rfl⟩
    go_wp2
    go_ret
    rw [HE.out]
    exact ⟨rfl, HBW.out.alloc HBW.out.size _⟩
   | true =>
    have HLT := hid (show vxsB nv 0 v = (x.f1.all (inB nv) && vxsB nv ((i + 1 : Nat) : Int) (v.drop (i + 1))) by rw [HLS.out]; unfold vxB; rw [hm]; rfl)
    go_wp2_with fail
    refine (maker_as hm).mono ?_
    rintro e w2 ⟨rfl, rfl⟩
    clear hm HLS
    go_wp2_with fail
    obtain ⟨W2, hW2⟩ : ∃ W2, W2 = wr.alloc (.cells #[.int .i64 x.f0, .slice B1 nx d1, .int .i64 x.f2, .int .i64 x.f3, .int .i64 x.f4] 46) := ⟨_, rfl⟩
    have HB2 := hid (show Below wr.heap.size wr W2 by rw [hW2]; exact (Below.refl _ _).alloc (Nat.le_refl _) _)
    have z0 : W2.cell? ⟨w.heap.size, 0, none⟩ = some (.slice (some ad) nv c0) := (HB2.out.cell (p := ⟨w.heap.size, 0, none⟩) hsr).trans ((blk_cell HKR.out 0).trans rfl)
    rw [← hW2]
    clear hW2 x0 x1 x2 x3 x4
    go_loopg [9, 36] nx (fun left' v9 v36 wq => ∃ j : Nat, j + left' = nx ∧ v36 = .int .i64 j ∧ wq = W2 ∧ Hid ((x.f1.drop j).all (inB nv) = x.f1.all (inB nv)))
    case atStart => exact ⟨0, by omega, rfl, rfl, hid rfl⟩
    case round =>
     obtain ⟨j, hj, rfl, rfl, HJ⟩ := hrel
     cases gk with
     | zero =>
      have hjn : ¬ ((j : Int) < (nx : Int)) := by omega
      have HX := hid (show x.f1.all (inB nv) = true by
       rw [← HJ.out, List.drop_eq_nil_of_le (by have := HNX.out; omega)]
       rfl)
      go_wp2_with fail
      go_roundg left
      case measure => omega
      case rel => exact ⟨i + 1, by omega, by go_num, hid (HB.out.trans (HB2.out.mono HB.out.size)), hid (by rw [HLT.out, HX.out]; rfl)⟩
     | succ left' =>
      have hjn : (j : Int) < (nx : Int) := by omega
      obtain ⟨ax, rfl, q0⟩ := Kd.at_int (Kd.C_below HC1.out HB2.out) (j : Int) (by omega) (by have := HNX.out; omega)
      have HJS := hid (show x.f1.all (inB nv) = (inB nv (rd x.f1 (j : Int)) && (x.f1.drop (j + 1)).all (inB nv)) by
       rw [← HJ.out, all_drop (inB nv) x.f1 0 j (by have := HNX.out; omega)]
       rfl)
      rw [Int.toNat_natCast] at q0
      obtain ⟨y, hy⟩ : ∃ y, rd x.f1 (j : Int) = y := ⟨_, rfl⟩
      rw [hy] at q0 HJS
      clear hy
      cases hy : inB nv y with
      | false =>
       have HE := hid (show mayM v a = false by rw [HM2.out, HLT.out, HJS.out, hy]; rfl)
       go_wp2_with fail
       refine (in_as hy z0).mono ?_
       rintro e w3 ⟨rfl, rfl⟩
       go_wp2
       go_ret
       rw [HE.out]
       exact ⟨rfl, HBW.out.trans (HB2.out.mono HBW.out.size)⟩
      | true =>
       go_wp2_with fail
       refine (in_as hy z0).mono ?_
       rintro e w3 ⟨rfl, rfl⟩
       rw [hy] at HJS
       clear hy
       go_wp2_with fail
       go_roundg left'
       case measure => omega
       case rel => exact ⟨j + 1, by omega, by go_num, rfl, hid (by rw [HJS.out]; rfl)⟩
end Go.Proofs.YtpopohkbffhckaaDoor.KL
