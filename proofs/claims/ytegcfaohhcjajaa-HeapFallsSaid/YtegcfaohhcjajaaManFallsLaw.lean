/- Walk of the law HeapFalls. -/
import Derived.Test.YtegcfaohhcjajaaOwnS
import Derived.Test.YtegcfaohhcjajaaHeapK
namespace Go.Proofs.Ytegcfaohhcjajaa.Hk
open Go.RowKit Go.Proofs.YtegcfaohhcjajaaW.PrintWords Go.Proofs.YtegcfaohhcjajaaW.PrintLast Go.Proofs.YtegcfaohhcjajaaW.PrintMore Go.Proofs.Ytegcfaohhcjajaa.MM Go.Proofs.Ytegcfaohhcjajaa.TW Go.Proofs.Ytegcfaohhcjajaa.HM
attribute [local go_sem ↓] Go.wp_at_zero Go.wp_at_succ
set_option linter.unusedSimpArgs false
set_option linter.unusedVariables false

theorem ints_open {w : World} {A : Option Addr} {n : Nat} {xs : List Int} (h : Kd.C (Kd.int .i64) w A n xs) (h0 : 0 < xs.length) : ∃ b off, A = some ⟨b, off, none⟩ := by
  have hn := h.1
  obtain ⟨ad, e, hc⟩ := Kd.at_int h 0 (by omega) (by omega)
  obtain ⟨b, off, sp⟩ := ad
  have hsp : sp = none := by
    unfold World.cell? at hc
    simp only [Addr.add] at hc
    cases sp with
    | none => rfl
    | some s => split at hc <;> simp at hc
  subst hsp
  exact ⟨b, off, e⟩
theorem ints_cell {w : World} {b off n : Nat} {xs : List Int} (h : Kd.C (Kd.int .i64) w (some ⟨b, off, none⟩) n xs) (j : Nat) (hj : j < xs.length) : w.cell? ⟨b, off + j, none⟩ = some (.int .i64 (xs.getD j 0)) := by
  have hn := h.1
  obtain ⟨ad, e, hc⟩ := Kd.at_int h (j : Int) (by omega) (by omega)
  cases e
  rw [Int.toNat_natCast, Addr.add_lit] at hc
  rw [hc]
  congr 2
theorem info42 : (Try.prog.info? 42).map (fun i => (i.zero, i.size)) = some (some (.agg (Array.replicate 300 (.bool false))), 300) := by kernel_rfl
theorem zero42 (W : World) : Sem.run Try.prog (zeroValue 42) W = .ok (.agg (Array.replicate 300 (.bool false))) W := by
  have h := info42
  unfold zeroValue typeInfo
  cases hi : Try.prog.info? 42 with
  | none => rw [hi] at h; cases h
  | some i =>
    rw [hi] at h
    have hz : i.zero = some (.agg (Array.replicate 300 (.bool false))) := by
      simp only [Option.map_some, Option.some.injEq, Prod.mk.injEq] at h
      exact h.1
    simp [hi, hz]
/-- The array in memory. -/
def arrO (arr : List Bool) : Obj := .cells (arr.map Value.bool).toArray 42 (0, 0)
theorem arr_cell {W : World} {I : Nat} {arr : List Bool} (h : W.heap[I]? = some (arrO arr)) (x : Nat) (hx : x < arr.length) : W.cell? ⟨I, x, none⟩ = some (.bool (arr.getD x false)) := by
  rw [blk_cell h]
  simp [hx]
theorem arr_frozen {W : World} {I : Nat} {arr : List Bool} (h : W.heap[I]? = some (arrO arr)) (x : Nat) : W.frozen? ⟨I, x, none⟩ = false := blk_frozen h x
theorem arr_set {W : World} {I : Nat} {arr : List Bool} (h : W.heap[I]? = some (arrO arr)) (x : Nat) (b : Bool) : (W.setCell ⟨I, x, none⟩ (.bool b)).heap[I]? = some (arrO (arr.set x b)) := by
  rw [blk_set h]
  simp [arrO, List.map_set]
theorem arr_zero (W : World) : (W.alloc (.cells (Array.replicate 300 (.bool false)) 42)).heap[W.heap.size]? = some (arrO (List.replicate 300 false)) := by
  rw [heap_alloc_new, arrO, List.map_replicate, List.toArray_replicate]
abbrev SB (I : Nat) (arr : List Bool) : Side := Side.nothing.and (Side.obj I (arrO arr))
/-- The heap, and the array of who was pushed. -/
structure FA (w : World) (t I n0 : Nat) (s : HS) (arr : List Bool) (wr : World) : Prop where
  own : OwnS w t s (SB I arr) wr
  good : HM.Good s
  wl : s.w.length = n0
  al : arr.length = 300
  ai : ∀ y, y < n0 → (arr.getD y false = true ↔ In s y)
  ib : w.heap.size ≤ I
theorem FA.put {w wr : World} {t I n0 : Nat} {s' : HS} {arr : List Bool} (h : OwnS w t s' (SB I arr) wr) (al : arr.length = 300) (ib : w.heap.size ≤ I) (hg : HM.Good s') (hw : s'.w.length = n0) (h300 : n0 ≤ 300) (x : Nat) (b : Bool) (hx : x < n0) (ai : ∀ y, y < n0 → y ≠ x → (arr.getD y false = true ↔ In s' y)) (hb : b = true ↔ In s' x) :
    FA w t I n0 s' (arr.set x b) (wr.setCell ⟨I, x, none⟩ (.bool b)) where
  own := h.turnSide _ ((setCell_keep wr I x (.bool b)).mono fun j hj => .inr hj) (fun j hj => hj.elim (fun q => q.elim) (fun q => by rw [show j = I from q]; exact ib)) ⟨trivial, arr_set h.side.2 x b⟩ (fun j hj => .inl hj)
  good := hg
  wl := hw
  al := by simpa using al
  ai := fun y hy => by
    rw [List.getD_eq_getElem?_getD, List.getElem?_set]
    by_cases e : x = y
    · subst e
      rw [if_pos rfl, if_pos (by omega)]
      exact hb
    · rw [if_neg e, ← List.getD_eq_getElem?_getD]
      exact ai y hy (fun q => e q.symm)
  ib := ib
set_option maxRecDepth 100000 in
set_option maxHeartbeats 3200000 in
theorem falls_main (w : World) (A0 : Option Addr) (c0 : Nat) (l0 : List Int) (A1 : Option Addr) (c1 : Nat) (l1 : List Int) (h0 : Kd.C (Kd.int .i64) w A0 l0.length l0) (h1 : Kd.C (Kd.int .i64) w A1 l1.length l1) (g0 : l0.length ≤ 300) (g1 : l1.length ≤ 1000) :
    Calls Try.prog 4 #[.slice A0 l0.length c0, .slice A1 l1.length c1] w fun e w' => e = .returned (.bool true) ∧ Below w.heap.size w w' := by
  obtain ⟨n0, hn0⟩ : ∃ n, n = l0.length := ⟨_, rfl⟩
  obtain ⟨n1, hn1⟩ : ∃ n, n = l1.length := ⟨_, rfl⟩
  rw [← hn0] at h0 g0 ⊢
  rw [← hn1] at h1 g1 ⊢
  have d0 : ¬ ((n0 : Int) > 300) := by omega
  have d1 : ¬ ((n1 : Int) > 1000) := by omega
  have HC0 := hid h0
  have HC1 := hid h1
  have HN0 := hid hn0
  have HN1 := hid hn1
  have Z42 := zero42
  have NEW := hid (own_new (w := w) (n0 : Int))
  have hsn : sizeN (n0 : Int) = n0 := by unfold sizeN; omega
  rw [hsn] at NEW
  clear h0 h1 hn0 hn1 hsn
  go_enter Try.func4, Try.ntmps4
  go_wp2_with fail
  refine NEW.out.mono ?_
  rintro e W1 ⟨t, v, rfl, o1⟩
  have O1 := hid (OwnS.of o1)
  clear o1 NEW
  go_wp2_with fail
  obtain ⟨I, hI⟩ : ∃ I, I = W1.heap.size := ⟨_, rfl⟩
  obtain ⟨W2, hW2⟩ : ∃ W, W = W1.alloc (.cells (Array.replicate 300 (.bool false)) 42) := ⟨_, rfl⟩
  have FA0 : Hid (FA w t I n0 (newM n0 v) (List.replicate 300 false) W2) := hid (by
    rw [hI, hW2]
    refine ⟨O1.out.new ((Below.refl _ _).alloc (Nat.le_refl _) _) _ (arr_zero W1) (fun j hj => by rw [show j = W1.heap.size from hj]; exact Nat.le_refl _), good_new n0 v (by omega), by simp [newM], by simp, fun y hy => ?_, O1.out.bel.size⟩
    refine ⟨fun h => ?_, fun h => absurd h (not_in_new n0 v y)⟩
    rw [List.getD_eq_getElem?_getD, List.getElem?_replicate] at h
    split at h <;> cases h)
  rw [← hW2, ← hI]
  clear hI hW2 O1 Z42
  have hr0 : (newM n0 v).r.length = 0 := rfl
  have HR0 := hid hr0
  clear hr0
  go_loopg [31, 7] n1 (fun left v31 v7 wr => ∃ k s arr, left + k = n1 ∧ v31 = .int .i64 (k : Int) ∧ v7 = .int .i64 (s.r.length : Nat) ∧ Hid (FA w t I n0 s arr wr) ∧ Hid (s.r.length ≤ k))
  case atStart => exact ⟨0, newM n0 v, _, by omega, rfl, by rw [HR0.out]; rfl, FA0, hid (by rw [HR0.out]; exact Nat.le_refl _)⟩
  case round =>
    obtain ⟨k, s, arr, hk, rfl, rfl, U, RL⟩ := hrel
    clear FA0
    obtain ⟨nr, hnr⟩ : ∃ n, n = s.r.length := ⟨_, rfl⟩
    rw [← hnr] at RL ⊢
    have HNR := hid hnr
    clear hnr
    by_cases hkn : k < n1
    · have hkI : (k : Int) < (n1 : Int) := by omega
      have hkl : k < l1.length := by rw [← HN1.out]; exact hkn
      obtain ⟨b, off, rfl⟩ := ints_open HC1.out (by omega)
      obtain ⟨x, hxx⟩ : ∃ x, x = l1.getD k 0 := ⟨_, rfl⟩
      have HX := hid (fun W (hW : Below w.heap.size w W) => ints_cell (Kd.C_below HC1.out hW) k hkl)
      rw [← hxx] at HX
      have hx := HX.out wr U.out.own.bel
      have PUSH := hid (U.out.own.push U.out.good x (by have := HNR.out; have := RL.out; omega))
      clear hxx hkl
      cases gk with
      | zero => omega
      | succ left =>
        go_wp2_with fail
        refine PUSH.out.mono ?_
        rintro e W3 ⟨s3, cc, rfl, o3, g3, hw3, hl3, hcase⟩
        have O3 := hid o3
        have HX3 := HX.out W3 o3.bel
        have HW3 := hid hw3
        have G3 := hid g3
        clear o3 hw3 g3 hx
        rcases hcase with ⟨rfl, rfl, _⟩ | ⟨rfl, rfl, _⟩ | ⟨rfl, q, rfl, hq, hnq, hl, hin⟩
        · clear HW3 hl3
          go_wp2_with fail
          go_roundg left
          case measure => omega
          case rel => exact ⟨k + 1, s3, arr, by omega, rfl, by rw [← HNR.out], hid ⟨O3.out, G3.out, U.out.wl, U.out.al, U.out.ai, U.out.ib⟩, hid (by have := RL.out; have := HNR.out; omega)⟩
        · clear HW3 hl3
          go_wp2_with fail
          go_roundg left
          case measure => omega
          case rel => exact ⟨k + 1, s3, arr, by omega, rfl, by rw [← HNR.out], hid ⟨O3.out, G3.out, U.out.wl, U.out.al, U.out.ai, U.out.ib⟩, hid (by have := RL.out; have := HNR.out; omega)⟩
        · have hqn : q < n0 := by rw [← U.out.wl]; exact hq
          have HIN := hid hin
          have HL := hid hl
          have ha := arr_cell O3.out.side.2 q (by rw [U.out.al]; omega)
          have hf := arr_frozen O3.out.side.2 q
          have hq300 : (q : Int) < 300 := by omega
          have FA3 : Hid (FA w t I n0 s3 (arr.set q true) (W3.setCell ⟨I, q, none⟩ (.bool true))) := hid (FA.put O3.out U.out.al U.out.ib G3.out (by rw [HW3.out]; exact U.out.wl) g0 q true hqn (fun y hy hne => by
            rw [HIN.out y (by rw [U.out.wl]; exact hy), U.out.ai y hy]
            exact ⟨.inl, fun r => r.resolve_right hne⟩) (by rw [HIN.out q hq]; simp))
          clear hin hl hnq hl3
          have hnb : nr ≤ 1000 := by have := RL.out; omega
          go_wp2_with fail
          go_roundg left
          case measure => omega
          case rel => exact ⟨k + 1, s3, _, by omega, rfl, by rw [HL.out, ← HNR.out]; rfl, FA3, hid (by rw [HL.out, ← HNR.out]; have := RL.out; omega)⟩
    · obtain rfl : k = n1 := by omega
      have hnb : nr ≤ 1000 := by have := RL.out; omega
      go_wp2_with fail
      obtain ⟨arr2, ha2⟩ : ∃ a, a = arr := ⟨_, rfl⟩
      go_loopg [51] n0 (fun left v51 wr => ∃ j s, left + j = n0 ∧ v51 = .int .i64 (j : Int) ∧ Hid (FA w t I n0 s arr wr) ∧ Hid (s.r.length = nr))
      case atStart => exact ⟨0, s, by omega, rfl, U, hid HNR.out.symm⟩
      case round =>
        obtain ⟨j, s2, hj, rfl, V, RL2⟩ := hrel
        clear U
        by_cases hjn : j < n0
        · have hjI : (j : Int) < (n0 : Int) := by omega
          have hjl : j < l0.length := by rw [← HN0.out]; exact hjn
          obtain ⟨b, off, rfl⟩ := ints_open HC0.out (by omega)
          obtain ⟨x, hxx⟩ : ∃ x, x = l0.getD j 0 := ⟨_, rfl⟩
          have hx := ints_cell (Kd.C_below HC0.out V.out.own.bel) j hjl
          rw [← hxx] at hx
          have RAISE := hid (V.out.own.raise V.out.good (j : Int) x)
          clear hxx hjl
          cases gk with
          | zero => omega
          | succ left =>
            go_wp2_with fail
            refine RAISE.out.mono ?_
            rintro e W3 ⟨s3, rfl, o3, g3, hw3, hl3, hin⟩
            have FA3 : Hid (FA w t I n0 s3 arr W3) := hid ⟨o3, g3, by rw [hw3]; split <;> simp [V.out.wl], V.out.al, fun y hy => by
              rw [V.out.ai y hy]
              unfold In
              rw [hin, hw3]
              have := V.out.wl
              split <;> simp, V.out.ib⟩
            have HL3 := hid hl3
            clear o3 g3 hw3 hl3 hin
            go_wp2_with fail
            go_roundg left
            case measure => omega
            case rel => exact ⟨j + 1, s3, by omega, rfl, FA3, hid (by rw [HL3.out]; exact RL2.out)⟩
        · obtain rfl : j = n0 := by omega
          clear ha2
          go_wp2_with fail
          go_loopg [63, 10] nr (fun left v63 v10 wr => ∃ i s arr z, left + i = nr ∧ v63 = .int .i64 (i : Int) ∧ v10 = .int .i64 z ∧ Hid (FA w t I j s arr wr) ∧ Hid (s.r.length = left) ∧ Hid (z = -1 ∨ ∃ x : Nat, z = (x : Int) ∧ x < j ∧ ∀ y, In s y → HM.lt s.w x y))
          case atStart => exact ⟨0, s2, arr, -1, by omega, rfl, rfl, V, RL2, hid (.inl rfl)⟩
          case round =>
            obtain ⟨i, s3, arr3, z, hi, rfl, rfl, X, RL3, LST⟩ := hrel
            clear V
            by_cases hin : i < nr
            · have hiI : (i : Int) < (nr : Int) := by omega
              cases gk with
              | zero => omega
              | succ left =>
                have h0 : 0 < s3.r.length := by rw [RL3.out]; omega
                have POP := hid (X.out.own.pop X.out.good h0)
                obtain ⟨q, hq⟩ : ∃ q, q = HM.R s3 0 := ⟨_, rfl⟩
                rw [← hq] at POP
                have hqin := X.out.good.row_in h0
                rw [← hq] at hqin
                have hqj : q < j := by have := hqin.1; rw [X.out.wl] at this; exact this
                have TOP := hid (fun y (hy : In s3 y) (hne : y ≠ q) => (show HM.lt s3.w q y from by rw [hq]; exact X.out.good.top h0 hy (by rw [← hq]; exact hne)))
                have HQIN := hid hqin
                have ha := (X.out.ai q hqj).2 hqin
                have HA := hid ha
                clear hq hqin h0 ha
                go_wp2_with fail
                refine POP.out.mono ?_
                rintro e W4 ⟨s4, rfl, o4, g4, hw4, hl4, hin4⟩
                have hac := arr_cell o4.side.2 q (by rw [X.out.al]; omega)
                rw [HA.out] at hac
                have haf := arr_frozen o4.side.2 q
                have FA4 : Hid (FA w t I j s4 (arr3.set q false) (W4.setCell ⟨I, q, none⟩ (.bool false))) := hid (FA.put o4 X.out.al X.out.ib g4 (by rw [hw4]; exact X.out.wl) g0 q false hqj (fun y hy hne => by
                  rw [hin4 y (by rw [X.out.wl]; exact hy), X.out.ai y hy]
                  exact ⟨fun r => ⟨r, hne⟩, fun r => r.1⟩) (by rw [hin4 q (by rw [X.out.wl]; exact hqj)]; simp))
                have HW4 := hid hw4
                have HL4 : Hid (s4.r.length = left) := hid (by have := RL3.out; omega)
                have LST4 : Hid (∀ y, In s4 y → HM.lt s4.w q y) := hid (fun y hy => by
                  have hyj : y < s3.w.length := by rw [← hw4]; exact hy.1
                  obtain ⟨k1, k2⟩ := (hin4 y hyj).1 hy
                  rw [hw4]
                  exact TOP.out y k1 k2)
                have hq300 : (q : Int) < 300 := by omega
                have hqI : (q : Int) < (j : Int) := by omega
                clear o4 g4 hw4 hl4 hin4
                rcases LST.out with rfl | ⟨x, rfl, hx, hlt⟩
                · go_wp2_with fail
                  go_roundg left
                  case measure => omega
                  case rel => exact ⟨i + 1, s4, _, (q : Int), by omega, rfl, rfl, FA4, HL4, hid (.inr ⟨q, rfl, hqj, LST4.out⟩)⟩
                · have hlq := hlt q HQIN.out
                  have WQ := hid (fun (W : World) (o : OwnS w t s4 (SB I (arr3.set q false)) W) => o.weight (q : Int))
                  have WX := hid (fun (W : World) (o : OwnS w t s4 (SB I (arr3.set q false)) W) => o.weight (x : Int))
                  have hkq : knownM s4 (q : Int) = true := (known_iff _ _).2 ⟨by omega, by rw [HW4.out, X.out.wl]; omega⟩
                  have hkx : knownM s4 (x : Int) = true := (known_iff _ _).2 ⟨by omega, by rw [HW4.out, X.out.wl]; omega⟩
                  simp only [weightM, hkq, hkx, if_true, Int.toNat_natCast, HW4.out] at WQ WX
                  unfold HM.lt at hlq
                  obtain ⟨wq, hwq⟩ : ∃ a, a = s3.w.getD q 0 := ⟨_, rfl⟩
                  obtain ⟨wx, hwx⟩ : ∃ a, a = s3.w.getD x 0 := ⟨_, rfl⟩
                  rw [← hwq] at WQ hlq
                  rw [← hwx] at WX hlq
                  clear hwq hwx hlt hkq hkx
                  have hgt : ¬ (wq > wx) := by omega
                  by_cases heq : wq = wx
                  · have hbe : (wq == wx) = true := beq_iff_eq.mpr heq
                    have hqx : ¬ ((q : Int) < (x : Int)) := by omega
                    clear hlq heq
                    go_wp2_with fail
                    refine (WQ.out _ (by exact FA4.out.own)).mono ?_
                    rintro e W5 ⟨rfl, o5⟩
                    have O5 := hid o5
                    clear o5
                    go_wp2_with fail
                    refine (WX.out _ (by exact O5.out)).mono ?_
                    rintro e W6 ⟨rfl, o6⟩
                    have O6 := hid o6
                    clear o6
                    go_wp2_with fail
                    refine (WQ.out _ (by exact O6.out)).mono ?_
                    rintro e W7 ⟨rfl, o7⟩
                    have O7 := hid o7
                    clear o7
                    go_wp2_with fail
                    refine (WX.out _ (by exact O7.out)).mono ?_
                    rintro e W8 ⟨rfl, o8⟩
                    have O8 := hid o8
                    clear o8
                    go_wp2_with fail
                    go_roundg left
                    case measure => omega
                    case rel => exact ⟨i + 1, s4, _, (q : Int), by omega, rfl, rfl, hid ⟨O8.out, FA4.out.good, FA4.out.wl, FA4.out.al, FA4.out.ai, FA4.out.ib⟩, HL4, hid (.inr ⟨q, rfl, hqj, LST4.out⟩)⟩
                  · have hbe : (wq == wx) = false := by simpa using heq
                    clear hlq heq
                    go_wp2_with fail
                    refine (WQ.out _ (by exact FA4.out.own)).mono ?_
                    rintro e W5 ⟨rfl, o5⟩
                    have O5 := hid o5
                    clear o5
                    go_wp2_with fail
                    refine (WX.out _ (by exact O5.out)).mono ?_
                    rintro e W6 ⟨rfl, o6⟩
                    have O6 := hid o6
                    clear o6
                    go_wp2_with fail
                    refine (WQ.out _ (by exact O6.out)).mono ?_
                    rintro e W7 ⟨rfl, o7⟩
                    have O7 := hid o7
                    clear o7
                    go_wp2_with fail
                    refine (WX.out _ (by exact O7.out)).mono ?_
                    rintro e W8 ⟨rfl, o8⟩
                    have O8 := hid o8
                    clear o8
                    go_wp2_with fail
                    go_roundg left
                    case measure => omega
                    case rel => exact ⟨i + 1, s4, _, (q : Int), by omega, rfl, rfl, hid ⟨O8.out, FA4.out.good, FA4.out.wl, FA4.out.al, FA4.out.ai, FA4.out.ib⟩, HL4, hid (.inr ⟨q, rfl, hqj, LST4.out⟩)⟩
            · obtain rfl : i = nr := by omega
              have h0 : s3.r.length = 0 := by rw [RL3.out]; omega
              have POP := hid (X.out.own.popNone h0)
              go_wp2_with fail
              refine POP.out.mono ?_
              rintro e W4 ⟨rfl, o4⟩
              have B4 := hid o4.bel
              clear o4
              have KN := hid (known_calls0 W4)
              go_wp2_with fail
              refine KN.out.mono ?_
              rintro e W5 ⟨rfl, b5⟩
              have B5 := hid b5
              clear b5
              go_wp2_with fail
              go_ret
              exact ⟨rfl, below_trans B4.out (below_le B5.out B4.out.size)⟩
set_option maxRecDepth 100000 in
set_option maxHeartbeats 1600000 in
theorem falls_walk (w : World) (A0 : Option Addr) (c0 : Nat) (l0 : List Int) (A1 : Option Addr) (c1 : Nat) (l1 : List Int) (h0 : Kd.C (Kd.int .i64) w A0 l0.length l0) (h1 : Kd.C (Kd.int .i64) w A1 l1.length l1) :
    Calls Try.prog 4 #[.slice A0 l0.length c0, .slice A1 l1.length c1] w fun e w' => e = .returned (.bool true) ∧ Below w.heap.size w w' := by
  by_cases g0 : l0.length ≤ 300
  · by_cases g1 : l1.length ≤ 1000
    · exact falls_main w A0 c0 l0 A1 c1 l1 h0 h1 g0 g1
    · have d0 : ¬ ((l0.length : Int) > 300) := by omega
      have d1 : (l1.length : Int) > 1000 := by omega
      have KN := hid (HM.known_calls0 w)
      clear h0 h1 g0 g1
      go_enter Try.func4, Try.ntmps4
      go_wp2_with fail
      refine KN.out.mono ?_
      rintro e w9 ⟨rfl, b9⟩
      go_wp2_with fail
      go_ret
      exact ⟨rfl, b9⟩
  · have d0 : (l0.length : Int) > 300 := by omega
    have KN := hid (HM.known_calls0 w)
    clear h0 h1 g0
    go_enter Try.func4, Try.ntmps4
    go_wp2_with fail
    refine KN.out.mono ?_
    rintro e w9 ⟨rfl, b9⟩
    go_wp2_with fail
    go_ret
    exact ⟨rfl, b9⟩
def juristlaw02_HeapFalls.f (_l0 : List Int) (_l1 : List Int) : Option Bool := some true
theorem juristlaw02_HeapFalls.calls (A0 : Option Addr) (c0 : Nat) (l0 : List Int) (A1 : Option Addr) (c1 : Nat) (l1 : List Int) (r : Bool) (w : World) (h0 : Kd.C (Kd.int .i64) w A0 l0.length l0) (_ : l0.length ≤ c0) (h1 : Kd.C (Kd.int .i64) w A1 l1.length l1) (_ : l1.length ≤ c1) (h : juristlaw02_HeapFalls.f l0 l1 = some r) :
    Calls Try.prog 4 #[.slice A0 l0.length c0, .slice A1 l1.length c1] w fun e w' => e = .returned (.bool r) ∧ Below w.heap.size w w' := by
  cases h
  exact falls_walk w A0 c0 l0 A1 c1 l1 h0 h1
end Go.Proofs.Ytegcfaohhcjajaa.Hk
