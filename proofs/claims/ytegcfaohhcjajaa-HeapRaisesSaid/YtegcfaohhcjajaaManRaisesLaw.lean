/- Walk of the law HeapRaises. -/
import Derived.Test.YtegcfaohhcjajaaCollect
import Derived.Test.YtegcfaohhcjajaaHeapSort
import Derived.Test.YtegcfaohhcjajaaHeapK
import Derived.Test.YtegcfaohhcjajaaHeapZ
namespace Go.Proofs.Ytegcfaohhcjajaa.Hk
open Go.RowKit Go.Proofs.YtegcfaohhcjajaaW.PrintWords Go.Proofs.YtegcfaohhcjajaaW.PrintLast Go.Proofs.YtegcfaohhcjajaaW.PrintMore Go.Proofs.Ytegcfaohhcjajaa.MM Go.Proofs.Ytegcfaohhcjajaa.TW Go.Proofs.Ytegcfaohhcjajaa.HM Go.Proofs.Ytegcfaohhcjajaa.HZ Go.Proofs.Ytegcfaohhcjajaa.HC Go.Shelf
attribute [local go_sem ↓] Go.wp_at_zero Go.wp_at_succ
attribute [local go_sem] Oper.semAt_some
set_option linter.unusedSimpArgs false
set_option linter.unusedVariables false

/-- The first loop. -/
structure RA (w : World) (t n0 : Nat) (s : HS) (k : Nat) (wr : World) : Prop where
  own : OwnS w t s Side.nothing wr
  good : HM.Good s
  wl : s.w.length = n0
  rl : s.r.length = k
  ins : ∀ y, y < n0 → (In s y ↔ y < k)
set_option maxRecDepth 100000 in
set_option maxHeartbeats 6400000 in
theorem raises_main (w : World) (A0 : Option Addr) (c0 : Nat) (l0 : List Int) (a1 a2 : Int) (h0 : Kd.C (Kd.int .i64) w A0 l0.length l0) (g0 : l0.length ≤ 300) :
    Calls Try.prog 6 #[.slice A0 l0.length c0, .int .i64 a1, .int .i64 a2] w fun e w' => e = .returned (.bool true) ∧ Below w.heap.size w w' := by
  obtain ⟨n0, hn0⟩ : ∃ n, n = l0.length := ⟨_, rfl⟩
  rw [← hn0] at h0 g0 ⊢
  have d0 : ¬ ((n0 : Int) > 300) := by omega
  have HC0 := hid h0
  have HN0 := hid hn0
  have NEW := hid (own_new (w := w) (n0 : Int))
  have hsn : sizeN (n0 : Int) = n0 := by unfold sizeN; omega
  rw [hsn] at NEW
  have QF : ∀ (W : World) (f : Fn) (cl bs : Array Value), (binOp .eql 52 (.func f cl bs) .nilFunc).run Try.prog W = .ok (.bool false) W := fun W f cl bs => run_eql_func_nil W _ f cl bs Try.underlying52
  clear h0 hn0 hsn
  refine callsIn_wide (n := 5).1 ?_
  refine callsIn_of_wp_marks Try.func6 rfl trivial ?_ rfl
  simp only [Try.ntmps6, List.size_toArray, List.length_cons, List.length_nil, Nat.reduceAdd, Nat.reduceSub, Array.replicate_succ, Array.replicate_zero, List.push_toArray, List.append_toArray, List.nil_append, List.cons_append]
  refine wpIn_wide.2 ?_
  go_wp2_with fail
  refine NEW.out.mono ?_
  rintro e W1 ⟨t, v, rfl, o1⟩
  have R0 : Hid (RA w t n0 (newM n0 v) 0 W1) := hid ⟨OwnS.of o1, good_new n0 v (by omega), by simp [newM], rfl, fun y hy => ⟨fun h => absurd h (not_in_new n0 v y), fun h => by omega⟩⟩
  clear o1 NEW
  go_wp2_with fail
  go_loopg [28] n0 (fun left v28 wr => ∃ k s, left + k = n0 ∧ v28 = .int .i64 (k : Int) ∧ Hid (RA w t n0 s k wr))
  case atStart => exact ⟨0, _, by omega, rfl, R0⟩
  case round =>
    obtain ⟨k, s, hk, rfl, U⟩ := hrel
    clear R0
    by_cases hkn : k < n0
    · have hkI : (k : Int) < (n0 : Int) := by omega
      have hkl : k < l0.length := by rw [← HN0.out]; exact hkn
      obtain ⟨b, off, rfl⟩ := ints_open HC0.out (by omega)
      obtain ⟨x, hxx⟩ : ∃ x, x = l0.getD k 0 := ⟨_, rfl⟩
      have HX := hid (fun W (hW : Below w.heap.size w W) => ints_cell (Kd.C_below HC0.out hW) k hkl)
      rw [← hxx] at HX
      have hnin : ¬ In s k := fun h => by have := (U.out.ins k hkn).1 h; omega
      have hp : P s k < 0 := by
        have h1 : k < s.w.length := by rw [U.out.wl]; exact hkn
        exact Int.not_le.1 fun h => hnin ⟨h1, h⟩
      obtain ⟨g1, g2, g3, g4⟩ := push_good U.out.good (by rw [U.out.wl]; exact hkn) hp (by rw [U.out.rl]; omega)
      have PUSH := hid (U.out.own.turn (s' := pushM s k) (Q := fun e => e = .returned (.int .i64 0)) (fun F hF => Push_new wr t s F k hF U.out.good.wf (by rw [U.out.wl]; exact hkn) hp (by rw [U.out.rl]; omega)))
      have G1 := hid g1
      have G2 := hid g2
      have G3 := hid g3
      have G4 := hid g4
      clear hxx hkl hnin hp g1 g2 g3 g4
      cases gk with
      | zero => omega
      | succ left =>
        go_wp2_with fail
        refine PUSH.out.mono ?_
        rintro e W3 ⟨rfl, o3⟩
        have O3 := hid o3
        have hx := HX.out W3 o3.bel
        have RAISE := hid (O3.out.raise G1.out (k : Int) x)
        clear o3
        go_wp2_with fail
        refine RAISE.out.mono ?_
        rintro e W4 ⟨s4, rfl, o4, g4, hw4, hl4, hin4⟩
        have R4 : Hid (RA w t n0 s4 (k + 1) W4) := hid ⟨o4, g4, by rw [hw4]; split <;> simp [G2.out, U.out.wl], by rw [hl4, G3.out, U.out.rl], fun y hy => by
          have hw : s4.w.length = n0 := by rw [hw4]; split <;> simp [G2.out, U.out.wl]
          have h1 : In s4 y ↔ 0 ≤ P s y ∨ y = k := ⟨fun h => (G4.out y).1 ((hin4 y).1 h.2), fun h => ⟨by omega, (hin4 y).2 ((G4.out y).2 h)⟩⟩
          rw [h1]
          have h2 := U.out.ins y hy
          have h3 : In s y ↔ 0 ≤ P s y := ⟨fun h => h.2, fun h => ⟨by rw [U.out.wl]; exact hy, h⟩⟩
          rw [← h3, h2]
          omega⟩
        clear o4 g4 hw4 hl4 hin4
        go_wp2_with fail
        go_roundg left
        case measure => omega
        case rel => exact ⟨k + 1, s4, by omega, rfl, R4⟩
    · obtain rfl : k = n0 := by omega
      go_wp2_with fail
      have OB : Hid (OwnS w t s ((Side.nothing.and (Side.obj wr.heap.size (.cells #[.slice none 0 0] 25 (0, 0)))).and (Side.obj (wr.heap.size + 1) (.cells #[.slice none 0 0] 25 (0, 0)))) ((wr.alloc (.cells #[.slice none 0 0] 25)).alloc (.cells #[.slice none 0 0] 25))) := hid (by
        have q1 := U.out.own.new ((Below.refl _ _).alloc (Nat.le_refl _) (.cells #[.slice none 0 0] 25)) (Side.obj wr.heap.size (.cells #[.slice none 0 0] 25 (0, 0))) (heap_alloc_new wr _) (fun j hj => by rw [show j = wr.heap.size from hj]; exact Nat.le_refl _)
        have hs : (wr.alloc (.cells #[.slice none 0 0] 25)).heap.size = wr.heap.size + 1 := by simp
        have q2 := q1.new ((Below.refl _ _).alloc (Nat.le_refl _) (.cells #[.slice none 0 0] 25)) (Side.obj (wr.alloc (.cells #[.slice none 0 0] 25)).heap.size (.cells #[.slice none 0 0] 25 (0, 0))) (heap_alloc_new _ _) (fun j hj => by rw [show j = (wr.alloc (.cells #[.slice none 0 0] 25)).heap.size from hj]; exact Nat.le_refl _)
        rw [hs] at q2
        exact q2)
      obtain ⟨Wb, hWb⟩ : ∃ V, V = (wr.alloc (.cells #[.slice none 0 0] 25)).alloc (.cells #[.slice none 0 0] 25) := ⟨_, rfl⟩
      obtain ⟨b9, hb9⟩ : ∃ b, b = wr.heap.size := ⟨_, rfl⟩
      obtain ⟨b10, hb10⟩ : ∃ b, b = wr.heap.size + 1 := ⟨_, rfl⟩
      rw [← hWb, ← hb10, ← hb9] at OB
      rw [← hWb, ← hb10, ← hb9]
      have HB9 : Hid (w.heap.size ≤ b9 ∧ b9 < b10) := hid ⟨by rw [hb9]; exact U.out.own.bel.size, by omega⟩
      have HG := hid U.out.good
      have HWL := hid U.out.wl
      have HRL := hid U.out.rl
      have HIN := hid (fun y hy => (U.out.ins y hy).2 hy)
      clear hWb hb9 hb10 U
      refine (All_calls _ _).mono ?_
      rintro e V1 ⟨rfl, rfl⟩
      have O1 := hid (OB.out.below ((Below.refl _ _).alloc (Nat.le_refl _) (.cells #[ptr t] 40)))
      obtain ⟨V1, hV1⟩ : ∃ V, V = Wb.alloc (.cells #[ptr t] 40) := ⟨_, rfl⟩
      rw [← hV1] at O1 ⊢
      clear hV1 OB
      go_wp2_with fail
      refine (All_calls _ _).mono ?_
      rintro e V2 ⟨rfl, rfl⟩
      have O2 := hid (O1.out.below ((Below.refl _ _).alloc (Nat.le_refl _) (.cells #[ptr t] 40)))
      have HBX : Hid ((V1.alloc (.cells #[ptr t] 40)).cell? ⟨V1.heap.size, 0, none⟩ = some (ptr t) ∧ V1.heap.size < (V1.alloc (.cells #[ptr t] 40)).heap.size) := hid ⟨(blk_cell (heap_alloc_new V1 _) 0).trans rfl, by simp⟩
      obtain ⟨bx, hbx⟩ : ∃ b, b = V1.heap.size := ⟨_, rfl⟩
      obtain ⟨V2, hV2⟩ : ∃ V, V = V1.alloc (.cells #[ptr t] 40) := ⟨_, rfl⟩
      rw [← hV2, ← hbx] at HBX
      rw [← hV2] at O2 ⊢
      rw [← hbx]
      clear hV2 hbx O1
      have hb9l : b9 < V2.heap.size := blk_lt O2.out.side.1.2
      have HB9L := hid hb9l
      have CB : Hid (SeqStopsK Fence.wide (5 - 1) Try.prog 46 #[.pointer (some ⟨bx, 0, none⟩)] (fun x : Int => #[Value.int .i64 x]) (Kq b9) (fun xs => xs = (allM k s).map (fun (x : Nat) => (x : Int))) (fun pre => pre <+: (allM k s).map (fun (x : Nat) => (x : Int))) k V2) := hid (by
        obtain ⟨F, h1, _, _, h4, _⟩ := O2.out
        have := all_stops V2 (5 - 1) bx t b9 s F HG.out h1 HBX.out.1 HBX.out.2 hb9l (fun v j hv hj => by
          rw [(blk_cell h4.1.2 0).trans rfl] at hv
          cases hv
          cases hj)
        rw [HRL.out] at this
        exact this)
      have CS := hid (col_start (Wl := V2) O2.out.side.1.2)
      clear hb9l HBX
      go_wp2_with fail
      refine wpIn_wide (n := 5).1 ?_
      refine wpIn_rangeFunc_ownF rfl (by decide) (gf := 46) (lb := #[.pointer (some ⟨bx, 0, none⟩)]) rfl trivial (enters_of Try.func46 (by kernel_rfl) rfl)
        CB.out Kq.trans (fun V l o o' hl h hc _ => Kq.put HB9L.out V l o o' hl h hc) (Below.refl _ _) (fun _ => rfl)
        (Col b9 V2) (fun _ _ _ => False) (col_own b9 V2) (fun _ _ _ _ _ hs _ _ => hs) CS.out ?a1 ?assign ?body ?done ?stop
      case stop => exact fun _ _ _ _ _ _ h _ => h.elim
      case assign =>
        intro l x W K hK
        gi_wp2
        exact hK
      case body =>
        rintro l pre x W hcol hl
        obtain ⟨⟨v, h1, h2, h3⟩, hk9⟩ := hcol
        obtain ⟨Av, cv, rfl, _, _⟩ := h2.shape
        rw [List.length_map] at h1 h2 h3
        have hc := (blk_cell h1 0).trans rfl
        have hpl : pre.length < 301 := by omega
        gi_wp2_with (gi_at_builtin; go_loud (refine wpIn_app _ rfl _ _ rfl _ _ (lits pre) [.int .i64 x] (by rfl) (by rfl) (h2.alloc _) (Row.one _ _ _) (by simp [Value.oneCell']) (by simp; omega) ?_; intro v' w1 hr hkv hat; have NX := hid (col_next HB9L.out hk9 h1 h2 h3 hr hkv hat); obtain ⟨A', c', rfl, _, _⟩ := hr.shape; have hln : (lits pre ++ [Value.int .i64 x]).length = pre.length + 1 := (by simp); rw [hln] at NX; try rw [hln]; clear hr hkv hat hln; have hc1 := (blk_cell NX.out.1 0).trans rfl; have hf1 := blk_frozen NX.out.1 0))
        exact ⟨NX.out.2.2.2, NX.out.2.2.1, NX.out.2.1⟩
      case done =>
        rintro D ys W hD rfl hcol hK
        obtain ⟨was, hwas⟩ : ∃ l, l = allM k s := ⟨_, rfl⟩
        have hwl : was.length = k := by rw [hwas, allM_len]
        have OC0 : ∃ A c, OwnS w t s (((Side.obj b10 (.cells #[.slice none 0 0] 25 (0, 0))).and (Side.obj b9 (.cells #[.slice A k c] 25 (0, 0)))).and (Side.row 3 (.slice A k c) (nats was)) |>.and (Side.obj D (.deferred (some [])))) W ∧ ∀ j, (Value.slice A k c).ownBlock = some j → V2.heap.size ≤ j := by
          have q := collected (S0 := Side.obj b10 (.cells #[.slice none 0 0] 25 (0, 0))) (OwnS_sub O2.out ⟨O2.out.side.2, O2.out.side.1.2⟩ (fun j hj => hj.elim .inr (fun h => .inl (.inr h)))) (fun j hj e => by have h1 : j = b10 := hj; have := HB9.out.2; omega) HB9.out.1 hcol hK hD
          rw [← hwas, List.length_map, hwl] at q
          rw [show lits (was.map (fun (x : Nat) => (x : Int))) = nats was from by simp [lits, nats]] at q
          exact q
        obtain ⟨A9, c9, oc, ow⟩ := OC0
        have OC := hid oc
        have OW := hid (fun j hj => Nat.lt_of_lt_of_le (blk_lt O2.out.side.2) (ow j hj))
        have HD1 : Hid (w.heap.size ≤ D ∧ b10 < D) := hid ⟨Nat.le_trans O2.out.bel.size hD, Nat.lt_of_lt_of_le (blk_lt O2.out.side.2) hD⟩
        have HWAS := hid hwas
        have HWL2 := hid hwl
        clear oc ow hcol hK hD O2 CB CS hwas hwl HB9L
        have RAISE := hid (OC.out.raise HG.out a1 a2)
        obtain ⟨rc, hrc⟩ : ∃ r, r = raiseE s a1 a2 := ⟨_, rfl⟩
        rw [← hrc] at RAISE
        have HRC := hid hrc
        clear hrc
        go_wp2_with fail
        refine RAISE.out.mono ?_
        rintro e W5 ⟨s5, rfl, o5, g5, hw5, hl5, hin5⟩
        have O5 := hid o5
        clear o5 RAISE OC
        by_cases hr0 : rc = 0
        · subst hr0
          rw [if_pos rfl] at hw5
          have hkn1 : knownM s a1 = true ∧ 0 ≤ a2 := by
            have h := HRC.out
            unfold raiseE at h
            by_cases c1 : knownM s a1 = false ∨ a2 < 0
            · rw [if_pos c1] at h; omega
            · refine ⟨?_, by omega⟩
              cases hkk : knownM s a1 with
              | true => rfl
              | false => exact absurd (.inl hkk) c1
          obtain ⟨hi0, hi1⟩ := (known_iff s a1).1 hkn1.1
          obtain ⟨i, rfl⟩ : ∃ i : Nat, a1 = (i : Int) := ⟨a1.toNat, by omega⟩
          rw [Int.toNat_natCast] at hw5
          have hik : i < k := by rw [HWL.out] at hi1; omega
          obtain ⟨a, a', C, hcmp⟩ := raised_cmp HG.out g5 k HWL.out HIN.out HRL.out (by rw [hl5]; exact HRL.out) i hik a2 hkn1.2 hw5 hin5
          rw [← HWAS.out] at hcmp
          obtain ⟨now, hnow⟩ : ∃ l, l = allM k s5 := ⟨_, rfl⟩
          rw [← hnow] at hcmp
          have HC := hid hcmp
          have HNOW := hid hnow
          have G5 := hid g5
          have HL5 : Hid (s5.r.length = k) := hid (by rw [hl5]; exact HRL.out)
          clear hcmp hnow g5 hw5 hl5 hin5 hkn1 hi0 hi1
          go_wp2_with fail
          refine (All_calls _ _).mono ?_
          rintro e V6 ⟨rfl, rfl⟩
          have O6 := hid (O5.out.below ((Below.refl _ _).alloc (Nat.le_refl _) (.cells #[ptr t] 40)))
          have HBX : Hid ((W5.alloc (.cells #[ptr t] 40)).cell? ⟨W5.heap.size, 0, none⟩ = some (ptr t) ∧ W5.heap.size < (W5.alloc (.cells #[ptr t] 40)).heap.size) := hid ⟨(blk_cell (heap_alloc_new W5 _) 0).trans rfl, by simp⟩
          obtain ⟨bx2, hbx⟩ : ∃ b, b = W5.heap.size := ⟨_, rfl⟩
          obtain ⟨V6, hV6⟩ : ∃ V, V = W5.alloc (.cells #[ptr t] 40) := ⟨_, rfl⟩
          rw [← hV6, ← hbx] at HBX
          rw [← hV6] at O6 ⊢
          rw [← hbx]
          clear hV6 hbx O5
          have HB10L := hid (blk_lt O6.out.side.1.1.1)
          have CB : Hid (SeqStopsK Fence.wide (5 - 1) Try.prog 46 #[.pointer (some ⟨bx2, 0, none⟩)] (fun x : Int => #[Value.int .i64 x]) (Kq b10) (fun xs => xs = now.map (fun (x : Nat) => (x : Int))) (fun pre => pre <+: now.map (fun (x : Nat) => (x : Int))) k V6) := hid (by
            obtain ⟨F, h1, _, _, h4, _⟩ := O6.out
            have := all_stops V6 (5 - 1) bx2 t b10 s5 F G5.out h1 HBX.out.1 HBX.out.2 HB10L.out (fun v j hv hj => by
              rw [(blk_cell h4.1.1.1 0).trans rfl] at hv
              cases hv
              cases hj)
            rw [HL5.out, ← HNOW.out] at this
            exact this)
          have CS := hid (col_start (Wl := V6) O6.out.side.1.1.1)
          clear HBX
          go_wp2_with fail
          refine wpIn_wide (n := 5).1 ?_
          refine wpIn_rangeFunc_ownF rfl (by decide) (gf := 46) (lb := #[.pointer (some ⟨bx2, 0, none⟩)]) rfl trivial (enters_of Try.func46 (by kernel_rfl) rfl)
            CB.out Kq.trans (fun V l o o' hl h hc _ => Kq.put HB10L.out V l o o' hl h hc) (Below.refl _ _) (fun _ => rfl)
            (Col b10 V6) (fun _ _ _ => False) (col_own b10 V6) (fun _ _ _ _ _ hs _ _ => hs) CS.out ?a2 ?assign2 ?body2 ?done2 ?stop2
          case stop2 => exact fun _ _ _ _ _ _ h _ => h.elim
          case assign2 =>
            intro l x W K hK
            gi_wp2
            exact hK
          case body2 =>
            rintro l pre x W hcol hl
            obtain ⟨⟨v, h1, h2, h3⟩, hk9⟩ := hcol
            obtain ⟨Av, cv, rfl, _, _⟩ := h2.shape
            rw [List.length_map] at h1 h2 h3
            have hc := (blk_cell h1 0).trans rfl
            have hpl : pre.length < 301 := by omega
            gi_wp2_with (gi_at_builtin; go_loud (refine wpIn_app _ rfl _ _ rfl _ _ (lits pre) [.int .i64 x] (by rfl) (by rfl) (h2.alloc _) (Row.one _ _ _) (by simp [Value.oneCell']) (by simp; omega) ?_; intro v' w1 hr hkv hat; have NX := hid (col_next HB10L.out hk9 h1 h2 h3 hr hkv hat); obtain ⟨A', c', rfl, _, _⟩ := hr.shape; have hln : (lits pre ++ [Value.int .i64 x]).length = pre.length + 1 := (by simp); rw [hln] at NX; try rw [hln]; clear hr hkv hat hln; have hc1 := (blk_cell NX.out.1 0).trans rfl; have hf1 := blk_frozen NX.out.1 0))
            exact ⟨NX.out.2.2.2, NX.out.2.2.1, NX.out.2.1⟩
          case done2 =>
            rintro D2 ys W7 hD rfl hcol hK
            have hnl : now.length = k := HC.out.nl
            have OC0 : ∃ A c, OwnS w t s5 ((((((Side.obj b9 (.cells #[.slice A9 k c9] 25 (0, 0))).and (Side.row 3 (.slice A9 k c9) (nats was))).and (Side.obj D (.deferred (some [])))).and (Side.obj b10 (.cells #[.slice A k c] 25 (0, 0)))).and (Side.row 3 (.slice A k c) (nats now))).and (Side.obj D2 (.deferred (some [])))) W7 := by
              obtain ⟨A, c, q, _⟩ := collected (S0 := ((Side.obj b9 (.cells #[.slice A9 k c9] 25 (0, 0))).and (Side.row 3 (.slice A9 k c9) (nats was))).and (Side.obj D (.deferred (some [])))) (OwnS_sub O6.out ⟨⟨⟨O6.out.side.1.1.2, O6.out.side.1.2⟩, O6.out.side.2⟩, O6.out.side.1.1.1⟩ (fun j hj => by
                rcases hj with ((h | h) | h) | h
                · exact .inl (.inl (.inr h))
                · exact .inl (.inr h)
                · exact .inr h
                · exact .inl (.inl (.inl h)))) (fun j hj e => by
                rcases hj with (h | h) | h
                · have h1 : j = b9 := h; have := HB9.out.2; omega
                · have := OW.out j h; omega
                · have h1 : j = D := h; have := HD1.out.2; omega) (Nat.le_trans HB9.out.1 (Nat.le_of_lt HB9.out.2)) hcol hK hD
              rw [List.length_map, hnl] at q
              rw [show lits (now.map (fun (x : Nat) => (x : Int))) = nats now from by simp [lits, nats]] at q
              exact ⟨A, c, q⟩
            obtain ⟨A10, c10, oc⟩ := OC0
            have OE := hid oc
            have HD2 : Hid (w.heap.size ≤ D2 ∧ D ≠ D2) := hid ⟨Nat.le_trans O6.out.bel.size hD, fun e => by have := blk_lt O6.out.side.2; omega⟩
            clear oc hcol hK hD O6 CB CS HB10L hnl
            have hc9 := (blk_cell OE.out.side.1.1.1.1.1 0).trans rfl
            have hc10 := (blk_cell OE.out.side.1.1.2 0).trans rfl
            go_wp2_with fail
            obtain ⟨zi, hzi⟩ : ∃ z, z = (i : Int) := ⟨_, rfl⟩
            rw [← hzi]
            have HZI := hid hzi
            clear hzi
            have hkb : k ≤ 300 := g0
            go_loopg [79, 13, 14, 15] k (fun left v79 v13 v14 v15 wr => ∃ n c q at_ st, left + n = k ∧ v79 = .int .i64 (n : Int) ∧ v13 = .int .i64 ((q : Nat) : Int) ∧ v14 = .int .i64 at_ ∧ v15 = .int .i64 st ∧ Hid (OwnS w t s5 ((((((Side.obj b9 (.cells #[.slice A9 k c9] 25 (0, 0))).and (Side.row 3 (.slice A9 k c9) (nats was))).and (Side.obj D (.deferred (some [])))).and (Side.obj b10 (.cells #[.slice A10 k c10] 25 (0, 0)))).and (Side.row 3 (.slice A10 k c10) (nats now))).and (Side.obj D2 (.deferred (some [])))) wr) ∧ Hid (St a a' n c q at_ st))
            case atStart => exact ⟨0, 0, 0, -1, -1, by omega, rfl, rfl, rfl, rfl, OE, hid (St.zero a a')⟩
            case round =>
              obtain ⟨n, c, q, at_, st, hln, rfl, rfl, rfl, rfl, X0, HST⟩ := hrel
              have X : Hid (OwnS w t s5 ((((((Side.obj b9 (.cells #[.slice A9 k c9] 25 (0, 0))).and (Side.row 3 (.slice A9 k c9) (nats was))).and (Side.obj D (.deferred (some [])))).and (Side.obj b10 (.cells #[.slice A10 k c10] 25 (0, 0)))).and (Side.row 3 (.slice A10 k c10) (nats now))).and (Side.obj D2 (.deferred (some [])))) wr ∧ True) := hid ⟨X0.out, trivial⟩
              clear OE X0 hc9 hc10
              have hc9 := (blk_cell X.out.1.side.1.1.1.1.1 0).trans rfl
              have hc10 := (blk_cell X.out.1.side.1.1.2 0).trans rfl
              by_cases hnk : n < k
              · have hnI : (n : Int) < (k : Int) := by omega
                have rw9 : Row wr 3 (.slice A9 k c9) (nats was) := X.out.1.side.1.1.1.1.2
                have rw10 : Row wr 3 (.slice A10 k c10) (nats now) := X.out.1.side.1.2
                have hwl := HC.out.wl
                have hnl := HC.out.nl
                obtain ⟨g9, o9, d9, hv, _, _, _, hw9, _⟩ := rw9.cells (by simp; omega)
                injection hv with hA hA2 hcc
                subst hA hcc
                obtain ⟨g10, o10, d10, hv, _, _, _, hw10, _⟩ := rw10.cells (by simp; omega)
                injection hv with hA3 hA4 hcc
                subst hA3 hcc
                obtain ⟨z1, hz1⟩ : ∃ z : Int, z = ((was.getD n 0 : Nat) : Int) := ⟨_, rfl⟩
                obtain ⟨zn, hzn⟩ : ∃ z : Int, z = ((now.getD n 0 : Nat) : Int) := ⟨_, rfl⟩
                have hxw := (hw9 n (by simp; omega)).trans (nats_get _ _ (by omega))
                have hxn := (hw10 n (by simp; omega)).trans (nats_get _ _ (by omega))
                rw [← hz1] at hxw
                rw [← hzn] at hxn
                have hwi : z1 = zi ↔ n = a := by rw [hz1, HZI.out, ← HC.out.was_i hnk]; omega
                cases gk with
                | zero => omega
                | succ left =>
                  by_cases e2 : n = a'
                  · have hb2 : (zn == zi) = true := by rw [hzn, HZI.out, e2, HC.out.now_i (by omega)]; simp
                    clear hw9 hw10 hz1 hzn hwl hnl hA2 hA4 rw9 rw10
                    by_cases e1 : n = a
                    · have hb1 : (z1 == zi) = true := beq_iff_eq.mpr (hwi.2 e1)
                      clear hwi
                      have E1 := hid e1
                      have E2 := hid e2
                      clear e1 e2
                      go_wp2_with fail
                      go_roundg left
                      case measure => omega
                      case rel => exact ⟨n + 1, c, q, (n : Int), (n : Int), by omega, rfl, rfl, rfl, rfl, hid (X.out.1), hid (HST.out.met E2.out (by rw [if_pos E1.out]))⟩
                    · have hb1 : (z1 == zi) = false := beq_eq_false_iff_ne.mpr fun h => e1 (hwi.1 h)
                      clear hwi
                      have E1 := hid e1
                      have E2 := hid e2
                      clear e1 e2
                      go_wp2_with fail
                      go_roundg left
                      case measure => omega
                      case rel => exact ⟨n + 1, c, q, (n : Int), st, by omega, rfl, rfl, rfl, rfl, hid (X.out.1), hid (HST.out.met E2.out (by rw [if_neg E1.out]))⟩
                  · obtain ⟨k1, k2, k3, k4, k5⟩ := HC.out.step HST.out hnk e2
                    have hb2 : (zn == zi) = false := beq_eq_false_iff_ne.mpr (by rw [hzn, HZI.out, k1]; omega)
                    have hqI : (q : Int) < (k : Int) := by omega
                    have hqd : decide (q < k) = true := decide_eq_true k3
                    by_cases e3 : c = a
                    · obtain ⟨m1, m2, m3⟩ := k4 e3
                      obtain ⟨zq, hzq⟩ : ∃ z : Int, z = ((was.getD q 0 : Nat) : Int) := ⟨_, rfl⟩
                      have hxq := (hw9 q (by simp; omega)).trans (nats_get _ _ (by omega))
                      rw [← hzq] at hxq
                      have hbq : (zq == zi) = true := by rw [hzq, HZI.out, m1]; simp
                      obtain ⟨q1, hq1⟩ : ∃ q1, q1 = q + 1 := ⟨_, rfl⟩
                      have hx2 := (hw9 q1 (by simp; omega)).trans (nats_get _ _ (by omega))
                      rw [hq1, m3, ← k1, ← hzn, ← hq1] at hx2
                      have eq1 : (q : Int) + 1 = (q1 : Int) := by omega
                      have hq1I : (q1 : Int) < (k : Int) := by omega
                      have hq1d : decide (k ≤ q1) = false := decide_eq_false (by omega)
                      have hq1e : decide ((k : Int) ≤ (q1 : Int)) = false := decide_eq_false (by omega)
                      have HQ1 := hid hq1
                      clear hw9 hw10 hz1 hzn hwl hnl hA2 hA4 rw9 rw10 k1 k2 k4 k5 m1 m3 hzq hq1
                      by_cases e1 : n = a
                      · have hb1 : (z1 == zi) = true := beq_iff_eq.mpr (hwi.2 e1)
                        clear hwi
                        have E1 := hid e1
                        have E2 := hid e2
                        clear e1 e2
                        have E3 := hid e3
                        clear e3
                        go_wp2_with fail
                        go_quiet (fail)
                        go_wp2_with fail
                        go_roundg left
                        case measure => omega
                        case rel => exact ⟨n + 1, c + 1, q + 2, at_, (n : Int), by omega, rfl, by first | rfl | (congr 1; omega), rfl, rfl, hid (X.out.1.drewN _), hid (HST.out.past E2.out (by rw [if_pos E1.out]) (by rw [if_pos E3.out]))⟩
                      · have hb1 : (z1 == zi) = false := beq_eq_false_iff_ne.mpr fun h => e1 (hwi.1 h)
                        clear hwi
                        have E1 := hid e1
                        have E2 := hid e2
                        clear e1 e2
                        have E3 := hid e3
                        clear e3
                        go_wp2_with fail
                        go_quiet (fail)
                        go_wp2_with fail
                        go_roundg left
                        case measure => omega
                        case rel => exact ⟨n + 1, c + 1, q + 2, at_, st, by omega, rfl, by first | rfl | (congr 1; omega), rfl, rfl, hid (X.out.1.drewN _), hid (HST.out.past E2.out (by rw [if_neg E1.out]) (by rw [if_pos E3.out]))⟩
                    · have m3 := k5 e3
                      have hx2 := (hw9 q (by simp; omega)).trans (nats_get _ _ (by omega))
                      rw [m3, ← k1, ← hzn] at hx2
                      have hqe : decide ((k : Int) ≤ (q : Int)) = false := decide_eq_false (by omega)
                      have hqe2 : decide (k ≤ q) = false := decide_eq_false (by omega)
                      clear hw9 hw10 hz1 hzn hwl hnl hA2 hA4 rw9 rw10 k1 k2 k4 k5 m3
                      by_cases e1 : n = a
                      · have hb1 : (z1 == zi) = true := beq_iff_eq.mpr (hwi.2 e1)
                        clear hwi
                        have E1 := hid e1
                        have E2 := hid e2
                        clear e1 e2
                        have E3 := hid e3
                        clear e3
                        go_wp2_with fail
                        go_quiet (fail)
                        go_wp2_with fail
                        go_roundg left
                        case measure => omega
                        case rel => exact ⟨n + 1, c + 1, q + 1, at_, (n : Int), by omega, rfl, by first | rfl | (congr 1; omega), rfl, rfl, hid (X.out.1.drewN _), hid (HST.out.past E2.out (by rw [if_pos E1.out]) (by rw [if_neg E3.out]))⟩
                      · have hb1 : (z1 == zi) = false := beq_eq_false_iff_ne.mpr fun h => e1 (hwi.1 h)
                        clear hwi
                        have E1 := hid e1
                        have E2 := hid e2
                        clear e1 e2
                        have E3 := hid e3
                        clear e3
                        go_wp2_with fail
                        go_quiet (fail)
                        go_wp2_with fail
                        go_roundg left
                        case measure => omega
                        case rel => exact ⟨n + 1, c + 1, q + 1, at_, st, by omega, rfl, by first | rfl | (congr 1; omega), rfl, rfl, hid (X.out.1.drewN _), hid (HST.out.past E2.out (by rw [if_neg E1.out]) (by rw [if_neg E3.out]))⟩
              · obtain rfl : n = k := by omega
                have hae : at_ = (a' : Int) := by rw [HST.out.aE, if_neg (by have := HC.out.an; have := HC.out.aa; omega)]
                have hse : st = (a : Int) := by rw [HST.out.sE, if_neg (by have := HC.out.an; omega)]
                subst hae hse
                have haa : (a : Int) ≥ (a' : Int) := by have := HC.out.aa; omega
                have haa2 : decide ((a : Int) ≥ (a' : Int)) = true := decide_eq_true haa
                have KN := hid (known_calls0 wr)
                go_wp2_with fail
                refine KN.out.mono ?_
                rintro e W8 ⟨rfl, b8⟩
                have O8 := hid (X.out.1.below b8)
                clear b8
                go_wp2_with fail
                have hK1' := (World.putObj_heap_other (o := .deferred none) HD2.out.2).trans O8.out.side.1.1.1.2
                refine ⟨by simp, .inl ⟨_, _, rfl, run_takeDeferred O8.out.side.2, by simp, .inl ⟨_, _, rfl, run_takeDeferred hK1', ?_⟩⟩⟩
                exact ⟨_, results_tmp rfl _ _ _, rfl, (O8.out.bel.trans (belowK_b (w := w) (Nat.le_refl _) _ D2 _ _ HD2.out.1 O8.out.side.2 rfl rfl)).trans (belowK_b (w := w) (Nat.le_refl _) _ D _ _ HD1.out.1 hK1' rfl rfl)⟩
        · have hrb : (rc == 0) = false := by simpa using hr0
          clear hr0
          have KN := hid (known_calls0 W5)
          go_wp2_with fail
          refine KN.out.mono ?_
          rintro e W6 ⟨rfl, b6⟩
          have O6 := hid (O5.out.below b6)
          clear b6
          go_wp2_with fail
          refine ⟨by simp, .inl ⟨_, _, rfl, run_takeDeferred O6.out.side.2, ?_⟩⟩
          exact ⟨_, results_tmp rfl _ _ _, rfl, O6.out.bel.trans (belowK_b (w := w) (Nat.le_refl _) _ D _ _ HD1.out.1 O6.out.side.2 rfl rfl)⟩
set_option maxRecDepth 100000 in
set_option maxHeartbeats 1600000 in
theorem raises_walk (w : World) (A0 : Option Addr) (c0 : Nat) (l0 : List Int) (a1 a2 : Int) (h0 : Kd.C (Kd.int .i64) w A0 l0.length l0) :
    Calls Try.prog 6 #[.slice A0 l0.length c0, .int .i64 a1, .int .i64 a2] w fun e w' => e = .returned (.bool true) ∧ Below w.heap.size w w' := by
  by_cases g0 : l0.length ≤ 300
  · exact raises_main w A0 c0 l0 a1 a2 h0 g0
  · have d0 : (l0.length : Int) > 300 := by omega
    have KN := hid (HM.known_calls0 w)
    clear h0 g0
    go_enter Try.func6, Try.ntmps6
    go_wp2_with fail
    refine KN.out.mono ?_
    rintro e w9 ⟨rfl, b9⟩
    go_wp2_with fail
    go_ret
    exact ⟨rfl, b9⟩
def juristlaw02_HeapRaises.f (_l0 : List Int) (_a1 _a2 : Int) : Option Bool := some true
theorem juristlaw02_HeapRaises.calls (A0 : Option Addr) (c0 : Nat) (l0 : List Int) (a1 a2 : Int) (r : Bool) (w : World) (h0 : Kd.C (Kd.int .i64) w A0 l0.length l0) (_ : l0.length ≤ c0) (h : juristlaw02_HeapRaises.f l0 a1 a2 = some r) :
    Calls Try.prog 6 #[.slice A0 l0.length c0, .int .i64 a1, .int .i64 a2] w fun e w' => e = .returned (.bool r) ∧ Below w.heap.size w w' := by
  cases h
  exact raises_walk w A0 c0 l0 a1 a2 h0
end Go.Proofs.Ytegcfaohhcjajaa.Hk
