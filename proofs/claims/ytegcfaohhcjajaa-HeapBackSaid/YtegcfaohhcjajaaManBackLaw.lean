/- Walk of the law HeapBack. -/
import Derived.Test.YtegcfaohhcjajaaOwnT
namespace Go.Proofs.Ytegcfaohhcjajaa.Hk
open Go.RowKit Go.Proofs.YtegcfaohhcjajaaW.PrintWords Go.Proofs.YtegcfaohhcjajaaW.PrintLast Go.Proofs.YtegcfaohhcjajaaW.PrintMore Go.Proofs.Ytegcfaohhcjajaa.MM Go.Proofs.Ytegcfaohhcjajaa.TS
attribute [local go_sem ↓] Go.wp_at_zero Go.wp_at_succ
set_option linter.unusedSimpArgs false
set_option linter.unusedVariables false

structure BackAt1 (w : World) (t : Nat) (l : List ByteArray) (k : Nat) (wr : World) : Prop where
  own : TS.Own w t (l.take k) [] wr
  kl : k ≤ l.length
structure BackAt2 (w : World) (t : Nat) (l m : List ByteArray) (k : Nat) (ms : List Nat) (wr : World) : Prop where
  own : TS.Own w t (l ++ m.take k) (l.length :: ms) wr
  kl : k ≤ m.length
  msl : ms.length ≤ k
structure BackAt3 (w : World) (t : Nat) (l m : List ByteArray) (A : Option Addr) (n c : Nat) (wr : World) : Prop where
  own : TS.Own w t l [] wr
  row : Row wr 9 (.slice A n c) (elems m.reverse)
theorem BackAt3.below {w wr W : World} {t n c : Nat} {l m : List ByteArray} {A : Option Addr} (h : BackAt3 w t l m A n c wr) (hb : Below wr.heap.size wr W) : BackAt3 w t l m A n c W :=
  ⟨h.own.below hb, h.row.keep (Keep.ofBelow (F := fun _ => False) hb) (fun _ _ h => h)⟩
theorem take_snoc (l : List ByteArray) (k : Nat) (h : k < l.length) : l.take k ++ [l.getD k ByteArray.empty] = l.take (k + 1) := by
  rw [List.take_succ_eq_append_getElem h, List.getD_eq_getElem?_getD, List.getElem?_eq_getElem h]
  rfl
set_option maxRecDepth 100000 in
set_option maxHeartbeats 3200000 in
theorem back_main (w : World) (A0 : Option Addr) (c0 : Nat) (l0 : List ByteArray) (A1 : Option Addr) (c1 : Nat) (l1 : List ByteArray) (a2 : Int) (h0 : Kd.string.C w A0 l0.length l0) (h1 : Kd.string.C w A1 l1.length l1) (g0 : l0.length ≤ 300) (g1 : l1.length ≤ 300) (g2 : 0 ≤ a2) (g3 : a2 ≤ 100) :
    Calls Try.prog 5 #[.slice A0 l0.length c0, .slice A1 l1.length c1, .int .i64 a2] w fun e w' => e = .returned (.bool true) ∧ Below w.heap.size w w' := by
  obtain ⟨n0, hn0⟩ : ∃ n, n = l0.length := ⟨_, rfl⟩
  obtain ⟨n1, hn1⟩ : ∃ n, n = l1.length := ⟨_, rfl⟩
  rw [← hn0] at h0 g0 ⊢
  rw [← hn1] at h1 g1 ⊢
  have d0 : ¬ ((n0 : Int) > 300) := by omega
  have d1 : ¬ ((n1 : Int) > 300) := by omega
  have d2 : ¬ (a2 < 0) := by omega
  have d3 : ¬ (a2 > 100) := by omega
  have HC0 := hid h0
  have HC1 := hid h1
  have HN0 := hid hn0
  have HN1 := hid hn1
  have OZ := hid (own_zero (Below.refl w.heap.size w))
  clear h0 h1 hn0 hn1
  go_enter Try.func5, Try.ntmps5
  go_wp2_with fail
  obtain ⟨t, ht⟩ : ∃ t, t = w.heap.size := ⟨_, rfl⟩
  obtain ⟨W0, hW0⟩ : ∃ W, W = w.alloc (.cells #[.slice none 0 0, .slice none 0 0] 27) := ⟨_, rfl⟩
  rw [← hW0, ← ht] at OZ ⊢
  clear hW0 ht
  go_loopg [35] n0 (fun left v35 wr => ∃ k, left + k = n0 ∧ v35 = .int .i64 (k : Int) ∧ Hid (BackAt1 w t l0 k wr))
  case atStart => exact ⟨0, by omega, rfl, hid ⟨OZ.out, by omega⟩⟩
  case round =>
    obtain ⟨k, hk, rfl, U⟩ := hrel
    by_cases hkn : k < n0
    · have hkI : (k : Int) < (n0 : Int) := by omega
      have hkl : k < l0.length := by rw [← HN0.out]; exact hkn
      obtain ⟨b, off, rfl⟩ := strs_open HC0.out (by omega)
      have hx := strs_cell (Kd.C_below HC0.out U.out.own.bel) k hkl
      obtain ⟨x, hxx⟩ : ∃ x, x = l0.getD k ByteArray.empty := ⟨_, rfl⟩
      rw [← hxx] at hx
      have PUSH := hid (own_push U.out.own x (by have := HN0.out; simp; omega))
      have HXX := hid hxx
      have HKL := hid hkl
      clear hxx hkl
      go_wp2_with fail
      refine PUSH.out.mono ?_
      rintro e w2 ⟨rfl, o2⟩
      rw [HXX.out, take_snoc _ _ HKL.out] at o2
      have O2 := hid o2
      clear o2
      cases gk with
      | zero => omega
      | succ left =>
        go_wp2_with fail
        go_roundg left
        case measure => omega
        case rel => exact ⟨k + 1, by omega, rfl, hid ⟨O2.out, by have := HKL.out; omega⟩⟩
    · obtain rfl : k = n0 := by have := U.out.kl; have := HN0.out; omega
      have hfull : l0.take k = l0 := List.take_of_length_le (by have := HN0.out; omega)
      have ho := U.out.own
      rw [hfull] at ho
      have MARK := hid (own_mark ho (by decide) (by have := HN0.out; omega))
      clear hfull ho
      go_wp2_with fail
      refine MARK.out.mono ?_
      rintro e w2 ⟨rfl, o2⟩
      have O2 := hid o2
      clear o2
      go_wp2_with fail
      have hm1 : ([] : List Nat) ++ [l0.length] = l0.length :: [] := rfl
      rw [hm1] at O2
      go_loopg [47] n1 (fun left v47 wr => ∃ j ms, left + j = n1 ∧ v47 = .int .i64 (j : Int) ∧ Hid (BackAt2 w t l0 l1 j ms wr))
      case atStart => exact ⟨0, [], by omega, rfl, hid ⟨by rw [List.take_zero, List.append_nil]; exact O2.out, by omega, by simp⟩⟩
      case round =>
        obtain ⟨j, ms, hj, rfl, V⟩ := hrel
        clear O2 U MARK
        by_cases hjn : j < n1
        · have hjI : (j : Int) < (n1 : Int) := by omega
          have hjl : j < l1.length := by rw [← HN1.out]; exact hjn
          obtain ⟨b, off, rfl⟩ := strs_open HC1.out (by omega)
          obtain ⟨x, hxx⟩ : ∃ x, x = l1.getD j ByteArray.empty := ⟨_, rfl⟩
          have HX := hid (fun W (hW : Below w.heap.size w W) => strs_cell (Kd.C_below HC1.out hW) j hjl)
          rw [← hxx] at HX
          have HXX := hid hxx
          have HJL := hid hjl
          have hlen : (l0 ++ l1.take j).length < 1000000 := by have := HN0.out; have := HN1.out; simp; omega
          have hmsl : (l0.length :: ms).length < 1000000 := by have := V.out.msl; simp; omega
          have HLEN := hid hlen
          have HMSL := hid hmsl
          have happ : (l0 ++ l1.take j) ++ [x] = l0 ++ l1.take (j + 1) := by rw [List.append_assoc, hxx, take_snoc _ _ hjl]
          have HAPP := hid happ
          clear hxx hjl hlen hmsl happ
          cases gk with
          | zero => omega
          | succ left =>
            by_cases hja : (j : Int) < a2
            · have MARK := hid (own_mark V.out.own HMSL.out HLEN.out)
              go_wp2_with fail
              refine MARK.out.mono ?_
              rintro e w3 ⟨rfl, o3⟩
              have hx := HX.out w3 o3.bel
              have PUSH := hid (own_push o3 x HLEN.out)
              clear o3
              go_wp2_with fail
              refine PUSH.out.mono ?_
              rintro e w4 ⟨rfl, o4⟩
              rw [HAPP.out, List.cons_append] at o4
              have O4 := hid o4
              clear o4
              go_wp2_with fail
              go_roundg left
              case measure => omega
              case rel => exact ⟨j + 1, _, by omega, rfl, hid ⟨O4.out, by have := HJL.out; omega, by have := V.out.msl; simp; omega⟩⟩
            · have hx := HX.out wr V.out.own.bel
              have PUSH := hid (own_push V.out.own x HLEN.out)
              go_wp2_with fail
              refine PUSH.out.mono ?_
              rintro e w4 ⟨rfl, o4⟩
              rw [HAPP.out] at o4
              have O4 := hid o4
              clear o4
              go_wp2_with fail
              go_roundg left
              case measure => omega
              case rel => exact ⟨j + 1, _, by omega, rfl, hid ⟨O4.out, by have := HJL.out; omega, by have := V.out.msl; omega⟩⟩
        · obtain rfl : j = n1 := by have := V.out.kl; have := HN1.out; omega
          have BACK : Hid (Calls Try.prog 13 #[TS.ptr t, .int .i64 0] wr fun e w' => ∃ A c, e = .returned (.slice A j c) ∧ Hid (BackAt3 w t l0 l1 A j c w')) := hid (by
            have ho := V.out.own
            rw [List.take_of_length_le (by have := HN1.out; omega)] at ho
            refine (own_back ho 0 l0.length rfl (by simp) (by have := HN0.out; have := HN1.out; simp; omega) (by have := V.out.msl; simp; omega)).mono fun e w' h => ?_
            obtain ⟨A, c, he, hr, _, hown⟩ := h
            have e1 : (l0 ++ l1).length - l0.length = j := by have := HN1.out; simp; omega
            rw [e1] at he hr
            rw [List.drop_left] at hr
            rw [List.take_left] at hown
            exact ⟨A, c, he, hid ⟨hown, hr⟩⟩)
          go_wp2_with fail
          refine BACK.out.mono ?_
          rintro e w5 ⟨A, c, rfl, B3⟩
          have LEN := hid (own_len B3.out.own)
          rw [← HN0.out] at LEN
          go_wp2_with fail
          refine LEN.out.mono ?_
          rintro e w6 ⟨rfl, b6⟩
          have B6 := hid (B3.out.below b6)
          clear b6
          have LEV := hid (own_level B6.out.own)
          go_wp2_with fail
          refine LEV.out.mono ?_
          rintro e w7 ⟨rfl, b7⟩
          have B7 := hid (B6.out.below b7)
          clear b7 B3 B6 LEN LEV BACK
          go_wp2_with fail
          go_loopg [80] j (fun left v80 wr => ∃ i, left + i = j ∧ v80 = .int .i64 (i : Int) ∧ Hid (BackAt3 w t l0 l1 A j c wr))
          case atStart => exact ⟨0, by omega, rfl, B7⟩
          case round =>
            obtain ⟨i, hi, rfl, T⟩ := hrel
            clear B7 V
            by_cases hij : i < j
            · have hijI : (i : Int) < (j : Int) := by omega
              obtain ⟨p, hp⟩ : ∃ p, j = p + 1 := ⟨j - 1, by omega⟩
              obtain ⟨q, hq⟩ : ∃ q, q = p - i := ⟨_, rfl⟩
              have e1 : (j : Int) - 1 = (p : Int) := by omega
              have e2 : (p : Int) - (i : Int) = (q : Int) := by omega
              have hqj : (q : Int) < (j : Int) := by omega
              obtain ⟨b, off, rfl⟩ := strs_open HC1.out (by have := HN1.out; omega)
              have hx := strs_cell (Kd.C_below HC1.out T.out.own.bel) q (by have := HN1.out; omega)
              obtain ⟨x, hxx⟩ : ∃ x, x = l1.getD q ByteArray.empty := ⟨_, rfl⟩
              rw [← hxx] at hx
              obtain ⟨g, og, cg, hv, _, _, hg, hcells, _⟩ := T.out.row.cells (by have := HN1.out; simp; omega)
              injection hv with hA hA2 hcc
              subst hA hcc
              have hy := hcells i (by have := HN1.out; simp; omega)
              have hel : (elems l1.reverse)[i]? = some (.string x) := by
                have h1 : i < l1.reverse.length := by have := HN1.out; simp; omega
                rw [elems_get _ _ h1, List.getElem_reverse, hxx, List.getD_eq_getElem?_getD]
                have h2 : l1.length - 1 - i = q := by have := HN1.out; omega
                simp only [h2]
                rw [List.getElem?_eq_getElem (by have := HN1.out; omega)]
                rfl
              rw [hel] at hy
              have eqw1 : IntKind.i64.wrap (p : Int) = (p : Int) := by simp [IntKind.wrap, IntKind.signed, IntKind.bits]; omega
              have eqw2 : IntKind.i64.wrap (q : Int) = (q : Int) := by simp [IntKind.wrap, IntKind.signed, IntKind.bits]; omega
              clear hp hq hxx hcells hg hel hA2
              cases gk with
              | zero => omega
              | succ left =>
                go_wp2_with fail
                go_quiet (fail)
                go_wp2_with fail
                go_roundg left
                case measure => clear eqw1 eqw2; omega
                case rel => exact ⟨i + 1, by clear eqw1 eqw2; omega, rfl, hid (T.out.below (pw_below_drewN (Below.refl _ _) _))⟩
            · obtain rfl : i = j := by omega
              go_wp2_with fail
              go_loopg [99] k (fun left v99 wr => ∃ i, left + i = k ∧ v99 = .int .i64 (i : Int) ∧ Hid (TS.Own w t l0 [] wr))
              case atStart => exact ⟨0, by omega, rfl, hid T.out.own⟩
              case round =>
                obtain ⟨a, ha, rfl, X⟩ := hrel
                clear T
                by_cases hak : a < k
                · have hakI : (a : Int) < (k : Int) := by omega
                  have hal : a < l0.length := by have := HN0.out; omega
                  obtain ⟨b, off, rfl⟩ := strs_open HC0.out (by omega)
                  obtain ⟨x, hxx⟩ : ∃ x, x = l0.getD a ByteArray.empty := ⟨_, rfl⟩
                  have HX := hid (fun W (hW : Below w.heap.size w W) => strs_cell (Kd.C_below HC0.out hW) a hal)
                  have AT := hid (own_at X.out (a : Int))
                  rw [if_pos ⟨by omega, by omega⟩, Int.toNat_natCast] at AT
                  rw [← hxx] at HX AT
                  clear hxx hal
                  cases gk with
                  | zero => omega
                  | succ left =>
                    go_wp2_with fail
                    refine AT.out.mono ?_
                    rintro e w8 ⟨rfl, b8, o8⟩
                    have O8 := hid o8
                    have hx := HX.out w8 o8.bel
                    clear b8 o8
                    go_wp2_with fail
                    go_roundg left
                    case measure => omega
                    case rel => exact ⟨a + 1, by omega, rfl, O8⟩
                · obtain rfl : a = k := by omega
                  have KN := hid (HM.known_calls0 wr)
                  go_wp2_with fail
                  refine KN.out.mono ?_
                  rintro e w9 ⟨rfl, b9⟩
                  have B9 := hid b9
                  clear b9
                  go_wp2_with fail
                  go_ret
                  exact ⟨rfl, HM.below_trans X.out.bel (HM.below_le B9.out X.out.bel.size)⟩
theorem back_walk (w : World) (A0 : Option Addr) (c0 : Nat) (l0 : List ByteArray) (A1 : Option Addr) (c1 : Nat) (l1 : List ByteArray) (a2 : Int) (h0 : Kd.string.C w A0 l0.length l0) (h1 : Kd.string.C w A1 l1.length l1) :
    Calls Try.prog 5 #[.slice A0 l0.length c0, .slice A1 l1.length c1, .int .i64 a2] w fun e w' => e = .returned (.bool true) ∧ Below w.heap.size w w' := by
  by_cases g0 : l0.length ≤ 300
  · by_cases g1 : l1.length ≤ 300
    · by_cases g2 : 0 ≤ a2
      · by_cases g3 : a2 ≤ 100
        · exact back_main w A0 c0 l0 A1 c1 l1 a2 h0 h1 g0 g1 g2 g3
        · have d0 : ¬ ((l0.length : Int) > 300) := by omega
          have d1 : ¬ ((l1.length : Int) > 300) := by omega
          have d2 : ¬ (a2 < 0) := by omega
          have d3 : a2 > 100 := by omega
          have KN := hid (HM.known_calls0 w)
          clear h0 h1 g0 g1 g2 g3
          go_enter Try.func5, Try.ntmps5
          go_wp2_with fail
          refine KN.out.mono ?_
          rintro e w9 ⟨rfl, b9⟩
          go_wp2_with fail
          go_ret
          exact ⟨rfl, b9⟩
      · have d0 : ¬ ((l0.length : Int) > 300) := by omega
        have d1 : ¬ ((l1.length : Int) > 300) := by omega
        have d2 : a2 < 0 := by omega
        have KN := hid (HM.known_calls0 w)
        clear h0 h1 g0 g1 g2
        go_enter Try.func5, Try.ntmps5
        go_wp2_with fail
        refine KN.out.mono ?_
        rintro e w9 ⟨rfl, b9⟩
        go_wp2_with fail
        go_ret
        exact ⟨rfl, b9⟩
    · have d0 : ¬ ((l0.length : Int) > 300) := by omega
      have d1 : (l1.length : Int) > 300 := by omega
      have KN := hid (HM.known_calls0 w)
      clear h0 h1 g0 g1
      go_enter Try.func5, Try.ntmps5
      go_wp2_with fail
      refine KN.out.mono ?_
      rintro e w9 ⟨rfl, b9⟩
      go_wp2_with fail
      go_ret
      exact ⟨rfl, b9⟩
  · have d0 : (l0.length : Int) > 300 := by omega
    have KN := hid (HM.known_calls0 w)
    clear h0 h1 g0
    go_enter Try.func5, Try.ntmps5
    go_wp2_with fail
    refine KN.out.mono ?_
    rintro e w9 ⟨rfl, b9⟩
    go_wp2_with fail
    go_ret
    exact ⟨rfl, b9⟩
def juristlaw02_HeapBack.f (_l0 : List ByteArray) (_l1 : List ByteArray) (_a2 : Int) : Option Bool := some true
theorem juristlaw02_HeapBack.calls (A0 : Option Addr) (c0 : Nat) (l0 : List ByteArray) (A1 : Option Addr) (c1 : Nat) (l1 : List ByteArray) (a2 : Int) (r : Bool) (w : World) (h0 : Kd.string.C w A0 l0.length l0) (_ : l0.length ≤ c0) (h1 : Kd.string.C w A1 l1.length l1) (_ : l1.length ≤ c1) (h : juristlaw02_HeapBack.f l0 l1 a2 = some r) :
    Calls Try.prog 5 #[.slice A0 l0.length c0, .slice A1 l1.length c1, .int .i64 a2] w fun e w' => e = .returned (.bool r) ∧ Below w.heap.size w w' := by
  cases h
  exact back_walk w A0 c0 l0 A1 c1 l1 a2 h0 h1
end Go.Proofs.Ytegcfaohhcjajaa.Hk
