/- Walk of the law LinksSound. -/
import Derived.Test.YtpopohkbffhckaaDoorManMoreKLaw
import Derived.Test.YtpopohkbffhckaaDoorPSound
namespace Go.Proofs.YtpopohkbffhckaaDoor.KL
open Go.Proofs.YtpopohkbffhckaaDoor.Pure Go.RowKit Go.Proofs.YtpopohkbffhckaaDoorW.PrintWords Go.Proofs.YtpopohkbffhckaaDoorW.PrintLast Go.Proofs.YtpopohkbffhckaaDoorW.PrintMore Go.Proofs.YtpopohkbffhckaaDoor.MM Go.Proofs.YtpopohkbffhckaaDoor.Hk Go.Proofs.YtpopohkbffhckaaDoor.RC
attribute [local go_sem] max2_int min2_int
set_option linter.unusedSimpArgs false
set_option linter.unusedVariables false
theorem sound_all {v : List Vx} {a : List At} {l : List Lk} {value : List Int} {r : List Int} (h : checkR v a l = (r, 0)) (hf : FitsP v value) (hh : ∀ i, i < r.length → holdsM a value (rd r (i : Int)) = true) : False := by
  obtain ⟨h1, s, h2, h3⟩ := check_ok (v := v) (a := a) (l := l) (by rw [h])
  rw [h] at h3
  have hr : r = LF.canon s := congrArg Prod.fst h3
  refine sound value hf l [] [] s h2 (by simp) fun y hy => ?_
  have : y ∈ r := by rw [hr, LF.mem_canon]; exact hy
  obtain ⟨i, hi, rfl⟩ := List.mem_iff_getElem.1 this
  rw [← rd_lt hi]
  exact hh i hi
theorem check_lits {v : List Vx} {a : List At} {l : List Lk} {r : List Int} (h : checkR v a l = (r, 0)) : ∀ y ∈ r, (atomM a y).isSome = true := by
  obtain ⟨h1, s, h2, h3⟩ := check_ok (v := v) (a := a) (l := l) (by rw [h])
  rw [h] at h3
  have hr : r = LF.canon s := congrArg Prod.fst h3
  intro y hy
  rw [hr, LF.mem_canon] at hy
  exact chk_range l _ _ _ _ h2 (by simp) y hy
set_option maxRecDepth 100000 in
set_option maxHeartbeats 6400000 in
theorem sound_law (A0 : Option Addr) (c0 : Nat) (v : List Vx) (A1 : Option Addr) (c1 : Nat) (a : List At) (A2 : Option Addr) (c2 : Nat) (l : List Lk) (A3 : Option Addr) (c3 : Nat) (value : List Int) (w : World)
    (hv : Kd.C k46 w A0 v.length v) (hc0 : v.length ≤ c0) (ha : Kd.C k66 w A1 a.length a) (hc1 : a.length ≤ c1) (hl : Kd.C k36 w A2 l.length l) (hc2 : l.length ≤ c2) (hva : Kd.C (Kd.int .i64) w A3 value.length value) (hc3 : value.length ≤ c3)
    (hno : Noth w) (bv : v.length < 4611686018427387904) (bl : l.length < 4611686018427387904) (hwf : ∀ x ∈ l, (Lit.int .i64 x.f1).wf = true) :
    Calls Tryd.prog 4 #[.slice A0 v.length c0, .slice A1 a.length c1, .slice A2 l.length c2, .slice A3 value.length c3] w (True1 w) := by
  have HKN := hid (fun W (hW : Below w.heap.size w W) => known_calls W (hno.below hW hno.pos))
  have HLG := hid (large_calls A0 c0 v A1 c1 a A2 c2 l w hv hc0 ha hc1 hl hc2 bv bl)
  have HCK := hid (fun W (hW : Below w.heap.size w W) (h1 : v.length ≤ 1000) (h2 : a.length ≤ 1000) (h3 : l.length ≤ 1000) (h4 : ∀ x ∈ l, (Lit.int .i64 x.f1).wf = true ∧ x.f6.length ≤ 1000) => check_calls A0 c0 v A1 c1 a A2 c2 l W (Kd.C_below hv hW) hc0 (Kd.C_below ha hW) hc1 (Kd.C_below hl hW) (hno.below hW hno.pos) h1 h2 h3 h4)
  have HFT := hid (fun (k : Nat) (r : Bool) W (hW : Below w.heap.size w W) (h : juristref17_Fits.f k v value = some r) => juristref17_Fits.calls k A0 c0 v A3 c3 value r W (Kd.C_below hv hW) hc0 (Kd.C_below hva hW) hc3 h)
  have HHD := hid (fun (y : Int) (r : Bool) W (hW : Below w.heap.size w W) (h : juristref17_Holds.f a y value = some r) => juristref17_Holds.calls A1 c1 a y A3 c3 value r W (Kd.C_below ha hW) hc1 (Kd.C_below hva hW) hc3 h)
  have hbva : value.length ≤ 9223372036854775807 := hva.2.1
  have HWF := hid hwf
  obtain ⟨nv, hnv⟩ : ∃ n, n = v.length := ⟨_, rfl⟩
  obtain ⟨na, hna⟩ : ∃ n, n = a.length := ⟨_, rfl⟩
  obtain ⟨nl, hnl⟩ : ∃ n, n = l.length := ⟨_, rfl⟩
  obtain ⟨nw, hnw⟩ : ∃ n, n = value.length := ⟨_, rfl⟩
  rw [← hnv, ← hna, ← hnl] at HLG HCK
  rw [← hnv, ← hnw] at HFT
  rw [← hna, ← hnw] at HHD
  rw [← hnv, ← hna, ← hnl, ← hnw]
  rw [← hnw] at hbva
  have HN := hid (And.intro hnv (And.intro hna (And.intro hnl hnw)))
  clear hv hc0 ha hc1 hl hc2 hva hc3 hno bv bl hwf hnv hna hnl hnw
  cases hlg : largeM v a l with
  | true =>
    rw [hlg] at HLG
    clear hlg
    go_enter Tryd.func4, Tryd.ntmps4
    go_wp2_with fail
    refine HLG.out.mono ?_
    rintro e w1 ⟨rfl, hb1⟩
    have HB1 := hid hb1
    clear hb1
    go_wp2_with fail
    refine (HKN.out w1 HB1.out).mono ?_
    rintro e w2 ⟨rfl, hb2⟩
    have HB2 := hid (HB1.out.trans (hb2.mono HB1.out.size))
    clear hb2
    go_wp2
    go_ret
    exact ⟨rfl, HB2.out⟩
  | false =>
    have hlf := large_false hlg
    rw [hlg] at HLG
    have hv100 : nv ≤ 100 := by have := HN.out.1; omega
    have ha200 : na ≤ 200 := by have := HN.out.2.1; omega
    have hl300 : nl ≤ 300 := by have := HN.out.2.2.1; omega
    have HLF := hid hlf
    have HWL := hid (show ∀ x ∈ l, (Lit.int .i64 x.f1).wf = true ∧ x.f6.length ≤ 1000 from fun x hx => ⟨HWF.out x hx, by have := hlf.2.2.2.2 x hx; omega⟩)
    clear hlg hlf
    by_cases hw200 : nw > 200
    · have f1 : decide ((nw : Int) > 200) = true := by simp; omega
      go_enter Tryd.func4, Tryd.ntmps4
      go_wp2_with fail
      refine HLG.out.mono ?_
      rintro e w1 ⟨rfl, hb1⟩
      have HB1 := hid hb1
      clear hb1
      go_wp2_with fail
      refine (HKN.out w1 HB1.out).mono ?_
      rintro e w2 ⟨rfl, hb2⟩
      have HB2 := hid (HB1.out.trans (hb2.mono HB1.out.size))
      clear hb2
      go_wp2
      go_ret
      exact ⟨rfl, HB2.out⟩
    have f1 : decide ((nw : Int) > 200) = false := by simp; omega
    have HCK2 := hid (fun W hW => HCK.out W hW (by omega) (by omega) (by omega) HWL.out)
    have hcode := check_code v a l
    have hlen := check_len v a l
    obtain ⟨⟨r, n⟩, hrn⟩ : ∃ r, checkR v a l = r := ⟨_, rfl⟩
    rw [hrn] at HCK2 hcode hlen
    have hlen' : r.length ≤ 300 := by have h1 := HN.out.2.2.1; replace hlen : r.length ≤ l.length := hlen; omega
    have HRN := hid hrn
    clear hrn HCK hlen
    by_cases hn0 : n = 0
    case neg =>
      have hn1 : (n != 0) = true := by simpa using hn0
      go_enter Tryd.func4, Tryd.ntmps4
      go_wp2_with fail
      refine HLG.out.mono ?_
      rintro e w1 ⟨rfl, hb1⟩
      have HB1 := hid hb1
      clear hb1
      go_wp2_with fail
      refine (HCK2.out w1 HB1.out).mono ?_
      rintro e w4 ⟨Ax, cx, rfl, hcx, hCx, hb4⟩
      have HB4 := hid (HB1.out.trans (hb4.mono HB1.out.size))
      clear hb4 hcx hCx
      go_wp2_with fail
      refine (HKN.out w4 HB4.out).mono ?_
      rintro e w2 ⟨rfl, hb2⟩
      have HB2 := hid (HB4.out.trans (hb2.mono HB4.out.size))
      clear hb2
      go_wp2
      go_ret
      exact ⟨rfl, HB2.out⟩
    subst hn0
    have hmay := (check_ok (v := v) (a := a) (l := l) (by rw [HRN.out])).1
    have hrg := may_range hmay
    obtain ⟨b, hfe, hfb⟩ := fits_ev (v := v) (value := value) hrg.2.1 hrg.1 (by have := HN.out.2.2.2; omega) (fun x hx => by have := HLF.out.2.2.2.1 x hx; omega)
    obtain ⟨kf, hkf⟩ := hfe.rounds
    have HFC := hid (fun W hW => HFT.out kf b W hW hkf)
    have HRG := hid hrg
    have HLT := hid (check_lits HRN.out)
    clear hmay hrg hfe hkf HFT
    cases b with
    | false =>
      go_enter Tryd.func4, Tryd.ntmps4
      go_wp2_with fail
      refine HLG.out.mono ?_
      rintro e w1 ⟨rfl, hb1⟩
      have HB1 := hid hb1
      clear hb1
      go_wp2_with fail
      refine (HCK2.out w1 HB1.out).mono ?_
      rintro e w4 ⟨Ax, cx, rfl, hcx, hCx, hb4⟩
      have HB4 := hid (HB1.out.trans (hb4.mono HB1.out.size))
      clear hb4 hcx hCx
      go_wp2_with fail
      refine (HFC.out w4 HB4.out).mono ?_
      rintro e w5 ⟨rfl, hd5⟩
      have HB5 := hid (HB4.out.trans (hd5.below.mono HB4.out.size))
      clear hd5
      go_wp2_with fail
      refine (HKN.out w5 HB5.out).mono ?_
      rintro e w2 ⟨rfl, hb2⟩
      have HB2 := hid (HB5.out.trans (hb2.mono HB5.out.size))
      clear hb2
      go_wp2
      go_ret
      exact ⟨rfl, HB2.out⟩
    | true =>
      have HFP := hid (hfb rfl)
      clear hfb
      go_enter Tryd.func4, Tryd.ntmps4
      go_wp2_with fail
      refine HLG.out.mono ?_
      rintro e w1 ⟨rfl, hb1⟩
      have HB1 := hid hb1
      clear hb1
      go_wp2_with fail
      refine (HCK2.out w1 HB1.out).mono ?_
      rintro e w4 ⟨Ax, cx, rfl, hcx, hCx, hb4⟩
      have HX := hid (And.intro hcx hCx)
      have HB4 := hid (HB1.out.trans (hb4.mono HB1.out.size))
      clear hb4 hcx hCx
      obtain ⟨nr, hnr⟩ : ∃ n, n = r.length := ⟨_, rfl⟩
      try simp only [← hnr]
      have HNR := hid hnr
      have hnr' : nr ≤ 300 := by omega
      clear hnr hlen'
      go_wp2_with fail
      refine (HFC.out w4 HB4.out).mono ?_
      rintro e w5 ⟨rfl, hd5⟩
      have HB45 := hid hd5.below
      have HB5 := hid (HB4.out.trans (hd5.below.mono HB4.out.size))
      clear hd5
      go_wp2_with fail
      go_loopg [11, 12, 41] nr (fun left v11 v12 v41 wr => ∃ i : Nat, i + left = nr ∧ v41 = .int .i64 i ∧ Hid (Below w5.heap.size w5 wr) ∧ Hid (∀ j, j < i → holdsM a value (rd r (j : Int)) = true))
      case atStart => exact ⟨0, by omega, rfl, hid (Below.refl _ _), hid (by simp)⟩
      case round =>
        obtain ⟨i, hi, rfl, HW, HH⟩ := hrel
        have HBR := hid (HB5.out.trans (HW.out.mono HB5.out.size))
        cases gk with
        | zero => exact (sound_all HRN.out HFP.out.1 (fun j hj => HH.out j (by have := HNR.out; omega))).elim
        | succ left =>
          have hin : (i : Int) < (nr : Int) := by omega
          have hir : i < r.length := by have := HNR.out; omega
          obtain ⟨ax, rfl, q0⟩ := Kd.at_int (Kd.C_below HX.out.2 (HB45.out.trans (HW.out.mono HB45.out.size))) (i : Int) (by omega) (by have := HNR.out; omega)
          rw [Int.toNat_natCast] at q0
          obtain ⟨x, hx⟩ := Option.isSome_iff_exists.1 (HLT.out _ (rd_mem hir))
          obtain ⟨y, hy⟩ : ∃ y, rd r (i : Int) = y := ⟨_, rfl⟩
          replace q0 : wr.cell? (ax.add i) = some (.int .i64 (rd r (i : Int))) := q0
          rw [hy] at q0 hx
          have HY := hid hy
          have hai := atom_is hx
          have hxm : x ∈ a := by
            rw [hai.2.2, List.getD_eq_getElem?_getD, List.getElem?_eq_getElem (by omega)]
            exact List.getElem_mem _
          have hho := holds_some (value := value) hx (by have := HN.out.2.1; omega) (fun h => by have := (HRG.out.2.2 x hxm).1 h; have := HFP.out.2; omega) (fun h => by have := (HRG.out.2.2 x hxm).2 h; have := HFP.out.2; omega) (by have := HRG.out.1; have := HFP.out.2; omega)
          obtain ⟨bh, hbh⟩ : ∃ bh, holdsM a value y = bh := ⟨_, rfl⟩
          rw [hbh] at hho
          have HHO := hid (fun W hW => HHD.out y bh W hW hho)
          have HBH := hid hbh
          have hn1 := hai.1
          have hn2 : litN y ≤ (na : Int) := by have := HN.out.2.1; omega
          clear hy hx hai hxm hho hbh
          rcases (show y < 0 ∨ 0 ≤ y by omega) with hneg | hneg
          · have g1 : IntKind.i64.wrap (-y) = -y := Go.IntWalk.i64_in _ (by unfold litN at hn2; rw [if_pos hneg] at hn2; omega)
            have g3 : y < -y := by omega
            have g4 : ¬ (-y < 1) := by omega
            have g5 : ¬ ((na : Int) < -y) := by unfold litN at hn2; rw [if_pos hneg] at hn2; omega
            go_wp2_with fail
            go_quiet (fail)
            go_wp2_with fail
            refine (HHO.out _ (pw_below_drewN HBR.out _)).mono ?_
            rintro e w6 ⟨rfl, hb6⟩
            have HB6 := hid (HW.out.trans ((show Below wr.heap.size wr w6 from ⟨hb6.os, hb6.tape, hb6.output, hb6.size, hb6.block⟩).mono HW.out.size))
            have HB7 := hid (HB5.out.trans (HB6.out.mono HB5.out.size))
            clear hb6
            cases bh with
            | false =>
              go_wp2_with fail
              refine (HKN.out w6 HB7.out).mono ?_
              rintro e w8 ⟨rfl, hb8⟩
              have HB8 := hid (HB7.out.trans (hb8.mono HB7.out.size))
              clear hb8
              go_wp2
              go_ret
              exact ⟨rfl, HB8.out⟩
            | true =>
              go_wp2_with fail
              go_roundg left
              case measure => omega
              case rel => exact ⟨i + 1, by omega, by go_num, HB6, hid (fun j hj => by
                rcases Nat.lt_or_ge j i with h | h
                · exact HH.out j h
                · have e : i = j := by omega
                  subst e
                  rw [HY.out]
                  exact HBH.out)⟩
          · have g1 : IntKind.i64.wrap (-y) = -y := Go.IntWalk.i64_in _ (by unfold litN at hn2; rw [if_neg (by omega)] at hn2; omega)
            have g3 : ¬ y < -y := by omega
            have g4 : ¬ (y < 1) := by unfold litN at hn1; rw [if_neg (by omega)] at hn1; omega
            have g5 : ¬ ((na : Int) < y) := by unfold litN at hn2; rw [if_neg (by omega)] at hn2; omega
            go_wp2_with fail
            go_quiet (fail)
            go_wp2_with fail
            refine (HHO.out _ (pw_below_drewN HBR.out _)).mono ?_
            rintro e w6 ⟨rfl, hb6⟩
            have HB6 := hid (HW.out.trans ((show Below wr.heap.size wr w6 from ⟨hb6.os, hb6.tape, hb6.output, hb6.size, hb6.block⟩).mono HW.out.size))
            have HB7 := hid (HB5.out.trans (HB6.out.mono HB5.out.size))
            clear hb6
            cases bh with
            | false =>
              go_wp2_with fail
              refine (HKN.out w6 HB7.out).mono ?_
              rintro e w8 ⟨rfl, hb8⟩
              have HB8 := hid (HB7.out.trans (hb8.mono HB7.out.size))
              clear hb8
              go_wp2
              go_ret
              exact ⟨rfl, HB8.out⟩
            | true =>
              go_wp2_with fail
              go_roundg left
              case measure => omega
              case rel => exact ⟨i + 1, by omega, by go_num, HB6, hid (fun j hj => by
                rcases Nat.lt_or_ge j i with h | h
                · exact HH.out j h
                · have e : i = j := by omega
                  subst e
                  rw [HY.out]
                  exact HBH.out)⟩
end Go.Proofs.YtpopohkbffhckaaDoor.KL
