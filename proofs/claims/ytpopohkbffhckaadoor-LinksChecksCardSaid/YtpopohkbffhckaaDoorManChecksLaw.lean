/- Walk of the law LinksChecks: what the program's look at a certificate answers, the document's answers. -/
import Derived.Test.YtpopohkbffhckaaDoorLkK
import Derived.Test.YtpopohkbffhckaaDoorPLg
import Derived.Outline
import Derived.Test.YtpopohkbffhckaaDoorRcC
import Derived.Deep.DeepCutAuto
import Derived.Deep.RegionHeld3
namespace Go.Proofs.YtpopohkbffhckaaDoor.KL
open Go.Proofs.YtpopohkbffhckaaDoor.Pure Go.RowKit Go.Proofs.YtpopohkbffhckaaDoorW.PrintWords Go.Proofs.YtpopohkbffhckaaDoorW.PrintLast Go.Proofs.YtpopohkbffhckaaDoorW.PrintMore Go.Proofs.YtpopohkbffhckaaDoor.MM Go.Proofs.YtpopohkbffhckaaDoor.Hk
set_option linter.unusedSimpArgs false
set_option linter.unusedVariables false
theorem check_len (v : List Vx) (a : List At) (l : List Lk) : (checkR v a l).1.length ≤ l.length := by
 unfold checkR
 split
 ·
  simp
 ·
  split
  ·
   simp
  ·
   rename_i s hs
   have h1 := go_snoc_lits l _ _ _ _ hs
   have h2 := LF.length_canon_le s
   simp at h1
   show (LF.canon s).length ≤ _
   omega
def True1 (w : World) (e : Ending) (w' : World) : Prop := e = .returned (.bool true) ∧ Below w.heap.size w w'
theorem copyLinks_ev (l : List Lk) (hl : l.length ≤ 1000000) (h6 : ∀ x ∈ l, x.f6.length ≤ 1000) : Ev (fun k => juristref17_CopyLinks.f k l) l := by
 have key : ∀ n i, i + n = l.length → Ev (fun k => juristref17_CopyLinks.l0 k l (l.take i) (i : Int)) l := by
  intro n
  induction n with
  | zero =>
   intro i hi
   refine Ev.step (f := fun _ => some l) (fun k => by simp only [juristref17_CopyLinks.l0]; rw [if_neg (by omega), List.take_of_length_le (by omega)]) (ev_ret _)
  | succ n ih =>
   intro i hi
   refine Ev.step (f := fun k => juristref17_CopyLinks.l0 k l (l.take (i + 1)) ((i + 1 : Nat) : Int)) (fun k => ?_) (ih (i + 1) (by omega))
   have hil : i < l.length := by omega
   have e : rd_T36 l (i : Int) = l[i] := by
    show l.getD (i : Int).toNat _ = _
    rw [Int.toNat_natCast, List.getD_eq_getElem?_getD, List.getElem?_eq_getElem hil]
    rfl
   have hlen := h6 l[i] (List.getElem_mem hil)
   simp only [juristref17_CopyLinks.l0, Option.bind_some, e, List.nil_append, List.length_nil, Nat.zero_add]
   rw [if_pos (by omega), if_pos (by omega), if_pos (by omega), if_pos (by rw [List.length_take]; omega), wrap_succ (by omega)]
   rw [List.take_add_one, List.getElem?_eq_getElem hil]
   rfl
 exact key l.length 0 (by omega)
set_option maxRecDepth 100000 in
set_option maxHeartbeats 6400000 in
theorem checks_law (A0 : Option Addr) (c0 : Nat) (v : List Vx) (A1 : Option Addr) (c1 : Nat) (a : List At) (A2 : Option Addr) (c2 : Nat) (l : List Lk) (w : World)
 (hv : Kd.C k46 w A0 v.length v) (hc0 : v.length ≤ c0) (ha : Kd.C k66 w A1 a.length a) (hc1 : a.length ≤ c1) (hl : Kd.C k36 w A2 l.length l) (hc2 : l.length ≤ c2)
 (hno : Noth w) (bv : v.length < 4611686018427387904) (bl : l.length < 4611686018427387904) (hwf : ∀ x ∈ l, (Lit.int .i64 x.f1).wf = true) :
 Calls Tryd.prog 3 #[.slice A0 v.length c0, .slice A1 a.length c1, .slice A2 l.length c2] w (True1 w) := by
 have HKN := hid (fun W (hW : Below w.heap.size w W) => known_calls W (hno.below hW hno.pos))
 have HLG := hid (large_calls A0 c0 v A1 c1 a A2 c2 l w hv hc0 ha hc1 hl hc2 bv bl)
 have HCK := hid (fun (Ac : Option Addr) (cc : Nat) W (hW : Below w.heap.size w W) (hC : Kd.C k36 W Ac l.length l) (h1 : v.length ≤ 1000) (h2 : a.length ≤ 1000) (h3 : l.length ≤ 1000) (h4 : ∀ x ∈ l, (Lit.int .i64 x.f1).wf = true ∧ x.f6.length ≤ 1000) => check_calls A0 c0 v A1 c1 a Ac cc l W (Kd.C_below hv hW) hc0 (Kd.C_below ha hW) hc1 hC (hno.below hW hno.pos) h1 h2 h3 h4)
 have HRF := hid (fun W (hW : Below w.heap.size w W) (h1 : v.length ≤ 1000) (h2 : a.length ≤ 1000) (h3 : l.length ≤ 1000) (h4 : ∀ x ∈ l, (Lit.int .i64 x.f1).wf = true ∧ x.f6.length ≤ 1000) (h5 : ∀ x ∈ v, x.f1.length ≤ 1000) => refcheck_calls A0 c0 v A1 c1 a A2 c2 l W (Kd.C_below hv hW) hc0 (Kd.C_below ha hW) hc1 (Kd.C_below hl hW) h1 h2 h3 h4 h5)
 have HMY := hid (fun W (hW : Below w.heap.size w W) => may_calls A0 c0 v A1 c1 a W (Kd.C_below hv hW) (Kd.C_below ha hW))
 have HRM := hid (fun W (hW : Below w.heap.size w W) (b1 : v.length < 4611686018427387904) (b2 : a.length < 4611686018427387904) (b3 : ∀ x ∈ v, x.f1.length < 4611686018427387904) => refmay_c A0 c0 v A1 c1 a W (Kd.C_below hv hW) hc0 (Kd.C_below ha hW) hc1 b1 b2 b3)
 have HCP := hid (fun (k : Nat) (h : juristref17_CopyLinks.f k l = some l) W (hW : Below w.heap.size w W) => juristref17_CopyLinks.calls k A2 c2 l l W (Kd.C_below hl hW) hc2 h)
 have HL := hid hl
 have HWF := hid hwf
 obtain ⟨nv, hnv⟩ : ∃ n, n = v.length := ⟨_, rfl⟩
 obtain ⟨na, hna⟩ : ∃ n, n = a.length := ⟨_, rfl⟩
 obtain ⟨nl, hnl⟩ : ∃ n, n = l.length := ⟨_, rfl⟩
 rw [← hnv, ← hna, ← hnl] at HLG HCK HRF
 rw [← hnv, ← hna] at HMY HRM
 rw [← hnl] at HCP
 rw [← hnv, ← hna, ← hnl]
 have HN := hid (And.intro hnv (And.intro hna hnl))
 clear hv hc0 ha hc1 hl hc2 hno bv bl hwf hnv hna hnl
 cases hlg : largeM v a l with
 | true =>
  rw [hlg] at HLG
  clear hlg
  go_enter Tryd.func3, Tryd.ntmps3
  go_wp2_with fail
  refine HLG.out.mono ?_
  rintro e w1 ⟨rfl, hb1⟩
  have HB1 := hid hb1
  clear hb1
  go_wp2_with fail
  refine (HKN.out w1 HB1.out).mono ?_
  rintro e w2 ⟨rfl, hb2⟩
  have HB2 := hid (HB1.out.trans (hb2.mono HB1.out.size))
  clear hb2
  go_wp2
  go_ret
  exact ⟨rfl, HB2.out⟩
 | false =>
  have hlf := large_false hlg
  rw [hlg] at HLG
  have hv100 : nv ≤ 100 := by have := HN.out.1; omega
  have ha200 : na ≤ 200 := by have := HN.out.2.1; omega
  have hl300 : nl ≤ 300 := by have := HN.out.2.2; omega
  have hWL : ∀ x ∈ l, (Lit.int .i64 x.f1).wf = true ∧ x.f6.length ≤ 1000 := fun x hx => ⟨HWF.out x hx, by have := hlf.2.2.2.2 x hx; omega⟩
  have hVL : ∀ x ∈ v, x.f1.length ≤ 1000 := fun x hx => by have := hlf.2.2.2.1 x hx; omega
  obtain ⟨kc, hkc⟩ := (copyLinks_ev l (by have := hlf.2.2.1; omega) (fun x hx => (hWL x hx).2)).rounds
  have HCP2 := hid (HCP.out kc hkc)
  have HCK2 := hid (fun Ac cc W hW hC => HCK.out Ac cc W hW hC (by omega) (by omega) (by omega) hWL)
  have HRF2 := hid (fun W hW => HRF.out W hW (by omega) (by omega) (by omega) hWL hVL)
  have HRM2 := hid (fun W hW => HRM.out W hW (by omega) (by omega) (fun x hx => by have := hVL x hx; omega))
  have hlen := check_len v a l
  obtain ⟨⟨r, n⟩, hrn⟩ : ∃ r, checkR v a l = r := ⟨_, rfl⟩
  rw [hrn] at HCK2 HRF2 hlen
  have hlen' : r.length ≤ 300 := by have h1 := HN.out.2.2; replace hlen : r.length ≤ l.length := hlen; omega
  obtain ⟨ka, hka⟩ := (alike_ev r r (by omega)).rounds
  rw [show decide (r = r) = true by simp] at hka
  have HKA := hid hka
  obtain ⟨mb, hmb⟩ : ∃ b, mayM v a = b := ⟨_, rfl⟩
  rw [hmb] at HMY HRM2
  clear hlg hlf hrn HCK HRF HRM HCP hlen hWL hVL hkc hka hmb
  go_enter Tryd.func3, Tryd.ntmps3
  go_wp2_with fail
  refine HLG.out.mono ?_
  rintro e w1 ⟨rfl, hb1⟩
  have HB1 := hid hb1
  clear hb1
  go_wp2_with fail
  refine (HCP2.out w1 HB1.out).mono ?_
  rintro e w2 ⟨v2, rfl, hS2, hb2⟩
  obtain ⟨Ac, cc, rfl, hcc, hCc⟩ := Kd.R_reads (Kd.S_R hS2)
  rw [← HN.out.2.2] at hCc
  have HC2 := hid hCc
  have HB2 := hid (HB1.out.trans (hb2.mono HB1.out.size))
  rw [← HN.out.2.2]
  clear hb2 hS2 hcc hCc
  go_wp2_with fail
  have HCQ := hid (HCK2.out Ac cc w2 HB2.out HC2.out)
  refine HCQ.out.mono ?_
  rintro e w3 ⟨A3, c3, rfl, hc3, hC3, hb3⟩
  have HC3 := hid (And.intro hc3 hC3)
  have HB3 := hid (HB2.out.trans (hb3.mono HB2.out.size))
  have HC23 := hid (Kd.C_below HC2.out hb3)
  clear hb3 hc3 hC3 HCQ
  go_wp2_with fail
  refine (HRF2.out w3 HB3.out).mono ?_
  rintro e w4 ⟨A4, c4, rfl, hc4, hC4, hb4⟩
  have HC4 := hid (And.intro hc4 hC4)
  have HC34 := hid (Kd.C_below HC3.out.2 hb4)
  have HC24 := hid (Kd.C_below HC23.out hb4)
  have HB4 := hid (HB3.out.trans (hb4.mono HB3.out.size))
  clear hb4 hc4 hC4
  obtain ⟨nr, hnr⟩ : ∃ n, n = r.length := ⟨_, rfl⟩
  have HNR := hid hnr
  rw [show (r, n).1.length = nr from hnr.symm]
  clear hnr
  go_wp2_with fail
  go_loopg [12, 13, 14, 38] nl (fun left v12 v13 v14 v38 wr => ∃ j : Nat, j + left = nl ∧ v38 = .int .i64 j ∧ Hid (Below w4.heap.size w4 wr))
  case atStart => exact ⟨0, by omega, rfl, hid (Below.refl _ _)⟩
  case round =>
   obtain ⟨j, hj, rfl, HBr⟩ := hrel
   have HBw := hid (HB4.out.trans (HBr.out.mono HB4.out.size))
   cases gk with
   | zero =>
    have hin : ¬ ((j : Int) < (nl : Int)) := by omega
    as_aux_lemma =>
     go_wp2_with fail
     refine (HMY.out wr HBw.out).mono ?_
     rintro e w5 ⟨rfl, hb5⟩
     have HB5 := hid (HBw.out.trans (hb5.mono HBw.out.size))
     have HR5 := hid (HBr.out.trans (hb5.mono HBr.out.size))
     clear hb5
     go_wp2_with fail
     refine (HRM2.out w5 HB5.out).mono ?_
     rintro e w6 ⟨rfl, hb6⟩
     have HB6 := hid (HB5.out.trans (hb6.mono HB5.out.size))
     have HR6 := hid (HR5.out.trans (hb6.mono HR5.out.size))
     clear hb6
     have q1 : (mb == mb) = true := by simp
     go_wp2_with fail
     have HAL := hid (juristref14_Alike.calls ka A3 c3 r A4 c4 r true w6 (Kd.C_below HC34.out HR6.out) HC3.out.1 (Kd.C_below HC4.out.2 HR6.out) HC4.out.1 HKA.out)
     rw [← HNR.out] at HAL
     refine HAL.out.mono ?_
     rintro e w7 ⟨rfl, hb7⟩
     have HB7 := hid (HB6.out.trans (hb7.below.mono HB6.out.size))
     clear hb7
     have q2 : (n == n) = true := by simp
     go_wp2_with fail
     refine (HKN.out w7 HB7.out).mono ?_
     rintro e w8 ⟨rfl, hb8⟩
     have HB8 := hid (HB7.out.trans (hb8.mono HB7.out.size))
     clear hb8
     go_wp2
     go_ret
     exact ⟨rfl, HB8.out⟩
   | succ left =>
    have hin : (j : Int) < (nl : Int) := by omega
    obtain ⟨ad, A6, c6, rfl, x0, x1, x2, x3, x4, x5, x6, l6, C6⟩ := at_T36 (Kd.C_below HC24.out HBr.out) (j : Int) (by omega) (by have := HN.out.2.2; omega)
    obtain ⟨ad', B6, d6, rfl, y0, y1, y2, y3, y4, y5, y6, m6, D6⟩ := at_T36 (Kd.C_below HL.out HBw.out) (j : Int) (by omega) (by have := HN.out.2.2; omega)
    rw [show rd_T36 l (j : Int) = l.getD j lk0 from by show l.getD (j : Int).toNat _ = _; rw [Int.toNat_natCast]] at x0 x1 x2 x3 x4 x5 x6 l6 C6 y0 y1 y2 y3 y4 y5 y6 m6 D6
    rw [Int.toNat_natCast] at x0 x1 x2 x3 x4 x5 x6 y0 y1 y2 y3 y4 y5 y6
    obtain ⟨x, hx⟩ : ∃ x, l.getD j lk0 = x := ⟨_, rfl⟩
    rw [hx] at x0 x1 x2 x3 x4 x5 x6 l6 C6 y0 y1 y2 y3 y4 y5 y6 m6 D6
    clear hx l6 C6 m6 D6
    go_wp2_with fail
    have := World.new_ne wr _ x0
    have := World.new_ne wr _ x1
    have := World.new_ne wr _ x2
    have := World.new_ne wr _ x3
    have := World.new_ne wr _ x4
    have := World.new_ne wr _ x5
    have := World.new_ne wr _ x6
    have := World.new_ne wr _ y0
    have := World.new_ne wr _ y1
    have := World.new_ne wr _ y2
    have := World.new_ne wr _ y3
    have := World.new_ne wr _ y4
    have := World.new_ne wr _ y5
    have := World.new_ne wr _ y6
    go_cut [13, 14] (fun s13 s14 wc => ∃ b8 b9 : Nat, s13 = ptr b8 ∧ s14 = ptr b9 ∧ Hid (Below wr.heap.size wr wc) ∧ wc.heap[b8]? = some (.cells (lkC x (.slice A6 x.f6.length c6)) 36 (0, 0)) ∧ wc.heap[b9]? = some (.cells (lkC x (.slice B6 x.f6.length d6)) 36 (0, 0)))
    case first =>
     go_region_held3 (fun w' => w'.cell? (ad.add (j * 7)) = some (.int .u8 x.f0) ∧ w'.cell? ⟨(ad.add (j * 7)).block, (ad.add (j * 7)).off + 1, none⟩ = some (.int .i64 x.f1) ∧ w'.cell? ⟨(ad.add (j * 7)).block, (ad.add (j * 7)).off + 2, none⟩ = some (.int .i64 x.f2) ∧ w'.cell? ⟨(ad.add (j * 7)).block, (ad.add (j * 7)).off + 3, none⟩ = some (.int .i64 x.f3) ∧ w'.cell? ⟨(ad.add (j * 7)).block, (ad.add (j * 7)).off + 4, none⟩ = some (.int .i64 x.f4) ∧ w'.cell? ⟨(ad.add (j * 7)).block, (ad.add (j * 7)).off + 5, none⟩ = some (.int .i64 x.f5) ∧ w'.cell? ⟨(ad.add (j * 7)).block, (ad.add (j * 7)).off + 6, none⟩ = some (.slice A6 x.f6.length c6) ∧ w'.cell? (ad'.add (j * 7)) = some (.int .u8 x.f0) ∧ w'.cell? ⟨(ad'.add (j * 7)).block, (ad'.add (j * 7)).off + 1, none⟩ = some (.int .i64 x.f1) ∧ w'.cell? ⟨(ad'.add (j * 7)).block, (ad'.add (j * 7)).off + 2, none⟩ = some (.int .i64 x.f2) ∧ w'.cell? ⟨(ad'.add (j * 7)).block, (ad'.add (j * 7)).off + 3, none⟩ = some (.int .i64 x.f3) ∧ w'.cell? ⟨(ad'.add (j * 7)).block, (ad'.add (j * 7)).off + 4, none⟩ = some (.int .i64 x.f4) ∧ w'.cell? ⟨(ad'.add (j * 7)).block, (ad'.add (j * 7)).off + 5, none⟩ = some (.int .i64 x.f5) ∧ w'.cell? ⟨(ad'.add (j * 7)).block, (ad'.add (j * 7)).off + 6, none⟩ = some (.slice B6 x.f6.length d6)) (go_keep) (fail)
     ·
      go_wp2_with fail
      go_meet
      exact ⟨_, _, rfl, rfl, hid (((Below.refl _ _).alloc (Nat.le_refl _) _).alloc (by simp) _).drew, (Go.heap_alloc_old _ _ (by simp)).trans (heap_alloc_new wr _), new2 _ _ _⟩
     ·
      go_wp2_with fail
      go_meet
      exact ⟨_, _, rfl, rfl, hid (((Below.refl _ _).alloc (Nat.le_refl _) _).alloc (by simp) _).drew, new2 _ _ _, (Go.heap_alloc_old _ _ (by simp)).trans (heap_alloc_new wr _)⟩
    case rest =>
     obtain ⟨b8, b9, rfl, rfl, HBC, hb8, hb9⟩ := hcut
     have HBR2 := hid (HBr.out.trans (HBC.out.mono HBr.out.size))
     clear x0 x1 x2 x3 x4 x5 x6 y0 y1 y2 y3 y4 y5 y6 HBC
     have p0 := (blk_cell hb8 0).trans (show _ = some (.int .u8 x.f0) from rfl)
     have p1 := (blk_cell hb8 1).trans (show _ = some (.int .i64 x.f1) from rfl)
     have p2 := (blk_cell hb8 2).trans (show _ = some (.int .i64 x.f2) from rfl)
     have p3 := (blk_cell hb8 3).trans (show _ = some (.int .i64 x.f3) from rfl)
     have p4 := (blk_cell hb8 4).trans (show _ = some (.int .i64 x.f4) from rfl)
     have p5 := (blk_cell hb8 5).trans (show _ = some (.int .i64 x.f5) from rfl)
     have p6 := (blk_cell hb8 6).trans (show _ = some (.slice A6 x.f6.length c6) from rfl)
     have q0 := (blk_cell hb9 0).trans (show _ = some (.int .u8 x.f0) from rfl)
     have q1 := (blk_cell hb9 1).trans (show _ = some (.int .i64 x.f1) from rfl)
     have q2 := (blk_cell hb9 2).trans (show _ = some (.int .i64 x.f2) from rfl)
     have q3 := (blk_cell hb9 3).trans (show _ = some (.int .i64 x.f3) from rfl)
     have q4 := (blk_cell hb9 4).trans (show _ = some (.int .i64 x.f4) from rfl)
     have q5 := (blk_cell hb9 5).trans (show _ = some (.int .i64 x.f5) from rfl)
     have q6 := (blk_cell hb9 6).trans (show _ = some (.slice B6 x.f6.length d6) from rfl)
     have e0 : (x.f0 != x.f0) = false := by simp
     have e1 : (x.f1 != x.f1) = false := by simp
     have e2 : (x.f2 != x.f2) = false := by simp
     have e3 : (x.f3 != x.f3) = false := by simp
     have e4 : (x.f4 != x.f4) = false := by simp
     have e5 : (x.f5 != x.f5) = false := by simp
     have e6 : ((x.f6.length : Int) != (x.f6.length : Int)) = false := by simp
     clear hb8 hb9
     go_wp2_with fail
     go_roundg left
     case measure => omega
     case rel => exact ⟨j + 1, by omega, by go_num, hid HBR2.out⟩
end Go.Proofs.YtpopohkbffhckaaDoor.KL
