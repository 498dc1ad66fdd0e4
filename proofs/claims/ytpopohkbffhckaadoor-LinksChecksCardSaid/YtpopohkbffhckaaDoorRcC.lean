/- Walk of juristref17.Check: the document's look at a certificate answers as the program's. -/
import Derived.Test.YtpopohkbffhckaaDoorRcA
import Derived.Test.YtpopohkbffhckaaDoorLkC
import Derived.Deep.AppendLies
import Derived.Deep.DeepCutAuto
import Derived.Deep.CutRange
import Derived.Deep.RegionHeld3
namespace Go.Proofs.YtpopohkbffhckaaDoor.KL
open Go.Proofs.YtpopohkbffhckaaDoor.Pure Go.RowKit Go.Proofs.YtpopohkbffhckaaDoorW.PrintWords Go.Proofs.YtpopohkbffhckaaDoorW.PrintLast Go.Proofs.YtpopohkbffhckaaDoorW.PrintMore Go.Proofs.YtpopohkbffhckaaDoor.MM Go.Proofs.YtpopohkbffhckaaDoor.Hk
set_option linter.unusedSimpArgs false
set_option linter.unusedVariables false
theorem within_c (x : Int) (n : Nat) (w : World) : Calls Tryd.prog 22 #[.int .i64 x, .int .i64 (n : Int)] w fun e w' => e = .returned (.bool (inB n x)) ∧ Below w.heap.size w w' := by
 refine (juristref17_within.calls x (n : Int) (inB n x) w ?_).mono fun e w' h => ⟨h.1, ?_⟩
 ·
  unfold juristref17_within.f inB
  by_cases h : x ≥ 0
  ·
   rw [if_pos h]; simp [h]
  ·
   rw [if_neg h]; simp [h]
 ·
  exact h.2.below
theorem refmay_c (A0 : Option Addr) (c0 : Nat) (v : List Vx) (A1 : Option Addr) (c1 : Nat) (a : List At) (w : World) (hv : Kd.C k46 w A0 v.length v) (hc0 : v.length ≤ c0) (ha : Kd.C k66 w A1 a.length a) (hc1 : a.length ≤ c1)
 (bv : v.length < 4611686018427387904) (ba : a.length < 4611686018427387904) (bf : ∀ x ∈ v, x.f1.length < 4611686018427387904) : Calls Tryd.prog 14 #[.slice A0 v.length c0, .slice A1 a.length c1] w fun e w' => e = .returned (.bool (mayM v a)) ∧ Below w.heap.size w w' := by
 obtain ⟨k, hk⟩ := (mayR_ev v a bv ba bf).rounds
 exact (juristref17_May.calls k A0 c0 v A1 c1 a (mayM v a) w hv hc0 ha hc1 hk).mono fun e w' h => ⟨h.1, h.2.below⟩
theorem told_c (A1 : Option Addr) (c1 : Nat) (a : List At) (x : Int) (hx : (Lit.int .i64 x).wf = true) (ba : a.length < 4611686018427387904) : ∃ p : Pr, (∀ q, givenM a x = some q → p = q) ∧
 ∀ (w : World) (ha : Kd.C k66 w A1 a.length a) (hc1 : a.length ≤ c1), Calls Tryd.prog 21 #[.slice A1 a.length c1, .int .i64 x] w fun e w' => e = .returned (.tuple #[.int .i64 p.1, .int .i64 p.2, .bool (givenM a x).isSome]) ∧ Below w.heap.size w w' := by
 obtain ⟨p, h1, h2⟩ := told_ev a x hx ba
 obtain ⟨k, hk⟩ := h1.rounds
 exact ⟨p, h2, fun w ha hc1 => juristref17_Told.calls k A1 c1 a x p.1 p.2 _ w ha hc1 hk⟩
theorem normal_c (A : Option Addr) (c : Nat) (s : List Int) (w : World) (hs : Kd.C (Kd.int .i64) w A s.length s) (hc : s.length ≤ c) (hm : MC.mayB s = true) : Calls Tryd.prog 23 #[.slice A s.length c] w fun e w' => ∃ v0_ : Value, e = .returned v0_ ∧ Kd.R (Kd.int .i64) 33 w' w.heap.size (fun _ => True) v0_ (LF.canon s) ∧ Below w.heap.size w w' := by
 unfold MC.mayB at hm
 simp only [Bool.and_eq_true, decide_eq_true_eq, List.all_eq_true] at hm
 obtain ⟨k, hk⟩ := (normal_ev s (by omega) (fun x hx => by have := MC.literalB_true.1 (hm.2 x hx); omega)).rounds
 exact juristref14_Normal.calls k A c s (LF.canon s) w hs hc hk
theorem info60 : (Tryd.prog.info? 60).map (fun i => (i.zero, i.size, i.bytes)) = some (some (.agg #[.int .i64 0, .int .i64 0]), 2, 16) := by kernel_rfl
theorem info33r : (Tryd.prog.info? 33).map (fun i => (i.zero, i.size, i.bytes)) = some (some (.int .i64 0), 1, 8) := by kernel_rfl
theorem at_or {W : World} {O : Obj} {n cap : Nat} {g : Nat} {o : Option Nat} (h : o = some g ∨ g = W.heap.size + 1) : ∀ g', (Value.slice (some ⟨g, 0, none⟩) n cap).ownBlock = some g' → o = some g' ∨ (W.alloc O).heap.size ≤ g' := fun g' hg' => by
 have hg' : g = g' := by simpa [Value.ownBlock] using hg'
 rcases h with h1 | h1
 ·
  exact .inl (by rw [← hg']; exact h1)
 ·
  exact .inr (by simp; omega)
set_option maxRecDepth 100000 in
set_option maxHeartbeats 64000000 in
theorem refcheck_calls (A0 : Option Addr) (c0 : Nat) (v : List Vx) (A1 : Option Addr) (c1 : Nat) (a : List At) (A2 : Option Addr) (c2 : Nat) (l : List Lk) (w : World) (hv : Kd.C k46 w A0 v.length v) (hc0 : v.length ≤ c0) (ha : Kd.C k66 w A1 a.length a) (hc1 : a.length ≤ c1) (hl : Kd.C k36 w A2 l.length l)
 (hvn : v.length ≤ 1000) (han : a.length ≤ 1000) (hln : l.length ≤ 1000) (hwf : ∀ x ∈ l, (Lit.int .i64 x.f1).wf = true ∧ x.f6.length ≤ 1000) (hvf : ∀ x ∈ v, x.f1.length ≤ 1000) :
 Calls Tryd.prog 12 #[.slice A0 v.length c0, .slice A1 a.length c1, .slice A2 l.length c2] w (CheckPost (checkR v a l) w) := by
 have HV := hid (And.intro hc0 hv)
 have HA := hid (And.intro hc1 ha)
 have HL := hid hl
 have HMAY := hid (refmay_c A0 c0 v A1 c1 a w hv hc0 ha hc1 (by omega) (by omega) (fun x hx => by have := hvf x hx; omega))
 have HWF := hid hwf
 have HVF := hid hvf
 obtain ⟨nv, hnv⟩ : ∃ n, n = v.length := ⟨_, rfl⟩
 obtain ⟨na, hna⟩ : ∃ n, n = a.length := ⟨_, rfl⟩
 obtain ⟨nl, hnl⟩ : ∃ n, n = l.length := ⟨_, rfl⟩
 rw [← hnv, ← hna] at HMAY
 rw [← hnv, ← hna, ← hnl]
 have HNV := hid hnv
 have HNA := hid hna
 have HNL := hid hnl
 have HBN := hid (And.intro hvn (And.intro han hln))
 have hln' : nl ≤ 1000 := by omega
 have hvn' : nv ≤ 1000 := by omega
 clear hv ha hl hc0 hc1 hnv hna hnl hvn han hln hwf hvf
 cases hm : mayM v a with
 | false =>
  have HE := hid (show checkR v a l = ([], 2) by unfold checkR; rw [if_pos hm])
  rw [hm] at HMAY
  clear hm
  go_enter Tryd.func12, Tryd.ntmps12
  go_wp2_with fail
  refine HMAY.out.mono ?_
  rintro e w1 ⟨rfl, hb1⟩
  have HB1 := hid hb1
  clear hb1
  go_wp2
  go_ret2
  exact checkpost_err HE.out HB1.out
 | true =>
  have HR := hid hm
  rw [hm] at HMAY
  have e1 : decide ((nl : Int) > 20000) = false := by simp; omega
  obtain ⟨i60, hi60, z60, y60, x60⟩ := info_parts info60
  have HI60 := hid (And.intro hi60 (And.intro z60 (And.intro y60 x60)))
  obtain ⟨i33, hi33, z33, y33, x33⟩ := info_parts info33r
  have HI33 := hid (And.intro hi33 (And.intro z33 (And.intro y33 x33)))
  clear hm hi60 z60 y60 x60 hi33 z33 y33 x33
  go_enter Tryd.func12, Tryd.ntmps12
  go_wp2_with fail
  refine HMAY.out.mono ?_
  rintro e w1 ⟨rfl, hb1⟩
  have HB1 := hid hb1
  clear hb1
  go_wp2_with fail
  have HR1 := hid (Rc.start HB1.out)
  go_loopg [8, 9, 10] nl (fun left v8 v9 v10 wr => ∃ (i : Nat) (t : List Pr) (s : List Int) (e : Bool) (tv sv : Value), i + left = nl ∧ v8 = tv ∧ v9 = sv ∧ v10 = .int .i64 i ∧ t.length = i ∧ s.length ≤ i ∧ Hid (Rc w t s tv sv wr) ∧ Hid (goM v a t s e (l.drop i) = goM v a [] [] false l ∧ (i = 0 → e = false) ∧ (0 < i → e = decide (i = nl))))
  case atStart => exact ⟨0, [], [], false, _, _, by omega, rfl, rfl, rfl, rfl, Nat.le_refl _, HR1, hid ⟨rfl, fun _ => rfl, fun h => absurd h (by omega)⟩⟩
  case round =>
   obtain ⟨i, t, s, e, tv, sv, hi, rfl, rfl, rfl, ht, hs, HLr, HG⟩ := hrel
   cases gk with
   | zero =>
    as_aux_lemma =>
     have hin : ¬ ((i : Int) < (nl : Int)) := by omega
     obtain ⟨At, ct, rfl⟩ := HLr.out.tshape
     obtain ⟨As, cs, rfl, hcs, hCs⟩ := HLr.out.sshape
     have hG : goM v a [] [] false l = if e = true then some s else none := by
      rw [← HG.out.1, List.drop_eq_nil_of_le (by have := HNL.out; omega)]
      rfl
     by_cases h0 : nl = 0
     ·
      have he : e = false := HG.out.2.1 (by omega)
      have HE := hid (show goM v a [] [] false l = none by rw [hG, he]; rfl)
      have q1 : ((nl : Int) == 0) = true := by simp; omega
      have q2 : decide ((nl : Int) = 0) = true := by simp; omega
      clear hG hcs hCs
      go_wp2
      go_ret2
      exact checked_none HR.out HE.out HLr.out.below
     ·
      have he : e = true := by rw [HG.out.2.2 (by omega)]; simp; omega
      have HE := hid (show goM v a [] [] false l = some s by rw [hG, he]; rfl)
      have q1 : ((nl : Int) == 0) = false := by simp; omega
      have q2 : decide ((nl : Int) = 0) = false := by simp; omega
      have hms := check_may HE.out HBN.out.2.2 HBN.out.2.1
      have HNO := hid (fun W (hC : Kd.C (Kd.int .i64) W As s.length s) => normal_c As cs s W hC hcs hms.1)
      have HCS := hid hCs
      obtain ⟨ns, hns⟩ : ∃ n, n = s.length := ⟨_, rfl⟩
      have hns' : ns ≤ 1000 := by omega
      have e5 : decide ((ns : Int) > 5000) = false := by simp; omega
      have HNS := hid hns
      have HNO2 := hid (HNO.out wr HCS.out)
      rw [← hns] at HNO2
      rw [← hns]
      clear hG hcs hCs hms HNO hns hs
      go_wp2_with fail
      refine HNO2.out.mono ?_
      rintro e w9 ⟨v0_, rfl, hR9, hb9⟩
      have HR9 := hid hR9
      have HB9 := hid hb9
      clear hR9 hb9
      go_wp2
      go_ret2
      obtain ⟨A9, c9, rfl, hc9, hC9⟩ := Kd.R_reads HR9.out
      have hE : checkR v a l = (LF.canon s, 0) := by unfold checkR; rw [HR.out, HE.out]; rfl
      rw [hE]
      exact ⟨A9, c9, rfl, hc9, hC9, HLr.out.below.trans (HB9.out.mono HLr.out.below.size)⟩
   | succ left =>
    have hin : (i : Int) < (nl : Int) := by omega
    obtain ⟨ad, A6, c6, rfl, x0, x1, x2, x3, x4, x5, x6, l6, C6⟩ := at_T36 HL.out (i : Int) (by omega) (by have := HNL.out; omega)
    rw [show rd_T36 l (i : Int) = l.getD i lk0 from by show l.getD (i : Int).toNat _ = _; rw [Int.toNat_natCast]] at x0 x1 x2 x3 x4 x5 x6 l6 C6
    rw [Int.toNat_natCast] at x0 x1 x2 x3 x4 x5 x6
    have hil : i < l.length := by have := HNL.out; omega
    have hwx := HWF.out (l.getD i lk0) (by rw [List.getD_eq_getElem?_getD, List.getElem?_eq_getElem hil]; exact List.getElem_mem hil)
    have hG := HG.out.1
    rw [lk_drop l i hil] at hG
    have hrest : (l.drop (i + 1) = []) ↔ i + 1 = nl := by
     rw [List.drop_eq_nil_iff]
     have := HNL.out
     omega
    obtain ⟨x, hx⟩ : ∃ x, l.getD i lk0 = x := ⟨_, rfl⟩
    rw [hx] at x0 x1 x2 x3 x4 x5 x6 l6 C6 hwx hG
    have HG2 := hid hG
    have HRS := hid hrest
    clear hG hrest hx
    have b0 : (ad.add (i * 7)).block < w.heap.size := cell_lt x0
    have y0 := (HLr.out.below.cell (p := ad.add (i * 7)) b0).trans x0
    have y1 := (HLr.out.below.cell (p := ⟨(ad.add (i * 7)).block, (ad.add (i * 7)).off + 1, none⟩) b0).trans x1
    have y2 := (HLr.out.below.cell (p := ⟨(ad.add (i * 7)).block, (ad.add (i * 7)).off + 2, none⟩) b0).trans x2
    have y3 := (HLr.out.below.cell (p := ⟨(ad.add (i * 7)).block, (ad.add (i * 7)).off + 3, none⟩) b0).trans x3
    have y4 := (HLr.out.below.cell (p := ⟨(ad.add (i * 7)).block, (ad.add (i * 7)).off + 4, none⟩) b0).trans x4
    have y5 := (HLr.out.below.cell (p := ⟨(ad.add (i * 7)).block, (ad.add (i * 7)).off + 5, none⟩) b0).trans x5
    have y6 := (HLr.out.below.cell (p := ⟨(ad.add (i * 7)).block, (ad.add (i * 7)).off + 6, none⟩) b0).trans x6
    clear x0 x1 x2 x3 x4 x5 x6
    have HC6 := hid C6
    have HWX := hid hwx
    obtain ⟨At, ct, rfl⟩ := HLr.out.tshape
    obtain ⟨As, cs, rfl, hcs, hCs⟩ := HLr.out.sshape
    obtain ⟨ns, hns⟩ : ∃ n, n = s.length := ⟨_, rfl⟩
    have hns' : ns ≤ i := by omega
    rw [ht, ← hns] at HLr
    rw [ht, ← hns]
    have HNT := hid ht.symm
    have HNS := hid hns
    clear hns hcs hCs ht hs
    obtain ⟨⟨⟨p1, p2⟩, EE, ok⟩, hlm⟩ : ∃ r, linkM v a t x = r := ⟨_, rfl⟩
    have HSTEP := hid (show ok = true → (EE = decide (l.drop (i + 1) = [])) → goM v a t s e (l.drop i) = goM v a (t ++ [(p1, p2)]) (s ++ litsOf x) EE (l.drop (i + 1)) by
     intro h1 h2
     rw [HG.out.1, ← HG2.out, chk_cons, hlm]
     rw [if_pos ⟨h1, h2⟩])
    have HBAD := hid (show ¬ (ok = true ∧ EE = decide (l.drop (i + 1) = [])) → goM v a [] [] false l = none by
     intro h1
     rw [← HG2.out, chk_cons, hlm]
     rw [if_neg h1])
    have HLM := hid hlm
    clear hlm C6 hwx l6 HG2
    by_cases k1 : x.f0 = 1
    case pos =>
     as_aux_lemma =>
      have b2 : (x.f0 == 2) = false := by simp; omega
      have d2 : decide (x.f0 = 2) = false := by simp; omega
      have b3 : (x.f0 == 3) = false := by simp; omega
      have d3 : decide (x.f0 = 3) = false := by simp; omega
      have b4 : (x.f0 == 4) = false := by simp; omega
      have d4 : decide (x.f0 = 4) = false := by simp; omega
      have b5 : (x.f0 == 5) = false := by simp; omega
      have d5 : decide (x.f0 = 5) = false := by simp; omega
      have b6 : (x.f0 == 6) = false := by simp; omega
      have d6 : decide (x.f0 = 6) = false := by simp; omega
      have b7 : (x.f0 == 7) = false := by simp; omega
      have d7 : decide (x.f0 = 7) = false := by simp; omega
      have b1 : (x.f0 == 1) = true := by simp [k1]
      have d1 : decide (x.f0 = 1) = true := by simp [k1]
      have HL2 := hid (show linkM v a t x = (((prO (givenM a x.f1)).1, (prO (givenM a x.f1)).2), false, (givenM a x.f1).isSome) by
       unfold linkM
       rw [if_pos k1])
      obtain ⟨hp1, hp2, he0, hk0⟩ : p1 = (prO (givenM a x.f1)).1 ∧ p2 = (prO (givenM a x.f1)).2 ∧ EE = false ∧ ok = ((givenM a x.f1).isSome) := by
       have := HLM.out.symm.trans HL2.out
       simp only [Prod.mk.injEq] at this
       exact ⟨this.1.1, this.1.2, this.2.1, this.2.2⟩
      subst he0
      have HK := hid k1
      clear k1
      rw [show litsOf x = [x.f1] by unfold litsOf; rw [if_pos (Or.inl HK.out)]] at HSTEP
      obtain ⟨⟨u1, u2⟩, hpp, HT⟩ := told_c A1 c1 a x.f1 HWX.out.1 (by have := HBN.out.2.1; omega)
      have HT0 := hid HT
      clear HT
      go_wp2_with fail
      obtain ⟨W3, hW3⟩ : ∃ W3, W3 = (wr.alloc (.cells (lkC x (.slice A6 x.f6.length c6)) 36)).alloc (.cells #[.int .i64 0, .int .i64 0] 60) := ⟨_, rfl⟩
      have HN3 := hid (Rn.made HLr.out (lkC x (.slice A6 x.f6.length c6)))
      obtain ⟨kx, hkx⟩ : ∃ k, k = wr.heap.size := ⟨_, rfl⟩
      rw [← hkx] at HN3
      rw [← hW3] at HN3
      rw [← hW3, ← hkx]
      clear hW3 hkx y0 y1 y2 y3 y4 y5 y6 b0
      have HT2 := hid (HT0.out W3 (Kd.C_below HA.out.2 HN3.out.rc.below) HA.out.1)
      rw [← HNA.out] at HT2
      refine HT2.out.mono ?_
      rintro e4 w4 ⟨rfl, hb4⟩
      have HN4 := hid (HN3.out.move hb4)
      clear hb4 HT2 HT0
      obtain ⟨W5, hW5⟩ : ∃ W, W = (w4.setCell ⟨kx + 1, 0, none⟩ (.int .i64 u1)).setCell ⟨kx + 1, 1, none⟩ (.int .i64 u2) := ⟨_, rfl⟩
      have HN5 := hid (HN4.out.store u1 u2)
      rw [← hW5] at HN5
      have y1 := (HN5.out.l 1).trans (show _ = some (.int .i64 x.f1) from rfl)
      rw [hW5] at y1
      have HNB := hid (show (W5.alloc (.cells #[.int .i64 x.f1] 33)).heap[w4.heap.size]? = some (.cells #[.int .i64 x.f1] 33 (0, 0)) from by rw [show w4.heap.size = W5.heap.size by rw [hW5]; simp]; exact heap_alloc_new _ _)
      have HPB := hid (HN5.out.move ((Below.refl _ W5).alloc (Nat.le_refl _) (.cells #[.int .i64 x.f1] 33)))
      have HOS := hid (show (W5.alloc (.cells #[.int .i64 x.f1] 33)).ownsRow 0 33 1 (.slice As ns cs) ns (MM.lits s) by
       have h1 := HPB.out.rc.lts
       rw [← HNS.out] at h1
       exact h1)
      cases hgv : givenM a x.f1 with
      | none =>
       have HE := hid (HBAD.out (by rw [hk0, hgv]; simp))
       as_aux_lemma =>
        have l0 := (HN4.out.l 0).trans (show _ = some (.int .u8 x.f0) from rfl)
        have l1 := (HN4.out.l 1).trans (show _ = some (.int .i64 x.f1) from rfl)
        have n0 := HN4.out.n0
        have n1 := HN4.out.n1
        have g0 := HN4.out.f0
        have g1 := HN4.out.f1
        go_wp2_with (at_builtin; go_loud (rw [← hW5]; refine wpList_append_lies (W5.alloc (.cells #[.int .i64 x.f1] 33)) (by rfl) _ _ _ (by rfl) 0 33 i33 (.int .i64 0) 1 8 Tryd.underlying28 HI33.out.1 HI33.out.2.1 HI33.out.2.2.1 HI33.out.2.2.2 rfl (by omega) (.slice As ns cs) ns (MM.lits s) (by rfl) HOS.out ⟨w4.heap.size, 0, none⟩ 1 1 [.int .i64 x.f1] (by rfl) (by rfl) (fun j u hu => World.news_of_block HNB.out j u (by simpa using hu)) (by simp [Value.oneCell']) (by omega) (by unfold maxLen; omega) (by omega) (Nat.zero_le _) (W5.heap.size + 1) (by simp) ?_; intro gy cy w6 ho6 hg6 hat6 hlt6; have HN6 := hid (HPB.out.pushS x.f1 (sv' := .slice (some ⟨gy, 0, none⟩) (ns + 1) cy) (by rw [← HNS.out]; exact ho6) hg6 (at_or hat6)); have l0 := (HN6.out.l 0).trans (show _ = some (.int .u8 x.f0) from rfl); have l1 := (HN6.out.l 1).trans (show _ = some (.int .i64 x.f1) from rfl); clear ho6 hg6 hat6 hlt6))
        clear n0 n1 g0 g1 y1
        have hSS : (fun w' : World => w'.cell? ⟨kx, 0, none⟩ = some (.int .u8 x.f0)) w6.drew := (HN6.out.drew.l 0).trans rfl
        refine wp_region_noPanic ?_
        refine start_ (n := 30) (S := (fun w' : World => w'.cell? ⟨kx, 0, none⟩ = some (.int .u8 x.f0))) (ds := []) (msk 0 30) (by kernel_rfl) rfl rfl hSS (fun hHeld => ?_)
        refine pure_ (i := 0) (N := some 101) (v := ?_) (a' := ?_) (msk 1 30) rfl rfl (by kernel_rfl) (fun _ _ _ h => h) (Or.inl ⟨by rfl, ?_⟩) ?_ ?_
        rotate_left
        · intro w'; go_simp; with_reducible rfl
        rotate_left
        · simp only [Act.put, sA, sB, sC]; rfl
        refine take_ (i := 1) (N := some 102) (v := ?_) (a' := ?_) (msk 2 30) rfl rfl (by kernel_rfl) (fun _ _ _ h => h) (Or.inl ⟨by rfl, ?_⟩) hHeld ?_ ?_
        rotate_left
        ·
         intro w' s0
         go_simp
         with_reducible rfl
        rotate_left
        · simp only [Act.put, sA, sB, sC]; rfl
        refine pure_ (i := 2) (N := some 103) (v := ?_) (a' := ?_) (msk 3 30) rfl rfl (by kernel_rfl) (fun _ _ _ h => h) (Or.inl ⟨by rfl, ?_⟩) ?_ ?_
        rotate_left
        · intro w'; go_simp; with_reducible rfl
        rotate_left
        · simp only [Act.put, sA, sB, sC]; rfl
        refine pure_ (i := 3) (N := some 104) (v := ?_) (a' := ?_) (msk 4 30) rfl rfl (by kernel_rfl) (fun _ _ _ h => h) (Or.inl ⟨by rfl, ?_⟩) ?_ ?_
        rotate_left
        · intro w'; go_simp; with_reducible rfl
        rotate_left
        · simp only [Act.put, sA, sB, sC]; rfl
        refine take_ (i := 4) (N := some 105) (v := undef) (a' := ?_) (msk 5 30) rfl rfl (by kernel_rfl) (fun _ _ _ h => h) (Or.inr ⟨by rfl, rfl⟩) hHeld ?_ ?_
        rotate_left
        · simp only [Act.put, sA, sB, sC]; rfl
        refine take_ (i := 5) (N := some 106) (v := undef) (a' := ?_) (msk 6 30) rfl rfl (by kernel_rfl) (fun _ _ _ h => h) (Or.inr ⟨by rfl, rfl⟩) hHeld ?_ ?_
        rotate_left
        · simp only [Act.put, sA, sB, sC]; rfl
        refine take_ (i := 6) (N := some 107) (v := undef) (a' := ?_) (msk 7 30) rfl rfl (by kernel_rfl) (fun _ _ _ h => h) (Or.inr ⟨by rfl, rfl⟩) hHeld ?_ ?_
        rotate_left
        · simp only [Act.put, sA, sB, sC]; rfl
        refine take_ (i := 7) (N := some 108) (v := undef) (a' := ?_) (msk 8 30) rfl rfl (by kernel_rfl) (fun _ _ _ h => h) (Or.inr ⟨by rfl, rfl⟩) hHeld ?_ ?_
        rotate_left
        · simp only [Act.put, sA, sB, sC]; rfl
        refine pure_ (i := 8) (N := some 109) (v := ?_) (a' := ?_) (msk 9 30) rfl rfl (by kernel_rfl) (fun _ _ _ h => h) (Or.inl ⟨by rfl, ?_⟩) ?_ ?_
        rotate_left
        · intro w'; go_simp; with_reducible rfl
        rotate_left
        · simp only [Act.put, sA, sB, sC]; rfl
        refine pure_ (i := 9) (N := some 110) (v := ?_) (a' := ?_) (msk 10 30) rfl rfl (by kernel_rfl) (fun _ _ _ h => h) (Or.inl ⟨by rfl, ?_⟩) ?_ ?_
        rotate_left
        · intro w'; go_simp; with_reducible rfl
        rotate_left
        · simp only [Act.put, sA, sB, sC]; rfl
        refine take_ (i := 10) (N := some 111) (v := undef) (a' := ?_) (msk 11 30) rfl rfl (by kernel_rfl) (fun _ _ _ h => h) (Or.inr ⟨by rfl, rfl⟩) hHeld ?_ ?_
        rotate_left
        · simp only [Act.put, sA, sB, sC]; rfl
        refine take_ (i := 11) (N := some 112) (v := undef) (a' := ?_) (msk 12 30) rfl rfl (by kernel_rfl) (fun _ _ _ h => h) (Or.inr ⟨by rfl, rfl⟩) hHeld ?_ ?_
        rotate_left
        · simp only [Act.put, sA, sB, sC]; rfl
        refine take_ (i := 12) (N := some 113) (v := undef) (a' := ?_) (msk 13 30) rfl rfl (by kernel_rfl) (fun _ _ _ h => h) (Or.inr ⟨by rfl, rfl⟩) hHeld ?_ ?_
        rotate_left
        · simp only [Act.put, sA, sB, sC]; rfl
        refine take_ (i := 13) (N := some 114) (v := undef) (a' := ?_) (msk 14 30) rfl rfl (by kernel_rfl) (fun _ _ _ h => h) (Or.inr ⟨by rfl, rfl⟩) hHeld ?_ ?_
        rotate_left
        · simp only [Act.put, sA, sB, sC]; rfl
        refine pure_ (i := 14) (N := some 115) (v := ?_) (a' := ?_) (msk 15 30) rfl rfl (by kernel_rfl) (fun _ _ _ h => h) (Or.inl ⟨by rfl, ?_⟩) ?_ ?_
        rotate_left
        · intro w'; go_simp; with_reducible rfl
        rotate_left
        · simp only [Act.put, sA, sB, sC]; rfl
        refine pure_ (i := 15) (N := some 116) (v := ?_) (a' := ?_) (msk 16 30) rfl rfl (by kernel_rfl) (fun _ _ _ h => h) (Or.inl ⟨by rfl, ?_⟩) ?_ ?_
        rotate_left
        · intro w'; go_simp; with_reducible rfl
        rotate_left
        · simp only [Act.put, sA, sB, sC]; rfl
        refine take_ (i := 16) (N := some 117) (v := undef) (a' := ?_) (msk 17 30) rfl rfl (by kernel_rfl) (fun _ _ _ h => h) (Or.inr ⟨by rfl, rfl⟩) hHeld ?_ ?_
        rotate_left
        · simp only [Act.put, sA, sB, sC]; rfl
        refine take_ (i := 17) (N := some 118) (v := undef) (a' := ?_) (msk 18 30) rfl rfl (by kernel_rfl) (fun _ _ _ h => h) (Or.inr ⟨by rfl, rfl⟩) hHeld ?_ ?_
        rotate_left
        · simp only [Act.put, sA, sB, sC]; rfl
        refine take_ (i := 18) (N := some 119) (v := undef) (a' := ?_) (msk 19 30) rfl rfl (by kernel_rfl) (fun _ _ _ h => h) (Or.inr ⟨by rfl, rfl⟩) hHeld ?_ ?_
        rotate_left
        · simp only [Act.put, sA, sB, sC]; rfl
        refine take_ (i := 19) (N := some 120) (v := undef) (a' := ?_) (msk 20 30) rfl rfl (by kernel_rfl) (fun _ _ _ h => h) (Or.inr ⟨by rfl, rfl⟩) hHeld ?_ ?_
        rotate_left
        · simp only [Act.put, sA, sB, sC]; rfl
        refine take_ (i := 20) (N := some 121) (v := undef) (a' := ?_) (msk 21 30) rfl rfl (by kernel_rfl) (fun _ _ _ h => h) (Or.inr ⟨by rfl, rfl⟩) hHeld ?_ ?_
        rotate_left
        · simp only [Act.put, sA, sB, sC]; rfl
        refine take_ (i := 21) (N := some 122) (v := undef) (a' := ?_) (msk 22 30) rfl rfl (by kernel_rfl) (fun _ _ _ h => h) (Or.inr ⟨by rfl, rfl⟩) hHeld ?_ ?_
        rotate_left
        · simp only [Act.put, sA, sB, sC]; rfl
        refine take_ (i := 22) (N := some 123) (v := undef) (a' := ?_) (msk 23 30) rfl rfl (by kernel_rfl) (fun _ _ _ h => h) (Or.inr ⟨by rfl, rfl⟩) hHeld ?_ ?_
        rotate_left
        · simp only [Act.put, sA, sB, sC]; rfl
        refine take_ (i := 23) (N := some 124) (v := undef) (a' := ?_) (msk 24 30) rfl rfl (by kernel_rfl) (fun _ _ _ h => h) (Or.inr ⟨by rfl, rfl⟩) hHeld ?_ ?_
        rotate_left
        · simp only [Act.put, sA, sB, sC]; rfl
        refine take_ (i := 24) (N := some 125) (v := undef) (a' := ?_) (msk 25 30) rfl rfl (by kernel_rfl) (fun _ _ _ h => h) (Or.inr ⟨by rfl, rfl⟩) hHeld ?_ ?_
        rotate_left
        · simp only [Act.put, sA, sB, sC]; rfl
        refine take_ (i := 25) (N := some 126) (v := undef) (a' := ?_) (msk 26 30) rfl rfl (by kernel_rfl) (fun _ _ _ h => h) (Or.inr ⟨by rfl, rfl⟩) hHeld ?_ ?_
        rotate_left
        · simp only [Act.put, sA, sB, sC]; rfl
        refine take_ (i := 26) (N := some 127) (v := undef) (a' := ?_) (msk 27 30) rfl rfl (by kernel_rfl) (fun _ _ _ h => h) (Or.inr ⟨by rfl, rfl⟩) hHeld ?_ ?_
        rotate_left
        · simp only [Act.put, sA, sB, sC]; rfl
        refine take_ (i := 27) (N := some 128) (v := undef) (a' := ?_) (msk 28 30) rfl rfl (by kernel_rfl) (fun _ _ _ h => h) (Or.inr ⟨by rfl, rfl⟩) hHeld ?_ ?_
        rotate_left
        · simp only [Act.put, sA, sB, sC]; rfl
        refine take_ (i := 28) (N := some 129) (v := undef) (a' := ?_) (msk 29 30) rfl rfl (by kernel_rfl) (fun _ _ _ h => h) (Or.inr ⟨by rfl, rfl⟩) hHeld ?_ ?_
        rotate_left
        · simp only [Act.put, sA, sB, sC]; rfl
        refine pure_ (i := 29) (N := some 130) (v := ?_) (a' := ?_) (msk 30 30) rfl rfl (by kernel_rfl) (fun _ _ _ h => h) (Or.inl ⟨by rfl, ?_⟩) ?_ ?_
        rotate_left
        · intro w'; go_simp; with_reducible rfl
        rotate_left
        · simp only [Act.put, sA, sB, sC]; rfl
        refine done_ (by kernel_rfl) ?_
        try simp only [NoPanic, Exit.then]
        have HN7 := hid HN6.out.drew
        obtain ⟨W7, hW7⟩ : ∃ V, V = w6.drew := ⟨_, rfl⟩
        rw [← hW7] at HN7 ⊢
        clear hW7 hSS hHeld
        have l0 := (HN7.out.l 0).trans (show _ = some (.int .u8 x.f0) from rfl)
        have n0 := HN7.out.n0
        have n1 := HN7.out.n1
        have g0 := HN7.out.f0
        have g1 := HN7.out.f1
        go_wp2
        go_ret2
        exact checked_none HR.out HE.out HN7.out.rc.below
      | some q =>
       obtain rfl := hpp q hgv
       obtain ⟨rfl, rfl⟩ : u1 = p1 ∧ u2 = p2 := ⟨by rw [hp1, hgv]; rfl, by rw [hp2, hgv]; rfl⟩
       have hk1 : ok = true := by rw [hk0, hgv]; rfl
       subst hk1
       clear hp1 hp2 hk0 HL2 hpp
       as_aux_lemma =>
        have l0 := (HN4.out.l 0).trans (show _ = some (.int .u8 x.f0) from rfl)
        have l1 := (HN4.out.l 1).trans (show _ = some (.int .i64 x.f1) from rfl)
        have n0 := HN4.out.n0
        have n1 := HN4.out.n1
        have g0 := HN4.out.f0
        have g1 := HN4.out.f1
        go_wp2_with (at_builtin; go_loud (rw [← hW5]; refine wpList_append_lies (W5.alloc (.cells #[.int .i64 x.f1] 33)) (by rfl) _ _ _ (by rfl) 0 33 i33 (.int .i64 0) 1 8 Tryd.underlying28 HI33.out.1 HI33.out.2.1 HI33.out.2.2.1 HI33.out.2.2.2 rfl (by omega) (.slice As ns cs) ns (MM.lits s) (by rfl) HOS.out ⟨w4.heap.size, 0, none⟩ 1 1 [.int .i64 x.f1] (by rfl) (by rfl) (fun j u hu => World.news_of_block HNB.out j u (by simpa using hu)) (by simp [Value.oneCell']) (by omega) (by unfold maxLen; omega) (by omega) (Nat.zero_le _) (W5.heap.size + 1) (by simp) ?_; intro gy cy w6 ho6 hg6 hat6 hlt6; have HN6 := hid (HPB.out.pushS x.f1 (sv' := .slice (some ⟨gy, 0, none⟩) (ns + 1) cy) (by rw [← HNS.out]; exact ho6) hg6 (at_or hat6)); have l0 := (HN6.out.l 0).trans (show _ = some (.int .u8 x.f0) from rfl); have l1 := (HN6.out.l 1).trans (show _ = some (.int .i64 x.f1) from rfl); clear ho6 hg6 hat6 hlt6))
        clear n0 n1 g0 g1 y1
        have hSS : (fun w' : World => w'.cell? ⟨kx, 0, none⟩ = some (.int .u8 x.f0)) w6.drew := (HN6.out.drew.l 0).trans rfl
        refine wp_region_noPanic ?_
        refine start_ (n := 30) (S := (fun w' : World => w'.cell? ⟨kx, 0, none⟩ = some (.int .u8 x.f0))) (ds := []) (msk 0 30) (by kernel_rfl) rfl rfl hSS (fun hHeld => ?_)
        refine pure_ (i := 0) (N := some 101) (v := ?_) (a' := ?_) (msk 1 30) rfl rfl (by kernel_rfl) (fun _ _ _ h => h) (Or.inl ⟨by rfl, ?_⟩) ?_ ?_
        rotate_left
        · intro w'; go_simp; with_reducible rfl
        rotate_left
        · simp only [Act.put, sA, sB, sC]; rfl
        refine take_ (i := 1) (N := some 102) (v := ?_) (a' := ?_) (msk 2 30) rfl rfl (by kernel_rfl) (fun _ _ _ h => h) (Or.inl ⟨by rfl, ?_⟩) hHeld ?_ ?_
        rotate_left
        ·
         intro w' s0
         go_simp
         with_reducible rfl
        rotate_left
        · simp only [Act.put, sA, sB, sC]; rfl
        refine pure_ (i := 2) (N := some 103) (v := ?_) (a' := ?_) (msk 3 30) rfl rfl (by kernel_rfl) (fun _ _ _ h => h) (Or.inl ⟨by rfl, ?_⟩) ?_ ?_
        rotate_left
        · intro w'; go_simp; with_reducible rfl
        rotate_left
        · simp only [Act.put, sA, sB, sC]; rfl
        refine pure_ (i := 3) (N := some 104) (v := ?_) (a' := ?_) (msk 4 30) rfl rfl (by kernel_rfl) (fun _ _ _ h => h) (Or.inl ⟨by rfl, ?_⟩) ?_ ?_
        rotate_left
        · intro w'; go_simp; with_reducible rfl
        rotate_left
        · simp only [Act.put, sA, sB, sC]; rfl
        refine take_ (i := 4) (N := some 105) (v := undef) (a' := ?_) (msk 5 30) rfl rfl (by kernel_rfl) (fun _ _ _ h => h) (Or.inr ⟨by rfl, rfl⟩) hHeld ?_ ?_
        rotate_left
        · simp only [Act.put, sA, sB, sC]; rfl
        refine take_ (i := 5) (N := some 106) (v := undef) (a' := ?_) (msk 6 30) rfl rfl (by kernel_rfl) (fun _ _ _ h => h) (Or.inr ⟨by rfl, rfl⟩) hHeld ?_ ?_
        rotate_left
        · simp only [Act.put, sA, sB, sC]; rfl
        refine take_ (i := 6) (N := some 107) (v := undef) (a' := ?_) (msk 7 30) rfl rfl (by kernel_rfl) (fun _ _ _ h => h) (Or.inr ⟨by rfl, rfl⟩) hHeld ?_ ?_
        rotate_left
        · simp only [Act.put, sA, sB, sC]; rfl
        refine take_ (i := 7) (N := some 108) (v := undef) (a' := ?_) (msk 8 30) rfl rfl (by kernel_rfl) (fun _ _ _ h => h) (Or.inr ⟨by rfl, rfl⟩) hHeld ?_ ?_
        rotate_left
        · simp only [Act.put, sA, sB, sC]; rfl
        refine pure_ (i := 8) (N := some 109) (v := ?_) (a' := ?_) (msk 9 30) rfl rfl (by kernel_rfl) (fun _ _ _ h => h) (Or.inl ⟨by rfl, ?_⟩) ?_ ?_
        rotate_left
        · intro w'; go_simp; with_reducible rfl
        rotate_left
        · simp only [Act.put, sA, sB, sC]; rfl
        refine pure_ (i := 9) (N := some 110) (v := ?_) (a' := ?_) (msk 10 30) rfl rfl (by kernel_rfl) (fun _ _ _ h => h) (Or.inl ⟨by rfl, ?_⟩) ?_ ?_
        rotate_left
        · intro w'; go_simp; with_reducible rfl
        rotate_left
        · simp only [Act.put, sA, sB, sC]; rfl
        refine take_ (i := 10) (N := some 111) (v := undef) (a' := ?_) (msk 11 30) rfl rfl (by kernel_rfl) (fun _ _ _ h => h) (Or.inr ⟨by rfl, rfl⟩) hHeld ?_ ?_
        rotate_left
        · simp only [Act.put, sA, sB, sC]; rfl
        refine take_ (i := 11) (N := some 112) (v := undef) (a' := ?_) (msk 12 30) rfl rfl (by kernel_rfl) (fun _ _ _ h => h) (Or.inr ⟨by rfl, rfl⟩) hHeld ?_ ?_
        rotate_left
        · simp only [Act.put, sA, sB, sC]; rfl
        refine take_ (i := 12) (N := some 113) (v := undef) (a' := ?_) (msk 13 30) rfl rfl (by kernel_rfl) (fun _ _ _ h => h) (Or.inr ⟨by rfl, rfl⟩) hHeld ?_ ?_
        rotate_left
        · simp only [Act.put, sA, sB, sC]; rfl
        refine take_ (i := 13) (N := some 114) (v := undef) (a' := ?_) (msk 14 30) rfl rfl (by kernel_rfl) (fun _ _ _ h => h) (Or.inr ⟨by rfl, rfl⟩) hHeld ?_ ?_
        rotate_left
        · simp only [Act.put, sA, sB, sC]; rfl
        refine pure_ (i := 14) (N := some 115) (v := ?_) (a' := ?_) (msk 15 30) rfl rfl (by kernel_rfl) (fun _ _ _ h => h) (Or.inl ⟨by rfl, ?_⟩) ?_ ?_
        rotate_left
        · intro w'; go_simp; with_reducible rfl
        rotate_left
        · simp only [Act.put, sA, sB, sC]; rfl
        refine pure_ (i := 15) (N := some 116) (v := ?_) (a' := ?_) (msk 16 30) rfl rfl (by kernel_rfl) (fun _ _ _ h => h) (Or.inl ⟨by rfl, ?_⟩) ?_ ?_
        rotate_left
        · intro w'; go_simp; with_reducible rfl
        rotate_left
        · simp only [Act.put, sA, sB, sC]; rfl
        refine take_ (i := 16) (N := some 117) (v := undef) (a' := ?_) (msk 17 30) rfl rfl (by kernel_rfl) (fun _ _ _ h => h) (Or.inr ⟨by rfl, rfl⟩) hHeld ?_ ?_
        rotate_left
        · simp only [Act.put, sA, sB, sC]; rfl
        refine take_ (i := 17) (N := some 118) (v := undef) (a' := ?_) (msk 18 30) rfl rfl (by kernel_rfl) (fun _ _ _ h => h) (Or.inr ⟨by rfl, rfl⟩) hHeld ?_ ?_
        rotate_left
        · simp only [Act.put, sA, sB, sC]; rfl
        refine take_ (i := 18) (N := some 119) (v := undef) (a' := ?_) (msk 19 30) rfl rfl (by kernel_rfl) (fun _ _ _ h => h) (Or.inr ⟨by rfl, rfl⟩) hHeld ?_ ?_
        rotate_left
        · simp only [Act.put, sA, sB, sC]; rfl
        refine take_ (i := 19) (N := some 120) (v := undef) (a' := ?_) (msk 20 30) rfl rfl (by kernel_rfl) (fun _ _ _ h => h) (Or.inr ⟨by rfl, rfl⟩) hHeld ?_ ?_
        rotate_left
        · simp only [Act.put, sA, sB, sC]; rfl
        refine take_ (i := 20) (N := some 121) (v := undef) (a' := ?_) (msk 21 30) rfl rfl (by kernel_rfl) (fun _ _ _ h => h) (Or.inr ⟨by rfl, rfl⟩) hHeld ?_ ?_
        rotate_left
        · simp only [Act.put, sA, sB, sC]; rfl
        refine take_ (i := 21) (N := some 122) (v := undef) (a' := ?_) (msk 22 30) rfl rfl (by kernel_rfl) (fun _ _ _ h => h) (Or.inr ⟨by rfl, rfl⟩) hHeld ?_ ?_
        rotate_left
        · simp only [Act.put, sA, sB, sC]; rfl
        refine take_ (i := 22) (N := some 123) (v := undef) (a' := ?_) (msk 23 30) rfl rfl (by kernel_rfl) (fun _ _ _ h => h) (Or.inr ⟨by rfl, rfl⟩) hHeld ?_ ?_
        rotate_left
        · simp only [Act.put, sA, sB, sC]; rfl
        refine take_ (i := 23) (N := some 124) (v := undef) (a' := ?_) (msk 24 30) rfl rfl (by kernel_rfl) (fun _ _ _ h => h) (Or.inr ⟨by rfl, rfl⟩) hHeld ?_ ?_
        rotate_left
        · simp only [Act.put, sA, sB, sC]; rfl
        refine take_ (i := 24) (N := some 125) (v := undef) (a' := ?_) (msk 25 30) rfl rfl (by kernel_rfl) (fun _ _ _ h => h) (Or.inr ⟨by rfl, rfl⟩) hHeld ?_ ?_
        rotate_left
        · simp only [Act.put, sA, sB, sC]; rfl
        refine take_ (i := 25) (N := some 126) (v := undef) (a' := ?_) (msk 26 30) rfl rfl (by kernel_rfl) (fun _ _ _ h => h) (Or.inr ⟨by rfl, rfl⟩) hHeld ?_ ?_
        rotate_left
        · simp only [Act.put, sA, sB, sC]; rfl
        refine take_ (i := 26) (N := some 127) (v := undef) (a' := ?_) (msk 27 30) rfl rfl (by kernel_rfl) (fun _ _ _ h => h) (Or.inr ⟨by rfl, rfl⟩) hHeld ?_ ?_
        rotate_left
        · simp only [Act.put, sA, sB, sC]; rfl
        refine take_ (i := 27) (N := some 128) (v := undef) (a' := ?_) (msk 28 30) rfl rfl (by kernel_rfl) (fun _ _ _ h => h) (Or.inr ⟨by rfl, rfl⟩) hHeld ?_ ?_
        rotate_left
        · simp only [Act.put, sA, sB, sC]; rfl
        refine take_ (i := 28) (N := some 129) (v := undef) (a' := ?_) (msk 29 30) rfl rfl (by kernel_rfl) (fun _ _ _ h => h) (Or.inr ⟨by rfl, rfl⟩) hHeld ?_ ?_
        rotate_left
        · simp only [Act.put, sA, sB, sC]; rfl
        refine pure_ (i := 29) (N := some 130) (v := ?_) (a' := ?_) (msk 30 30) rfl rfl (by kernel_rfl) (fun _ _ _ h => h) (Or.inl ⟨by rfl, ?_⟩) ?_ ?_
        rotate_left
        · intro w'; go_simp; with_reducible rfl
        rotate_left
        · simp only [Act.put, sA, sB, sC]; rfl
        refine done_ (by kernel_rfl) ?_
        try simp only [NoPanic, Exit.then]
        have HN7 := hid HN6.out.drew
        obtain ⟨W7, hW7⟩ : ∃ V, V = w6.drew := ⟨_, rfl⟩
        rw [← hW7] at HN7 ⊢
        clear hW7 hSS hHeld
        by_cases hlast : i + 1 = nl
        case pos =>
         have HD := hid (show decide (l.drop (i + 1) = []) = true by simpa using HRS.out.2 hlast)
         have q1 : ((i : Int) == (nl : Int) - 1) = true := by simp; omega
         have q2 : decide ((i : Int) = (nl : Int) - 1) = true := by simp; omega
         have HE := hid (HBAD.out (by rw [HD.out]; simp))
         as_aux_lemma =>
          have l0 := (HN7.out.l 0).trans (show _ = some (.int .u8 x.f0) from rfl)
          have n0 := HN7.out.n0
          have n1 := HN7.out.n1
          have g0 := HN7.out.f0
          have g1 := HN7.out.f1
          go_wp2
          go_ret2
          exact checked_none HR.out HE.out HN7.out.rc.below
        case neg =>
         have HD := hid (show decide (l.drop (i + 1) = []) = false by have := HRS.out; simp only [decide_eq_false_iff_not]; exact fun h => hlast (this.1 h))
         have q1 : ((i : Int) == (nl : Int) - 1) = false := by simp; omega
         have q2 : decide ((i : Int) = (nl : Int) - 1) = false := by simp; omega
         have HST := hid (HSTEP.out (by first | trivial | rfl) HD.out.symm)
         as_aux_lemma =>
          have l0 := (HN7.out.l 0).trans (show _ = some (.int .u8 x.f0) from rfl)
          have n0 := HN7.out.n0
          have n1 := HN7.out.n1
          have g0 := HN7.out.f0
          have g1 := HN7.out.f1
          have HPA := hid (HN7.out.rc.move ((Below.refl _ W7).alloc (Nat.le_refl _) (.cells #[.int .i64 u1, .int .i64 u2] 60)))
          have HOW := hid (show (W7.alloc (.cells #[.int .i64 u1, .int .i64 u2] 60)).ownsRow 0 60 2 (.slice At i ct) i (prs t) by
           have h1 := HPA.out.told
           rw [← HNT.out] at h1
           exact h1)
          go_wp2_with (at_builtin; go_loud (refine wpList_append_lies (W7.alloc (.cells #[.int .i64 u1, .int .i64 u2] 60)) (by rfl) _ _ _ (by rfl) 0 60 i60 (.agg #[.int .i64 0, .int .i64 0]) 2 16 Tryd.underlying58 HI60.out.1 HI60.out.2.1 HI60.out.2.2.1 HI60.out.2.2.2 rfl (by omega) (.slice At i ct) i (prs t) (by rfl) HOW.out ⟨W7.heap.size, 0, none⟩ 1 1 [.int .i64 u1, .int .i64 u2] (by rfl) (by rfl) (fun j u hu => World.news_of_block (heap_alloc_new W7 (.cells #[.int .i64 u1, .int .i64 u2] 60)) j u (by simpa using hu)) (by simp [Value.oneCell']) (by omega) (by unfold maxLen; omega) (by omega) (Nat.zero_le _) (W7.heap.size + 1) (by simp) ?_; intro gz cap w7 ho7 hg7 hat7 hlt7; have H60 := hid (HPA.out.pushT (u1, u2) (tv' := .slice (some ⟨gz, 0, none⟩) (i + 1) cap) (by rw [← HNT.out]; exact ho7) hg7 (at_or hat7)); clear ho7 hg7 hat7 hlt7))
          go_roundg left
          case measure => omega
          case rel => exact ⟨i + 1, t ++ [(u1, u2)], (s ++ [x.f1]), false, _, _, by omega, rfl, rfl, by go_num, by (have := HNT.out; rw [List.length_append, List.length_singleton]; omega), by (have := HNS.out; rw [List.length_append, List.length_singleton]; omega), hid H60.out, hid ⟨HST.out.symm.trans HG.out.1, fun h => absurd h (by omega), fun _ => (decide_eq_false hlast).symm⟩⟩
    by_cases k2 : x.f0 = 2
    case pos =>
     as_aux_lemma =>
      have b1 : (x.f0 == 1) = false := by simp; omega
      have d1 : decide (x.f0 = 1) = false := by simp; omega
      have b3 : (x.f0 == 3) = false := by simp; omega
      have d3 : decide (x.f0 = 3) = false := by simp; omega
      have b4 : (x.f0 == 4) = false := by simp; omega
      have d4 : decide (x.f0 = 4) = false := by simp; omega
      have b5 : (x.f0 == 5) = false := by simp; omega
      have d5 : decide (x.f0 = 5) = false := by simp; omega
      have b6 : (x.f0 == 6) = false := by simp; omega
      have d6 : decide (x.f0 = 6) = false := by simp; omega
      have b7 : (x.f0 == 7) = false := by simp; omega
      have d7 : decide (x.f0 = 7) = false := by simp; omega
      have b2 : (x.f0 == 2) = true := by simp [k2]
      have d2 : decide (x.f0 = 2) = true := by simp [k2]
      obtain ⟨rfl, rfl, rfl, rfl⟩ : p1 = x.f2 ∧ p2 = x.f2 ∧ EE = false ∧ ok = inB nv x.f2 := by
       have := HLM.out
       unfold linkM at this
       rw [if_neg k1, if_pos k2, ← HNV.out] at this
       cases this
       exact ⟨rfl, rfl, rfl, rfl⟩
      have HK := hid k2
      clear k2
      go_wp2_with fail
      obtain ⟨W3, hW3⟩ : ∃ W3, W3 = (wr.alloc (.cells (lkC x (.slice A6 x.f6.length c6)) 36)).alloc (.cells #[.int .i64 0, .int .i64 0] 60) := ⟨_, rfl⟩
      have HN3 := hid (Rn.made HLr.out (lkC x (.slice A6 x.f6.length c6)))
      obtain ⟨kx, hkx⟩ : ∃ k, k = wr.heap.size := ⟨_, rfl⟩
      rw [← hkx] at HN3
      rw [← hW3] at HN3
      rw [← hW3, ← hkx]
      clear hW3 hkx y0 y1 y2 y3 y4 y5 y6 b0
      refine (within_c x.f2 nv W3).mono ?_
      rintro e4 w4 ⟨rfl, hb4⟩
      have HN4 := hid (HN3.out.move hb4)
      clear hb4
      cases hin2 : inB nv x.f2 with
      | false =>
       have HE := hid (HBAD.out (by rw [hin2]; simp))
       as_aux_lemma =>
        have l0 := (HN4.out.l 0).trans (show _ = some (.int .u8 x.f0) from rfl)
        have n0 := HN4.out.n0
        have n1 := HN4.out.n1
        have g0 := HN4.out.f0
        have g1 := HN4.out.f1
        go_wp2_with fail
        have hSS : (fun w' : World => w'.cell? ⟨kx, 0, none⟩ = some (.int .u8 x.f0)) w4.drew := (HN4.out.drew.l 0).trans rfl
        refine wp_region_noPanic ?_
        refine start_ (n := 30) (S := (fun w' : World => w'.cell? ⟨kx, 0, none⟩ = some (.int .u8 x.f0))) (ds := []) (msk 0 30) (by kernel_rfl) rfl rfl hSS (fun hHeld => ?_)
        refine pure_ (i := 0) (N := some 101) (v := ?_) (a' := ?_) (msk 1 30) rfl rfl (by kernel_rfl) (fun _ _ _ h => h) (Or.inl ⟨by rfl, ?_⟩) ?_ ?_
        rotate_left
        · intro w'; go_simp; with_reducible rfl
        rotate_left
        · simp only [Act.put, sA, sB, sC]; rfl
        refine take_ (i := 1) (N := some 102) (v := ?_) (a' := ?_) (msk 2 30) rfl rfl (by kernel_rfl) (fun _ _ _ h => h) (Or.inl ⟨by rfl, ?_⟩) hHeld ?_ ?_
        rotate_left
        ·
         intro w' s0
         go_simp
         with_reducible rfl
        rotate_left
        · simp only [Act.put, sA, sB, sC]; rfl
        refine pure_ (i := 2) (N := some 103) (v := ?_) (a' := ?_) (msk 3 30) rfl rfl (by kernel_rfl) (fun _ _ _ h => h) (Or.inl ⟨by rfl, ?_⟩) ?_ ?_
        rotate_left
        · intro w'; go_simp; with_reducible rfl
        rotate_left
        · simp only [Act.put, sA, sB, sC]; rfl
        refine pure_ (i := 3) (N := some 104) (v := ?_) (a' := ?_) (msk 4 30) rfl rfl (by kernel_rfl) (fun _ _ _ h => h) (Or.inl ⟨by rfl, ?_⟩) ?_ ?_
        rotate_left
        · intro w'; go_simp; with_reducible rfl
        rotate_left
        · simp only [Act.put, sA, sB, sC]; rfl
        refine take_ (i := 4) (N := some 105) (v := undef) (a' := ?_) (msk 5 30) rfl rfl (by kernel_rfl) (fun _ _ _ h => h) (Or.inr ⟨by rfl, rfl⟩) hHeld ?_ ?_
        rotate_left
        · simp only [Act.put, sA, sB, sC]; rfl
        refine take_ (i := 5) (N := some 106) (v := undef) (a' := ?_) (msk 6 30) rfl rfl (by kernel_rfl) (fun _ _ _ h => h) (Or.inr ⟨by rfl, rfl⟩) hHeld ?_ ?_
        rotate_left
        · simp only [Act.put, sA, sB, sC]; rfl
        refine take_ (i := 6) (N := some 107) (v := undef) (a' := ?_) (msk 7 30) rfl rfl (by kernel_rfl) (fun _ _ _ h => h) (Or.inr ⟨by rfl, rfl⟩) hHeld ?_ ?_
        rotate_left
        · simp only [Act.put, sA, sB, sC]; rfl
        refine take_ (i := 7) (N := some 108) (v := undef) (a' := ?_) (msk 8 30) rfl rfl (by kernel_rfl) (fun _ _ _ h => h) (Or.inr ⟨by rfl, rfl⟩) hHeld ?_ ?_
        rotate_left
        · simp only [Act.put, sA, sB, sC]; rfl
        refine pure_ (i := 8) (N := some 109) (v := ?_) (a' := ?_) (msk 9 30) rfl rfl (by kernel_rfl) (fun _ _ _ h => h) (Or.inl ⟨by rfl, ?_⟩) ?_ ?_
        rotate_left
        · intro w'; go_simp; with_reducible rfl
        rotate_left
        · simp only [Act.put, sA, sB, sC]; rfl
        refine pure_ (i := 9) (N := some 110) (v := ?_) (a' := ?_) (msk 10 30) rfl rfl (by kernel_rfl) (fun _ _ _ h => h) (Or.inl ⟨by rfl, ?_⟩) ?_ ?_
        rotate_left
        · intro w'; go_simp; with_reducible rfl
        rotate_left
        · simp only [Act.put, sA, sB, sC]; rfl
        refine take_ (i := 10) (N := some 111) (v := undef) (a' := ?_) (msk 11 30) rfl rfl (by kernel_rfl) (fun _ _ _ h => h) (Or.inr ⟨by rfl, rfl⟩) hHeld ?_ ?_
        rotate_left
        · simp only [Act.put, sA, sB, sC]; rfl
        refine take_ (i := 11) (N := some 112) (v := undef) (a' := ?_) (msk 12 30) rfl rfl (by kernel_rfl) (fun _ _ _ h => h) (Or.inr ⟨by rfl, rfl⟩) hHeld ?_ ?_
        rotate_left
        · simp only [Act.put, sA, sB, sC]; rfl
        refine take_ (i := 12) (N := some 113) (v := undef) (a' := ?_) (msk 13 30) rfl rfl (by kernel_rfl) (fun _ _ _ h => h) (Or.inr ⟨by rfl, rfl⟩) hHeld ?_ ?_
        rotate_left
        · simp only [Act.put, sA, sB, sC]; rfl
        refine take_ (i := 13) (N := some 114) (v := undef) (a' := ?_) (msk 14 30) rfl rfl (by kernel_rfl) (fun _ _ _ h => h) (Or.inr ⟨by rfl, rfl⟩) hHeld ?_ ?_
        rotate_left
        · simp only [Act.put, sA, sB, sC]; rfl
        refine pure_ (i := 14) (N := some 115) (v := ?_) (a' := ?_) (msk 15 30) rfl rfl (by kernel_rfl) (fun _ _ _ h => h) (Or.inl ⟨by rfl, ?_⟩) ?_ ?_
        rotate_left
        · intro w'; go_simp; with_reducible rfl
        rotate_left
        · simp only [Act.put, sA, sB, sC]; rfl
        refine pure_ (i := 15) (N := some 116) (v := ?_) (a' := ?_) (msk 16 30) rfl rfl (by kernel_rfl) (fun _ _ _ h => h) (Or.inl ⟨by rfl, ?_⟩) ?_ ?_
        rotate_left
        · intro w'; go_simp; with_reducible rfl
        rotate_left
        · simp only [Act.put, sA, sB, sC]; rfl
        refine take_ (i := 16) (N := some 117) (v := undef) (a' := ?_) (msk 17 30) rfl rfl (by kernel_rfl) (fun _ _ _ h => h) (Or.inr ⟨by rfl, rfl⟩) hHeld ?_ ?_
        rotate_left
        · simp only [Act.put, sA, sB, sC]; rfl
        refine take_ (i := 17) (N := some 118) (v := undef) (a' := ?_) (msk 18 30) rfl rfl (by kernel_rfl) (fun _ _ _ h => h) (Or.inr ⟨by rfl, rfl⟩) hHeld ?_ ?_
        rotate_left
        · simp only [Act.put, sA, sB, sC]; rfl
        refine take_ (i := 18) (N := some 119) (v := undef) (a' := ?_) (msk 19 30) rfl rfl (by kernel_rfl) (fun _ _ _ h => h) (Or.inr ⟨by rfl, rfl⟩) hHeld ?_ ?_
        rotate_left
        · simp only [Act.put, sA, sB, sC]; rfl
        refine take_ (i := 19) (N := some 120) (v := undef) (a' := ?_) (msk 20 30) rfl rfl (by kernel_rfl) (fun _ _ _ h => h) (Or.inr ⟨by rfl, rfl⟩) hHeld ?_ ?_
        rotate_left
        · simp only [Act.put, sA, sB, sC]; rfl
        refine take_ (i := 20) (N := some 121) (v := undef) (a' := ?_) (msk 21 30) rfl rfl (by kernel_rfl) (fun _ _ _ h => h) (Or.inr ⟨by rfl, rfl⟩) hHeld ?_ ?_
        rotate_left
        · simp only [Act.put, sA, sB, sC]; rfl
        refine take_ (i := 21) (N := some 122) (v := undef) (a' := ?_) (msk 22 30) rfl rfl (by kernel_rfl) (fun _ _ _ h => h) (Or.inr ⟨by rfl, rfl⟩) hHeld ?_ ?_
        rotate_left
        · simp only [Act.put, sA, sB, sC]; rfl
        refine take_ (i := 22) (N := some 123) (v := undef) (a' := ?_) (msk 23 30) rfl rfl (by kernel_rfl) (fun _ _ _ h => h) (Or.inr ⟨by rfl, rfl⟩) hHeld ?_ ?_
        rotate_left
        · simp only [Act.put, sA, sB, sC]; rfl
        refine take_ (i := 23) (N := some 124) (v := undef) (a' := ?_) (msk 24 30) rfl rfl (by kernel_rfl) (fun _ _ _ h => h) (Or.inr ⟨by rfl, rfl⟩) hHeld ?_ ?_
        rotate_left
        · simp only [Act.put, sA, sB, sC]; rfl
        refine take_ (i := 24) (N := some 125) (v := undef) (a' := ?_) (msk 25 30) rfl rfl (by kernel_rfl) (fun _ _ _ h => h) (Or.inr ⟨by rfl, rfl⟩) hHeld ?_ ?_
        rotate_left
        · simp only [Act.put, sA, sB, sC]; rfl
        refine take_ (i := 25) (N := some 126) (v := undef) (a' := ?_) (msk 26 30) rfl rfl (by kernel_rfl) (fun _ _ _ h => h) (Or.inr ⟨by rfl, rfl⟩) hHeld ?_ ?_
        rotate_left
        · simp only [Act.put, sA, sB, sC]; rfl
        refine take_ (i := 26) (N := some 127) (v := undef) (a' := ?_) (msk 27 30) rfl rfl (by kernel_rfl) (fun _ _ _ h => h) (Or.inr ⟨by rfl, rfl⟩) hHeld ?_ ?_
        rotate_left
        · simp only [Act.put, sA, sB, sC]; rfl
        refine take_ (i := 27) (N := some 128) (v := undef) (a' := ?_) (msk 28 30) rfl rfl (by kernel_rfl) (fun _ _ _ h => h) (Or.inr ⟨by rfl, rfl⟩) hHeld ?_ ?_
        rotate_left
        · simp only [Act.put, sA, sB, sC]; rfl
        refine take_ (i := 28) (N := some 129) (v := undef) (a' := ?_) (msk 29 30) rfl rfl (by kernel_rfl) (fun _ _ _ h => h) (Or.inr ⟨by rfl, rfl⟩) hHeld ?_ ?_
        rotate_left
        · simp only [Act.put, sA, sB, sC]; rfl
        refine pure_ (i := 29) (N := some 130) (v := ?_) (a' := ?_) (msk 30 30) rfl rfl (by kernel_rfl) (fun _ _ _ h => h) (Or.inl ⟨by rfl, ?_⟩) ?_ ?_
        rotate_left
        · intro w'; go_simp; with_reducible rfl
        rotate_left
        · simp only [Act.put, sA, sB, sC]; rfl
        refine done_ (by kernel_rfl) ?_
        try simp only [NoPanic, Exit.then]
        have HN5 := hid HN4.out.drew
        go_wp2
        go_ret2
        exact checked_none HR.out HE.out HN5.out.rc.below
      | true =>
       rw [hin2] at HBAD HSTEP
       rw [show litsOf x = [] by unfold litsOf; rw [if_neg (by have := HK.out; omega)], List.append_nil] at HSTEP
       have l0 := (HN4.out.l 0).trans (show _ = some (.int .u8 x.f0) from rfl)
       have l2 := (HN4.out.l 2).trans (show _ = some (.int .i64 x.f2) from rfl)
       have n0 := HN4.out.n0
       have n1 := HN4.out.n1
       have g0 := HN4.out.f0
       have g1 := HN4.out.f1
       go_wp2_with fail
       obtain ⟨W5, hW5⟩ : ∃ W5, W5 = (w4.setCell ⟨kx + 1, 0, none⟩ (.int .i64 x.f2)).setCell ⟨kx + 1, 1, none⟩ (.int .i64 x.f2) := ⟨_, rfl⟩
       have HN5 := hid (HN4.out.store x.f2 x.f2)
       rw [← hW5] at HN5 ⊢
       clear hW5 l0 l2 n0 n1 g0 g1
       have hSS : (fun w' : World => w'.cell? ⟨kx, 0, none⟩ = some (.int .u8 x.f0)) W5.drew := (HN5.out.drew.l 0).trans rfl
       refine wp_region_noPanic ?_
       refine start_ (n := 30) (S := (fun w' : World => w'.cell? ⟨kx, 0, none⟩ = some (.int .u8 x.f0))) (ds := []) (msk 0 30) (by kernel_rfl) rfl rfl hSS (fun hHeld => ?_)
       refine pure_ (i := 0) (N := some 101) (v := ?_) (a' := ?_) (msk 1 30) rfl rfl (by kernel_rfl) (fun _ _ _ h => h) (Or.inl ⟨by rfl, ?_⟩) ?_ ?_
       rotate_left
       · intro w'; go_simp; with_reducible rfl
       rotate_left
       · simp only [Act.put, sA, sB, sC]; rfl
       refine take_ (i := 1) (N := some 102) (v := ?_) (a' := ?_) (msk 2 30) rfl rfl (by kernel_rfl) (fun _ _ _ h => h) (Or.inl ⟨by rfl, ?_⟩) hHeld ?_ ?_
       rotate_left
       ·
        intro w' s0
        go_simp
        with_reducible rfl
       rotate_left
       · simp only [Act.put, sA, sB, sC]; rfl
       refine pure_ (i := 2) (N := some 103) (v := ?_) (a' := ?_) (msk 3 30) rfl rfl (by kernel_rfl) (fun _ _ _ h => h) (Or.inl ⟨by rfl, ?_⟩) ?_ ?_
       rotate_left
       · intro w'; go_simp; with_reducible rfl
       rotate_left
       · simp only [Act.put, sA, sB, sC]; rfl
       refine pure_ (i := 3) (N := some 104) (v := ?_) (a' := ?_) (msk 4 30) rfl rfl (by kernel_rfl) (fun _ _ _ h => h) (Or.inl ⟨by rfl, ?_⟩) ?_ ?_
       rotate_left
       · intro w'; go_simp; with_reducible rfl
       rotate_left
       · simp only [Act.put, sA, sB, sC]; rfl
       refine take_ (i := 4) (N := some 105) (v := undef) (a' := ?_) (msk 5 30) rfl rfl (by kernel_rfl) (fun _ _ _ h => h) (Or.inr ⟨by rfl, rfl⟩) hHeld ?_ ?_
       rotate_left
       · simp only [Act.put, sA, sB, sC]; rfl
       refine take_ (i := 5) (N := some 106) (v := undef) (a' := ?_) (msk 6 30) rfl rfl (by kernel_rfl) (fun _ _ _ h => h) (Or.inr ⟨by rfl, rfl⟩) hHeld ?_ ?_
       rotate_left
       · simp only [Act.put, sA, sB, sC]; rfl
       refine take_ (i := 6) (N := some 107) (v := undef) (a' := ?_) (msk 7 30) rfl rfl (by kernel_rfl) (fun _ _ _ h => h) (Or.inr ⟨by rfl, rfl⟩) hHeld ?_ ?_
       rotate_left
       · simp only [Act.put, sA, sB, sC]; rfl
       refine take_ (i := 7) (N := some 108) (v := undef) (a' := ?_) (msk 8 30) rfl rfl (by kernel_rfl) (fun _ _ _ h => h) (Or.inr ⟨by rfl, rfl⟩) hHeld ?_ ?_
       rotate_left
       · simp only [Act.put, sA, sB, sC]; rfl
       refine pure_ (i := 8) (N := some 109) (v := ?_) (a' := ?_) (msk 9 30) rfl rfl (by kernel_rfl) (fun _ _ _ h => h) (Or.inl ⟨by rfl, ?_⟩) ?_ ?_
       rotate_left
       · intro w'; go_simp; with_reducible rfl
       rotate_left
       · simp only [Act.put, sA, sB, sC]; rfl
       refine pure_ (i := 9) (N := some 110) (v := ?_) (a' := ?_) (msk 10 30) rfl rfl (by kernel_rfl) (fun _ _ _ h => h) (Or.inl ⟨by rfl, ?_⟩) ?_ ?_
       rotate_left
       · intro w'; go_simp; with_reducible rfl
       rotate_left
       · simp only [Act.put, sA, sB, sC]; rfl
       refine take_ (i := 10) (N := some 111) (v := undef) (a' := ?_) (msk 11 30) rfl rfl (by kernel_rfl) (fun _ _ _ h => h) (Or.inr ⟨by rfl, rfl⟩) hHeld ?_ ?_
       rotate_left
       · simp only [Act.put, sA, sB, sC]; rfl
       refine take_ (i := 11) (N := some 112) (v := undef) (a' := ?_) (msk 12 30) rfl rfl (by kernel_rfl) (fun _ _ _ h => h) (Or.inr ⟨by rfl, rfl⟩) hHeld ?_ ?_
       rotate_left
       · simp only [Act.put, sA, sB, sC]; rfl
       refine take_ (i := 12) (N := some 113) (v := undef) (a' := ?_) (msk 13 30) rfl rfl (by kernel_rfl) (fun _ _ _ h => h) (Or.inr ⟨by rfl, rfl⟩) hHeld ?_ ?_
       rotate_left
       · simp only [Act.put, sA, sB, sC]; rfl
       refine take_ (i := 13) (N := some 114) (v := undef) (a' := ?_) (msk 14 30) rfl rfl (by kernel_rfl) (fun _ _ _ h => h) (Or.inr ⟨by rfl, rfl⟩) hHeld ?_ ?_
       rotate_left
       · simp only [Act.put, sA, sB, sC]; rfl
       refine pure_ (i := 14) (N := some 115) (v := ?_) (a' := ?_) (msk 15 30) rfl rfl (by kernel_rfl) (fun _ _ _ h => h) (Or.inl ⟨by rfl, ?_⟩) ?_ ?_
       rotate_left
       · intro w'; go_simp; with_reducible rfl
       rotate_left
       · simp only [Act.put, sA, sB, sC]; rfl
       refine pure_ (i := 15) (N := some 116) (v := ?_) (a' := ?_) (msk 16 30) rfl rfl (by kernel_rfl) (fun _ _ _ h => h) (Or.inl ⟨by rfl, ?_⟩) ?_ ?_
       rotate_left
       · intro w'; go_simp; with_reducible rfl
       rotate_left
       · simp only [Act.put, sA, sB, sC]; rfl
       refine take_ (i := 16) (N := some 117) (v := undef) (a' := ?_) (msk 17 30) rfl rfl (by kernel_rfl) (fun _ _ _ h => h) (Or.inr ⟨by rfl, rfl⟩) hHeld ?_ ?_
       rotate_left
       · simp only [Act.put, sA, sB, sC]; rfl
       refine take_ (i := 17) (N := some 118) (v := undef) (a' := ?_) (msk 18 30) rfl rfl (by kernel_rfl) (fun _ _ _ h => h) (Or.inr ⟨by rfl, rfl⟩) hHeld ?_ ?_
       rotate_left
       · simp only [Act.put, sA, sB, sC]; rfl
       refine take_ (i := 18) (N := some 119) (v := undef) (a' := ?_) (msk 19 30) rfl rfl (by kernel_rfl) (fun _ _ _ h => h) (Or.inr ⟨by rfl, rfl⟩) hHeld ?_ ?_
       rotate_left
       · simp only [Act.put, sA, sB, sC]; rfl
       refine take_ (i := 19) (N := some 120) (v := undef) (a' := ?_) (msk 20 30) rfl rfl (by kernel_rfl) (fun _ _ _ h => h) (Or.inr ⟨by rfl, rfl⟩) hHeld ?_ ?_
       rotate_left
       · simp only [Act.put, sA, sB, sC]; rfl
       refine take_ (i := 20) (N := some 121) (v := undef) (a' := ?_) (msk 21 30) rfl rfl (by kernel_rfl) (fun _ _ _ h => h) (Or.inr ⟨by rfl, rfl⟩) hHeld ?_ ?_
       rotate_left
       · simp only [Act.put, sA, sB, sC]; rfl
       refine take_ (i := 21) (N := some 122) (v := undef) (a' := ?_) (msk 22 30) rfl rfl (by kernel_rfl) (fun _ _ _ h => h) (Or.inr ⟨by rfl, rfl⟩) hHeld ?_ ?_
       rotate_left
       · simp only [Act.put, sA, sB, sC]; rfl
       refine take_ (i := 22) (N := some 123) (v := undef) (a' := ?_) (msk 23 30) rfl rfl (by kernel_rfl) (fun _ _ _ h => h) (Or.inr ⟨by rfl, rfl⟩) hHeld ?_ ?_
       rotate_left
       · simp only [Act.put, sA, sB, sC]; rfl
       refine take_ (i := 23) (N := some 124) (v := undef) (a' := ?_) (msk 24 30) rfl rfl (by kernel_rfl) (fun _ _ _ h => h) (Or.inr ⟨by rfl, rfl⟩) hHeld ?_ ?_
       rotate_left
       · simp only [Act.put, sA, sB, sC]; rfl
       refine take_ (i := 24) (N := some 125) (v := undef) (a' := ?_) (msk 25 30) rfl rfl (by kernel_rfl) (fun _ _ _ h => h) (Or.inr ⟨by rfl, rfl⟩) hHeld ?_ ?_
       rotate_left
       · simp only [Act.put, sA, sB, sC]; rfl
       refine take_ (i := 25) (N := some 126) (v := undef) (a' := ?_) (msk 26 30) rfl rfl (by kernel_rfl) (fun _ _ _ h => h) (Or.inr ⟨by rfl, rfl⟩) hHeld ?_ ?_
       rotate_left
       · simp only [Act.put, sA, sB, sC]; rfl
       refine take_ (i := 26) (N := some 127) (v := undef) (a' := ?_) (msk 27 30) rfl rfl (by kernel_rfl) (fun _ _ _ h => h) (Or.inr ⟨by rfl, rfl⟩) hHeld ?_ ?_
       rotate_left
       · simp only [Act.put, sA, sB, sC]; rfl
       refine take_ (i := 27) (N := some 128) (v := undef) (a' := ?_) (msk 28 30) rfl rfl (by kernel_rfl) (fun _ _ _ h => h) (Or.inr ⟨by rfl, rfl⟩) hHeld ?_ ?_
       rotate_left
       · simp only [Act.put, sA, sB, sC]; rfl
       refine take_ (i := 28) (N := some 129) (v := undef) (a' := ?_) (msk 29 30) rfl rfl (by kernel_rfl) (fun _ _ _ h => h) (Or.inr ⟨by rfl, rfl⟩) hHeld ?_ ?_
       rotate_left
       · simp only [Act.put, sA, sB, sC]; rfl
       refine pure_ (i := 29) (N := some 130) (v := ?_) (a' := ?_) (msk 30 30) rfl rfl (by kernel_rfl) (fun _ _ _ h => h) (Or.inl ⟨by rfl, ?_⟩) ?_ ?_
       rotate_left
       · intro w'; go_simp; with_reducible rfl
       rotate_left
       · simp only [Act.put, sA, sB, sC]; rfl
       refine done_ (by kernel_rfl) ?_
       try simp only [NoPanic, Exit.then]
       have HN6 := hid HN5.out.drew
       obtain ⟨W6, hW6⟩ : ∃ V, V = W5.drew := ⟨_, rfl⟩
       rw [← hW6] at HN6 ⊢
       clear hW6 hSS hHeld
       by_cases hlast : i + 1 = nl
       case pos =>
        have HD := hid (show decide (l.drop (i + 1) = []) = true by simpa using HRS.out.2 hlast)
        have q1 : ((i : Int) == (nl : Int) - 1) = true := by simp; omega
        have q2 : decide ((i : Int) = (nl : Int) - 1) = true := by simp; omega
        have HE := hid (HBAD.out (by rw [HD.out]; simp))
        as_aux_lemma =>
         have l0 := (HN6.out.l 0).trans (show _ = some (.int .u8 x.f0) from rfl)
         have n0 := HN6.out.n0
         have n1 := HN6.out.n1
         have g0 := HN6.out.f0
         have g1 := HN6.out.f1
         go_wp2
         go_ret2
         exact checked_none HR.out HE.out HN6.out.rc.below
       case neg =>
        have HD := hid (show decide (l.drop (i + 1) = []) = false by have := HRS.out; simp only [decide_eq_false_iff_not]; exact fun h => hlast (this.1 h))
        have q1 : ((i : Int) == (nl : Int) - 1) = false := by simp; omega
        have q2 : decide ((i : Int) = (nl : Int) - 1) = false := by simp; omega
        have HST := hid (HSTEP.out (by first | trivial | rfl) HD.out.symm)
        as_aux_lemma =>
         have l0 := (HN6.out.l 0).trans (show _ = some (.int .u8 x.f0) from rfl)
         have n0 := HN6.out.n0
         have n1 := HN6.out.n1
         have g0 := HN6.out.f0
         have g1 := HN6.out.f1
         have HPA := hid (HN6.out.rc.move ((Below.refl _ W6).alloc (Nat.le_refl _) (.cells #[.int .i64 x.f2, .int .i64 x.f2] 60)))
         have HOW := hid (show (W6.alloc (.cells #[.int .i64 x.f2, .int .i64 x.f2] 60)).ownsRow 0 60 2 (.slice At i ct) i (prs t) by
          have h1 := HPA.out.told
          rw [← HNT.out] at h1
          exact h1)
         go_wp2_with (at_builtin; go_loud (refine wpList_append_lies (W6.alloc (.cells #[.int .i64 x.f2, .int .i64 x.f2] 60)) (by rfl) _ _ _ (by rfl) 0 60 i60 (.agg #[.int .i64 0, .int .i64 0]) 2 16 Tryd.underlying58 HI60.out.1 HI60.out.2.1 HI60.out.2.2.1 HI60.out.2.2.2 rfl (by omega) (.slice At i ct) i (prs t) (by rfl) HOW.out ⟨W6.heap.size, 0, none⟩ 1 1 [.int .i64 x.f2, .int .i64 x.f2] (by rfl) (by rfl) (fun j u hu => World.news_of_block (heap_alloc_new W6 (.cells #[.int .i64 x.f2, .int .i64 x.f2] 60)) j u (by simpa using hu)) (by simp [Value.oneCell']) (by omega) (by unfold maxLen; omega) (by omega) (Nat.zero_le _) (W6.heap.size + 1) (by simp) ?_; intro gz cap w7 ho7 hg7 hat7 hlt7; have H60 := hid (HPA.out.pushT (x.f2, x.f2) (tv' := .slice (some ⟨gz, 0, none⟩) (i + 1) cap) (by rw [← HNT.out]; exact ho7) hg7 (at_or hat7)); clear ho7 hg7 hat7 hlt7))
         go_roundg left
         case measure => omega
         case rel => exact ⟨i + 1, t ++ [(x.f2, x.f2)], s, false, _, _, by omega, rfl, rfl, by go_num, by (have := HNT.out; rw [List.length_append, List.length_singleton]; omega), by have := HNS.out; omega, hid H60.out, hid ⟨HST.out.symm.trans HG.out.1, fun h => absurd h (by omega), fun _ => (decide_eq_false hlast).symm⟩⟩
    by_cases k3 : x.f0 = 3
    case pos =>
     as_aux_lemma =>
      have b1 : (x.f0 == 1) = false := by simp; omega
      have d1 : decide (x.f0 = 1) = false := by simp; omega
      have b2 : (x.f0 == 2) = false := by simp; omega
      have d2 : decide (x.f0 = 2) = false := by simp; omega
      have b4 : (x.f0 == 4) = false := by simp; omega
      have d4 : decide (x.f0 = 4) = false := by simp; omega
      have b5 : (x.f0 == 5) = false := by simp; omega
      have d5 : decide (x.f0 = 5) = false := by simp; omega
      have b6 : (x.f0 == 6) = false := by simp; omega
      have d6 : decide (x.f0 = 6) = false := by simp; omega
      have b7 : (x.f0 == 7) = false := by simp; omega
      have d7 : decide (x.f0 = 7) = false := by simp; omega
      have b3 : (x.f0 == 3) = true := by simp [k3]
      have d3 : decide (x.f0 = 3) = true := by simp [k3]
      have HL2 := hid (show linkM v a t x = (((prO (tellM t x.f4)).2, (prO (tellM t x.f4)).1), false, (tellM t x.f4).isSome) by
       unfold linkM
       rw [if_neg k1, if_neg k2, if_pos k3])
      obtain ⟨hp1, hp2, he0, hk0⟩ : p1 = (prO (tellM t x.f4)).2 ∧ p2 = (prO (tellM t x.f4)).1 ∧ EE = false ∧ ok = ((tellM t x.f4).isSome) := by
       have := HLM.out.symm.trans HL2.out
       simp only [Prod.mk.injEq] at this
       exact ⟨this.1.1, this.1.2, this.2.1, this.2.2⟩
      subst he0
      have HK := hid k3
      clear k3
      rw [show litsOf x = [] by unfold litsOf; rw [if_neg (by have := HK.out; omega)], List.append_nil] at HSTEP
      go_wp2_with fail
      obtain ⟨W3, hW3⟩ : ∃ W3, W3 = (wr.alloc (.cells (lkC x (.slice A6 x.f6.length c6)) 36)).alloc (.cells #[.int .i64 0, .int .i64 0] 60) := ⟨_, rfl⟩
      have HN3 := hid (Rn.made HLr.out (lkC x (.slice A6 x.f6.length c6)))
      obtain ⟨kx, hkx⟩ : ∃ k, k = wr.heap.size := ⟨_, rfl⟩
      rw [← hkx] at HN3
      rw [← hW3] at HN3
      rw [← hW3, ← hkx]
      clear hW3 hkx y0 y1 y2 y3 y4 y5 y6 b0
      refine (within_c x.f4 i W3).mono ?_
      rintro e4 w4 ⟨rfl, hb4⟩
      have HN4 := hid (HN3.out.move hb4)
      clear hb4
      cases hin4 : inB i x.f4 with
      | false =>
       have HE := hid (HBAD.out (by rw [hk0, rtell_no HNT.out hin4]; simp))
       as_aux_lemma =>
        have l0 := (HN4.out.l 0).trans (show _ = some (.int .u8 x.f0) from rfl)
        have n0 := HN4.out.n0
        have n1 := HN4.out.n1
        have g0 := HN4.out.f0
        have g1 := HN4.out.f1
        go_wp2_with fail
        have hSS : (fun w' : World => w'.cell? ⟨kx, 0, none⟩ = some (.int .u8 x.f0)) w4.drew := (HN4.out.drew.l 0).trans rfl
        refine wp_region_noPanic ?_
        refine start_ (n := 30) (S := (fun w' : World => w'.cell? ⟨kx, 0, none⟩ = some (.int .u8 x.f0))) (ds := []) (msk 0 30) (by kernel_rfl) rfl rfl hSS (fun hHeld => ?_)
        refine pure_ (i := 0) (N := some 101) (v := ?_) (a' := ?_) (msk 1 30) rfl rfl (by kernel_rfl) (fun _ _ _ h => h) (Or.inl ⟨by rfl, ?_⟩) ?_ ?_
        rotate_left
        · intro w'; go_simp; with_reducible rfl
        rotate_left
        · simp only [Act.put, sA, sB, sC]; rfl
        refine take_ (i := 1) (N := some 102) (v := ?_) (a' := ?_) (msk 2 30) rfl rfl (by kernel_rfl) (fun _ _ _ h => h) (Or.inl ⟨by rfl, ?_⟩) hHeld ?_ ?_
        rotate_left
        ·
         intro w' s0
         go_simp
         with_reducible rfl
        rotate_left
        · simp only [Act.put, sA, sB, sC]; rfl
        refine pure_ (i := 2) (N := some 103) (v := ?_) (a' := ?_) (msk 3 30) rfl rfl (by kernel_rfl) (fun _ _ _ h => h) (Or.inl ⟨by rfl, ?_⟩) ?_ ?_
        rotate_left
        · intro w'; go_simp; with_reducible rfl
        rotate_left
        · simp only [Act.put, sA, sB, sC]; rfl
        refine pure_ (i := 3) (N := some 104) (v := ?_) (a' := ?_) (msk 4 30) rfl rfl (by kernel_rfl) (fun _ _ _ h => h) (Or.inl ⟨by rfl, ?_⟩) ?_ ?_
        rotate_left
        · intro w'; go_simp; with_reducible rfl
        rotate_left
        · simp only [Act.put, sA, sB, sC]; rfl
        refine take_ (i := 4) (N := some 105) (v := undef) (a' := ?_) (msk 5 30) rfl rfl (by kernel_rfl) (fun _ _ _ h => h) (Or.inr ⟨by rfl, rfl⟩) hHeld ?_ ?_
        rotate_left
        · simp only [Act.put, sA, sB, sC]; rfl
        refine take_ (i := 5) (N := some 106) (v := undef) (a' := ?_) (msk 6 30) rfl rfl (by kernel_rfl) (fun _ _ _ h => h) (Or.inr ⟨by rfl, rfl⟩) hHeld ?_ ?_
        rotate_left
        · simp only [Act.put, sA, sB, sC]; rfl
        refine take_ (i := 6) (N := some 107) (v := undef) (a' := ?_) (msk 7 30) rfl rfl (by kernel_rfl) (fun _ _ _ h => h) (Or.inr ⟨by rfl, rfl⟩) hHeld ?_ ?_
        rotate_left
        · simp only [Act.put, sA, sB, sC]; rfl
        refine take_ (i := 7) (N := some 108) (v := undef) (a' := ?_) (msk 8 30) rfl rfl (by kernel_rfl) (fun _ _ _ h => h) (Or.inr ⟨by rfl, rfl⟩) hHeld ?_ ?_
        rotate_left
        · simp only [Act.put, sA, sB, sC]; rfl
        refine pure_ (i := 8) (N := some 109) (v := ?_) (a' := ?_) (msk 9 30) rfl rfl (by kernel_rfl) (fun _ _ _ h => h) (Or.inl ⟨by rfl, ?_⟩) ?_ ?_
        rotate_left
        · intro w'; go_simp; with_reducible rfl
        rotate_left
        · simp only [Act.put, sA, sB, sC]; rfl
        refine pure_ (i := 9) (N := some 110) (v := ?_) (a' := ?_) (msk 10 30) rfl rfl (by kernel_rfl) (fun _ _ _ h => h) (Or.inl ⟨by rfl, ?_⟩) ?_ ?_
        rotate_left
        · intro w'; go_simp; with_reducible rfl
        rotate_left
        · simp only [Act.put, sA, sB, sC]; rfl
        refine take_ (i := 10) (N := some 111) (v := undef) (a' := ?_) (msk 11 30) rfl rfl (by kernel_rfl) (fun _ _ _ h => h) (Or.inr ⟨by rfl, rfl⟩) hHeld ?_ ?_
        rotate_left
        · simp only [Act.put, sA, sB, sC]; rfl
        refine take_ (i := 11) (N := some 112) (v := undef) (a' := ?_) (msk 12 30) rfl rfl (by kernel_rfl) (fun _ _ _ h => h) (Or.inr ⟨by rfl, rfl⟩) hHeld ?_ ?_
        rotate_left
        · simp only [Act.put, sA, sB, sC]; rfl
        refine take_ (i := 12) (N := some 113) (v := undef) (a' := ?_) (msk 13 30) rfl rfl (by kernel_rfl) (fun _ _ _ h => h) (Or.inr ⟨by rfl, rfl⟩) hHeld ?_ ?_
        rotate_left
        · simp only [Act.put, sA, sB, sC]; rfl
        refine take_ (i := 13) (N := some 114) (v := undef) (a' := ?_) (msk 14 30) rfl rfl (by kernel_rfl) (fun _ _ _ h => h) (Or.inr ⟨by rfl, rfl⟩) hHeld ?_ ?_
        rotate_left
        · simp only [Act.put, sA, sB, sC]; rfl
        refine pure_ (i := 14) (N := some 115) (v := ?_) (a' := ?_) (msk 15 30) rfl rfl (by kernel_rfl) (fun _ _ _ h => h) (Or.inl ⟨by rfl, ?_⟩) ?_ ?_
        rotate_left
        · intro w'; go_simp; with_reducible rfl
        rotate_left
        · simp only [Act.put, sA, sB, sC]; rfl
        refine pure_ (i := 15) (N := some 116) (v := ?_) (a' := ?_) (msk 16 30) rfl rfl (by kernel_rfl) (fun _ _ _ h => h) (Or.inl ⟨by rfl, ?_⟩) ?_ ?_
        rotate_left
        · intro w'; go_simp; with_reducible rfl
        rotate_left
        · simp only [Act.put, sA, sB, sC]; rfl
        refine take_ (i := 16) (N := some 117) (v := undef) (a' := ?_) (msk 17 30) rfl rfl (by kernel_rfl) (fun _ _ _ h => h) (Or.inr ⟨by rfl, rfl⟩) hHeld ?_ ?_
        rotate_left
        · simp only [Act.put, sA, sB, sC]; rfl
        refine take_ (i := 17) (N := some 118) (v := undef) (a' := ?_) (msk 18 30) rfl rfl (by kernel_rfl) (fun _ _ _ h => h) (Or.inr ⟨by rfl, rfl⟩) hHeld ?_ ?_
        rotate_left
        · simp only [Act.put, sA, sB, sC]; rfl
        refine take_ (i := 18) (N := some 119) (v := undef) (a' := ?_) (msk 19 30) rfl rfl (by kernel_rfl) (fun _ _ _ h => h) (Or.inr ⟨by rfl, rfl⟩) hHeld ?_ ?_
        rotate_left
        · simp only [Act.put, sA, sB, sC]; rfl
        refine take_ (i := 19) (N := some 120) (v := undef) (a' := ?_) (msk 20 30) rfl rfl (by kernel_rfl) (fun _ _ _ h => h) (Or.inr ⟨by rfl, rfl⟩) hHeld ?_ ?_
        rotate_left
        · simp only [Act.put, sA, sB, sC]; rfl
        refine take_ (i := 20) (N := some 121) (v := undef) (a' := ?_) (msk 21 30) rfl rfl (by kernel_rfl) (fun _ _ _ h => h) (Or.inr ⟨by rfl, rfl⟩) hHeld ?_ ?_
        rotate_left
        · simp only [Act.put, sA, sB, sC]; rfl
        refine take_ (i := 21) (N := some 122) (v := undef) (a' := ?_) (msk 22 30) rfl rfl (by kernel_rfl) (fun _ _ _ h => h) (Or.inr ⟨by rfl, rfl⟩) hHeld ?_ ?_
        rotate_left
        · simp only [Act.put, sA, sB, sC]; rfl
        refine take_ (i := 22) (N := some 123) (v := undef) (a' := ?_) (msk 23 30) rfl rfl (by kernel_rfl) (fun _ _ _ h => h) (Or.inr ⟨by rfl, rfl⟩) hHeld ?_ ?_
        rotate_left
        · simp only [Act.put, sA, sB, sC]; rfl
        refine take_ (i := 23) (N := some 124) (v := undef) (a' := ?_) (msk 24 30) rfl rfl (by kernel_rfl) (fun _ _ _ h => h) (Or.inr ⟨by rfl, rfl⟩) hHeld ?_ ?_
        rotate_left
        · simp only [Act.put, sA, sB, sC]; rfl
        refine take_ (i := 24) (N := some 125) (v := undef) (a' := ?_) (msk 25 30) rfl rfl (by kernel_rfl) (fun _ _ _ h => h) (Or.inr ⟨by rfl, rfl⟩) hHeld ?_ ?_
        rotate_left
        · simp only [Act.put, sA, sB, sC]; rfl
        refine take_ (i := 25) (N := some 126) (v := undef) (a' := ?_) (msk 26 30) rfl rfl (by kernel_rfl) (fun _ _ _ h => h) (Or.inr ⟨by rfl, rfl⟩) hHeld ?_ ?_
        rotate_left
        · simp only [Act.put, sA, sB, sC]; rfl
        refine take_ (i := 26) (N := some 127) (v := undef) (a' := ?_) (msk 27 30) rfl rfl (by kernel_rfl) (fun _ _ _ h => h) (Or.inr ⟨by rfl, rfl⟩) hHeld ?_ ?_
        rotate_left
        · simp only [Act.put, sA, sB, sC]; rfl
        refine take_ (i := 27) (N := some 128) (v := undef) (a' := ?_) (msk 28 30) rfl rfl (by kernel_rfl) (fun _ _ _ h => h) (Or.inr ⟨by rfl, rfl⟩) hHeld ?_ ?_
        rotate_left
        · simp only [Act.put, sA, sB, sC]; rfl
        refine take_ (i := 28) (N := some 129) (v := undef) (a' := ?_) (msk 29 30) rfl rfl (by kernel_rfl) (fun _ _ _ h => h) (Or.inr ⟨by rfl, rfl⟩) hHeld ?_ ?_
        rotate_left
        · simp only [Act.put, sA, sB, sC]; rfl
        refine pure_ (i := 29) (N := some 130) (v := ?_) (a' := ?_) (msk 30 30) rfl rfl (by kernel_rfl) (fun _ _ _ h => h) (Or.inl ⟨by rfl, ?_⟩) ?_ ?_
        rotate_left
        · intro w'; go_simp; with_reducible rfl
        rotate_left
        · simp only [Act.put, sA, sB, sC]; rfl
        refine done_ (by kernel_rfl) ?_
        try simp only [NoPanic, Exit.then]
        have HN6 := hid HN4.out.drew
        obtain ⟨W6, hW6⟩ : ∃ V, V = w4.drew := ⟨_, rfl⟩
        rw [← hW6] at HN6 ⊢
        clear hW6 hSS hHeld
        have l0 := (HN6.out.l 0).trans (show _ = some (.int .u8 x.f0) from rfl)
        have n0 := HN6.out.n0
        have n1 := HN6.out.n1
        have g0 := HN6.out.f0
        have g1 := HN6.out.f1
        go_wp2
        go_ret2
        exact checked_none HR.out HE.out HN6.out.rc.below
      | true =>
       obtain ⟨g, rfl⟩ := HN4.out.form (by have := HNT.out; obtain ⟨m, _, _, _⟩ := rtell_yes HNT.out hin4; omega)
       obtain ⟨m, hm, hmi, htm⟩ := rtell_yes HNT.out hin4
       obtain ⟨⟨P, Q⟩, hPQ⟩ : ∃ r, t.getD m (0, 0) = r := ⟨_, rfl⟩
       obtain ⟨c1, c2⟩ := HN4.out.told m HNT.out hmi hPQ
       rw [hPQ] at htm
       have l4 := (HN4.out.l 4).trans (show _ = some (.int .i64 x.f4) from rfl)
       rw [hm] at l4
       have HKK := hid (show p1 = Q ∧ p2 = P ∧ ok = true from ⟨by rw [hp1, htm]; rfl, by rw [hp2, htm]; rfl, by rw [hk0, htm]; rfl⟩)
       obtain ⟨rfl, rfl, rfl⟩ := HKK.out
       clear hp1 hp2 hk0 htm hPQ HKK HL2
       have l0 := (HN4.out.l 0).trans (show _ = some (.int .u8 x.f0) from rfl)
       go_wp2_with fail
       have hSS : (fun w' : World => w'.cell? ⟨kx, 4, none⟩ = some (.int .i64 (m : Int)) ∧ w'.cell? ⟨g, m * 2, none⟩ = some (.int .i64 p2) ∧ w'.cell? ⟨g, m * 2 + 1, none⟩ = some (.int .i64 p1)) w4.drew := ⟨l4, c1, c2⟩
       have n0 := HN4.out.n0
       have n1 := HN4.out.n1
       have g0 := HN4.out.f0
       have g1 := HN4.out.f1
       have hmz : (m : Int) < (i : Int) := by omega
       clear hm
       refine wp_region_noPanic ?_
       refine start_ (n := 14) (S := (fun w' : World => w'.cell? ⟨kx, 4, none⟩ = some (.int .i64 (m : Int)) ∧ w'.cell? ⟨g, m * 2, none⟩ = some (.int .i64 p2) ∧ w'.cell? ⟨g, m * 2 + 1, none⟩ = some (.int .i64 p1))) (ds := [13]) (msk 0 14) (by kernel_rfl) rfl rfl hSS (fun hHeld => ?_)
       refine pure_ (i := 0) (N := some 88) (v := ?_) (a' := ?_) (msk 1 14) rfl rfl (by kernel_rfl) (fun _ _ _ h => h) (Or.inl ⟨by rfl, ?_⟩) ?_ ?_
       rotate_left
       · intro w'; go_simp; with_reducible rfl
       rotate_left
       · simp only [Act.put, sA, sB, sC]; rfl
       refine pure_ (i := 1) (N := some 89) (v := ?_) (a' := ?_) (msk 2 14) rfl rfl (by kernel_rfl) (fun _ _ _ h => h) (Or.inl ⟨by rfl, ?_⟩) ?_ ?_
       rotate_left
       · intro w'; go_simp; with_reducible rfl
       rotate_left
       · simp only [Act.put, sA, sB, sC]; rfl
       refine take_ (i := 2) (N := some 90) (v := ?_) (a' := ?_) (msk 3 14) rfl rfl (by kernel_rfl) (fun _ _ _ h => h) (Or.inl ⟨by rfl, ?_⟩) hHeld ?_ ?_
       rotate_left
       · rintro w' ⟨s0, s1, s2⟩; go_simp; with_reducible rfl
       rotate_left
       · simp only [Act.put, sA, sB, sC]; rfl
       refine pure_ (i := 3) (N := some 91) (v := ?_) (a' := ?_) (msk 4 14) rfl rfl (by kernel_rfl) (fun _ _ _ h => h) (Or.inl ⟨by rfl, ?_⟩) ?_ ?_
       rotate_left
       · intro w'; go_simp; with_reducible rfl
       rotate_left
       · simp only [Act.put, sA, sB, sC]; rfl
       refine pure_ (i := 4) (N := some 92) (v := ?_) (a' := ?_) (msk 5 14) rfl rfl (by kernel_rfl) (fun _ _ _ h => h) (Or.inl ⟨by rfl, ?_⟩) ?_ ?_
       rotate_left
       · intro w'; go_simp; with_reducible rfl
       rotate_left
       · simp only [Act.put, sA, sB, sC]; rfl
       refine take_ (i := 5) (N := some 93) (v := ?_) (a' := ?_) (msk 6 14) rfl rfl (by kernel_rfl) (fun _ _ _ h => h) (Or.inl ⟨by rfl, ?_⟩) hHeld ?_ ?_
       rotate_left
       · rintro w' ⟨s0, s1, s2⟩; go_simp; with_reducible rfl
       rotate_left
       · simp only [Act.put, sA, sB, sC]; rfl
       refine pure_ (i := 6) (N := some 94) (v := ?_) (a' := ?_) (msk 7 14) rfl rfl (by kernel_rfl) (fun _ _ _ h => h) (Or.inl ⟨by rfl, ?_⟩) ?_ ?_
       rotate_left
       · intro w'; go_simp; with_reducible rfl
       rotate_left
       · simp only [Act.put, sA, sB, sC]; rfl
       refine pure_ (i := 7) (N := some 95) (v := ?_) (a' := ?_) (msk 8 14) rfl rfl (by kernel_rfl) (fun _ _ _ h => h) (Or.inl ⟨by rfl, ?_⟩) ?_ ?_
       rotate_left
       · intro w'; go_simp; with_reducible rfl
       rotate_left
       · simp only [Act.put, sA, sB, sC]; rfl
       refine take_ (i := 8) (N := some 96) (v := ?_) (a' := ?_) (msk 9 14) rfl rfl (by kernel_rfl) (fun _ _ _ h => h) (Or.inl ⟨by rfl, ?_⟩) hHeld ?_ ?_
       rotate_left
       · rintro w' ⟨s0, s1, s2⟩; go_simp; with_reducible rfl
       rotate_left
       · simp only [Act.put, sA, sB, sC]; rfl
       refine pure_ (i := 9) (N := some 97) (v := ?_) (a' := ?_) (msk 10 14) rfl rfl (by kernel_rfl) (fun _ _ _ h => h) (Or.inl ⟨by rfl, ?_⟩) ?_ ?_
       rotate_left
       · intro w'; go_simp; with_reducible rfl
       rotate_left
       · simp only [Act.put, sA, sB, sC]; rfl
       refine pure_ (i := 10) (N := some 98) (v := ?_) (a' := ?_) (msk 11 14) rfl rfl (by kernel_rfl) (fun _ _ _ h => h) (Or.inl ⟨by rfl, ?_⟩) ?_ ?_
       rotate_left
       · intro w'; go_simp; with_reducible rfl
       rotate_left
       · simp only [Act.put, sA, sB, sC]; rfl
       refine take_ (i := 11) (N := some 99) (v := ?_) (a' := ?_) (msk 12 14) rfl rfl (by kernel_rfl) (fun _ _ _ h => h) (Or.inl ⟨by rfl, ?_⟩) hHeld ?_ ?_
       rotate_left
       · rintro w' ⟨s0, s1, s2⟩; go_simp; with_reducible rfl
       rotate_left
       · simp only [Act.put, sA, sB, sC]; rfl
       refine pure_ (i := 12) (N := some 100) (v := ?_) (a' := ?_) (msk 13 14) rfl rfl (by kernel_rfl) (fun _ _ _ h => h) (Or.inl ⟨by rfl, ?_⟩) ?_ ?_
       rotate_left
       · intro w'; go_simp; with_reducible rfl
       rotate_left
       · simp only [Act.put, sA, sB, sC]; rfl
       refine last_ (i := 13) (N := none) (msk 14 14) rfl rfl (by kernel_rfl) (by decide) (fun K hK => ?_)
       refine skip_ (by rfl) rfl (w1 := (w4.drew.setCell ⟨kx + 1, 0, none⟩ (.int .i64 p1)).setCell ⟨kx + 1, 1, none⟩ (.int .i64 p2)) (by go_simp; first | done | rfl) ?_
       refine hK.out _ _ ?_
       refine done_ (by kernel_rfl) ?_
       try simp only [NoPanic, Exit.then]
       have HN5 := hid (HN4.out.drew.store p1 p2)
       obtain ⟨W5, hW5⟩ : ∃ W, W = (w4.drew.setCell ⟨kx + 1, 0, none⟩ (.int .i64 p1)).setCell ⟨kx + 1, 1, none⟩ (.int .i64 p2) := ⟨_, rfl⟩
       rw [← hW5] at HN5 ⊢
       clear hW5 hSS hHeld l0 l4 c1 c2 n0 n1 g0 g1
       have l0 := (HN5.out.l 0).trans (show _ = some (.int .u8 x.f0) from rfl)
       go_wp2_with fail
       have hSS : (fun w' : World => w'.cell? ⟨kx, 0, none⟩ = some (.int .u8 x.f0)) W5.drew := (HN5.out.drew.l 0).trans rfl
       refine wp_region_noPanic ?_
       refine start_ (n := 30) (S := (fun w' : World => w'.cell? ⟨kx, 0, none⟩ = some (.int .u8 x.f0))) (ds := []) (msk 0 30) (by kernel_rfl) rfl rfl hSS (fun hHeld => ?_)
       refine pure_ (i := 0) (N := some 101) (v := ?_) (a' := ?_) (msk 1 30) rfl rfl (by kernel_rfl) (fun _ _ _ h => h) (Or.inl ⟨by rfl, ?_⟩) ?_ ?_
       rotate_left
       · intro w'; go_simp; with_reducible rfl
       rotate_left
       · simp only [Act.put, sA, sB, sC]; rfl
       refine take_ (i := 1) (N := some 102) (v := ?_) (a' := ?_) (msk 2 30) rfl rfl (by kernel_rfl) (fun _ _ _ h => h) (Or.inl ⟨by rfl, ?_⟩) hHeld ?_ ?_
       rotate_left
       ·
        intro w' s0
        go_simp
        with_reducible rfl
       rotate_left
       · simp only [Act.put, sA, sB, sC]; rfl
       refine pure_ (i := 2) (N := some 103) (v := ?_) (a' := ?_) (msk 3 30) rfl rfl (by kernel_rfl) (fun _ _ _ h => h) (Or.inl ⟨by rfl, ?_⟩) ?_ ?_
       rotate_left
       · intro w'; go_simp; with_reducible rfl
       rotate_left
       · simp only [Act.put, sA, sB, sC]; rfl
       refine pure_ (i := 3) (N := some 104) (v := ?_) (a' := ?_) (msk 4 30) rfl rfl (by kernel_rfl) (fun _ _ _ h => h) (Or.inl ⟨by rfl, ?_⟩) ?_ ?_
       rotate_left
       · intro w'; go_simp; with_reducible rfl
       rotate_left
       · simp only [Act.put, sA, sB, sC]; rfl
       refine take_ (i := 4) (N := some 105) (v := undef) (a' := ?_) (msk 5 30) rfl rfl (by kernel_rfl) (fun _ _ _ h => h) (Or.inr ⟨by rfl, rfl⟩) hHeld ?_ ?_
       rotate_left
       · simp only [Act.put, sA, sB, sC]; rfl
       refine take_ (i := 5) (N := some 106) (v := undef) (a' := ?_) (msk 6 30) rfl rfl (by kernel_rfl) (fun _ _ _ h => h) (Or.inr ⟨by rfl, rfl⟩) hHeld ?_ ?_
       rotate_left
       · simp only [Act.put, sA, sB, sC]; rfl
       refine take_ (i := 6) (N := some 107) (v := undef) (a' := ?_) (msk 7 30) rfl rfl (by kernel_rfl) (fun _ _ _ h => h) (Or.inr ⟨by rfl, rfl⟩) hHeld ?_ ?_
       rotate_left
       · simp only [Act.put, sA, sB, sC]; rfl
       refine take_ (i := 7) (N := some 108) (v := undef) (a' := ?_) (msk 8 30) rfl rfl (by kernel_rfl) (fun _ _ _ h => h) (Or.inr ⟨by rfl, rfl⟩) hHeld ?_ ?_
       rotate_left
       · simp only [Act.put, sA, sB, sC]; rfl
       refine pure_ (i := 8) (N := some 109) (v := ?_) (a' := ?_) (msk 9 30) rfl rfl (by kernel_rfl) (fun _ _ _ h => h) (Or.inl ⟨by rfl, ?_⟩) ?_ ?_
       rotate_left
       · intro w'; go_simp; with_reducible rfl
       rotate_left
       · simp only [Act.put, sA, sB, sC]; rfl
       refine pure_ (i := 9) (N := some 110) (v := ?_) (a' := ?_) (msk 10 30) rfl rfl (by kernel_rfl) (fun _ _ _ h => h) (Or.inl ⟨by rfl, ?_⟩) ?_ ?_
       rotate_left
       · intro w'; go_simp; with_reducible rfl
       rotate_left
       · simp only [Act.put, sA, sB, sC]; rfl
       refine take_ (i := 10) (N := some 111) (v := undef) (a' := ?_) (msk 11 30) rfl rfl (by kernel_rfl) (fun _ _ _ h => h) (Or.inr ⟨by rfl, rfl⟩) hHeld ?_ ?_
       rotate_left
       · simp only [Act.put, sA, sB, sC]; rfl
       refine take_ (i := 11) (N := some 112) (v := undef) (a' := ?_) (msk 12 30) rfl rfl (by kernel_rfl) (fun _ _ _ h => h) (Or.inr ⟨by rfl, rfl⟩) hHeld ?_ ?_
       rotate_left
       · simp only [Act.put, sA, sB, sC]; rfl
       refine take_ (i := 12) (N := some 113) (v := undef) (a' := ?_) (msk 13 30) rfl rfl (by kernel_rfl) (fun _ _ _ h => h) (Or.inr ⟨by rfl, rfl⟩) hHeld ?_ ?_
       rotate_left
       · simp only [Act.put, sA, sB, sC]; rfl
       refine take_ (i := 13) (N := some 114) (v := undef) (a' := ?_) (msk 14 30) rfl rfl (by kernel_rfl) (fun _ _ _ h => h) (Or.inr ⟨by rfl, rfl⟩) hHeld ?_ ?_
       rotate_left
       · simp only [Act.put, sA, sB, sC]; rfl
       refine pure_ (i := 14) (N := some 115) (v := ?_) (a' := ?_) (msk 15 30) rfl rfl (by kernel_rfl) (fun _ _ _ h => h) (Or.inl ⟨by rfl, ?_⟩) ?_ ?_
       rotate_left
       · intro w'; go_simp; with_reducible rfl
       rotate_left
       · simp only [Act.put, sA, sB, sC]; rfl
       refine pure_ (i := 15) (N := some 116) (v := ?_) (a' := ?_) (msk 16 30) rfl rfl (by kernel_rfl) (fun _ _ _ h => h) (Or.inl ⟨by rfl, ?_⟩) ?_ ?_
       rotate_left
       · intro w'; go_simp; with_reducible rfl
       rotate_left
       · simp only [Act.put, sA, sB, sC]; rfl
       refine take_ (i := 16) (N := some 117) (v := undef) (a' := ?_) (msk 17 30) rfl rfl (by kernel_rfl) (fun _ _ _ h => h) (Or.inr ⟨by rfl, rfl⟩) hHeld ?_ ?_
       rotate_left
       · simp only [Act.put, sA, sB, sC]; rfl
       refine take_ (i := 17) (N := some 118) (v := undef) (a' := ?_) (msk 18 30) rfl rfl (by kernel_rfl) (fun _ _ _ h => h) (Or.inr ⟨by rfl, rfl⟩) hHeld ?_ ?_
       rotate_left
       · simp only [Act.put, sA, sB, sC]; rfl
       refine take_ (i := 18) (N := some 119) (v := undef) (a' := ?_) (msk 19 30) rfl rfl (by kernel_rfl) (fun _ _ _ h => h) (Or.inr ⟨by rfl, rfl⟩) hHeld ?_ ?_
       rotate_left
       · simp only [Act.put, sA, sB, sC]; rfl
       refine take_ (i := 19) (N := some 120) (v := undef) (a' := ?_) (msk 20 30) rfl rfl (by kernel_rfl) (fun _ _ _ h => h) (Or.inr ⟨by rfl, rfl⟩) hHeld ?_ ?_
       rotate_left
       · simp only [Act.put, sA, sB, sC]; rfl
       refine take_ (i := 20) (N := some 121) (v := undef) (a' := ?_) (msk 21 30) rfl rfl (by kernel_rfl) (fun _ _ _ h => h) (Or.inr ⟨by rfl, rfl⟩) hHeld ?_ ?_
       rotate_left
       · simp only [Act.put, sA, sB, sC]; rfl
       refine take_ (i := 21) (N := some 122) (v := undef) (a' := ?_) (msk 22 30) rfl rfl (by kernel_rfl) (fun _ _ _ h => h) (Or.inr ⟨by rfl, rfl⟩) hHeld ?_ ?_
       rotate_left
       · simp only [Act.put, sA, sB, sC]; rfl
       refine take_ (i := 22) (N := some 123) (v := undef) (a' := ?_) (msk 23 30) rfl rfl (by kernel_rfl) (fun _ _ _ h => h) (Or.inr ⟨by rfl, rfl⟩) hHeld ?_ ?_
       rotate_left
       · simp only [Act.put, sA, sB, sC]; rfl
       refine take_ (i := 23) (N := some 124) (v := undef) (a' := ?_) (msk 24 30) rfl rfl (by kernel_rfl) (fun _ _ _ h => h) (Or.inr ⟨by rfl, rfl⟩) hHeld ?_ ?_
       rotate_left
       · simp only [Act.put, sA, sB, sC]; rfl
       refine take_ (i := 24) (N := some 125) (v := undef) (a' := ?_) (msk 25 30) rfl rfl (by kernel_rfl) (fun _ _ _ h => h) (Or.inr ⟨by rfl, rfl⟩) hHeld ?_ ?_
       rotate_left
       · simp only [Act.put, sA, sB, sC]; rfl
       refine take_ (i := 25) (N := some 126) (v := undef) (a' := ?_) (msk 26 30) rfl rfl (by kernel_rfl) (fun _ _ _ h => h) (Or.inr ⟨by rfl, rfl⟩) hHeld ?_ ?_
       rotate_left
       · simp only [Act.put, sA, sB, sC]; rfl
       refine take_ (i := 26) (N := some 127) (v := undef) (a' := ?_) (msk 27 30) rfl rfl (by kernel_rfl) (fun _ _ _ h => h) (Or.inr ⟨by rfl, rfl⟩) hHeld ?_ ?_
       rotate_left
       · simp only [Act.put, sA, sB, sC]; rfl
       refine take_ (i := 27) (N := some 128) (v := undef) (a' := ?_) (msk 28 30) rfl rfl (by kernel_rfl) (fun _ _ _ h => h) (Or.inr ⟨by rfl, rfl⟩) hHeld ?_ ?_
       rotate_left
       · simp only [Act.put, sA, sB, sC]; rfl
       refine take_ (i := 28) (N := some 129) (v := undef) (a' := ?_) (msk 29 30) rfl rfl (by kernel_rfl) (fun _ _ _ h => h) (Or.inr ⟨by rfl, rfl⟩) hHeld ?_ ?_
       rotate_left
       · simp only [Act.put, sA, sB, sC]; rfl
       refine pure_ (i := 29) (N := some 130) (v := ?_) (a' := ?_) (msk 30 30) rfl rfl (by kernel_rfl) (fun _ _ _ h => h) (Or.inl ⟨by rfl, ?_⟩) ?_ ?_
       rotate_left
       · intro w'; go_simp; with_reducible rfl
       rotate_left
       · simp only [Act.put, sA, sB, sC]; rfl
       refine done_ (by kernel_rfl) ?_
       try simp only [NoPanic, Exit.then]
       have HN6 := hid HN5.out.drew
       obtain ⟨W6, hW6⟩ : ∃ V, V = W5.drew := ⟨_, rfl⟩
       rw [← hW6] at HN6 ⊢
       clear hW6 hSS hHeld
       by_cases hlast : i + 1 = nl
       case pos =>
        have HD := hid (show decide (l.drop (i + 1) = []) = true by simpa using HRS.out.2 hlast)
        have q1 : ((i : Int) == (nl : Int) - 1) = true := by simp; omega
        have q2 : decide ((i : Int) = (nl : Int) - 1) = true := by simp; omega
        have HE := hid (HBAD.out (by rw [HD.out]; simp))
        as_aux_lemma =>
         have l0 := (HN6.out.l 0).trans (show _ = some (.int .u8 x.f0) from rfl)
         have n0 := HN6.out.n0
         have n1 := HN6.out.n1
         have g0 := HN6.out.f0
         have g1 := HN6.out.f1
         go_wp2
         go_ret2
         exact checked_none HR.out HE.out HN6.out.rc.below
       case neg =>
        have HD := hid (show decide (l.drop (i + 1) = []) = false by have := HRS.out; simp only [decide_eq_false_iff_not]; exact fun h => hlast (this.1 h))
        have q1 : ((i : Int) == (nl : Int) - 1) = false := by simp; omega
        have q2 : decide ((i : Int) = (nl : Int) - 1) = false := by simp; omega
        have HST := hid (HSTEP.out (by first | trivial | rfl) HD.out.symm)
        as_aux_lemma =>
         have l0 := (HN6.out.l 0).trans (show _ = some (.int .u8 x.f0) from rfl)
         have n0 := HN6.out.n0
         have n1 := HN6.out.n1
         have g0 := HN6.out.f0
         have g1 := HN6.out.f1
         have HPA := hid (HN6.out.rc.move ((Below.refl _ W6).alloc (Nat.le_refl _) (.cells #[.int .i64 p1, .int .i64 p2] 60)))
         have HOW := hid (show (W6.alloc (.cells #[.int .i64 p1, .int .i64 p2] 60)).ownsRow 0 60 2 (.slice (some ⟨g, 0, none⟩) i ct) i (prs t) by
          have h1 := HPA.out.told
          rw [← HNT.out] at h1
          exact h1)
         go_wp2_with (at_builtin; go_loud (refine wpList_append_lies (W6.alloc (.cells #[.int .i64 p1, .int .i64 p2] 60)) (by rfl) _ _ _ (by rfl) 0 60 i60 (.agg #[.int .i64 0, .int .i64 0]) 2 16 Tryd.underlying58 HI60.out.1 HI60.out.2.1 HI60.out.2.2.1 HI60.out.2.2.2 rfl (by omega) (.slice (some ⟨g, 0, none⟩) i ct) i (prs t) (by rfl) HOW.out ⟨W6.heap.size, 0, none⟩ 1 1 [.int .i64 p1, .int .i64 p2] (by rfl) (by rfl) (fun j u hu => World.news_of_block (heap_alloc_new W6 (.cells #[.int .i64 p1, .int .i64 p2] 60)) j u (by simpa using hu)) (by simp [Value.oneCell']) (by omega) (by unfold maxLen; omega) (by omega) (Nat.zero_le _) (W6.heap.size + 1) (by simp) ?_; intro gz cap w7 ho7 hg7 hat7 hlt7; have H60 := hid (HPA.out.pushT (p1, p2) (tv' := .slice (some ⟨gz, 0, none⟩) (i + 1) cap) (by rw [← HNT.out]; exact ho7) hg7 (at_or hat7)); clear ho7 hg7 hat7 hlt7))
         go_roundg left
         case measure => omega
         case rel => exact ⟨i + 1, t ++ [(p1, p2)], s, false, _, _, by omega, rfl, rfl, by go_num, by (have := HNT.out; rw [List.length_append, List.length_singleton]; omega), by have := HNS.out; omega, hid H60.out, hid ⟨HST.out.symm.trans HG.out.1, fun h => absurd h (by omega), fun _ => (decide_eq_false hlast).symm⟩⟩
    by_cases k4 : x.f0 = 4
    case pos =>
     as_aux_lemma =>
      have b1 : (x.f0 == 1) = false := by simp; omega
      have d1 : decide (x.f0 = 1) = false := by simp; omega
      have b2 : (x.f0 == 2) = false := by simp; omega
      have d2 : decide (x.f0 = 2) = false := by simp; omega
      have b3 : (x.f0 == 3) = false := by simp; omega
      have d3 : decide (x.f0 = 3) = false := by simp; omega
      have b5 : (x.f0 == 5) = false := by simp; omega
      have d5 : decide (x.f0 = 5) = false := by simp; omega
      have b6 : (x.f0 == 6) = false := by simp; omega
      have d6 : decide (x.f0 = 6) = false := by simp; omega
      have b7 : (x.f0 == 7) = false := by simp; omega
      have d7 : decide (x.f0 = 7) = false := by simp; omega
      have b4 : (x.f0 == 4) = true := by simp [k4]
      have d4 : decide (x.f0 = 4) = true := by simp [k4]
      have HL2 := hid (show linkM v a t x = (((prO (tellM t x.f4)).1, (prO (tellM t x.f5)).2), false, (tellM t x.f4).isSome && ((tellM t x.f5).isSome && decide ((prO (tellM t x.f4)).2 = (prO (tellM t x.f5)).1))) by
       unfold linkM
       rw [if_neg k1, if_neg k2, if_neg k3, if_pos k4])
      obtain ⟨hp1, hp2, he0, hk0⟩ : p1 = (prO (tellM t x.f4)).1 ∧ p2 = (prO (tellM t x.f5)).2 ∧ EE = false ∧ ok = ((tellM t x.f4).isSome && ((tellM t x.f5).isSome && decide ((prO (tellM t x.f4)).2 = (prO (tellM t x.f5)).1))) := by
       have := HLM.out.symm.trans HL2.out
       simp only [Prod.mk.injEq] at this
       exact ⟨this.1.1, this.1.2, this.2.1, this.2.2⟩
      subst he0
      have HK := hid k4
      clear k4
      rw [show litsOf x = [] by unfold litsOf; rw [if_neg (by have := HK.out; omega)], List.append_nil] at HSTEP
      go_wp2_with fail
      obtain ⟨W3, hW3⟩ : ∃ W3, W3 = (wr.alloc (.cells (lkC x (.slice A6 x.f6.length c6)) 36)).alloc (.cells #[.int .i64 0, .int .i64 0] 60) := ⟨_, rfl⟩
      have HN3 := hid (Rn.made HLr.out (lkC x (.slice A6 x.f6.length c6)))
      obtain ⟨kx, hkx⟩ : ∃ k, k = wr.heap.size := ⟨_, rfl⟩
      rw [← hkx] at HN3
      rw [← hW3] at HN3
      rw [← hW3, ← hkx]
      clear hW3 hkx y0 y1 y2 y3 y4 y5 y6 b0
      have HN3d := hid HN3.out.drew
      cases hin4 : inB i x.f4 with
      | false =>
       have HE := hid (HBAD.out (by rw [hk0, rtell_no HNT.out hin4]; simp))
       as_aux_lemma =>
        have hSS : (fun w' : World => w'.cell? ⟨kx, 0, none⟩ = some (.int .u8 x.f0) ∧ w'.cell? ⟨kx, 4, none⟩ = some (.int .i64 x.f4)) W3.drew := ⟨(HN3d.out.l 0).trans rfl, (HN3d.out.l 4).trans rfl⟩
        refine wp_region_noPanic ?_
        refine start_ (n := 30) (S := (fun w' : World => w'.cell? ⟨kx, 0, none⟩ = some (.int .u8 x.f0) ∧ w'.cell? ⟨kx, 4, none⟩ = some (.int .i64 x.f4))) (ds := []) (msk 0 30) (by kernel_rfl) rfl rfl hSS (fun hHeld => ?_)
        refine pure_ (i := 0) (N := some 101) (v := ?_) (a' := ?_) (msk 1 30) rfl rfl (by kernel_rfl) (fun _ _ _ h => h) (Or.inl ⟨by rfl, ?_⟩) ?_ ?_
        rotate_left
        · intro w'; go_simp; with_reducible rfl
        rotate_left
        · simp only [Act.put, sA, sB, sC]; rfl
        refine take_ (i := 1) (N := some 102) (v := ?_) (a' := ?_) (msk 2 30) rfl rfl (by kernel_rfl) (fun _ _ _ h => h) (Or.inl ⟨by rfl, ?_⟩) hHeld ?_ ?_
        rotate_left
        · rintro w' ⟨s0, s1⟩; go_simp; with_reducible rfl
        rotate_left
        · simp only [Act.put, sA, sB, sC]; rfl
        refine pure_ (i := 2) (N := some 103) (v := ?_) (a' := ?_) (msk 3 30) rfl rfl (by kernel_rfl) (fun _ _ _ h => h) (Or.inl ⟨by rfl, ?_⟩) ?_ ?_
        rotate_left
        · intro w'; go_simp; with_reducible rfl
        rotate_left
        · simp only [Act.put, sA, sB, sC]; rfl
        refine pure_ (i := 3) (N := some 104) (v := ?_) (a' := ?_) (msk 4 30) rfl rfl (by kernel_rfl) (fun _ _ _ h => h) (Or.inl ⟨by rfl, ?_⟩) ?_ ?_
        rotate_left
        · intro w'; go_simp; with_reducible rfl
        rotate_left
        · simp only [Act.put, sA, sB, sC]; rfl
        refine pure_ (i := 4) (N := some 105) (v := ?_) (a' := ?_) (msk 5 30) rfl rfl (by kernel_rfl) (fun _ _ _ h => h) (Or.inl ⟨by rfl, ?_⟩) ?_ ?_
        rotate_left
        · intro w'; go_simp; with_reducible rfl
        rotate_left
        · simp only [Act.put, sA, sB, sC]; rfl
        refine take_ (i := 5) (N := some 106) (v := ?_) (a' := ?_) (msk 6 30) rfl rfl (by kernel_rfl) (fun _ _ _ h => h) (Or.inl ⟨by rfl, ?_⟩) hHeld ?_ ?_
        rotate_left
        · rintro w' ⟨s0, s1⟩; go_simp; with_reducible rfl
        rotate_left
        · simp only [Act.put, sA, sB, sC]; rfl
        refine pure_ (i := 6) (N := some 107) (v := ?_) (a' := ?_) (msk 7 30) rfl rfl (by kernel_rfl) (fun _ _ _ h => h) (Or.inl ⟨by rfl, ?_⟩) ?_ ?_
        rotate_left
        · intro w'; go_simp; with_reducible rfl
        rotate_left
        · simp only [Act.put, sA, sB, sC]; rfl
        refine one_ (i := 7) (N := some 108) (msk 8 30) rfl rfl (by kernel_rfl) (by decide) (fun K hK => ?_)
        refine call_ 22 #[.int .i64 x.f4, .int .i64 (i : Int)] (by rfl) rfl (by go_simp; first | done | rfl) ?_
        refine (within_c x.f4 i W3.drew).mono ?_
        rintro _ w4 ⟨he, hb⟩
        rw [hin4] at he
        have HN4 := hid (HN3d.out.move hb)
        clear hb
        refine ⟨_, he, ?_⟩
        refine hK.out _ _ ⟨(HN4.out.l 0).trans rfl, (HN4.out.l 4).trans rfl⟩ (fun hHeld => ?_)
        refine norm_ (a' := ?_) ?_ ?_
        rotate_left
        · simp only [Act.put, sA, sB, sC]; rfl
        refine pure_ (i := 8) (N := some 109) (v := ?_) (a' := ?_) (msk 9 30) rfl rfl (by kernel_rfl) (fun _ _ _ h => h) (Or.inl ⟨by rfl, ?_⟩) ?_ ?_
        rotate_left
        · intro w'; go_simp; with_reducible rfl
        rotate_left
        · simp only [Act.put, sA, sB, sC]; rfl
        refine pure_ (i := 9) (N := some 110) (v := ?_) (a' := ?_) (msk 10 30) rfl rfl (by kernel_rfl) (fun _ _ _ h => h) (Or.inl ⟨by rfl, ?_⟩) ?_ ?_
        rotate_left
        · intro w'; go_simp; with_reducible rfl
        rotate_left
        · simp only [Act.put, sA, sB, sC]; rfl
        refine take_ (i := 10) (N := some 111) (v := undef) (a' := ?_) (msk 11 30) rfl rfl (by kernel_rfl) (fun _ _ _ h => h) (Or.inr ⟨by rfl, rfl⟩) hHeld ?_ ?_
        rotate_left
        · simp only [Act.put, sA, sB, sC]; rfl
        refine take_ (i := 11) (N := some 112) (v := undef) (a' := ?_) (msk 12 30) rfl rfl (by kernel_rfl) (fun _ _ _ h => h) (Or.inr ⟨by rfl, rfl⟩) hHeld ?_ ?_
        rotate_left
        · simp only [Act.put, sA, sB, sC]; rfl
        refine take_ (i := 12) (N := some 113) (v := undef) (a' := ?_) (msk 13 30) rfl rfl (by kernel_rfl) (fun _ _ _ h => h) (Or.inr ⟨by rfl, rfl⟩) hHeld ?_ ?_
        rotate_left
        · simp only [Act.put, sA, sB, sC]; rfl
        refine take_ (i := 13) (N := some 114) (v := undef) (a' := ?_) (msk 14 30) rfl rfl (by kernel_rfl) (fun _ _ _ h => h) (Or.inr ⟨by rfl, rfl⟩) hHeld ?_ ?_
        rotate_left
        · simp only [Act.put, sA, sB, sC]; rfl
        refine pure_ (i := 14) (N := some 115) (v := ?_) (a' := ?_) (msk 15 30) rfl rfl (by kernel_rfl) (fun _ _ _ h => h) (Or.inl ⟨by rfl, ?_⟩) ?_ ?_
        rotate_left
        · intro w'; go_simp; with_reducible rfl
        rotate_left
        · simp only [Act.put, sA, sB, sC]; rfl
        refine pure_ (i := 15) (N := some 116) (v := ?_) (a' := ?_) (msk 16 30) rfl rfl (by kernel_rfl) (fun _ _ _ h => h) (Or.inl ⟨by rfl, ?_⟩) ?_ ?_
        rotate_left
        · intro w'; go_simp; with_reducible rfl
        rotate_left
        · simp only [Act.put, sA, sB, sC]; rfl
        refine take_ (i := 16) (N := some 117) (v := undef) (a' := ?_) (msk 17 30) rfl rfl (by kernel_rfl) (fun _ _ _ h => h) (Or.inr ⟨by rfl, rfl⟩) hHeld ?_ ?_
        rotate_left
        · simp only [Act.put, sA, sB, sC]; rfl
        refine take_ (i := 17) (N := some 118) (v := undef) (a' := ?_) (msk 18 30) rfl rfl (by kernel_rfl) (fun _ _ _ h => h) (Or.inr ⟨by rfl, rfl⟩) hHeld ?_ ?_
        rotate_left
        · simp only [Act.put, sA, sB, sC]; rfl
        refine take_ (i := 18) (N := some 119) (v := undef) (a' := ?_) (msk 19 30) rfl rfl (by kernel_rfl) (fun _ _ _ h => h) (Or.inr ⟨by rfl, rfl⟩) hHeld ?_ ?_
        rotate_left
        · simp only [Act.put, sA, sB, sC]; rfl
        refine take_ (i := 19) (N := some 120) (v := undef) (a' := ?_) (msk 20 30) rfl rfl (by kernel_rfl) (fun _ _ _ h => h) (Or.inr ⟨by rfl, rfl⟩) hHeld ?_ ?_
        rotate_left
        · simp only [Act.put, sA, sB, sC]; rfl
        refine take_ (i := 20) (N := some 121) (v := undef) (a' := ?_) (msk 21 30) rfl rfl (by kernel_rfl) (fun _ _ _ h => h) (Or.inr ⟨by rfl, rfl⟩) hHeld ?_ ?_
        rotate_left
        · simp only [Act.put, sA, sB, sC]; rfl
        refine take_ (i := 21) (N := some 122) (v := undef) (a' := ?_) (msk 22 30) rfl rfl (by kernel_rfl) (fun _ _ _ h => h) (Or.inr ⟨by rfl, rfl⟩) hHeld ?_ ?_
        rotate_left
        · simp only [Act.put, sA, sB, sC]; rfl
        refine take_ (i := 22) (N := some 123) (v := undef) (a' := ?_) (msk 23 30) rfl rfl (by kernel_rfl) (fun _ _ _ h => h) (Or.inr ⟨by rfl, rfl⟩) hHeld ?_ ?_
        rotate_left
        · simp only [Act.put, sA, sB, sC]; rfl
        refine take_ (i := 23) (N := some 124) (v := undef) (a' := ?_) (msk 24 30) rfl rfl (by kernel_rfl) (fun _ _ _ h => h) (Or.inr ⟨by rfl, rfl⟩) hHeld ?_ ?_
        rotate_left
        · simp only [Act.put, sA, sB, sC]; rfl
        refine take_ (i := 24) (N := some 125) (v := undef) (a' := ?_) (msk 25 30) rfl rfl (by kernel_rfl) (fun _ _ _ h => h) (Or.inr ⟨by rfl, rfl⟩) hHeld ?_ ?_
        rotate_left
        · simp only [Act.put, sA, sB, sC]; rfl
        refine take_ (i := 25) (N := some 126) (v := undef) (a' := ?_) (msk 26 30) rfl rfl (by kernel_rfl) (fun _ _ _ h => h) (Or.inr ⟨by rfl, rfl⟩) hHeld ?_ ?_
        rotate_left
        · simp only [Act.put, sA, sB, sC]; rfl
        refine take_ (i := 26) (N := some 127) (v := undef) (a' := ?_) (msk 27 30) rfl rfl (by kernel_rfl) (fun _ _ _ h => h) (Or.inr ⟨by rfl, rfl⟩) hHeld ?_ ?_
        rotate_left
        · simp only [Act.put, sA, sB, sC]; rfl
        refine take_ (i := 27) (N := some 128) (v := undef) (a' := ?_) (msk 28 30) rfl rfl (by kernel_rfl) (fun _ _ _ h => h) (Or.inr ⟨by rfl, rfl⟩) hHeld ?_ ?_
        rotate_left
        · simp only [Act.put, sA, sB, sC]; rfl
        refine take_ (i := 28) (N := some 129) (v := undef) (a' := ?_) (msk 29 30) rfl rfl (by kernel_rfl) (fun _ _ _ h => h) (Or.inr ⟨by rfl, rfl⟩) hHeld ?_ ?_
        rotate_left
        · simp only [Act.put, sA, sB, sC]; rfl
        refine pure_ (i := 29) (N := some 130) (v := ?_) (a' := ?_) (msk 30 30) rfl rfl (by kernel_rfl) (fun _ _ _ h => h) (Or.inl ⟨by rfl, ?_⟩) ?_ ?_
        rotate_left
        · intro w'; go_simp; with_reducible rfl
        rotate_left
        · simp only [Act.put, sA, sB, sC]; rfl
        refine done_ (by kernel_rfl) ?_
        try simp only [NoPanic, Exit.then]
        have l0 := (HN4.out.l 0).trans (show _ = some (.int .u8 x.f0) from rfl)
        have n0 := HN4.out.n0
        have n1 := HN4.out.n1
        have g0 := HN4.out.f0
        have g1 := HN4.out.f1
        go_wp2
        go_ret2
        exact checked_none HR.out HE.out HN4.out.rc.below
      | true =>
       obtain ⟨m, hm, hmi, htm⟩ := rtell_yes HNT.out hin4
       have hin4' := hin4
       rw [hm] at hin4'
       cases hin5 : inB i x.f5 with
       | false =>
        have HE := hid (HBAD.out (by rw [hk0, rtell_no HNT.out hin5]; simp))
        as_aux_lemma =>
         have hSS : (fun w' : World => w'.cell? ⟨kx, 0, none⟩ = some (.int .u8 x.f0) ∧ w'.cell? ⟨kx, 4, none⟩ = some (.int .i64 (m : Int)) ∧ w'.cell? ⟨kx, 5, none⟩ = some (.int .i64 x.f5)) W3.drew := ⟨(HN3d.out.l 0).trans rfl, ((HN3d.out.l 4).trans rfl).trans (congrArg (fun z => some (Value.int .i64 z)) hm), (HN3d.out.l 5).trans rfl⟩
         refine wp_region_noPanic ?_
         refine start_ (n := 30) (S := (fun w' : World => w'.cell? ⟨kx, 0, none⟩ = some (.int .u8 x.f0) ∧ w'.cell? ⟨kx, 4, none⟩ = some (.int .i64 (m : Int)) ∧ w'.cell? ⟨kx, 5, none⟩ = some (.int .i64 x.f5))) (ds := []) (msk 0 30) (by kernel_rfl) rfl rfl hSS (fun hHeld => ?_)
         refine pure_ (i := 0) (N := some 101) (v := ?_) (a' := ?_) (msk 1 30) rfl rfl (by kernel_rfl) (fun _ _ _ h => h) (Or.inl ⟨by rfl, ?_⟩) ?_ ?_
         rotate_left
         · intro w'; go_simp; with_reducible rfl
         rotate_left
         · simp only [Act.put, sA, sB, sC]; rfl
         refine take_ (i := 1) (N := some 102) (v := ?_) (a' := ?_) (msk 2 30) rfl rfl (by kernel_rfl) (fun _ _ _ h => h) (Or.inl ⟨by rfl, ?_⟩) hHeld ?_ ?_
         rotate_left
         · rintro w' ⟨s0, s1, s2⟩; go_simp; with_reducible rfl
         rotate_left
         · simp only [Act.put, sA, sB, sC]; rfl
         refine pure_ (i := 2) (N := some 103) (v := ?_) (a' := ?_) (msk 3 30) rfl rfl (by kernel_rfl) (fun _ _ _ h => h) (Or.inl ⟨by rfl, ?_⟩) ?_ ?_
         rotate_left
         · intro w'; go_simp; with_reducible rfl
         rotate_left
         · simp only [Act.put, sA, sB, sC]; rfl
         refine pure_ (i := 3) (N := some 104) (v := ?_) (a' := ?_) (msk 4 30) rfl rfl (by kernel_rfl) (fun _ _ _ h => h) (Or.inl ⟨by rfl, ?_⟩) ?_ ?_
         rotate_left
         · intro w'; go_simp; with_reducible rfl
         rotate_left
         · simp only [Act.put, sA, sB, sC]; rfl
         refine pure_ (i := 4) (N := some 105) (v := ?_) (a' := ?_) (msk 5 30) rfl rfl (by kernel_rfl) (fun _ _ _ h => h) (Or.inl ⟨by rfl, ?_⟩) ?_ ?_
         rotate_left
         · intro w'; go_simp; with_reducible rfl
         rotate_left
         · simp only [Act.put, sA, sB, sC]; rfl
         refine take_ (i := 5) (N := some 106) (v := ?_) (a' := ?_) (msk 6 30) rfl rfl (by kernel_rfl) (fun _ _ _ h => h) (Or.inl ⟨by rfl, ?_⟩) hHeld ?_ ?_
         rotate_left
         · rintro w' ⟨s0, s1, s2⟩; go_simp; with_reducible rfl
         rotate_left
         · simp only [Act.put, sA, sB, sC]; rfl
         refine pure_ (i := 6) (N := some 107) (v := ?_) (a' := ?_) (msk 7 30) rfl rfl (by kernel_rfl) (fun _ _ _ h => h) (Or.inl ⟨by rfl, ?_⟩) ?_ ?_
         rotate_left
         · intro w'; go_simp; with_reducible rfl
         rotate_left
         · simp only [Act.put, sA, sB, sC]; rfl
         refine one_ (i := 7) (N := some 108) (msk 8 30) rfl rfl (by kernel_rfl) (by decide) (fun K hK => ?_)
         refine call_ 22 #[.int .i64 (m : Int), .int .i64 (i : Int)] (by rfl) rfl (by go_simp; first | done | rfl) ?_
         refine (within_c (m : Int) i W3.drew).mono ?_
         rintro _ w4 ⟨he, hb⟩
         rw [hin4'] at he
         have HN4 := hid (HN3d.out.move hb)
         clear hb
         refine ⟨_, he, ?_⟩
         refine hK.out _ _ ⟨(HN4.out.l 0).trans rfl, ((HN4.out.l 4).trans rfl).trans (congrArg (fun z => some (Value.int .i64 z)) hm), (HN4.out.l 5).trans rfl⟩ (fun hHeld => ?_)
         refine norm_ (a' := ?_) ?_ ?_
         rotate_left
         · simp only [Act.put, sA, sB, sC]; rfl
         refine pure_ (i := 8) (N := some 109) (v := ?_) (a' := ?_) (msk 9 30) rfl rfl (by kernel_rfl) (fun _ _ _ h => h) (Or.inl ⟨by rfl, ?_⟩) ?_ ?_
         rotate_left
         · intro w'; go_simp; with_reducible rfl
         rotate_left
         · simp only [Act.put, sA, sB, sC]; rfl
         refine pure_ (i := 9) (N := some 110) (v := ?_) (a' := ?_) (msk 10 30) rfl rfl (by kernel_rfl) (fun _ _ _ h => h) (Or.inl ⟨by rfl, ?_⟩) ?_ ?_
         rotate_left
         · intro w'; go_simp; with_reducible rfl
         rotate_left
         · simp only [Act.put, sA, sB, sC]; rfl
         refine pure_ (i := 10) (N := some 111) (v := ?_) (a' := ?_) (msk 11 30) rfl rfl (by kernel_rfl) (fun _ _ _ h => h) (Or.inl ⟨by rfl, ?_⟩) ?_ ?_
         rotate_left
         · intro w'; go_simp; with_reducible rfl
         rotate_left
         · simp only [Act.put, sA, sB, sC]; rfl
         refine take_ (i := 11) (N := some 112) (v := ?_) (a' := ?_) (msk 12 30) rfl rfl (by kernel_rfl) (fun _ _ _ h => h) (Or.inl ⟨by rfl, ?_⟩) hHeld ?_ ?_
         rotate_left
         · rintro w' ⟨s0, s1, s2⟩; go_simp; with_reducible rfl
         rotate_left
         · simp only [Act.put, sA, sB, sC]; rfl
         refine pure_ (i := 12) (N := some 113) (v := ?_) (a' := ?_) (msk 13 30) rfl rfl (by kernel_rfl) (fun _ _ _ h => h) (Or.inl ⟨by rfl, ?_⟩) ?_ ?_
         rotate_left
         · intro w'; go_simp; with_reducible rfl
         rotate_left
         · simp only [Act.put, sA, sB, sC]; rfl
         refine one_ (i := 13) (N := some 114) (msk 14 30) rfl rfl (by kernel_rfl) (by decide) (fun K hK => ?_)
         refine call_ 22 #[.int .i64 x.f5, .int .i64 (i : Int)] (by rfl) rfl (by go_simp; first | done | rfl) ?_
         refine (within_c x.f5 i w4).mono ?_
         rintro _ w5 ⟨he, hb⟩
         rw [hin5] at he
         have HN5 := hid (HN4.out.move hb)
         clear hb
         refine ⟨_, he, ?_⟩
         refine hK.out _ _ ⟨(HN5.out.l 0).trans rfl, ((HN5.out.l 4).trans rfl).trans (congrArg (fun z => some (Value.int .i64 z)) hm), (HN5.out.l 5).trans rfl⟩ (fun hHeld => ?_)
         refine norm_ (a' := ?_) ?_ ?_
         rotate_left
         · simp only [Act.put, sA, sB, sC]; rfl
         refine pure_ (i := 14) (N := some 115) (v := ?_) (a' := ?_) (msk 15 30) rfl rfl (by kernel_rfl) (fun _ _ _ h => h) (Or.inl ⟨by rfl, ?_⟩) ?_ ?_
         rotate_left
         · intro w'; go_simp; with_reducible rfl
         rotate_left
         · simp only [Act.put, sA, sB, sC]; rfl
         refine pure_ (i := 15) (N := some 116) (v := ?_) (a' := ?_) (msk 16 30) rfl rfl (by kernel_rfl) (fun _ _ _ h => h) (Or.inl ⟨by rfl, ?_⟩) ?_ ?_
         rotate_left
         · intro w'; go_simp; with_reducible rfl
         rotate_left
         · simp only [Act.put, sA, sB, sC]; rfl
         refine take_ (i := 16) (N := some 117) (v := undef) (a' := ?_) (msk 17 30) rfl rfl (by kernel_rfl) (fun _ _ _ h => h) (Or.inr ⟨by rfl, rfl⟩) hHeld ?_ ?_
         rotate_left
         · simp only [Act.put, sA, sB, sC]; rfl
         refine take_ (i := 17) (N := some 118) (v := undef) (a' := ?_) (msk 18 30) rfl rfl (by kernel_rfl) (fun _ _ _ h => h) (Or.inr ⟨by rfl, rfl⟩) hHeld ?_ ?_
         rotate_left
         · simp only [Act.put, sA, sB, sC]; rfl
         refine take_ (i := 18) (N := some 119) (v := undef) (a' := ?_) (msk 19 30) rfl rfl (by kernel_rfl) (fun _ _ _ h => h) (Or.inr ⟨by rfl, rfl⟩) hHeld ?_ ?_
         rotate_left
         · simp only [Act.put, sA, sB, sC]; rfl
         refine take_ (i := 19) (N := some 120) (v := undef) (a' := ?_) (msk 20 30) rfl rfl (by kernel_rfl) (fun _ _ _ h => h) (Or.inr ⟨by rfl, rfl⟩) hHeld ?_ ?_
         rotate_left
         · simp only [Act.put, sA, sB, sC]; rfl
         refine take_ (i := 20) (N := some 121) (v := undef) (a' := ?_) (msk 21 30) rfl rfl (by kernel_rfl) (fun _ _ _ h => h) (Or.inr ⟨by rfl, rfl⟩) hHeld ?_ ?_
         rotate_left
         · simp only [Act.put, sA, sB, sC]; rfl
         refine take_ (i := 21) (N := some 122) (v := undef) (a' := ?_) (msk 22 30) rfl rfl (by kernel_rfl) (fun _ _ _ h => h) (Or.inr ⟨by rfl, rfl⟩) hHeld ?_ ?_
         rotate_left
         · simp only [Act.put, sA, sB, sC]; rfl
         refine take_ (i := 22) (N := some 123) (v := undef) (a' := ?_) (msk 23 30) rfl rfl (by kernel_rfl) (fun _ _ _ h => h) (Or.inr ⟨by rfl, rfl⟩) hHeld ?_ ?_
         rotate_left
         · simp only [Act.put, sA, sB, sC]; rfl
         refine take_ (i := 23) (N := some 124) (v := undef) (a' := ?_) (msk 24 30) rfl rfl (by kernel_rfl) (fun _ _ _ h => h) (Or.inr ⟨by rfl, rfl⟩) hHeld ?_ ?_
         rotate_left
         · simp only [Act.put, sA, sB, sC]; rfl
         refine take_ (i := 24) (N := some 125) (v := undef) (a' := ?_) (msk 25 30) rfl rfl (by kernel_rfl) (fun _ _ _ h => h) (Or.inr ⟨by rfl, rfl⟩) hHeld ?_ ?_
         rotate_left
         · simp only [Act.put, sA, sB, sC]; rfl
         refine take_ (i := 25) (N := some 126) (v := undef) (a' := ?_) (msk 26 30) rfl rfl (by kernel_rfl) (fun _ _ _ h => h) (Or.inr ⟨by rfl, rfl⟩) hHeld ?_ ?_
         rotate_left
         · simp only [Act.put, sA, sB, sC]; rfl
         refine take_ (i := 26) (N := some 127) (v := undef) (a' := ?_) (msk 27 30) rfl rfl (by kernel_rfl) (fun _ _ _ h => h) (Or.inr ⟨by rfl, rfl⟩) hHeld ?_ ?_
         rotate_left
         · simp only [Act.put, sA, sB, sC]; rfl
         refine take_ (i := 27) (N := some 128) (v := undef) (a' := ?_) (msk 28 30) rfl rfl (by kernel_rfl) (fun _ _ _ h => h) (Or.inr ⟨by rfl, rfl⟩) hHeld ?_ ?_
         rotate_left
         · simp only [Act.put, sA, sB, sC]; rfl
         refine take_ (i := 28) (N := some 129) (v := undef) (a' := ?_) (msk 29 30) rfl rfl (by kernel_rfl) (fun _ _ _ h => h) (Or.inr ⟨by rfl, rfl⟩) hHeld ?_ ?_
         rotate_left
         · simp only [Act.put, sA, sB, sC]; rfl
         refine pure_ (i := 29) (N := some 130) (v := ?_) (a' := ?_) (msk 30 30) rfl rfl (by kernel_rfl) (fun _ _ _ h => h) (Or.inl ⟨by rfl, ?_⟩) ?_ ?_
         rotate_left
         · intro w'; go_simp; with_reducible rfl
         rotate_left
         · simp only [Act.put, sA, sB, sC]; rfl
         refine done_ (by kernel_rfl) ?_
         try simp only [NoPanic, Exit.then]
         have l0 := (HN5.out.l 0).trans (show _ = some (.int .u8 x.f0) from rfl)
         have n0 := HN5.out.n0
         have n1 := HN5.out.n1
         have g0 := HN5.out.f0
         have g1 := HN5.out.f1
         go_wp2
         go_ret2
         exact checked_none HR.out HE.out HN5.out.rc.below
       | true =>
        obtain ⟨n, hn, hni, htn⟩ := rtell_yes HNT.out hin5
        have hin5' := hin5
        rw [hn] at hin5'
        obtain ⟨g, rfl⟩ := HN3.out.form (by have := HNT.out; omega)
        obtain ⟨⟨P1, P2⟩, hP⟩ : ∃ r, t.getD m (0, 0) = r := ⟨_, rfl⟩
        obtain ⟨⟨Q1, Q2⟩, hQ⟩ : ∃ r, t.getD n (0, 0) = r := ⟨_, rfl⟩
        have HP := hid hP
        have HQ := hid hQ
        rw [hP] at htm
        rw [hQ] at htn
        have HM := hid hm
        have HN := hid hn
        have HKK := hid (show p1 = P1 ∧ p2 = Q2 ∧ ok = decide (P2 = Q1) from ⟨by rw [hp1, htm]; rfl, by rw [hp2, htn]; rfl, by rw [hk0, htm, htn]; rfl⟩)
        obtain ⟨rfl, rfl, hOK⟩ := HKK.out
        have HOK := hid hOK
        clear hp1 hp2 hk0 htm htn hP hQ HKK HL2 hOK hm hn
        have hmz : (m : Int) < (i : Int) := by omega
        have hnz : (n : Int) < (i : Int) := by omega
        have hSS : (fun w' : World => w'.cell? ⟨kx, 0, none⟩ = some (.int .u8 x.f0) ∧ w'.cell? ⟨kx, 4, none⟩ = some (.int .i64 (m : Int)) ∧ w'.cell? ⟨kx, 5, none⟩ = some (.int .i64 (n : Int)) ∧ w'.cell? ⟨g, m * 2 + 1, none⟩ = some (.int .i64 P2) ∧ w'.cell? ⟨g, n * 2, none⟩ = some (.int .i64 Q1)) W3.drew := ⟨(HN3d.out.l 0).trans rfl, ((HN3d.out.l 4).trans rfl).trans (congrArg (fun z => some (Value.int .i64 z)) HM.out), ((HN3d.out.l 5).trans rfl).trans (congrArg (fun z => some (Value.int .i64 z)) HN.out), (HN3d.out.told m HNT.out hmi HP.out).2, (HN3d.out.told n HNT.out hni HQ.out).1⟩
        refine wp_region_noPanic ?_
        refine start_ (n := 30) (S := (fun w' : World => w'.cell? ⟨kx, 0, none⟩ = some (.int .u8 x.f0) ∧ w'.cell? ⟨kx, 4, none⟩ = some (.int .i64 (m : Int)) ∧ w'.cell? ⟨kx, 5, none⟩ = some (.int .i64 (n : Int)) ∧ w'.cell? ⟨g, m * 2 + 1, none⟩ = some (.int .i64 P2) ∧ w'.cell? ⟨g, n * 2, none⟩ = some (.int .i64 Q1))) (ds := []) (msk 0 30) (by kernel_rfl) rfl rfl hSS (fun hHeld => ?_)
        refine pure_ (i := 0) (N := some 101) (v := ?_) (a' := ?_) (msk 1 30) rfl rfl (by kernel_rfl) (fun _ _ _ h => h) (Or.inl ⟨by rfl, ?_⟩) ?_ ?_
        rotate_left
        · intro w'; go_simp; with_reducible rfl
        rotate_left
        · simp only [Act.put, sA, sB, sC]; rfl
        refine take_ (i := 1) (N := some 102) (v := ?_) (a' := ?_) (msk 2 30) rfl rfl (by kernel_rfl) (fun _ _ _ h => h) (Or.inl ⟨by rfl, ?_⟩) hHeld ?_ ?_
        rotate_left
        · rintro w' ⟨s0, s1, s2, s3, s4⟩; go_simp; with_reducible rfl
        rotate_left
        · simp only [Act.put, sA, sB, sC]; rfl
        refine pure_ (i := 2) (N := some 103) (v := ?_) (a' := ?_) (msk 3 30) rfl rfl (by kernel_rfl) (fun _ _ _ h => h) (Or.inl ⟨by rfl, ?_⟩) ?_ ?_
        rotate_left
        · intro w'; go_simp; with_reducible rfl
        rotate_left
        · simp only [Act.put, sA, sB, sC]; rfl
        refine pure_ (i := 3) (N := some 104) (v := ?_) (a' := ?_) (msk 4 30) rfl rfl (by kernel_rfl) (fun _ _ _ h => h) (Or.inl ⟨by rfl, ?_⟩) ?_ ?_
        rotate_left
        · intro w'; go_simp; with_reducible rfl
        rotate_left
        · simp only [Act.put, sA, sB, sC]; rfl
        refine pure_ (i := 4) (N := some 105) (v := ?_) (a' := ?_) (msk 5 30) rfl rfl (by kernel_rfl) (fun _ _ _ h => h) (Or.inl ⟨by rfl, ?_⟩) ?_ ?_
        rotate_left
        · intro w'; go_simp; with_reducible rfl
        rotate_left
        · simp only [Act.put, sA, sB, sC]; rfl
        refine take_ (i := 5) (N := some 106) (v := ?_) (a' := ?_) (msk 6 30) rfl rfl (by kernel_rfl) (fun _ _ _ h => h) (Or.inl ⟨by rfl, ?_⟩) hHeld ?_ ?_
        rotate_left
        · rintro w' ⟨s0, s1, s2, s3, s4⟩; go_simp; with_reducible rfl
        rotate_left
        · simp only [Act.put, sA, sB, sC]; rfl
        refine pure_ (i := 6) (N := some 107) (v := ?_) (a' := ?_) (msk 7 30) rfl rfl (by kernel_rfl) (fun _ _ _ h => h) (Or.inl ⟨by rfl, ?_⟩) ?_ ?_
        rotate_left
        · intro w'; go_simp; with_reducible rfl
        rotate_left
        · simp only [Act.put, sA, sB, sC]; rfl
        refine one_ (i := 7) (N := some 108) (msk 8 30) rfl rfl (by kernel_rfl) (by decide) (fun K hK => ?_)
        refine call_ 22 #[.int .i64 (m : Int), .int .i64 (i : Int)] (by rfl) rfl (by go_simp; first | done | rfl) ?_
        refine (within_c (m : Int) i W3.drew).mono ?_
        rintro _ w4 ⟨he, hb⟩
        rw [hin4'] at he
        have HN4 := hid (HN3d.out.move hb)
        clear hb
        refine ⟨_, he, ?_⟩
        refine hK.out _ _ ⟨(HN4.out.l 0).trans rfl, ((HN4.out.l 4).trans rfl).trans (congrArg (fun z => some (Value.int .i64 z)) HM.out), ((HN4.out.l 5).trans rfl).trans (congrArg (fun z => some (Value.int .i64 z)) HN.out), (HN4.out.told m HNT.out hmi HP.out).2, (HN4.out.told n HNT.out hni HQ.out).1⟩ (fun hHeld => ?_)
        refine norm_ (a' := ?_) ?_ ?_
        rotate_left
        · simp only [Act.put, sA, sB, sC]; rfl
        refine pure_ (i := 8) (N := some 109) (v := ?_) (a' := ?_) (msk 9 30) rfl rfl (by kernel_rfl) (fun _ _ _ h => h) (Or.inl ⟨by rfl, ?_⟩) ?_ ?_
        rotate_left
        · intro w'; go_simp; with_reducible rfl
        rotate_left
        · simp only [Act.put, sA, sB, sC]; rfl
        refine pure_ (i := 9) (N := some 110) (v := ?_) (a' := ?_) (msk 10 30) rfl rfl (by kernel_rfl) (fun _ _ _ h => h) (Or.inl ⟨by rfl, ?_⟩) ?_ ?_
        rotate_left
        · intro w'; go_simp; with_reducible rfl
        rotate_left
        · simp only [Act.put, sA, sB, sC]; rfl
        refine pure_ (i := 10) (N := some 111) (v := ?_) (a' := ?_) (msk 11 30) rfl rfl (by kernel_rfl) (fun _ _ _ h => h) (Or.inl ⟨by rfl, ?_⟩) ?_ ?_
        rotate_left
        · intro w'; go_simp; with_reducible rfl
        rotate_left
        · simp only [Act.put, sA, sB, sC]; rfl
        refine take_ (i := 11) (N := some 112) (v := ?_) (a' := ?_) (msk 12 30) rfl rfl (by kernel_rfl) (fun _ _ _ h => h) (Or.inl ⟨by rfl, ?_⟩) hHeld ?_ ?_
        rotate_left
        · rintro w' ⟨s0, s1, s2, s3, s4⟩; go_simp; with_reducible rfl
        rotate_left
        · simp only [Act.put, sA, sB, sC]; rfl
        refine pure_ (i := 12) (N := some 113) (v := ?_) (a' := ?_) (msk 13 30) rfl rfl (by kernel_rfl) (fun _ _ _ h => h) (Or.inl ⟨by rfl, ?_⟩) ?_ ?_
        rotate_left
        · intro w'; go_simp; with_reducible rfl
        rotate_left
        · simp only [Act.put, sA, sB, sC]; rfl
        refine one_ (i := 13) (N := some 114) (msk 14 30) rfl rfl (by kernel_rfl) (by decide) (fun K hK => ?_)
        refine call_ 22 #[.int .i64 (n : Int), .int .i64 (i : Int)] (by rfl) rfl (by go_simp; first | done | rfl) ?_
        refine (within_c (n : Int) i w4).mono ?_
        rintro _ w5 ⟨he, hb⟩
        rw [hin5'] at he
        have HN5 := hid (HN4.out.move hb)
        clear hb
        refine ⟨_, he, ?_⟩
        refine hK.out _ _ ⟨(HN5.out.l 0).trans rfl, ((HN5.out.l 4).trans rfl).trans (congrArg (fun z => some (Value.int .i64 z)) HM.out), ((HN5.out.l 5).trans rfl).trans (congrArg (fun z => some (Value.int .i64 z)) HN.out), (HN5.out.told m HNT.out hmi HP.out).2, (HN5.out.told n HNT.out hni HQ.out).1⟩ (fun hHeld => ?_)
        refine norm_ (a' := ?_) ?_ ?_
        rotate_left
        · simp only [Act.put, sA, sB, sC]; rfl
        refine pure_ (i := 14) (N := some 115) (v := ?_) (a' := ?_) (msk 15 30) rfl rfl (by kernel_rfl) (fun _ _ _ h => h) (Or.inl ⟨by rfl, ?_⟩) ?_ ?_
        rotate_left
        · intro w'; go_simp; with_reducible rfl
        rotate_left
        · simp only [Act.put, sA, sB, sC]; rfl
        refine pure_ (i := 15) (N := some 116) (v := ?_) (a' := ?_) (msk 16 30) rfl rfl (by kernel_rfl) (fun _ _ _ h => h) (Or.inl ⟨by rfl, ?_⟩) ?_ ?_
        rotate_left
        · intro w'; go_simp; with_reducible rfl
        rotate_left
        · simp only [Act.put, sA, sB, sC]; rfl
        refine pure_ (i := 16) (N := some 117) (v := ?_) (a' := ?_) (msk 17 30) rfl rfl (by kernel_rfl) (fun _ _ _ h => h) (Or.inl ⟨by rfl, ?_⟩) ?_ ?_
        rotate_left
        · intro w'; go_simp; with_reducible rfl
        rotate_left
        · simp only [Act.put, sA, sB, sC]; rfl
        refine pure_ (i := 17) (N := some 118) (v := ?_) (a' := ?_) (msk 18 30) rfl rfl (by kernel_rfl) (fun _ _ _ h => h) (Or.inl ⟨by rfl, ?_⟩) ?_ ?_
        rotate_left
        · intro w'; go_simp; with_reducible rfl
        rotate_left
        · simp only [Act.put, sA, sB, sC]; rfl
        refine take_ (i := 18) (N := some 119) (v := ?_) (a' := ?_) (msk 19 30) rfl rfl (by kernel_rfl) (fun _ _ _ h => h) (Or.inl ⟨by rfl, ?_⟩) hHeld ?_ ?_
        rotate_left
        · rintro w' ⟨s0, s1, s2, s3, s4⟩; go_simp; with_reducible rfl
        rotate_left
        · simp only [Act.put, sA, sB, sC]; rfl
        refine pure_ (i := 19) (N := some 120) (v := ?_) (a' := ?_) (msk 20 30) rfl rfl (by kernel_rfl) (fun _ _ _ h => h) (Or.inl ⟨by rfl, ?_⟩) ?_ ?_
        rotate_left
        · intro w'; go_simp; with_reducible rfl
        rotate_left
        · simp only [Act.put, sA, sB, sC]; rfl
        refine pure_ (i := 20) (N := some 121) (v := ?_) (a' := ?_) (msk 21 30) rfl rfl (by kernel_rfl) (fun _ _ _ h => h) (Or.inl ⟨by rfl, ?_⟩) ?_ ?_
        rotate_left
        · intro w'; go_simp; with_reducible rfl
        rotate_left
        · simp only [Act.put, sA, sB, sC]; rfl
        refine take_ (i := 21) (N := some 122) (v := ?_) (a' := ?_) (msk 22 30) rfl rfl (by kernel_rfl) (fun _ _ _ h => h) (Or.inl ⟨by rfl, ?_⟩) hHeld ?_ ?_
        rotate_left
        · rintro w' ⟨s0, s1, s2, s3, s4⟩; go_simp; with_reducible rfl
        rotate_left
        · simp only [Act.put, sA, sB, sC]; rfl
        refine pure_ (i := 22) (N := some 123) (v := ?_) (a' := ?_) (msk 23 30) rfl rfl (by kernel_rfl) (fun _ _ _ h => h) (Or.inl ⟨by rfl, ?_⟩) ?_ ?_
        rotate_left
        · intro w'; go_simp; with_reducible rfl
        rotate_left
        · simp only [Act.put, sA, sB, sC]; rfl
        refine pure_ (i := 23) (N := some 124) (v := ?_) (a' := ?_) (msk 24 30) rfl rfl (by kernel_rfl) (fun _ _ _ h => h) (Or.inl ⟨by rfl, ?_⟩) ?_ ?_
        rotate_left
        · intro w'; go_simp; with_reducible rfl
        rotate_left
        · simp only [Act.put, sA, sB, sC]; rfl
        refine take_ (i := 24) (N := some 125) (v := ?_) (a' := ?_) (msk 25 30) rfl rfl (by kernel_rfl) (fun _ _ _ h => h) (Or.inl ⟨by rfl, ?_⟩) hHeld ?_ ?_
        rotate_left
        · rintro w' ⟨s0, s1, s2, s3, s4⟩; go_simp; with_reducible rfl
        rotate_left
        · simp only [Act.put, sA, sB, sC]; rfl
        refine pure_ (i := 25) (N := some 126) (v := ?_) (a' := ?_) (msk 26 30) rfl rfl (by kernel_rfl) (fun _ _ _ h => h) (Or.inl ⟨by rfl, ?_⟩) ?_ ?_
        rotate_left
        · intro w'; go_simp; with_reducible rfl
        rotate_left
        · simp only [Act.put, sA, sB, sC]; rfl
        refine pure_ (i := 26) (N := some 127) (v := ?_) (a' := ?_) (msk 27 30) rfl rfl (by kernel_rfl) (fun _ _ _ h => h) (Or.inl ⟨by rfl, ?_⟩) ?_ ?_
        rotate_left
        · intro w'; go_simp; with_reducible rfl
        rotate_left
        · simp only [Act.put, sA, sB, sC]; rfl
        refine take_ (i := 27) (N := some 128) (v := ?_) (a' := ?_) (msk 28 30) rfl rfl (by kernel_rfl) (fun _ _ _ h => h) (Or.inl ⟨by rfl, ?_⟩) hHeld ?_ ?_
        rotate_left
        · rintro w' ⟨s0, s1, s2, s3, s4⟩; go_simp; with_reducible rfl
        rotate_left
        · simp only [Act.put, sA, sB, sC]; rfl
        refine pure_ (i := 28) (N := some 129) (v := ?_) (a' := ?_) (msk 29 30) rfl rfl (by kernel_rfl) (fun _ _ _ h => h) (Or.inl ⟨by rfl, ?_⟩) ?_ ?_
        rotate_left
        · intro w'; go_simp; with_reducible rfl
        rotate_left
        · simp only [Act.put, sA, sB, sC]; rfl
        refine pure_ (i := 29) (N := some 130) (v := ?_) (a' := ?_) (msk 30 30) rfl rfl (by kernel_rfl) (fun _ _ _ h => h) (Or.inl ⟨by rfl, ?_⟩) ?_ ?_
        rotate_left
        · intro w'; go_simp; with_reducible rfl
        rotate_left
        · simp only [Act.put, sA, sB, sC]; rfl
        refine done_ (by kernel_rfl) ?_
        try simp only [NoPanic, Exit.then]
        by_cases z : P2 = Q1
        case neg =>
         have HE := hid (HBAD.out (by rw [HOK.out]; simp [z]))
         have zb : (P2 == Q1) = false := by simp [z]
         have zd : decide (P2 = Q1) = false := by simp [z]
         as_aux_lemma =>
          have l0 := (HN5.out.l 0).trans (show _ = some (.int .u8 x.f0) from rfl)
          have n0 := HN5.out.n0
          have n1 := HN5.out.n1
          have g0 := HN5.out.f0
          have g1 := HN5.out.f1
          go_wp2
          go_ret2
          exact checked_none HR.out HE.out HN5.out.rc.below
        case pos =>
         have zb : (P2 == Q1) = true := by simp [z]
         have zd : decide (P2 = Q1) = true := by simp [z]
         have HZ := hid z
         clear z
         rw [HOK.out, zd] at HBAD HSTEP
         as_aux_lemma =>
          have l0 := (HN5.out.l 0).trans (show _ = some (.int .u8 x.f0) from rfl)
          have n0 := HN5.out.n0
          have n1 := HN5.out.n1
          have g0 := HN5.out.f0
          have g1 := HN5.out.f1
          go_wp2_with fail
          have HN5d := hid HN5.out.drew
          have hSS : (fun w' : World => w'.cell? ⟨kx, 4, none⟩ = some (.int .i64 (m : Int)) ∧ w'.cell? ⟨kx, 5, none⟩ = some (.int .i64 (n : Int)) ∧ w'.cell? ⟨g, m * 2, none⟩ = some (.int .i64 p1) ∧ w'.cell? ⟨g, n * 2 + 1, none⟩ = some (.int .i64 p2)) w5.drew := ⟨((HN5d.out.l 4).trans rfl).trans (congrArg (fun z => some (Value.int .i64 z)) HM.out), ((HN5d.out.l 5).trans rfl).trans (congrArg (fun z => some (Value.int .i64 z)) HN.out), (HN5d.out.told m HNT.out hmi HP.out).1, (HN5d.out.told n HNT.out hni HQ.out).2⟩
          clear l0
          refine wp_region_noPanic ?_
          refine start_ (n := 14) (S := (fun w' : World => w'.cell? ⟨kx, 4, none⟩ = some (.int .i64 (m : Int)) ∧ w'.cell? ⟨kx, 5, none⟩ = some (.int .i64 (n : Int)) ∧ w'.cell? ⟨g, m * 2, none⟩ = some (.int .i64 p1) ∧ w'.cell? ⟨g, n * 2 + 1, none⟩ = some (.int .i64 p2))) (ds := [13]) (msk 0 14) (by kernel_rfl) rfl rfl hSS (fun hHeld => ?_)
          refine pure_ (i := 0) (N := some 131) (v := ?_) (a' := ?_) (msk 1 14) rfl rfl (by kernel_rfl) (fun _ _ _ h => h) (Or.inl ⟨by rfl, ?_⟩) ?_ ?_
          rotate_left
          · intro w'; go_simp; with_reducible rfl
          rotate_left
          · simp only [Act.put, sA, sB, sC]; rfl
          refine pure_ (i := 1) (N := some 132) (v := ?_) (a' := ?_) (msk 2 14) rfl rfl (by kernel_rfl) (fun _ _ _ h => h) (Or.inl ⟨by rfl, ?_⟩) ?_ ?_
          rotate_left
          · intro w'; go_simp; with_reducible rfl
          rotate_left
          · simp only [Act.put, sA, sB, sC]; rfl
          refine take_ (i := 2) (N := some 133) (v := ?_) (a' := ?_) (msk 3 14) rfl rfl (by kernel_rfl) (fun _ _ _ h => h) (Or.inl ⟨by rfl, ?_⟩) hHeld ?_ ?_
          rotate_left
          · rintro w' ⟨s0, s1, s2, s3⟩; go_simp; with_reducible rfl
          rotate_left
          · simp only [Act.put, sA, sB, sC]; rfl
          refine pure_ (i := 3) (N := some 134) (v := ?_) (a' := ?_) (msk 4 14) rfl rfl (by kernel_rfl) (fun _ _ _ h => h) (Or.inl ⟨by rfl, ?_⟩) ?_ ?_
          rotate_left
          · intro w'; go_simp; with_reducible rfl
          rotate_left
          · simp only [Act.put, sA, sB, sC]; rfl
          refine pure_ (i := 4) (N := some 135) (v := ?_) (a' := ?_) (msk 5 14) rfl rfl (by kernel_rfl) (fun _ _ _ h => h) (Or.inl ⟨by rfl, ?_⟩) ?_ ?_
          rotate_left
          · intro w'; go_simp; with_reducible rfl
          rotate_left
          · simp only [Act.put, sA, sB, sC]; rfl
          refine take_ (i := 5) (N := some 136) (v := ?_) (a' := ?_) (msk 6 14) rfl rfl (by kernel_rfl) (fun _ _ _ h => h) (Or.inl ⟨by rfl, ?_⟩) hHeld ?_ ?_
          rotate_left
          · rintro w' ⟨s0, s1, s2, s3⟩; go_simp; with_reducible rfl
          rotate_left
          · simp only [Act.put, sA, sB, sC]; rfl
          refine pure_ (i := 6) (N := some 137) (v := ?_) (a' := ?_) (msk 7 14) rfl rfl (by kernel_rfl) (fun _ _ _ h => h) (Or.inl ⟨by rfl, ?_⟩) ?_ ?_
          rotate_left
          · intro w'; go_simp; with_reducible rfl
          rotate_left
          · simp only [Act.put, sA, sB, sC]; rfl
          refine pure_ (i := 7) (N := some 138) (v := ?_) (a' := ?_) (msk 8 14) rfl rfl (by kernel_rfl) (fun _ _ _ h => h) (Or.inl ⟨by rfl, ?_⟩) ?_ ?_
          rotate_left
          · intro w'; go_simp; with_reducible rfl
          rotate_left
          · simp only [Act.put, sA, sB, sC]; rfl
          refine take_ (i := 8) (N := some 139) (v := ?_) (a' := ?_) (msk 9 14) rfl rfl (by kernel_rfl) (fun _ _ _ h => h) (Or.inl ⟨by rfl, ?_⟩) hHeld ?_ ?_
          rotate_left
          · rintro w' ⟨s0, s1, s2, s3⟩; go_simp; with_reducible rfl
          rotate_left
          · simp only [Act.put, sA, sB, sC]; rfl
          refine pure_ (i := 9) (N := some 140) (v := ?_) (a' := ?_) (msk 10 14) rfl rfl (by kernel_rfl) (fun _ _ _ h => h) (Or.inl ⟨by rfl, ?_⟩) ?_ ?_
          rotate_left
          · intro w'; go_simp; with_reducible rfl
          rotate_left
          · simp only [Act.put, sA, sB, sC]; rfl
          refine pure_ (i := 10) (N := some 141) (v := ?_) (a' := ?_) (msk 11 14) rfl rfl (by kernel_rfl) (fun _ _ _ h => h) (Or.inl ⟨by rfl, ?_⟩) ?_ ?_
          rotate_left
          · intro w'; go_simp; with_reducible rfl
          rotate_left
          · simp only [Act.put, sA, sB, sC]; rfl
          refine take_ (i := 11) (N := some 142) (v := ?_) (a' := ?_) (msk 12 14) rfl rfl (by kernel_rfl) (fun _ _ _ h => h) (Or.inl ⟨by rfl, ?_⟩) hHeld ?_ ?_
          rotate_left
          · rintro w' ⟨s0, s1, s2, s3⟩; go_simp; with_reducible rfl
          rotate_left
          · simp only [Act.put, sA, sB, sC]; rfl
          refine pure_ (i := 12) (N := some 143) (v := ?_) (a' := ?_) (msk 13 14) rfl rfl (by kernel_rfl) (fun _ _ _ h => h) (Or.inl ⟨by rfl, ?_⟩) ?_ ?_
          rotate_left
          · intro w'; go_simp; with_reducible rfl
          rotate_left
          · simp only [Act.put, sA, sB, sC]; rfl
          refine last_ (i := 13) (N := none) (msk 14 14) rfl rfl (by kernel_rfl) (by decide) (fun K hK => ?_)
          refine skip_ (by rfl) rfl (w1 := (w5.drew.setCell ⟨kx + 1, 0, none⟩ (.int .i64 p1)).setCell ⟨kx + 1, 1, none⟩ (.int .i64 p2)) (by go_simp; first | done | rfl) ?_
          refine hK.out _ _ ?_
          refine done_ (by kernel_rfl) ?_
          try simp only [NoPanic, Exit.then]
          have HN6 := hid (HN5d.out.store p1 p2)
          obtain ⟨W6, hW6⟩ : ∃ W, W = (w5.drew.setCell ⟨kx + 1, 0, none⟩ (.int .i64 p1)).setCell ⟨kx + 1, 1, none⟩ (.int .i64 p2) := ⟨_, rfl⟩
          rw [← hW6] at HN6 ⊢
          clear hW6 hSS hHeld n0 n1 g0 g1
          by_cases hlast : i + 1 = nl
          case pos =>
           have HD := hid (show decide (l.drop (i + 1) = []) = true by simpa using HRS.out.2 hlast)
           have q1 : ((i : Int) == (nl : Int) - 1) = true := by simp; omega
           have q2 : decide ((i : Int) = (nl : Int) - 1) = true := by simp; omega
           have HE := hid (HBAD.out (by rw [HD.out]; simp))
           as_aux_lemma =>
            have l0 := (HN6.out.l 0).trans (show _ = some (.int .u8 x.f0) from rfl)
            have n0 := HN6.out.n0
            have n1 := HN6.out.n1
            have g0 := HN6.out.f0
            have g1 := HN6.out.f1
            go_wp2
            go_ret2
            exact checked_none HR.out HE.out HN6.out.rc.below
          case neg =>
           have HD := hid (show decide (l.drop (i + 1) = []) = false by have := HRS.out; simp only [decide_eq_false_iff_not]; exact fun h => hlast (this.1 h))
           have q1 : ((i : Int) == (nl : Int) - 1) = false := by simp; omega
           have q2 : decide ((i : Int) = (nl : Int) - 1) = false := by simp; omega
           have HST := hid (HSTEP.out (by first | trivial | rfl) HD.out.symm)
           as_aux_lemma =>
            have l0 := (HN6.out.l 0).trans (show _ = some (.int .u8 x.f0) from rfl)
            have n0 := HN6.out.n0
            have n1 := HN6.out.n1
            have g0 := HN6.out.f0
            have g1 := HN6.out.f1
            have HPA := hid (HN6.out.rc.move ((Below.refl _ W6).alloc (Nat.le_refl _) (.cells #[.int .i64 p1, .int .i64 p2] 60)))
            have HOW := hid (show (W6.alloc (.cells #[.int .i64 p1, .int .i64 p2] 60)).ownsRow 0 60 2 (.slice (some ⟨g, 0, none⟩) i ct) i (prs t) by
             have h1 := HPA.out.told
             rw [← HNT.out] at h1
             exact h1)
            go_wp2_with (at_builtin; go_loud (refine wpList_append_lies (W6.alloc (.cells #[.int .i64 p1, .int .i64 p2] 60)) (by rfl) _ _ _ (by rfl) 0 60 i60 (.agg #[.int .i64 0, .int .i64 0]) 2 16 Tryd.underlying58 HI60.out.1 HI60.out.2.1 HI60.out.2.2.1 HI60.out.2.2.2 rfl (by omega) (.slice (some ⟨g, 0, none⟩) i ct) i (prs t) (by rfl) HOW.out ⟨W6.heap.size, 0, none⟩ 1 1 [.int .i64 p1, .int .i64 p2] (by rfl) (by rfl) (fun j u hu => World.news_of_block (heap_alloc_new W6 (.cells #[.int .i64 p1, .int .i64 p2] 60)) j u (by simpa using hu)) (by simp [Value.oneCell']) (by omega) (by unfold maxLen; omega) (by omega) (Nat.zero_le _) (W6.heap.size + 1) (by simp) ?_; intro gz cap w7 ho7 hg7 hat7 hlt7; have H60 := hid (HPA.out.pushT (p1, p2) (tv' := .slice (some ⟨gz, 0, none⟩) (i + 1) cap) (by rw [← HNT.out]; exact ho7) hg7 (at_or hat7)); clear ho7 hg7 hat7 hlt7))
            go_roundg left
            case measure => omega
            case rel => exact ⟨i + 1, t ++ [(p1, p2)], s, false, _, _, by omega, rfl, rfl, by go_num, by (have := HNT.out; rw [List.length_append, List.length_singleton]; omega), by have := HNS.out; omega, hid H60.out, hid ⟨HST.out.symm.trans HG.out.1, fun h => absurd h (by omega), fun _ => (decide_eq_false hlast).symm⟩⟩
    by_cases k5 : x.f0 = 5
    case pos =>
     as_aux_lemma =>
      have b1 : (x.f0 == 1) = false := by simp; omega
      have d1 : decide (x.f0 = 1) = false := by simp; omega
      have b2 : (x.f0 == 2) = false := by simp; omega
      have d2 : decide (x.f0 = 2) = false := by simp; omega
      have b3 : (x.f0 == 3) = false := by simp; omega
      have d3 : decide (x.f0 = 3) = false := by simp; omega
      have b4 : (x.f0 == 4) = false := by simp; omega
      have d4 : decide (x.f0 = 4) = false := by simp; omega
      have b6 : (x.f0 == 6) = false := by simp; omega
      have d6 : decide (x.f0 = 6) = false := by simp; omega
      have b7 : (x.f0 == 7) = false := by simp; omega
      have d7 : decide (x.f0 = 7) = false := by simp; omega
      have b5 : (x.f0 == 5) = true := by simp [k5]
      have d5 : decide (x.f0 = 5) = true := by simp [k5]
      have HL2 := hid (show linkM v a t x = (((prO (applyM v t x)).1, (prO (applyM v t x)).2), false, (applyM v t x).isSome) by
       unfold linkM
       rw [if_neg k1, if_neg k2, if_neg k3, if_neg k4, if_pos k5])
      obtain ⟨hp1, hp2, he0, hk0⟩ : p1 = (prO (applyM v t x)).1 ∧ p2 = (prO (applyM v t x)).2 ∧ EE = false ∧ ok = ((applyM v t x).isSome) := by
       have := HLM.out.symm.trans HL2.out
       simp only [Prod.mk.injEq] at this
       exact ⟨this.1.1, this.1.2, this.2.1, this.2.2⟩
      subst he0
      have HK := hid k5
      clear k5
      rw [show litsOf x = [] by unfold litsOf; rw [if_neg (by have := HK.out; omega)], List.append_nil] at HSTEP
      have HP1 := hid hp1
      have HP2 := hid hp2
      have HK0 := hid hk0
      clear hp1 hp2 hk0 HL2
      go_wp2_with fail
      obtain ⟨W3, hW3⟩ : ∃ W3, W3 = (wr.alloc (.cells (lkC x (.slice A6 x.f6.length c6)) 36)).alloc (.cells #[.int .i64 0, .int .i64 0] 60) := ⟨_, rfl⟩
      have HN3 := hid (Rn.made HLr.out (lkC x (.slice A6 x.f6.length c6)))
      obtain ⟨kx, hkx⟩ : ∃ k, k = wr.heap.size := ⟨_, rfl⟩
      rw [← hkx] at HN3
      rw [← hW3] at HN3
      rw [← hW3, ← hkx]
      clear hW3 hkx y0 y1 y2 y3 y4 y5 y6 b0
      have hSS : (fun w' : World => w'.cell? ⟨kx, 0, none⟩ = some (.int .u8 x.f0)) W3.drew := (HN3.out.drew.l 0).trans rfl
      refine wp_region_noPanic ?_
      refine start_ (n := 30) (S := (fun w' : World => w'.cell? ⟨kx, 0, none⟩ = some (.int .u8 x.f0))) (ds := []) (msk 0 30) (by kernel_rfl) rfl rfl hSS (fun hHeld => ?_)
      refine pure_ (i := 0) (N := some 101) (v := ?_) (a' := ?_) (msk 1 30) rfl rfl (by kernel_rfl) (fun _ _ _ h => h) (Or.inl ⟨by rfl, ?_⟩) ?_ ?_
      rotate_left
      · intro w'; go_simp; with_reducible rfl
      rotate_left
      · simp only [Act.put, sA, sB, sC]; rfl
      refine take_ (i := 1) (N := some 102) (v := ?_) (a' := ?_) (msk 2 30) rfl rfl (by kernel_rfl) (fun _ _ _ h => h) (Or.inl ⟨by rfl, ?_⟩) hHeld ?_ ?_
      rotate_left
      ·
       intro w' s0
       go_simp
       with_reducible rfl
      rotate_left
      · simp only [Act.put, sA, sB, sC]; rfl
      refine pure_ (i := 2) (N := some 103) (v := ?_) (a' := ?_) (msk 3 30) rfl rfl (by kernel_rfl) (fun _ _ _ h => h) (Or.inl ⟨by rfl, ?_⟩) ?_ ?_
      rotate_left
      · intro w'; go_simp; with_reducible rfl
      rotate_left
      · simp only [Act.put, sA, sB, sC]; rfl
      refine pure_ (i := 3) (N := some 104) (v := ?_) (a' := ?_) (msk 4 30) rfl rfl (by kernel_rfl) (fun _ _ _ h => h) (Or.inl ⟨by rfl, ?_⟩) ?_ ?_
      rotate_left
      · intro w'; go_simp; with_reducible rfl
      rotate_left
      · simp only [Act.put, sA, sB, sC]; rfl
      refine take_ (i := 4) (N := some 105) (v := undef) (a' := ?_) (msk 5 30) rfl rfl (by kernel_rfl) (fun _ _ _ h => h) (Or.inr ⟨by rfl, rfl⟩) hHeld ?_ ?_
      rotate_left
      · simp only [Act.put, sA, sB, sC]; rfl
      refine take_ (i := 5) (N := some 106) (v := undef) (a' := ?_) (msk 6 30) rfl rfl (by kernel_rfl) (fun _ _ _ h => h) (Or.inr ⟨by rfl, rfl⟩) hHeld ?_ ?_
      rotate_left
      · simp only [Act.put, sA, sB, sC]; rfl
      refine take_ (i := 6) (N := some 107) (v := undef) (a' := ?_) (msk 7 30) rfl rfl (by kernel_rfl) (fun _ _ _ h => h) (Or.inr ⟨by rfl, rfl⟩) hHeld ?_ ?_
      rotate_left
      · simp only [Act.put, sA, sB, sC]; rfl
      refine take_ (i := 7) (N := some 108) (v := undef) (a' := ?_) (msk 8 30) rfl rfl (by kernel_rfl) (fun _ _ _ h => h) (Or.inr ⟨by rfl, rfl⟩) hHeld ?_ ?_
      rotate_left
      · simp only [Act.put, sA, sB, sC]; rfl
      refine pure_ (i := 8) (N := some 109) (v := ?_) (a' := ?_) (msk 9 30) rfl rfl (by kernel_rfl) (fun _ _ _ h => h) (Or.inl ⟨by rfl, ?_⟩) ?_ ?_
      rotate_left
      · intro w'; go_simp; with_reducible rfl
      rotate_left
      · simp only [Act.put, sA, sB, sC]; rfl
      refine pure_ (i := 9) (N := some 110) (v := ?_) (a' := ?_) (msk 10 30) rfl rfl (by kernel_rfl) (fun _ _ _ h => h) (Or.inl ⟨by rfl, ?_⟩) ?_ ?_
      rotate_left
      · intro w'; go_simp; with_reducible rfl
      rotate_left
      · simp only [Act.put, sA, sB, sC]; rfl
      refine take_ (i := 10) (N := some 111) (v := undef) (a' := ?_) (msk 11 30) rfl rfl (by kernel_rfl) (fun _ _ _ h => h) (Or.inr ⟨by rfl, rfl⟩) hHeld ?_ ?_
      rotate_left
      · simp only [Act.put, sA, sB, sC]; rfl
      refine take_ (i := 11) (N := some 112) (v := undef) (a' := ?_) (msk 12 30) rfl rfl (by kernel_rfl) (fun _ _ _ h => h) (Or.inr ⟨by rfl, rfl⟩) hHeld ?_ ?_
      rotate_left
      · simp only [Act.put, sA, sB, sC]; rfl
      refine take_ (i := 12) (N := some 113) (v := undef) (a' := ?_) (msk 13 30) rfl rfl (by kernel_rfl) (fun _ _ _ h => h) (Or.inr ⟨by rfl, rfl⟩) hHeld ?_ ?_
      rotate_left
      · simp only [Act.put, sA, sB, sC]; rfl
      refine take_ (i := 13) (N := some 114) (v := undef) (a' := ?_) (msk 14 30) rfl rfl (by kernel_rfl) (fun _ _ _ h => h) (Or.inr ⟨by rfl, rfl⟩) hHeld ?_ ?_
      rotate_left
      · simp only [Act.put, sA, sB, sC]; rfl
      refine pure_ (i := 14) (N := some 115) (v := ?_) (a' := ?_) (msk 15 30) rfl rfl (by kernel_rfl) (fun _ _ _ h => h) (Or.inl ⟨by rfl, ?_⟩) ?_ ?_
      rotate_left
      · intro w'; go_simp; with_reducible rfl
      rotate_left
      · simp only [Act.put, sA, sB, sC]; rfl
      refine pure_ (i := 15) (N := some 116) (v := ?_) (a' := ?_) (msk 16 30) rfl rfl (by kernel_rfl) (fun _ _ _ h => h) (Or.inl ⟨by rfl, ?_⟩) ?_ ?_
      rotate_left
      · intro w'; go_simp; with_reducible rfl
      rotate_left
      · simp only [Act.put, sA, sB, sC]; rfl
      refine take_ (i := 16) (N := some 117) (v := undef) (a' := ?_) (msk 17 30) rfl rfl (by kernel_rfl) (fun _ _ _ h => h) (Or.inr ⟨by rfl, rfl⟩) hHeld ?_ ?_
      rotate_left
      · simp only [Act.put, sA, sB, sC]; rfl
      refine take_ (i := 17) (N := some 118) (v := undef) (a' := ?_) (msk 18 30) rfl rfl (by kernel_rfl) (fun _ _ _ h => h) (Or.inr ⟨by rfl, rfl⟩) hHeld ?_ ?_
      rotate_left
      · simp only [Act.put, sA, sB, sC]; rfl
      refine take_ (i := 18) (N := some 119) (v := undef) (a' := ?_) (msk 19 30) rfl rfl (by kernel_rfl) (fun _ _ _ h => h) (Or.inr ⟨by rfl, rfl⟩) hHeld ?_ ?_
      rotate_left
      · simp only [Act.put, sA, sB, sC]; rfl
      refine take_ (i := 19) (N := some 120) (v := undef) (a' := ?_) (msk 20 30) rfl rfl (by kernel_rfl) (fun _ _ _ h => h) (Or.inr ⟨by rfl, rfl⟩) hHeld ?_ ?_
      rotate_left
      · simp only [Act.put, sA, sB, sC]; rfl
      refine take_ (i := 20) (N := some 121) (v := undef) (a' := ?_) (msk 21 30) rfl rfl (by kernel_rfl) (fun _ _ _ h => h) (Or.inr ⟨by rfl, rfl⟩) hHeld ?_ ?_
      rotate_left
      · simp only [Act.put, sA, sB, sC]; rfl
      refine take_ (i := 21) (N := some 122) (v := undef) (a' := ?_) (msk 22 30) rfl rfl (by kernel_rfl) (fun _ _ _ h => h) (Or.inr ⟨by rfl, rfl⟩) hHeld ?_ ?_
      rotate_left
      · simp only [Act.put, sA, sB, sC]; rfl
      refine take_ (i := 22) (N := some 123) (v := undef) (a' := ?_) (msk 23 30) rfl rfl (by kernel_rfl) (fun _ _ _ h => h) (Or.inr ⟨by rfl, rfl⟩) hHeld ?_ ?_
      rotate_left
      · simp only [Act.put, sA, sB, sC]; rfl
      refine take_ (i := 23) (N := some 124) (v := undef) (a' := ?_) (msk 24 30) rfl rfl (by kernel_rfl) (fun _ _ _ h => h) (Or.inr ⟨by rfl, rfl⟩) hHeld ?_ ?_
      rotate_left
      · simp only [Act.put, sA, sB, sC]; rfl
      refine take_ (i := 24) (N := some 125) (v := undef) (a' := ?_) (msk 25 30) rfl rfl (by kernel_rfl) (fun _ _ _ h => h) (Or.inr ⟨by rfl, rfl⟩) hHeld ?_ ?_
      rotate_left
      · simp only [Act.put, sA, sB, sC]; rfl
      refine take_ (i := 25) (N := some 126) (v := undef) (a' := ?_) (msk 26 30) rfl rfl (by kernel_rfl) (fun _ _ _ h => h) (Or.inr ⟨by rfl, rfl⟩) hHeld ?_ ?_
      rotate_left
      · simp only [Act.put, sA, sB, sC]; rfl
      refine take_ (i := 26) (N := some 127) (v := undef) (a' := ?_) (msk 27 30) rfl rfl (by kernel_rfl) (fun _ _ _ h => h) (Or.inr ⟨by rfl, rfl⟩) hHeld ?_ ?_
      rotate_left
      · simp only [Act.put, sA, sB, sC]; rfl
      refine take_ (i := 27) (N := some 128) (v := undef) (a' := ?_) (msk 28 30) rfl rfl (by kernel_rfl) (fun _ _ _ h => h) (Or.inr ⟨by rfl, rfl⟩) hHeld ?_ ?_
      rotate_left
      · simp only [Act.put, sA, sB, sC]; rfl
      refine take_ (i := 28) (N := some 129) (v := undef) (a' := ?_) (msk 29 30) rfl rfl (by kernel_rfl) (fun _ _ _ h => h) (Or.inr ⟨by rfl, rfl⟩) hHeld ?_ ?_
      rotate_left
      · simp only [Act.put, sA, sB, sC]; rfl
      refine pure_ (i := 29) (N := some 130) (v := ?_) (a' := ?_) (msk 30 30) rfl rfl (by kernel_rfl) (fun _ _ _ h => h) (Or.inl ⟨by rfl, ?_⟩) ?_ ?_
      rotate_left
      · intro w'; go_simp; with_reducible rfl
      rotate_left
      · simp only [Act.put, sA, sB, sC]; rfl
      refine done_ (by kernel_rfl) ?_
      try simp only [NoPanic, Exit.then]
      have HN6 := hid HN3.out.drew
      obtain ⟨W6, hW6⟩ : ∃ V, V = W3.drew := ⟨_, rfl⟩
      rw [← hW6] at HN6 ⊢
      clear hW6 hSS hHeld
      have l0 := (HN6.out.l 0).trans (show _ = some (.int .u8 x.f0) from rfl)
      have l2 := (HN6.out.l 2).trans (show _ = some (.int .i64 x.f2) from rfl)
      have l3 := (HN6.out.l 3).trans (show _ = some (.int .i64 x.f3) from rfl)
      have n0 := HN6.out.n0
      have n1 := HN6.out.n1
      have g0 := HN6.out.f0
      have g1 := HN6.out.f1
      go_wp2_with fail
      refine (within_c x.f2 nv W6).mono ?_
      rintro e7 w7 ⟨rfl, hb7⟩
      have HN7 := hid (HN6.out.move hb7)
      clear hb7 l0 l2 l3 n0 n1 g0 g1
      cases hin2 : inB nv x.f2 with
      | false =>
       have HE := hid (HBAD.out (by rw [HK0.out, apply_no2 (by rw [← HNV.out]; exact hin2)]; simp))
       as_aux_lemma =>
        have l0 := (HN7.out.l 0).trans (show _ = some (.int .u8 x.f0) from rfl)
        have n0 := HN7.out.n0
        have n1 := HN7.out.n1
        have g0 := HN7.out.f0
        have g1 := HN7.out.f1
        go_wp2
        go_ret2
        exact checked_none HR.out HE.out HN7.out.rc.below
      | true =>
       have l0 := (HN7.out.l 0).trans (show _ = some (.int .u8 x.f0) from rfl)
       have l2 := (HN7.out.l 2).trans (show _ = some (.int .i64 x.f2) from rfl)
       have l3 := (HN7.out.l 3).trans (show _ = some (.int .i64 x.f3) from rfl)
       have n0 := HN7.out.n0
       have n1 := HN7.out.n1
       have g0 := HN7.out.f0
       have g1 := HN7.out.f1
       go_wp2_with fail
       refine (within_c x.f3 nv w7).mono ?_
       rintro e8 w8 ⟨rfl, hb8⟩
       have HN8 := hid (HN7.out.move hb8)
       clear hb8 l0 l2 l3 n0 n1 g0 g1
       cases hin3 : inB nv x.f3 with
       | false =>
        have HE := hid (HBAD.out (by rw [HK0.out, apply_no3 (by rw [← HNV.out]; exact hin3)]; simp))
        as_aux_lemma =>
         have l0 := (HN8.out.l 0).trans (show _ = some (.int .u8 x.f0) from rfl)
         have n0 := HN8.out.n0
         have n1 := HN8.out.n1
         have g0 := HN8.out.f0
         have g1 := HN8.out.f1
         go_wp2
         go_ret2
         exact checked_none HR.out HE.out HN8.out.rc.below
       | true =>
        have HAP := hid (apply_eq (t := t) (by rw [← HNV.out]; exact hin2) (by rw [← HNV.out]; exact hin3))
        obtain ⟨g1, g2⟩ := inB_iff.1 hin2
        obtain ⟨g3, g4⟩ := inB_iff.1 hin3
        have hV2 := Kd.C_below HV.out.2 HN8.out.rc.below
        rw [← HNV.out] at hV2
        obtain ⟨ad, B2, d2, rfl, y20, y21, y22, y23, y24, lB2, C2⟩ := at_T46 hV2 x.f2 g1 g2
        obtain ⟨ad', B3, d3, he, y30, y31, y32, y33, y34, lB3, C3⟩ := at_T46 hV2 x.f3 g3 g4
        obtain rfl : ad' = ad := (Option.some.inj he).symm
        rw [show rd_T46 v x.f2 = vxM v x.f2 from rfl] at y20 y21 y22 y23 y24 lB2 C2
        rw [show rd_T46 v x.f3 = vxM v x.f3 from rfl] at y30 y31 y32 y33 y34 lB3 C3
        obtain ⟨P, hP⟩ : ∃ P, vxM v x.f2 = P := ⟨_, rfl⟩
        obtain ⟨Q, hQ⟩ : ∃ Q, vxM v x.f3 = Q := ⟨_, rfl⟩
        rw [hP] at y20 y21 y22 y23 y24 lB2 C2 HAP
        rw [hQ] at y30 y31 y32 y33 y34 lB3 C3 HAP
        obtain ⟨n6, hn6⟩ : ∃ n, n = x.f6.length := ⟨_, rfl⟩
        obtain ⟨m2, hm2⟩ : ∃ n, n = P.f1.length := ⟨_, rfl⟩
        obtain ⟨m3, hm3⟩ : ∃ n, n = Q.f1.length := ⟨_, rfl⟩
        rw [← hn6] at HN8 HC6
        rw [← hm2] at y21 lB2 C2
        rw [← hm3] at y31 lB3 C3
        have HC2 := hid C2
        have HC3 := hid C3
        have HN6 := hid hn6
        have HM2 := hid hm2
        have HM3 := hid hm3
        have h6b : n6 ≤ 1000 := by have := HWX.out.2; omega
        clear hV2 he hP hQ lB2 C2 lB3 C3 hn6 hm2 hm3 hin2 hin3
        as_aux_lemma =>
         have l0 := (HN8.out.l 0).trans (show _ = some (.int .u8 x.f0) from rfl)
         have l2 := (HN8.out.l 2).trans (show _ = some (.int .i64 x.f2) from rfl)
         have l3 := (HN8.out.l 3).trans (show _ = some (.int .i64 x.f3) from rfl)
         go_wp2_with fail
         clear l0
         have nny20 := World.new_ne w8 _ y20
         have nny21 := World.new_ne w8 _ y21
         have nny22 := World.new_ne w8 _ y22
         have nny23 := World.new_ne w8 _ y23
         have nny24 := World.new_ne w8 _ y24
         have nny30 := World.new_ne w8 _ y30
         have nny31 := World.new_ne w8 _ y31
         have nny32 := World.new_ne w8 _ y32
         have nny33 := World.new_ne w8 _ y33
         have nny34 := World.new_ne w8 _ y34
         have nnl2 := World.new_ne w8 _ l2
         have nnl3 := World.new_ne w8 _ l3
         go_cut [15, 16] from 161 to 170 (fun s15 s16 wc => ∃ b8 b9 : Nat, s15 = ptr b8 ∧ s16 = ptr b9 ∧ Hid (Below w8.heap.size w8 wc) ∧ b8 ≠ b9 ∧ wc.heap[b8]? = some (.cells (vxV P (.slice B2 m2 d2)) 46 (0, 0)) ∧ wc.heap[b9]? = some (.cells (vxV Q (.slice B3 m3 d3)) 46 (0, 0)))
         case first =>
          as_aux_lemma =>
           go_region_held3 (fun w' => w'.cell? (ad'.add (x.f2.toNat * 5)) = some (.int .i64 P.f0) ∧ w'.cell? ⟨(ad'.add (x.f2.toNat * 5)).block, (ad'.add (x.f2.toNat * 5)).off + 1, none⟩ = some (.slice B2 m2 d2) ∧ w'.cell? ⟨(ad'.add (x.f2.toNat * 5)).block, (ad'.add (x.f2.toNat * 5)).off + 2, none⟩ = some (.int .i64 P.f2) ∧ w'.cell? ⟨(ad'.add (x.f2.toNat * 5)).block, (ad'.add (x.f2.toNat * 5)).off + 3, none⟩ = some (.int .i64 P.f3) ∧ w'.cell? ⟨(ad'.add (x.f2.toNat * 5)).block, (ad'.add (x.f2.toNat * 5)).off + 4, none⟩ = some (.int .i64 P.f4) ∧ w'.cell? (ad'.add (x.f3.toNat * 5)) = some (.int .i64 Q.f0) ∧ w'.cell? ⟨(ad'.add (x.f3.toNat * 5)).block, (ad'.add (x.f3.toNat * 5)).off + 1, none⟩ = some (.slice B3 m3 d3) ∧ w'.cell? ⟨(ad'.add (x.f3.toNat * 5)).block, (ad'.add (x.f3.toNat * 5)).off + 2, none⟩ = some (.int .i64 Q.f2) ∧ w'.cell? ⟨(ad'.add (x.f3.toNat * 5)).block, (ad'.add (x.f3.toNat * 5)).off + 3, none⟩ = some (.int .i64 Q.f3) ∧ w'.cell? ⟨(ad'.add (x.f3.toNat * 5)).block, (ad'.add (x.f3.toNat * 5)).off + 4, none⟩ = some (.int .i64 Q.f4) ∧ w'.cell? ⟨kx, 2, none⟩ = some (.int .i64 x.f2) ∧ w'.cell? ⟨kx, 3, none⟩ = some (.int .i64 x.f3)) (go_keep) (fail)
           ·
            as_aux_lemma =>
             go_wp2_with fail
             go_meet
             exact ⟨_, _, rfl, rfl, hid (((Below.refl _ _).alloc (Nat.le_refl _) _).alloc (by simp) _).drew, by simp, (Go.heap_alloc_old _ _ (by simp)).trans (heap_alloc_new w8 _), new2 _ _ _⟩
           ·
            as_aux_lemma =>
             go_wp2_with fail
             go_meet
             exact ⟨_, _, rfl, rfl, hid (((Below.refl _ _).alloc (Nat.le_refl _) _).alloc (by simp) _).drew, by simp, new2 _ _ _, (Go.heap_alloc_old _ _ (by simp)).trans (heap_alloc_new w8 _)⟩
         case rest =>
          obtain ⟨b8, b9, rfl, rfl, HBC, hne, hb8, hb9⟩ := hcut
          clear nny20 nny21 nny22 nny23 nny24 nny30 nny31 nny32 nny33 nny34 nnl2 nnl3
          clear y20 y21 y22 y23 y24 y30 y31 y32 y33 y34 l2 l3
          have RA9 := hid (show Ra w t s (.slice At i ct) (.slice As ns cs) kx (lkC x (.slice A6 n6 c6)) b8 b9 (vxV P (.slice B2 m2 d2)) (vxV Q (.slice B3 m3 d3)) wc from ⟨HN8.out.move HBC.out, hb8, hb9⟩)
          have u0 := (blk_cell hb8 0).trans (show _ = some (.int .i64 P.f0) from rfl)
          have w0 := (blk_cell hb9 0).trans (show _ = some (.int .i64 Q.f0) from rfl)
          have u1 := (blk_cell hb8 1).trans (show _ = some (.slice B2 m2 d2) from rfl)
          have v1 := (blk_cell hb9 1).trans (show _ = some (.slice B3 m3 d3) from rfl)
          have l6 := (RA9.out.rn.l 6).trans (show _ = some (.slice A6 n6 c6) from rfl)
          have HBC2 := hid HBC.out
          clear hb8 hb9 hne HBC
          go_upto_region 28 with (fail)
          go_cut [13] from 171 to 198 (fun s13 wd => ∃ b : Bool, s13 = .bool b ∧ wd = wc ∧ Hid (b = (sameFn P Q && decide (x.f6.length = P.f1.length))))
          case first =>
           by_cases c1 : 0 ≤ P.f0
           case neg =>
            have q1 : decide (P.f0 ≥ 0) = false := by simp; omega
            have q1' : decide (0 ≤ P.f0) = false := by simp; omega
            as_aux_lemma =>
             go_wp2_with fail
             go_meet
             exact ⟨false, rfl, rfl, hid (show false = (sameFn P Q && decide (x.f6.length = P.f1.length)) by unfold sameFn; simp; omega)⟩
           case pos =>
            by_cases c2 : P.f0 = Q.f0
            case neg =>
             have q1 : decide (P.f0 ≥ 0) = true := by simp; omega
             have q1' : decide (0 ≤ P.f0) = true := by simp; omega
             have q2 : (P.f0 == Q.f0) = false := by simp [c2]
             as_aux_lemma =>
              go_wp2_with fail
              go_meet
              exact ⟨false, rfl, rfl, hid (show false = (sameFn P Q && decide (x.f6.length = P.f1.length)) by unfold sameFn; simp [c2])⟩
            case pos =>
             by_cases c3 : m2 = m3
             case neg =>
              have q1 : decide (P.f0 ≥ 0) = true := by simp; omega
              have q1' : decide (0 ≤ P.f0) = true := by simp; omega
              have q2 : (P.f0 == Q.f0) = true := by simp [c2]
              have q3 : ((m2 : Int) == (m3 : Int)) = false := by simp; omega
              as_aux_lemma =>
               go_wp2_with fail
               go_meet
               exact ⟨false, rfl, rfl, hid (show false = (sameFn P Q && decide (x.f6.length = P.f1.length)) by unfold sameFn; rw [← HM2.out, ← HM3.out]; simp [c3])⟩
             case pos =>
              by_cases c4 : n6 = m2
              case neg =>
               have q1 : decide (P.f0 ≥ 0) = true := by simp; omega
               have q1' : decide (0 ≤ P.f0) = true := by simp; omega
               have q2 : (P.f0 == Q.f0) = true := by simp [c2]
               have q3 : ((m2 : Int) == (m3 : Int)) = true := by simp; omega
               have q4 : ((n6 : Int) == (m2 : Int)) = false := by simp; omega
               have q4' : ((n6 : Int) == (m3 : Int)) = false := by simp; omega
               as_aux_lemma =>
                go_wp2_with fail
                go_meet
                exact ⟨false, rfl, rfl, hid (show false = (sameFn P Q && decide (x.f6.length = P.f1.length)) by rw [← HN6.out, ← HM2.out]; simp [c4])⟩
              case pos =>
               have q1 : decide (P.f0 ≥ 0) = true := by simp; omega
               have q1' : decide (0 ≤ P.f0) = true := by simp; omega
               have q2 : (P.f0 == Q.f0) = true := by simp [c2]
               have q3 : ((m2 : Int) == (m3 : Int)) = true := by simp; omega
               have q4 : ((n6 : Int) == (m2 : Int)) = true := by simp; omega
               have q4' : ((n6 : Int) == (m3 : Int)) = true := by simp; omega
               as_aux_lemma =>
                go_wp2_with fail
                go_meet
                exact ⟨true, rfl, rfl, hid (show true = (sameFn P Q && decide (x.f6.length = P.f1.length)) by unfold sameFn; rw [← HN6.out, ← HM2.out, ← HM3.out]; simp [c2, c3, c4]; omega)⟩
          case rest =>
           obtain ⟨b0, rfl, rfl, HB0⟩ := hcut
           clear u0 w0
           go_wp2_with fail
           go_loopg [13, 17, 18] n6 (fun left2 v13 v17 v18 wr => ∃ (j : Nat) (b : Bool), j + left2 = n6 ∧ v13 = .bool b ∧ v17 = .int .i64 j ∧ Hid (Below w8.heap.size w8 wr) ∧ Hid (Ra w t s (.slice At i ct) (.slice As ns cs) kx (lkC x (.slice A6 n6 c6)) b8 b9 (vxV P (.slice B2 m2 d2)) (vxV Q (.slice B3 m3 d3)) wr) ∧ Hid ((sameFn P Q && (decide (x.f6.length = P.f1.length) && listM t x.f6 P.f1 Q.f1)) = (b && listM t (x.f6.drop j) (P.f1.drop j) (Q.f1.drop j))) ∧ Hid (b = true → m2 = n6 ∧ m3 = n6))
           case atStart => exact ⟨0, b0, by omega, rfl, rfl, HBC2, RA9, hid (by rw [HB0.out, Bool.and_assoc]; rfl), hid (fun h => by
            have h1 := HB0.out.symm.trans h
            simp only [sameFn, Bool.and_eq_true, decide_eq_true_eq] at h1
            have := HN6.out
            have := HM2.out
            have := HM3.out
            omega)⟩
           case round =>
            clear u1 v1 l6
            obtain ⟨j, b, hj, rfl, rfl, HBW, RAr, HLB, HBL⟩ := hrel
            cases b with
            | false =>
             have HE := hid (HBAD.out (by rw [HK0.out, HAP.out, HLB.out]; simp))
             as_aux_lemma =>
              have l0 := (RAr.out.rn.l 0).trans (show _ = some (.int .u8 x.f0) from rfl)
              have l2 := (RAr.out.rn.l 2).trans (show _ = some (.int .i64 x.f2) from rfl)
              have l3 := (RAr.out.rn.l 3).trans (show _ = some (.int .i64 x.f3) from rfl)
              have n0 := RAr.out.rn.n0
              have n1 := RAr.out.rn.n1
              have g0 := RAr.out.rn.f0
              have g1 := RAr.out.rn.f1
              go_wp2
              go_ret2
              exact checked_none HR.out HE.out (RAr.out.rn.store x.f2 x.f3).rc.below
            | true =>
             cases gk with
             | zero =>
              have hin : ¬ ((j : Int) < (n6 : Int)) := by omega
              have HOK := hid (show applyM v t x = some (x.f2, x.f3) by
               rw [HAP.out, HLB.out, List.drop_eq_nil_of_le (by have := HN6.out; omega)]
               rfl)
              have HKK := hid (show p1 = x.f2 ∧ p2 = x.f3 ∧ ok = true from ⟨by rw [HP1.out, HOK.out]; rfl, by rw [HP2.out, HOK.out]; rfl, by rw [HK0.out, HOK.out]; rfl⟩)
              obtain ⟨rfl, rfl, rfl⟩ := HKK.out
              obtain ⟨W7, hW7⟩ : ∃ W, W = (wr.setCell ⟨kx + 1, 0, none⟩ (.int .i64 x.f2)).setCell ⟨kx + 1, 1, none⟩ (.int .i64 x.f3) := ⟨_, rfl⟩
              have HN7 := hid (RAr.out.rn.store x.f2 x.f3)
              rw [← hW7] at HN7
              have l0 := (RAr.out.rn.l 0).trans (show _ = some (.int .u8 x.f0) from rfl)
              have l2 := (RAr.out.rn.l 2).trans (show _ = some (.int .i64 x.f2) from rfl)
              have l3 := (RAr.out.rn.l 3).trans (show _ = some (.int .i64 x.f3) from rfl)
              have l6 := (RAr.out.rn.l 6).trans (show _ = some (.slice A6 n6 c6) from rfl)
              have n0 := RAr.out.rn.n0
              have n1 := RAr.out.rn.n1
              have g0 := RAr.out.rn.f0
              have g1 := RAr.out.rn.f1
              go_upto_region 35 with (fail)
              rw [← hW7]
              clear hW7 l0 l2 l3 l6 n0 n1 g0 g1
              by_cases hlast : i + 1 = nl
              case pos =>
               have HD := hid (show decide (l.drop (i + 1) = []) = true by simpa using HRS.out.2 hlast)
               have q1 : ((i : Int) == (nl : Int) - 1) = true := by simp; omega
               have q2 : decide ((i : Int) = (nl : Int) - 1) = true := by simp; omega
               have HE := hid (HBAD.out (by rw [HD.out]; simp))
               as_aux_lemma =>
                have l0 := (HN7.out.l 0).trans (show _ = some (.int .u8 x.f0) from rfl)
                have n0 := HN7.out.n0
                have n1 := HN7.out.n1
                have g0 := HN7.out.f0
                have g1 := HN7.out.f1
                go_wp2
                go_ret2
                exact checked_none HR.out HE.out HN7.out.rc.below
              case neg =>
               have HD := hid (show decide (l.drop (i + 1) = []) = false by have := HRS.out; simp only [decide_eq_false_iff_not]; exact fun h => hlast (this.1 h))
               have q1 : ((i : Int) == (nl : Int) - 1) = false := by simp; omega
               have q2 : decide ((i : Int) = (nl : Int) - 1) = false := by simp; omega
               have HST := hid (HSTEP.out (by first | trivial | rfl) HD.out.symm)
               as_aux_lemma =>
                have l0 := (HN7.out.l 0).trans (show _ = some (.int .u8 x.f0) from rfl)
                have n0 := HN7.out.n0
                have n1 := HN7.out.n1
                have g0 := HN7.out.f0
                have g1 := HN7.out.f1
                have HPA := hid (HN7.out.rc.move ((Below.refl _ W7).alloc (Nat.le_refl _) (.cells #[.int .i64 x.f2, .int .i64 x.f3] 60)))
                have HOW := hid (show (W7.alloc (.cells #[.int .i64 x.f2, .int .i64 x.f3] 60)).ownsRow 0 60 2 (.slice At i ct) i (prs t) by
                 have h1 := HPA.out.told
                 rw [← HNT.out] at h1
                 exact h1)
                go_wp2_with (at_builtin; go_loud (refine wpList_append_lies (W7.alloc (.cells #[.int .i64 x.f2, .int .i64 x.f3] 60)) (by rfl) _ _ _ (by rfl) 0 60 i60 (.agg #[.int .i64 0, .int .i64 0]) 2 16 Tryd.underlying58 HI60.out.1 HI60.out.2.1 HI60.out.2.2.1 HI60.out.2.2.2 rfl (by omega) (.slice At i ct) i (prs t) (by rfl) HOW.out ⟨W7.heap.size, 0, none⟩ 1 1 [.int .i64 x.f2, .int .i64 x.f3] (by rfl) (by rfl) (fun j u hu => World.news_of_block (heap_alloc_new W7 (.cells #[.int .i64 x.f2, .int .i64 x.f3] 60)) j u (by simpa using hu)) (by simp [Value.oneCell']) (by omega) (by unfold maxLen; omega) (by omega) (Nat.zero_le _) (W7.heap.size + 1) (by simp) ?_; intro gz cap w7 ho7 hg7 hat7 hlt7; have H60 := hid (HPA.out.pushT (x.f2, x.f3) (tv' := .slice (some ⟨gz, 0, none⟩) (i + 1) cap) (by rw [← HNT.out]; exact ho7) hg7 (at_or hat7)); clear ho7 hg7 hat7 hlt7))
                go_roundg left
                case measure => omega
                case rel => exact ⟨i + 1, t ++ [(x.f2, x.f3)], s, false, _, _, by omega, rfl, rfl, by go_num, by (have := HNT.out; rw [List.length_append, List.length_singleton]; omega), by have := HNS.out; omega, hid H60.out, hid ⟨HST.out.symm.trans HG.out.1, fun h => absurd h (by omega), fun _ => (decide_eq_false hlast).symm⟩⟩
             | succ left2 =>
              have hin : (j : Int) < (n6 : Int) := by omega
              have HB23 := hid (HBL.out rfl)
              have hl6 : j < x.f6.length := by rw [← HN6.out]; omega
              have hl2 : j < P.f1.length := by rw [← HM2.out, HB23.out.1]; omega
              have hl3 : j < Q.f1.length := by rw [← HM3.out, HB23.out.2]; omega
              have hb2 := HB23.out.1
              have hb3 := HB23.out.2
              obtain ⟨a6, rfl, z6⟩ := Kd.at_int (Kd.C_below HC6.out RAr.out.rn.rc.below) (j : Int) (by omega) (by omega)
              have hBW : Below w8.heap.size w8 wr := HBW.out
              obtain ⟨a2, rfl, x2⟩ := Kd.at_int (Kd.C_below HC2.out hBW) (j : Int) (by omega) (by omega)
              obtain ⟨a3, rfl, x3⟩ := Kd.at_int (Kd.C_below HC3.out hBW) (j : Int) (by omega) (by omega)
              rw [Int.toNat_natCast] at z6 x2 x3
              have HLS := hid (show (sameFn P Q && (decide (x.f6.length = P.f1.length) && listM t x.f6 P.f1 Q.f1)) = (decide (tellM t (rd x.f6 (j : Int)) = some (rd P.f1 (j : Int), rd Q.f1 (j : Int))) && listM t (x.f6.drop (j + 1)) (P.f1.drop (j + 1)) (Q.f1.drop (j + 1))) by
               rw [HLB.out, List_drop_rd hl6, List_drop_rd hl2, List_drop_rd hl3]
               rfl)
              obtain ⟨N, hNN⟩ : ∃ m, rd x.f6 (j : Int) = m := ⟨_, rfl⟩
              obtain ⟨p', hp'⟩ : ∃ m, rd P.f1 (j : Int) = m := ⟨_, rfl⟩
              obtain ⟨q', hq'⟩ : ∃ m, rd Q.f1 (j : Int) = m := ⟨_, rfl⟩
              rw [hNN] at z6 HLS
              rw [hp'] at x2 HLS
              rw [hq'] at x3 HLS
              have u1 := (blk_cell RAr.out.h8 1).trans (show _ = some (.slice (some a2) m2 d2) from rfl)
              have v1 := (blk_cell RAr.out.h9 1).trans (show _ = some (.slice (some a3) m3 d3) from rfl)
              rw [hb2] at u1
              rw [hb3] at v1
              have l6 := (RAr.out.rn.l 6).trans (show _ = some (.slice (some a6) n6 c6) from rfl)
              clear hNN hp' hq' hb2 hb3 hBW hl6 hl2 hl3
              cases hin9 : inB i N with
              | false =>
               have HQ := hid (show false = decide (tellM t N = some (p', q')) by rw [rtell_no HNT.out hin9]; simp)
               as_aux_lemma =>
                go_wp2_with fail
                have hSS : (fun _ : World => True) wr.drew := trivial
                refine wp_region_noPanic ?_
                refine start_ (n := 30) (S := (fun _ : World => True)) (ds := []) (msk 0 30) (by kernel_rfl) rfl rfl hSS (fun hHeld => ?_)
                refine pure_ (i := 0) (N := some 214) (v := ?_) (a' := ?_) (msk 1 30) rfl rfl (by kernel_rfl) (fun _ _ _ h => h) (Or.inl ⟨by rfl, ?_⟩) ?_ ?_
                rotate_left
                · intro w'; go_simp; with_reducible rfl
                rotate_left
                · simp only [Act.put, sA, sB, sC]; rfl
                refine pure_ (i := 1) (N := some 215) (v := ?_) (a' := ?_) (msk 2 30) rfl rfl (by kernel_rfl) (fun _ _ _ h => h) (Or.inl ⟨by rfl, ?_⟩) ?_ ?_
                rotate_left
                · intro w'; go_simp; with_reducible rfl
                rotate_left
                · simp only [Act.put, sA, sB, sC]; rfl
                refine one_ (i := 2) (N := some 216) (msk 3 30) rfl rfl (by kernel_rfl) (by decide) (fun K hK => ?_)
                refine call_ 22 #[.int .i64 N, .int .i64 (i : Int)] (by rfl) rfl (by go_simp; first | done | rfl) ?_
                refine (within_c N i wr.drew).mono ?_
                rintro _ w5 ⟨he, hb⟩
                rw [hin9] at he
                have RA5 := hid (RAr.out.move ((Below.refl _ _).drew.trans hb))
                have HB5 := hid (HBW.out.trans ((((Below.refl _ wr).drew).trans hb).mono HBW.out.size))
                refine ⟨_, he, ?_⟩
                refine hK.out _ _ trivial (fun hHeld => ?_)
                clear hb
                refine norm_ (a' := ?_) ?_ ?_
                rotate_left
                · simp only [Act.put, sA, sB, sC]; rfl
                refine pure_ (i := 3) (N := some 217) (v := ?_) (a' := ?_) (msk 4 30) rfl rfl (by kernel_rfl) (fun _ _ _ h => h) (Or.inl ⟨by rfl, ?_⟩) ?_ ?_
                rotate_left
                · intro w'; go_simp; with_reducible rfl
                rotate_left
                · simp only [Act.put, sA, sB, sC]; rfl
                refine take_ (i := 4) (N := some 218) (v := undef) (a' := ?_) (msk 5 30) rfl rfl (by kernel_rfl) (fun _ _ _ h => h) (Or.inr ⟨by rfl, rfl⟩) hHeld ?_ ?_
                rotate_left
                · simp only [Act.put, sA, sB, sC]; rfl
                refine take_ (i := 5) (N := some 219) (v := undef) (a' := ?_) (msk 6 30) rfl rfl (by kernel_rfl) (fun _ _ _ h => h) (Or.inr ⟨by rfl, rfl⟩) hHeld ?_ ?_
                rotate_left
                · simp only [Act.put, sA, sB, sC]; rfl
                refine take_ (i := 6) (N := some 220) (v := undef) (a' := ?_) (msk 7 30) rfl rfl (by kernel_rfl) (fun _ _ _ h => h) (Or.inr ⟨by rfl, rfl⟩) hHeld ?_ ?_
                rotate_left
                · simp only [Act.put, sA, sB, sC]; rfl
                refine take_ (i := 7) (N := some 221) (v := undef) (a' := ?_) (msk 8 30) rfl rfl (by kernel_rfl) (fun _ _ _ h => h) (Or.inr ⟨by rfl, rfl⟩) hHeld ?_ ?_
                rotate_left
                · simp only [Act.put, sA, sB, sC]; rfl
                refine take_ (i := 8) (N := some 222) (v := undef) (a' := ?_) (msk 9 30) rfl rfl (by kernel_rfl) (fun _ _ _ h => h) (Or.inr ⟨by rfl, rfl⟩) hHeld ?_ ?_
                rotate_left
                · simp only [Act.put, sA, sB, sC]; rfl
                refine take_ (i := 9) (N := some 223) (v := undef) (a' := ?_) (msk 10 30) rfl rfl (by kernel_rfl) (fun _ _ _ h => h) (Or.inr ⟨by rfl, rfl⟩) hHeld ?_ ?_
                rotate_left
                · simp only [Act.put, sA, sB, sC]; rfl
                refine take_ (i := 10) (N := some 224) (v := undef) (a' := ?_) (msk 11 30) rfl rfl (by kernel_rfl) (fun _ _ _ h => h) (Or.inr ⟨by rfl, rfl⟩) hHeld ?_ ?_
                rotate_left
                · simp only [Act.put, sA, sB, sC]; rfl
                refine take_ (i := 11) (N := some 225) (v := undef) (a' := ?_) (msk 12 30) rfl rfl (by kernel_rfl) (fun _ _ _ h => h) (Or.inr ⟨by rfl, rfl⟩) hHeld ?_ ?_
                rotate_left
                · simp only [Act.put, sA, sB, sC]; rfl
                refine take_ (i := 12) (N := some 226) (v := undef) (a' := ?_) (msk 13 30) rfl rfl (by kernel_rfl) (fun _ _ _ h => h) (Or.inr ⟨by rfl, rfl⟩) hHeld ?_ ?_
                rotate_left
                · simp only [Act.put, sA, sB, sC]; rfl
                refine take_ (i := 13) (N := some 227) (v := undef) (a' := ?_) (msk 14 30) rfl rfl (by kernel_rfl) (fun _ _ _ h => h) (Or.inr ⟨by rfl, rfl⟩) hHeld ?_ ?_
                rotate_left
                · simp only [Act.put, sA, sB, sC]; rfl
                refine take_ (i := 14) (N := some 228) (v := undef) (a' := ?_) (msk 15 30) rfl rfl (by kernel_rfl) (fun _ _ _ h => h) (Or.inr ⟨by rfl, rfl⟩) hHeld ?_ ?_
                rotate_left
                · simp only [Act.put, sA, sB, sC]; rfl
                refine pure_ (i := 15) (N := some 229) (v := ?_) (a' := ?_) (msk 16 30) rfl rfl (by kernel_rfl) (fun _ _ _ h => h) (Or.inl ⟨by rfl, ?_⟩) ?_ ?_
                rotate_left
                · intro w'; go_simp; with_reducible rfl
                rotate_left
                · simp only [Act.put, sA, sB, sC]; rfl
                refine pure_ (i := 16) (N := some 230) (v := ?_) (a' := ?_) (msk 17 30) rfl rfl (by kernel_rfl) (fun _ _ _ h => h) (Or.inl ⟨by rfl, ?_⟩) ?_ ?_
                rotate_left
                · intro w'; go_simp; with_reducible rfl
                rotate_left
                · simp only [Act.put, sA, sB, sC]; rfl
                refine take_ (i := 17) (N := some 231) (v := undef) (a' := ?_) (msk 18 30) rfl rfl (by kernel_rfl) (fun _ _ _ h => h) (Or.inr ⟨by rfl, rfl⟩) hHeld ?_ ?_
                rotate_left
                · simp only [Act.put, sA, sB, sC]; rfl
                refine take_ (i := 18) (N := some 232) (v := undef) (a' := ?_) (msk 19 30) rfl rfl (by kernel_rfl) (fun _ _ _ h => h) (Or.inr ⟨by rfl, rfl⟩) hHeld ?_ ?_
                rotate_left
                · simp only [Act.put, sA, sB, sC]; rfl
                refine take_ (i := 19) (N := some 233) (v := undef) (a' := ?_) (msk 20 30) rfl rfl (by kernel_rfl) (fun _ _ _ h => h) (Or.inr ⟨by rfl, rfl⟩) hHeld ?_ ?_
                rotate_left
                · simp only [Act.put, sA, sB, sC]; rfl
                refine take_ (i := 20) (N := some 234) (v := undef) (a' := ?_) (msk 21 30) rfl rfl (by kernel_rfl) (fun _ _ _ h => h) (Or.inr ⟨by rfl, rfl⟩) hHeld ?_ ?_
                rotate_left
                · simp only [Act.put, sA, sB, sC]; rfl
                refine take_ (i := 21) (N := some 235) (v := undef) (a' := ?_) (msk 22 30) rfl rfl (by kernel_rfl) (fun _ _ _ h => h) (Or.inr ⟨by rfl, rfl⟩) hHeld ?_ ?_
                rotate_left
                · simp only [Act.put, sA, sB, sC]; rfl
                refine take_ (i := 22) (N := some 236) (v := undef) (a' := ?_) (msk 23 30) rfl rfl (by kernel_rfl) (fun _ _ _ h => h) (Or.inr ⟨by rfl, rfl⟩) hHeld ?_ ?_
                rotate_left
                · simp only [Act.put, sA, sB, sC]; rfl
                refine take_ (i := 23) (N := some 237) (v := undef) (a' := ?_) (msk 24 30) rfl rfl (by kernel_rfl) (fun _ _ _ h => h) (Or.inr ⟨by rfl, rfl⟩) hHeld ?_ ?_
                rotate_left
                · simp only [Act.put, sA, sB, sC]; rfl
                refine take_ (i := 24) (N := some 238) (v := undef) (a' := ?_) (msk 25 30) rfl rfl (by kernel_rfl) (fun _ _ _ h => h) (Or.inr ⟨by rfl, rfl⟩) hHeld ?_ ?_
                rotate_left
                · simp only [Act.put, sA, sB, sC]; rfl
                refine take_ (i := 25) (N := some 239) (v := undef) (a' := ?_) (msk 26 30) rfl rfl (by kernel_rfl) (fun _ _ _ h => h) (Or.inr ⟨by rfl, rfl⟩) hHeld ?_ ?_
                rotate_left
                · simp only [Act.put, sA, sB, sC]; rfl
                refine take_ (i := 26) (N := some 240) (v := undef) (a' := ?_) (msk 27 30) rfl rfl (by kernel_rfl) (fun _ _ _ h => h) (Or.inr ⟨by rfl, rfl⟩) hHeld ?_ ?_
                rotate_left
                · simp only [Act.put, sA, sB, sC]; rfl
                refine take_ (i := 27) (N := some 241) (v := undef) (a' := ?_) (msk 28 30) rfl rfl (by kernel_rfl) (fun _ _ _ h => h) (Or.inr ⟨by rfl, rfl⟩) hHeld ?_ ?_
                rotate_left
                · simp only [Act.put, sA, sB, sC]; rfl
                refine pure_ (i := 28) (N := some 242) (v := ?_) (a' := ?_) (msk 29 30) rfl rfl (by kernel_rfl) (fun _ _ _ h => h) (Or.inl ⟨by rfl, ?_⟩) ?_ ?_
                rotate_left
                · intro w'; go_simp; with_reducible rfl
                rotate_left
                · simp only [Act.put, sA, sB, sC]; rfl
                refine pure_ (i := 29) (N := some 13) (v := ?_) (a' := ?_) (msk 30 30) rfl rfl (by kernel_rfl) (fun _ _ _ h => h) (Or.inl ⟨by rfl, ?_⟩) ?_ ?_
                rotate_left
                · intro w'; go_simp; with_reducible rfl
                rotate_left
                · simp only [Act.put, sA, sB, sC]; rfl
                refine done_ (by kernel_rfl) ?_
                try simp only [NoPanic, Exit.then]
                clear hHeld
                go_wp2_with fail
                go_roundg left2
                case measure => omega
                case rel => exact ⟨j + 1, false, by omega, rfl, by go_num, hid HB5.out, hid RA5.out, hid (by rw [HLS.out, ← HQ.out]), hid (fun _ => HB23.out)⟩
              | true =>
               obtain ⟨m, hm, hmi, htm⟩ := rtell_yes HNT.out hin9
               obtain ⟨g, rfl⟩ := RAr.out.rn.form (by have := HNT.out; omega)
               obtain ⟨⟨E1, E2⟩, hE⟩ : ∃ r, t.getD m (0, 0) = r := ⟨_, rfl⟩
               obtain ⟨t1, t2⟩ := RAr.out.rn.told m HNT.out hmi hE
               rw [hE] at htm
               subst hm
               by_cases z1 : E1 = p'
               case neg =>
                have HQ := hid (show false = decide (tellM t (m : Int) = some (p', q')) by rw [htm]; simp [z1])
                have zb : (E1 == p') = false := by simp [z1]
                clear hE htm
                as_aux_lemma =>
                 go_wp2_with fail
                 have hSS : (fun w' : World => w'.cell? ⟨g, m * 2, none⟩ = some (.int .i64 E1) ∧ w'.cell? ⟨g, m * 2 + 1, none⟩ = some (.int .i64 E2) ∧ w'.cell? ⟨b8, 1, none⟩ = some (.slice (some a2) n6 d2) ∧ w'.cell? ⟨b9, 1, none⟩ = some (.slice (some a3) n6 d3) ∧ w'.cell? (a2.add j) = some (.int .i64 p') ∧ w'.cell? (a3.add j) = some (.int .i64 q')) wr.drew := ⟨t1, t2, u1, v1, x2, x3⟩
                 refine wp_region_noPanic ?_
                 refine start_ (n := 30) (S := (fun w' : World => w'.cell? ⟨g, m * 2, none⟩ = some (.int .i64 E1) ∧ w'.cell? ⟨g, m * 2 + 1, none⟩ = some (.int .i64 E2) ∧ w'.cell? ⟨b8, 1, none⟩ = some (.slice (some a2) n6 d2) ∧ w'.cell? ⟨b9, 1, none⟩ = some (.slice (some a3) n6 d3) ∧ w'.cell? (a2.add j) = some (.int .i64 p') ∧ w'.cell? (a3.add j) = some (.int .i64 q'))) (ds := []) (msk 0 30) (by kernel_rfl) rfl rfl hSS (fun hHeld => ?_)
                 refine pure_ (i := 0) (N := some 214) (v := ?_) (a' := ?_) (msk 1 30) rfl rfl (by kernel_rfl) (fun _ _ _ h => h) (Or.inl ⟨by rfl, ?_⟩) ?_ ?_
                 rotate_left
                 · intro w'; go_simp; with_reducible rfl
                 rotate_left
                 · simp only [Act.put, sA, sB, sC]; rfl
                 refine pure_ (i := 1) (N := some 215) (v := ?_) (a' := ?_) (msk 2 30) rfl rfl (by kernel_rfl) (fun _ _ _ h => h) (Or.inl ⟨by rfl, ?_⟩) ?_ ?_
                 rotate_left
                 · intro w'; go_simp; with_reducible rfl
                 rotate_left
                 · simp only [Act.put, sA, sB, sC]; rfl
                 refine one_ (i := 2) (N := some 216) (msk 3 30) rfl rfl (by kernel_rfl) (by decide) (fun K hK => ?_)
                 refine call_ 22 #[.int .i64 (m : Int), .int .i64 (i : Int)] (by rfl) rfl (by go_simp; first | done | rfl) ?_
                 refine (within_c (m : Int) i wr.drew).mono ?_
                 rintro _ w5 ⟨he, hb⟩
                 rw [hin9] at he
                 have RA5 := hid (RAr.out.move ((Below.refl _ _).drew.trans hb))
                 have HB5 := hid (HBW.out.trans ((((Below.refl _ wr).drew).trans hb).mono HBW.out.size))
                 have hS5 : (fun w' : World => w'.cell? ⟨g, m * 2, none⟩ = some (.int .i64 E1) ∧ w'.cell? ⟨g, m * 2 + 1, none⟩ = some (.int .i64 E2) ∧ w'.cell? ⟨b8, 1, none⟩ = some (.slice (some a2) n6 d2) ∧ w'.cell? ⟨b9, 1, none⟩ = some (.slice (some a3) n6 d3) ∧ w'.cell? (a2.add j) = some (.int .i64 p') ∧ w'.cell? (a3.add j) = some (.int .i64 q')) w5 := ⟨(hb.cell (p := ⟨g, m * 2, none⟩) (cell_lt t1)).trans t1, (hb.cell (p := ⟨g, m * 2 + 1, none⟩) (cell_lt t2)).trans t2, (hb.cell (p := ⟨b8, 1, none⟩) (cell_lt u1)).trans u1, (hb.cell (p := ⟨b9, 1, none⟩) (cell_lt v1)).trans v1, (hb.cell (p := a2.add j) (cell_lt x2)).trans x2, (hb.cell (p := a3.add j) (cell_lt x3)).trans x3⟩
                 refine ⟨_, he, ?_⟩
                 refine hK.out _ _ hS5 (fun hHeld => ?_)
                 clear hb
                 refine norm_ (a' := ?_) ?_ ?_
                 rotate_left
                 · simp only [Act.put, sA, sB, sC]; rfl
                 refine pure_ (i := 3) (N := some 217) (v := ?_) (a' := ?_) (msk 4 30) rfl rfl (by kernel_rfl) (fun _ _ _ h => h) (Or.inl ⟨by rfl, ?_⟩) ?_ ?_
                 rotate_left
                 · intro w'; go_simp; with_reducible rfl
                 rotate_left
                 · simp only [Act.put, sA, sB, sC]; rfl
                 refine pure_ (i := 4) (N := some 218) (v := ?_) (a' := ?_) (msk 5 30) rfl rfl (by kernel_rfl) (fun _ _ _ h => h) (Or.inl ⟨by rfl, ?_⟩) ?_ ?_
                 rotate_left
                 · intro w'; go_simp; with_reducible rfl
                 rotate_left
                 · simp only [Act.put, sA, sB, sC]; rfl
                 refine pure_ (i := 5) (N := some 219) (v := ?_) (a' := ?_) (msk 6 30) rfl rfl (by kernel_rfl) (fun _ _ _ h => h) (Or.inl ⟨by rfl, ?_⟩) ?_ ?_
                 rotate_left
                 · intro w'; go_simp; with_reducible rfl
                 rotate_left
                 · simp only [Act.put, sA, sB, sC]; rfl
                 refine pure_ (i := 6) (N := some 220) (v := ?_) (a' := ?_) (msk 7 30) rfl rfl (by kernel_rfl) (fun _ _ _ h => h) (Or.inl ⟨by rfl, ?_⟩) ?_ ?_
                 rotate_left
                 · intro w'; go_simp; with_reducible rfl
                 rotate_left
                 · simp only [Act.put, sA, sB, sC]; rfl
                 refine pure_ (i := 7) (N := some 221) (v := ?_) (a' := ?_) (msk 8 30) rfl rfl (by kernel_rfl) (fun _ _ _ h => h) (Or.inl ⟨by rfl, ?_⟩) ?_ ?_
                 rotate_left
                 · intro w'; go_simp; with_reducible rfl
                 rotate_left
                 · simp only [Act.put, sA, sB, sC]; rfl
                 refine take_ (i := 8) (N := some 222) (v := ?_) (a' := ?_) (msk 9 30) rfl rfl (by kernel_rfl) (fun _ _ _ h => h) (Or.inl ⟨by rfl, ?_⟩) hHeld ?_ ?_
                 rotate_left
                 · rintro w' ⟨s0, s1, s2, s3, s4, s5⟩; go_simp; with_reducible rfl
                 rotate_left
                 · simp only [Act.put, sA, sB, sC]; rfl
                 refine pure_ (i := 9) (N := some 223) (v := ?_) (a' := ?_) (msk 10 30) rfl rfl (by kernel_rfl) (fun _ _ _ h => h) (Or.inl ⟨by rfl, ?_⟩) ?_ ?_
                 rotate_left
                 · intro w'; go_simp; with_reducible rfl
                 rotate_left
                 · simp only [Act.put, sA, sB, sC]; rfl
                 refine take_ (i := 10) (N := some 224) (v := ?_) (a' := ?_) (msk 11 30) rfl rfl (by kernel_rfl) (fun _ _ _ h => h) (Or.inl ⟨by rfl, ?_⟩) hHeld ?_ ?_
                 rotate_left
                 · rintro w' ⟨s0, s1, s2, s3, s4, s5⟩; go_simp; with_reducible rfl
                 rotate_left
                 · simp only [Act.put, sA, sB, sC]; rfl
                 refine pure_ (i := 11) (N := some 225) (v := ?_) (a' := ?_) (msk 12 30) rfl rfl (by kernel_rfl) (fun _ _ _ h => h) (Or.inl ⟨by rfl, ?_⟩) ?_ ?_
                 rotate_left
                 · intro w'; go_simp; with_reducible rfl
                 rotate_left
                 · simp only [Act.put, sA, sB, sC]; rfl
                 refine pure_ (i := 12) (N := some 226) (v := ?_) (a' := ?_) (msk 13 30) rfl rfl (by kernel_rfl) (fun _ _ _ h => h) (Or.inl ⟨by rfl, ?_⟩) ?_ ?_
                 rotate_left
                 · intro w'; go_simp; with_reducible rfl
                 rotate_left
                 · simp only [Act.put, sA, sB, sC]; rfl
                 refine take_ (i := 13) (N := some 227) (v := ?_) (a' := ?_) (msk 14 30) rfl rfl (by kernel_rfl) (fun _ _ _ h => h) (Or.inl ⟨by rfl, ?_⟩) hHeld ?_ ?_
                 rotate_left
                 · rintro w' ⟨s0, s1, s2, s3, s4, s5⟩; go_simp; with_reducible rfl
                 rotate_left
                 · simp only [Act.put, sA, sB, sC]; rfl
                 refine pure_ (i := 14) (N := some 228) (v := ?_) (a' := ?_) (msk 15 30) rfl rfl (by kernel_rfl) (fun _ _ _ h => h) (Or.inl ⟨by rfl, ?_⟩) ?_ ?_
                 rotate_left
                 · intro w'; go_simp; with_reducible rfl
                 rotate_left
                 · simp only [Act.put, sA, sB, sC]; rfl
                 refine pure_ (i := 15) (N := some 229) (v := ?_) (a' := ?_) (msk 16 30) rfl rfl (by kernel_rfl) (fun _ _ _ h => h) (Or.inl ⟨by rfl, ?_⟩) ?_ ?_
                 rotate_left
                 · intro w'; go_simp; with_reducible rfl
                 rotate_left
                 · simp only [Act.put, sA, sB, sC]; rfl
                 refine pure_ (i := 16) (N := some 230) (v := ?_) (a' := ?_) (msk 17 30) rfl rfl (by kernel_rfl) (fun _ _ _ h => h) (Or.inl ⟨by rfl, ?_⟩) ?_ ?_
                 rotate_left
                 · intro w'; go_simp; with_reducible rfl
                 rotate_left
                 · simp only [Act.put, sA, sB, sC]; rfl
                 refine take_ (i := 17) (N := some 231) (v := undef) (a' := ?_) (msk 18 30) rfl rfl (by kernel_rfl) (fun _ _ _ h => h) (Or.inr ⟨by rfl, rfl⟩) hHeld ?_ ?_
                 rotate_left
                 · simp only [Act.put, sA, sB, sC]; rfl
                 refine take_ (i := 18) (N := some 232) (v := undef) (a' := ?_) (msk 19 30) rfl rfl (by kernel_rfl) (fun _ _ _ h => h) (Or.inr ⟨by rfl, rfl⟩) hHeld ?_ ?_
                 rotate_left
                 · simp only [Act.put, sA, sB, sC]; rfl
                 refine take_ (i := 19) (N := some 233) (v := undef) (a' := ?_) (msk 20 30) rfl rfl (by kernel_rfl) (fun _ _ _ h => h) (Or.inr ⟨by rfl, rfl⟩) hHeld ?_ ?_
                 rotate_left
                 · simp only [Act.put, sA, sB, sC]; rfl
                 refine take_ (i := 20) (N := some 234) (v := undef) (a' := ?_) (msk 21 30) rfl rfl (by kernel_rfl) (fun _ _ _ h => h) (Or.inr ⟨by rfl, rfl⟩) hHeld ?_ ?_
                 rotate_left
                 · simp only [Act.put, sA, sB, sC]; rfl
                 refine take_ (i := 21) (N := some 235) (v := undef) (a' := ?_) (msk 22 30) rfl rfl (by kernel_rfl) (fun _ _ _ h => h) (Or.inr ⟨by rfl, rfl⟩) hHeld ?_ ?_
                 rotate_left
                 · simp only [Act.put, sA, sB, sC]; rfl
                 refine take_ (i := 22) (N := some 236) (v := undef) (a' := ?_) (msk 23 30) rfl rfl (by kernel_rfl) (fun _ _ _ h => h) (Or.inr ⟨by rfl, rfl⟩) hHeld ?_ ?_
                 rotate_left
                 · simp only [Act.put, sA, sB, sC]; rfl
                 refine take_ (i := 23) (N := some 237) (v := undef) (a' := ?_) (msk 24 30) rfl rfl (by kernel_rfl) (fun _ _ _ h => h) (Or.inr ⟨by rfl, rfl⟩) hHeld ?_ ?_
                 rotate_left
                 · simp only [Act.put, sA, sB, sC]; rfl
                 refine take_ (i := 24) (N := some 238) (v := undef) (a' := ?_) (msk 25 30) rfl rfl (by kernel_rfl) (fun _ _ _ h => h) (Or.inr ⟨by rfl, rfl⟩) hHeld ?_ ?_
                 rotate_left
                 · simp only [Act.put, sA, sB, sC]; rfl
                 refine take_ (i := 25) (N := some 239) (v := undef) (a' := ?_) (msk 26 30) rfl rfl (by kernel_rfl) (fun _ _ _ h => h) (Or.inr ⟨by rfl, rfl⟩) hHeld ?_ ?_
                 rotate_left
                 · simp only [Act.put, sA, sB, sC]; rfl
                 refine take_ (i := 26) (N := some 240) (v := undef) (a' := ?_) (msk 27 30) rfl rfl (by kernel_rfl) (fun _ _ _ h => h) (Or.inr ⟨by rfl, rfl⟩) hHeld ?_ ?_
                 rotate_left
                 · simp only [Act.put, sA, sB, sC]; rfl
                 refine take_ (i := 27) (N := some 241) (v := undef) (a' := ?_) (msk 28 30) rfl rfl (by kernel_rfl) (fun _ _ _ h => h) (Or.inr ⟨by rfl, rfl⟩) hHeld ?_ ?_
                 rotate_left
                 · simp only [Act.put, sA, sB, sC]; rfl
                 refine pure_ (i := 28) (N := some 242) (v := ?_) (a' := ?_) (msk 29 30) rfl rfl (by kernel_rfl) (fun _ _ _ h => h) (Or.inl ⟨by rfl, ?_⟩) ?_ ?_
                 rotate_left
                 · intro w'; go_simp; with_reducible rfl
                 rotate_left
                 · simp only [Act.put, sA, sB, sC]; rfl
                 refine pure_ (i := 29) (N := some 13) (v := ?_) (a' := ?_) (msk 30 30) rfl rfl (by kernel_rfl) (fun _ _ _ h => h) (Or.inl ⟨by rfl, ?_⟩) ?_ ?_
                 rotate_left
                 · intro w'; go_simp; with_reducible rfl
                 rotate_left
                 · simp only [Act.put, sA, sB, sC]; rfl
                 refine done_ (by kernel_rfl) ?_
                 try simp only [NoPanic, Exit.then]
                 clear hHeld
                 go_wp2_with fail
                 go_roundg left2
                 case measure => omega
                 case rel => exact ⟨j + 1, false, by omega, rfl, by go_num, hid HB5.out, hid RA5.out, hid (by rw [HLS.out, ← HQ.out]), hid (fun _ => HB23.out)⟩
               case pos =>
                have HQ := hid (show (E2 == q') = decide (tellM t (m : Int) = some (p', q')) by
                 rw [htm, Bool.eq_iff_iff]
                 simp [z1])
                have zb : (E1 == p') = true := by simp [z1]
                clear hE htm z1
                as_aux_lemma =>
                 go_wp2_with fail
                 have hSS : (fun w' : World => w'.cell? ⟨g, m * 2, none⟩ = some (.int .i64 E1) ∧ w'.cell? ⟨g, m * 2 + 1, none⟩ = some (.int .i64 E2) ∧ w'.cell? ⟨b8, 1, none⟩ = some (.slice (some a2) n6 d2) ∧ w'.cell? ⟨b9, 1, none⟩ = some (.slice (some a3) n6 d3) ∧ w'.cell? (a2.add j) = some (.int .i64 p') ∧ w'.cell? (a3.add j) = some (.int .i64 q')) wr.drew := ⟨t1, t2, u1, v1, x2, x3⟩
                 refine wp_region_noPanic ?_
                 refine start_ (n := 30) (S := (fun w' : World => w'.cell? ⟨g, m * 2, none⟩ = some (.int .i64 E1) ∧ w'.cell? ⟨g, m * 2 + 1, none⟩ = some (.int .i64 E2) ∧ w'.cell? ⟨b8, 1, none⟩ = some (.slice (some a2) n6 d2) ∧ w'.cell? ⟨b9, 1, none⟩ = some (.slice (some a3) n6 d3) ∧ w'.cell? (a2.add j) = some (.int .i64 p') ∧ w'.cell? (a3.add j) = some (.int .i64 q'))) (ds := []) (msk 0 30) (by kernel_rfl) rfl rfl hSS (fun hHeld => ?_)
                 refine pure_ (i := 0) (N := some 214) (v := ?_) (a' := ?_) (msk 1 30) rfl rfl (by kernel_rfl) (fun _ _ _ h => h) (Or.inl ⟨by rfl, ?_⟩) ?_ ?_
                 rotate_left
                 · intro w'; go_simp; with_reducible rfl
                 rotate_left
                 · simp only [Act.put, sA, sB, sC]; rfl
                 refine pure_ (i := 1) (N := some 215) (v := ?_) (a' := ?_) (msk 2 30) rfl rfl (by kernel_rfl) (fun _ _ _ h => h) (Or.inl ⟨by rfl, ?_⟩) ?_ ?_
                 rotate_left
                 · intro w'; go_simp; with_reducible rfl
                 rotate_left
                 · simp only [Act.put, sA, sB, sC]; rfl
                 refine one_ (i := 2) (N := some 216) (msk 3 30) rfl rfl (by kernel_rfl) (by decide) (fun K hK => ?_)
                 refine call_ 22 #[.int .i64 (m : Int), .int .i64 (i : Int)] (by rfl) rfl (by go_simp; first | done | rfl) ?_
                 refine (within_c (m : Int) i wr.drew).mono ?_
                 rintro _ w5 ⟨he, hb⟩
                 rw [hin9] at he
                 have RA5 := hid (RAr.out.move ((Below.refl _ _).drew.trans hb))
                 have HB5 := hid (HBW.out.trans ((((Below.refl _ wr).drew).trans hb).mono HBW.out.size))
                 have hS5 : (fun w' : World => w'.cell? ⟨g, m * 2, none⟩ = some (.int .i64 E1) ∧ w'.cell? ⟨g, m * 2 + 1, none⟩ = some (.int .i64 E2) ∧ w'.cell? ⟨b8, 1, none⟩ = some (.slice (some a2) n6 d2) ∧ w'.cell? ⟨b9, 1, none⟩ = some (.slice (some a3) n6 d3) ∧ w'.cell? (a2.add j) = some (.int .i64 p') ∧ w'.cell? (a3.add j) = some (.int .i64 q')) w5 := ⟨(hb.cell (p := ⟨g, m * 2, none⟩) (cell_lt t1)).trans t1, (hb.cell (p := ⟨g, m * 2 + 1, none⟩) (cell_lt t2)).trans t2, (hb.cell (p := ⟨b8, 1, none⟩) (cell_lt u1)).trans u1, (hb.cell (p := ⟨b9, 1, none⟩) (cell_lt v1)).trans v1, (hb.cell (p := a2.add j) (cell_lt x2)).trans x2, (hb.cell (p := a3.add j) (cell_lt x3)).trans x3⟩
                 refine ⟨_, he, ?_⟩
                 refine hK.out _ _ hS5 (fun hHeld => ?_)
                 clear hb
                 refine norm_ (a' := ?_) ?_ ?_
                 rotate_left
                 · simp only [Act.put, sA, sB, sC]; rfl
                 refine pure_ (i := 3) (N := some 217) (v := ?_) (a' := ?_) (msk 4 30) rfl rfl (by kernel_rfl) (fun _ _ _ h => h) (Or.inl ⟨by rfl, ?_⟩) ?_ ?_
                 rotate_left
                 · intro w'; go_simp; with_reducible rfl
                 rotate_left
                 · simp only [Act.put, sA, sB, sC]; rfl
                 refine pure_ (i := 4) (N := some 218) (v := ?_) (a' := ?_) (msk 5 30) rfl rfl (by kernel_rfl) (fun _ _ _ h => h) (Or.inl ⟨by rfl, ?_⟩) ?_ ?_
                 rotate_left
                 · intro w'; go_simp; with_reducible rfl
                 rotate_left
                 · simp only [Act.put, sA, sB, sC]; rfl
                 refine pure_ (i := 5) (N := some 219) (v := ?_) (a' := ?_) (msk 6 30) rfl rfl (by kernel_rfl) (fun _ _ _ h => h) (Or.inl ⟨by rfl, ?_⟩) ?_ ?_
                 rotate_left
                 · intro w'; go_simp; with_reducible rfl
                 rotate_left
                 · simp only [Act.put, sA, sB, sC]; rfl
                 refine pure_ (i := 6) (N := some 220) (v := ?_) (a' := ?_) (msk 7 30) rfl rfl (by kernel_rfl) (fun _ _ _ h => h) (Or.inl ⟨by rfl, ?_⟩) ?_ ?_
                 rotate_left
                 · intro w'; go_simp; with_reducible rfl
                 rotate_left
                 · simp only [Act.put, sA, sB, sC]; rfl
                 refine pure_ (i := 7) (N := some 221) (v := ?_) (a' := ?_) (msk 8 30) rfl rfl (by kernel_rfl) (fun _ _ _ h => h) (Or.inl ⟨by rfl, ?_⟩) ?_ ?_
                 rotate_left
                 · intro w'; go_simp; with_reducible rfl
                 rotate_left
                 · simp only [Act.put, sA, sB, sC]; rfl
                 refine take_ (i := 8) (N := some 222) (v := ?_) (a' := ?_) (msk 9 30) rfl rfl (by kernel_rfl) (fun _ _ _ h => h) (Or.inl ⟨by rfl, ?_⟩) hHeld ?_ ?_
                 rotate_left
                 · rintro w' ⟨s0, s1, s2, s3, s4, s5⟩; go_simp; with_reducible rfl
                 rotate_left
                 · simp only [Act.put, sA, sB, sC]; rfl
                 refine pure_ (i := 9) (N := some 223) (v := ?_) (a' := ?_) (msk 10 30) rfl rfl (by kernel_rfl) (fun _ _ _ h => h) (Or.inl ⟨by rfl, ?_⟩) ?_ ?_
                 rotate_left
                 · intro w'; go_simp; with_reducible rfl
                 rotate_left
                 · simp only [Act.put, sA, sB, sC]; rfl
                 refine take_ (i := 10) (N := some 224) (v := ?_) (a' := ?_) (msk 11 30) rfl rfl (by kernel_rfl) (fun _ _ _ h => h) (Or.inl ⟨by rfl, ?_⟩) hHeld ?_ ?_
                 rotate_left
                 · rintro w' ⟨s0, s1, s2, s3, s4, s5⟩; go_simp; with_reducible rfl
                 rotate_left
                 · simp only [Act.put, sA, sB, sC]; rfl
                 refine pure_ (i := 11) (N := some 225) (v := ?_) (a' := ?_) (msk 12 30) rfl rfl (by kernel_rfl) (fun _ _ _ h => h) (Or.inl ⟨by rfl, ?_⟩) ?_ ?_
                 rotate_left
                 · intro w'; go_simp; with_reducible rfl
                 rotate_left
                 · simp only [Act.put, sA, sB, sC]; rfl
                 refine pure_ (i := 12) (N := some 226) (v := ?_) (a' := ?_) (msk 13 30) rfl rfl (by kernel_rfl) (fun _ _ _ h => h) (Or.inl ⟨by rfl, ?_⟩) ?_ ?_
                 rotate_left
                 · intro w'; go_simp; with_reducible rfl
                 rotate_left
                 · simp only [Act.put, sA, sB, sC]; rfl
                 refine take_ (i := 13) (N := some 227) (v := ?_) (a' := ?_) (msk 14 30) rfl rfl (by kernel_rfl) (fun _ _ _ h => h) (Or.inl ⟨by rfl, ?_⟩) hHeld ?_ ?_
                 rotate_left
                 · rintro w' ⟨s0, s1, s2, s3, s4, s5⟩; go_simp; with_reducible rfl
                 rotate_left
                 · simp only [Act.put, sA, sB, sC]; rfl
                 refine pure_ (i := 14) (N := some 228) (v := ?_) (a' := ?_) (msk 15 30) rfl rfl (by kernel_rfl) (fun _ _ _ h => h) (Or.inl ⟨by rfl, ?_⟩) ?_ ?_
                 rotate_left
                 · intro w'; go_simp; with_reducible rfl
                 rotate_left
                 · simp only [Act.put, sA, sB, sC]; rfl
                 refine pure_ (i := 15) (N := some 229) (v := ?_) (a' := ?_) (msk 16 30) rfl rfl (by kernel_rfl) (fun _ _ _ h => h) (Or.inl ⟨by rfl, ?_⟩) ?_ ?_
                 rotate_left
                 · intro w'; go_simp; with_reducible rfl
                 rotate_left
                 · simp only [Act.put, sA, sB, sC]; rfl
                 refine pure_ (i := 16) (N := some 230) (v := ?_) (a' := ?_) (msk 17 30) rfl rfl (by kernel_rfl) (fun _ _ _ h => h) (Or.inl ⟨by rfl, ?_⟩) ?_ ?_
                 rotate_left
                 · intro w'; go_simp; with_reducible rfl
                 rotate_left
                 · simp only [Act.put, sA, sB, sC]; rfl
                 refine pure_ (i := 17) (N := some 231) (v := ?_) (a' := ?_) (msk 18 30) rfl rfl (by kernel_rfl) (fun _ _ _ h => h) (Or.inl ⟨by rfl, ?_⟩) ?_ ?_
                 rotate_left
                 · intro w'; go_simp; with_reducible rfl
                 rotate_left
                 · simp only [Act.put, sA, sB, sC]; rfl
                 refine pure_ (i := 18) (N := some 232) (v := ?_) (a' := ?_) (msk 19 30) rfl rfl (by kernel_rfl) (fun _ _ _ h => h) (Or.inl ⟨by rfl, ?_⟩) ?_ ?_
                 rotate_left
                 · intro w'; go_simp; with_reducible rfl
                 rotate_left
                 · simp only [Act.put, sA, sB, sC]; rfl
                 refine pure_ (i := 19) (N := some 233) (v := ?_) (a' := ?_) (msk 20 30) rfl rfl (by kernel_rfl) (fun _ _ _ h => h) (Or.inl ⟨by rfl, ?_⟩) ?_ ?_
                 rotate_left
                 · intro w'; go_simp; with_reducible rfl
                 rotate_left
                 · simp only [Act.put, sA, sB, sC]; rfl
                 refine pure_ (i := 20) (N := some 234) (v := ?_) (a' := ?_) (msk 21 30) rfl rfl (by kernel_rfl) (fun _ _ _ h => h) (Or.inl ⟨by rfl, ?_⟩) ?_ ?_
                 rotate_left
                 · intro w'; go_simp; with_reducible rfl
                 rotate_left
                 · simp only [Act.put, sA, sB, sC]; rfl
                 refine take_ (i := 21) (N := some 235) (v := ?_) (a' := ?_) (msk 22 30) rfl rfl (by kernel_rfl) (fun _ _ _ h => h) (Or.inl ⟨by rfl, ?_⟩) hHeld ?_ ?_
                 rotate_left
                 · rintro w' ⟨s0, s1, s2, s3, s4, s5⟩; go_simp; with_reducible rfl
                 rotate_left
                 · simp only [Act.put, sA, sB, sC]; rfl
                 refine pure_ (i := 22) (N := some 236) (v := ?_) (a' := ?_) (msk 23 30) rfl rfl (by kernel_rfl) (fun _ _ _ h => h) (Or.inl ⟨by rfl, ?_⟩) ?_ ?_
                 rotate_left
                 · intro w'; go_simp; with_reducible rfl
                 rotate_left
                 · simp only [Act.put, sA, sB, sC]; rfl
                 refine take_ (i := 23) (N := some 237) (v := ?_) (a' := ?_) (msk 24 30) rfl rfl (by kernel_rfl) (fun _ _ _ h => h) (Or.inl ⟨by rfl, ?_⟩) hHeld ?_ ?_
                 rotate_left
                 · rintro w' ⟨s0, s1, s2, s3, s4, s5⟩; go_simp; with_reducible rfl
                 rotate_left
                 · simp only [Act.put, sA, sB, sC]; rfl
                 refine pure_ (i := 24) (N := some 238) (v := ?_) (a' := ?_) (msk 25 30) rfl rfl (by kernel_rfl) (fun _ _ _ h => h) (Or.inl ⟨by rfl, ?_⟩) ?_ ?_
                 rotate_left
                 · intro w'; go_simp; with_reducible rfl
                 rotate_left
                 · simp only [Act.put, sA, sB, sC]; rfl
                 refine pure_ (i := 25) (N := some 239) (v := ?_) (a' := ?_) (msk 26 30) rfl rfl (by kernel_rfl) (fun _ _ _ h => h) (Or.inl ⟨by rfl, ?_⟩) ?_ ?_
                 rotate_left
                 · intro w'; go_simp; with_reducible rfl
                 rotate_left
                 · simp only [Act.put, sA, sB, sC]; rfl
                 refine take_ (i := 26) (N := some 240) (v := ?_) (a' := ?_) (msk 27 30) rfl rfl (by kernel_rfl) (fun _ _ _ h => h) (Or.inl ⟨by rfl, ?_⟩) hHeld ?_ ?_
                 rotate_left
                 · rintro w' ⟨s0, s1, s2, s3, s4, s5⟩; go_simp; with_reducible rfl
                 rotate_left
                 · simp only [Act.put, sA, sB, sC]; rfl
                 refine pure_ (i := 27) (N := some 241) (v := ?_) (a' := ?_) (msk 28 30) rfl rfl (by kernel_rfl) (fun _ _ _ h => h) (Or.inl ⟨by rfl, ?_⟩) ?_ ?_
                 rotate_left
                 · intro w'; go_simp; with_reducible rfl
                 rotate_left
                 · simp only [Act.put, sA, sB, sC]; rfl
                 refine pure_ (i := 28) (N := some 242) (v := ?_) (a' := ?_) (msk 29 30) rfl rfl (by kernel_rfl) (fun _ _ _ h => h) (Or.inl ⟨by rfl, ?_⟩) ?_ ?_
                 rotate_left
                 · intro w'; go_simp; with_reducible rfl
                 rotate_left
                 · simp only [Act.put, sA, sB, sC]; rfl
                 refine pure_ (i := 29) (N := some 13) (v := ?_) (a' := ?_) (msk 30 30) rfl rfl (by kernel_rfl) (fun _ _ _ h => h) (Or.inl ⟨by rfl, ?_⟩) ?_ ?_
                 rotate_left
                 · intro w'; go_simp; with_reducible rfl
                 rotate_left
                 · simp only [Act.put, sA, sB, sC]; rfl
                 refine done_ (by kernel_rfl) ?_
                 try simp only [NoPanic, Exit.then]
                 clear hHeld
                 go_wp2_with fail
                 go_roundg left2
                 case measure => omega
                 case rel => exact ⟨j + 1, (E2 == q'), by omega, rfl, by go_num, hid HB5.out, hid RA5.out, hid (by rw [HLS.out, ← HQ.out]), hid (fun _ => HB23.out)⟩
    by_cases k6 : x.f0 = 6
    case pos =>
     as_aux_lemma =>
      have b1 : (x.f0 == 1) = false := by simp; omega
      have d1 : decide (x.f0 = 1) = false := by simp; omega
      have b2 : (x.f0 == 2) = false := by simp; omega
      have d2 : decide (x.f0 = 2) = false := by simp; omega
      have b3 : (x.f0 == 3) = false := by simp; omega
      have d3 : decide (x.f0 = 3) = false := by simp; omega
      have b4 : (x.f0 == 4) = false := by simp; omega
      have d4 : decide (x.f0 = 4) = false := by simp; omega
      have b5 : (x.f0 == 5) = false := by simp; omega
      have d5 : decide (x.f0 = 5) = false := by simp; omega
      have b7 : (x.f0 == 7) = false := by simp; omega
      have d7 : decide (x.f0 = 7) = false := by simp; omega
      have b6 : (x.f0 == 6) = true := by simp [k6]
      have d6 : decide (x.f0 = 6) = true := by simp [k6]
      have HL2 := hid (show linkM v a t x = ((-1, -1), true, againstM a t x) by
       unfold linkM
       rw [if_neg k1, if_neg k2, if_neg k3, if_neg k4, if_neg k5, if_pos k6])
      obtain ⟨hp1, hp2, he0, hk0⟩ : p1 = -1 ∧ p2 = -1 ∧ EE = true ∧ ok = (againstM a t x) := by
       have := HLM.out.symm.trans HL2.out
       simp only [Prod.mk.injEq] at this
       exact ⟨this.1.1, this.1.2, this.2.1, this.2.2⟩
      subst he0
      have HK := hid k6
      clear k6
      rw [show litsOf x = [x.f1] by unfold litsOf; rw [if_pos (Or.inr HK.out)]] at HSTEP
      obtain ⟨NN, hwn⟩ : ∃ n, wrap64 (-x.f1) = n := ⟨_, rfl⟩
      have HWN := hid hwn
      clear hwn
      go_wp2_with fail
      obtain ⟨W3, hW3⟩ : ∃ W3, W3 = (wr.alloc (.cells (lkC x (.slice A6 x.f6.length c6)) 36)).alloc (.cells #[.int .i64 0, .int .i64 0] 60) := ⟨_, rfl⟩
      have HN3 := hid (Rn.made HLr.out (lkC x (.slice A6 x.f6.length c6)))
      obtain ⟨kx, hkx⟩ : ∃ k, k = wr.heap.size := ⟨_, rfl⟩
      rw [← hkx] at HN3
      rw [← hW3] at HN3
      rw [← hW3, ← hkx]
      clear hW3 hkx y0 y1 y2 y3 y4 y5 y6 b0
      have hSS : (fun w' : World => w'.cell? ⟨kx, 0, none⟩ = some (.int .u8 x.f0)) W3.drew := (HN3.out.drew.l 0).trans rfl
      refine wp_region_noPanic ?_
      refine start_ (n := 30) (S := (fun w' : World => w'.cell? ⟨kx, 0, none⟩ = some (.int .u8 x.f0))) (ds := []) (msk 0 30) (by kernel_rfl) rfl rfl hSS (fun hHeld => ?_)
      refine pure_ (i := 0) (N := some 101) (v := ?_) (a' := ?_) (msk 1 30) rfl rfl (by kernel_rfl) (fun _ _ _ h => h) (Or.inl ⟨by rfl, ?_⟩) ?_ ?_
      rotate_left
      · intro w'; go_simp; with_reducible rfl
      rotate_left
      · simp only [Act.put, sA, sB, sC]; rfl
      refine take_ (i := 1) (N := some 102) (v := ?_) (a' := ?_) (msk 2 30) rfl rfl (by kernel_rfl) (fun _ _ _ h => h) (Or.inl ⟨by rfl, ?_⟩) hHeld ?_ ?_
      rotate_left
      ·
       intro w' s0
       go_simp
       with_reducible rfl
      rotate_left
      · simp only [Act.put, sA, sB, sC]; rfl
      refine pure_ (i := 2) (N := some 103) (v := ?_) (a' := ?_) (msk 3 30) rfl rfl (by kernel_rfl) (fun _ _ _ h => h) (Or.inl ⟨by rfl, ?_⟩) ?_ ?_
      rotate_left
      · intro w'; go_simp; with_reducible rfl
      rotate_left
      · simp only [Act.put, sA, sB, sC]; rfl
      refine pure_ (i := 3) (N := some 104) (v := ?_) (a' := ?_) (msk 4 30) rfl rfl (by kernel_rfl) (fun _ _ _ h => h) (Or.inl ⟨by rfl, ?_⟩) ?_ ?_
      rotate_left
      · intro w'; go_simp; with_reducible rfl
      rotate_left
      · simp only [Act.put, sA, sB, sC]; rfl
      refine take_ (i := 4) (N := some 105) (v := undef) (a' := ?_) (msk 5 30) rfl rfl (by kernel_rfl) (fun _ _ _ h => h) (Or.inr ⟨by rfl, rfl⟩) hHeld ?_ ?_
      rotate_left
      · simp only [Act.put, sA, sB, sC]; rfl
      refine take_ (i := 5) (N := some 106) (v := undef) (a' := ?_) (msk 6 30) rfl rfl (by kernel_rfl) (fun _ _ _ h => h) (Or.inr ⟨by rfl, rfl⟩) hHeld ?_ ?_
      rotate_left
      · simp only [Act.put, sA, sB, sC]; rfl
      refine take_ (i := 6) (N := some 107) (v := undef) (a' := ?_) (msk 7 30) rfl rfl (by kernel_rfl) (fun _ _ _ h => h) (Or.inr ⟨by rfl, rfl⟩) hHeld ?_ ?_
      rotate_left
      · simp only [Act.put, sA, sB, sC]; rfl
      refine take_ (i := 7) (N := some 108) (v := undef) (a' := ?_) (msk 8 30) rfl rfl (by kernel_rfl) (fun _ _ _ h => h) (Or.inr ⟨by rfl, rfl⟩) hHeld ?_ ?_
      rotate_left
      · simp only [Act.put, sA, sB, sC]; rfl
      refine pure_ (i := 8) (N := some 109) (v := ?_) (a' := ?_) (msk 9 30) rfl rfl (by kernel_rfl) (fun _ _ _ h => h) (Or.inl ⟨by rfl, ?_⟩) ?_ ?_
      rotate_left
      · intro w'; go_simp; with_reducible rfl
      rotate_left
      · simp only [Act.put, sA, sB, sC]; rfl
      refine pure_ (i := 9) (N := some 110) (v := ?_) (a' := ?_) (msk 10 30) rfl rfl (by kernel_rfl) (fun _ _ _ h => h) (Or.inl ⟨by rfl, ?_⟩) ?_ ?_
      rotate_left
      · intro w'; go_simp; with_reducible rfl
      rotate_left
      · simp only [Act.put, sA, sB, sC]; rfl
      refine take_ (i := 10) (N := some 111) (v := undef) (a' := ?_) (msk 11 30) rfl rfl (by kernel_rfl) (fun _ _ _ h => h) (Or.inr ⟨by rfl, rfl⟩) hHeld ?_ ?_
      rotate_left
      · simp only [Act.put, sA, sB, sC]; rfl
      refine take_ (i := 11) (N := some 112) (v := undef) (a' := ?_) (msk 12 30) rfl rfl (by kernel_rfl) (fun _ _ _ h => h) (Or.inr ⟨by rfl, rfl⟩) hHeld ?_ ?_
      rotate_left
      · simp only [Act.put, sA, sB, sC]; rfl
      refine take_ (i := 12) (N := some 113) (v := undef) (a' := ?_) (msk 13 30) rfl rfl (by kernel_rfl) (fun _ _ _ h => h) (Or.inr ⟨by rfl, rfl⟩) hHeld ?_ ?_
      rotate_left
      · simp only [Act.put, sA, sB, sC]; rfl
      refine take_ (i := 13) (N := some 114) (v := undef) (a' := ?_) (msk 14 30) rfl rfl (by kernel_rfl) (fun _ _ _ h => h) (Or.inr ⟨by rfl, rfl⟩) hHeld ?_ ?_
      rotate_left
      · simp only [Act.put, sA, sB, sC]; rfl
      refine pure_ (i := 14) (N := some 115) (v := ?_) (a' := ?_) (msk 15 30) rfl rfl (by kernel_rfl) (fun _ _ _ h => h) (Or.inl ⟨by rfl, ?_⟩) ?_ ?_
      rotate_left
      · intro w'; go_simp; with_reducible rfl
      rotate_left
      · simp only [Act.put, sA, sB, sC]; rfl
      refine pure_ (i := 15) (N := some 116) (v := ?_) (a' := ?_) (msk 16 30) rfl rfl (by kernel_rfl) (fun _ _ _ h => h) (Or.inl ⟨by rfl, ?_⟩) ?_ ?_
      rotate_left
      · intro w'; go_simp; with_reducible rfl
      rotate_left
      · simp only [Act.put, sA, sB, sC]; rfl
      refine take_ (i := 16) (N := some 117) (v := undef) (a' := ?_) (msk 17 30) rfl rfl (by kernel_rfl) (fun _ _ _ h => h) (Or.inr ⟨by rfl, rfl⟩) hHeld ?_ ?_
      rotate_left
      · simp only [Act.put, sA, sB, sC]; rfl
      refine take_ (i := 17) (N := some 118) (v := undef) (a' := ?_) (msk 18 30) rfl rfl (by kernel_rfl) (fun _ _ _ h => h) (Or.inr ⟨by rfl, rfl⟩) hHeld ?_ ?_
      rotate_left
      · simp only [Act.put, sA, sB, sC]; rfl
      refine take_ (i := 18) (N := some 119) (v := undef) (a' := ?_) (msk 19 30) rfl rfl (by kernel_rfl) (fun _ _ _ h => h) (Or.inr ⟨by rfl, rfl⟩) hHeld ?_ ?_
      rotate_left
      · simp only [Act.put, sA, sB, sC]; rfl
      refine take_ (i := 19) (N := some 120) (v := undef) (a' := ?_) (msk 20 30) rfl rfl (by kernel_rfl) (fun _ _ _ h => h) (Or.inr ⟨by rfl, rfl⟩) hHeld ?_ ?_
      rotate_left
      · simp only [Act.put, sA, sB, sC]; rfl
      refine take_ (i := 20) (N := some 121) (v := undef) (a' := ?_) (msk 21 30) rfl rfl (by kernel_rfl) (fun _ _ _ h => h) (Or.inr ⟨by rfl, rfl⟩) hHeld ?_ ?_
      rotate_left
      · simp only [Act.put, sA, sB, sC]; rfl
      refine take_ (i := 21) (N := some 122) (v := undef) (a' := ?_) (msk 22 30) rfl rfl (by kernel_rfl) (fun _ _ _ h => h) (Or.inr ⟨by rfl, rfl⟩) hHeld ?_ ?_
      rotate_left
      · simp only [Act.put, sA, sB, sC]; rfl
      refine take_ (i := 22) (N := some 123) (v := undef) (a' := ?_) (msk 23 30) rfl rfl (by kernel_rfl) (fun _ _ _ h => h) (Or.inr ⟨by rfl, rfl⟩) hHeld ?_ ?_
      rotate_left
      · simp only [Act.put, sA, sB, sC]; rfl
      refine take_ (i := 23) (N := some 124) (v := undef) (a' := ?_) (msk 24 30) rfl rfl (by kernel_rfl) (fun _ _ _ h => h) (Or.inr ⟨by rfl, rfl⟩) hHeld ?_ ?_
      rotate_left
      · simp only [Act.put, sA, sB, sC]; rfl
      refine take_ (i := 24) (N := some 125) (v := undef) (a' := ?_) (msk 25 30) rfl rfl (by kernel_rfl) (fun _ _ _ h => h) (Or.inr ⟨by rfl, rfl⟩) hHeld ?_ ?_
      rotate_left
      · simp only [Act.put, sA, sB, sC]; rfl
      refine take_ (i := 25) (N := some 126) (v := undef) (a' := ?_) (msk 26 30) rfl rfl (by kernel_rfl) (fun _ _ _ h => h) (Or.inr ⟨by rfl, rfl⟩) hHeld ?_ ?_
      rotate_left
      · simp only [Act.put, sA, sB, sC]; rfl
      refine take_ (i := 26) (N := some 127) (v := undef) (a' := ?_) (msk 27 30) rfl rfl (by kernel_rfl) (fun _ _ _ h => h) (Or.inr ⟨by rfl, rfl⟩) hHeld ?_ ?_
      rotate_left
      · simp only [Act.put, sA, sB, sC]; rfl
      refine take_ (i := 27) (N := some 128) (v := undef) (a' := ?_) (msk 28 30) rfl rfl (by kernel_rfl) (fun _ _ _ h => h) (Or.inr ⟨by rfl, rfl⟩) hHeld ?_ ?_
      rotate_left
      · simp only [Act.put, sA, sB, sC]; rfl
      refine take_ (i := 28) (N := some 129) (v := undef) (a' := ?_) (msk 29 30) rfl rfl (by kernel_rfl) (fun _ _ _ h => h) (Or.inr ⟨by rfl, rfl⟩) hHeld ?_ ?_
      rotate_left
      · simp only [Act.put, sA, sB, sC]; rfl
      refine pure_ (i := 29) (N := some 130) (v := ?_) (a' := ?_) (msk 30 30) rfl rfl (by kernel_rfl) (fun _ _ _ h => h) (Or.inl ⟨by rfl, ?_⟩) ?_ ?_
      rotate_left
      · intro w'; go_simp; with_reducible rfl
      rotate_left
      · simp only [Act.put, sA, sB, sC]; rfl
      refine done_ (by kernel_rfl) ?_
      try simp only [NoPanic, Exit.then]
      have HN6 := hid HN3.out.drew
      obtain ⟨W6, hW6⟩ : ∃ V, V = W3.drew := ⟨_, rfl⟩
      rw [← hW6] at HN6 ⊢
      clear hW6 hSS hHeld
      by_cases hlast : i + 1 = nl
      case neg =>
       have HD := hid (show decide (l.drop (i + 1) = []) = false by have := HRS.out; simp only [decide_eq_false_iff_not]; exact fun h => hlast (this.1 h))
       have q1 : ((i : Int) == (nl : Int) - 1) = false := by simp; omega
       have q2 : decide ((i : Int) = (nl : Int) - 1) = false := by simp; omega
       have HE := hid (HBAD.out (by rw [HD.out]; simp))
       as_aux_lemma =>
        have l0 := (HN6.out.l 0).trans (show _ = some (.int .u8 x.f0) from rfl)
        have l1 := (HN6.out.l 1).trans (show _ = some (.int .i64 x.f1) from rfl)
        have l4 := (HN6.out.l 4).trans (show _ = some (.int .i64 x.f4) from rfl)
        have n0 := HN6.out.n0
        have n1 := HN6.out.n1
        have g0 := HN6.out.f0
        have g1 := HN6.out.f1
        go_wp2
        go_ret2
        exact checked_none HR.out HE.out HN6.out.rc.below
      case pos =>
       have HD := hid (show decide (l.drop (i + 1) = []) = true by simpa using HRS.out.2 hlast)
       have q1 : ((i : Int) == (nl : Int) - 1) = true := by simp; omega
       have q2 : decide ((i : Int) = (nl : Int) - 1) = true := by simp; omega
       have l0 := (HN6.out.l 0).trans (show _ = some (.int .u8 x.f0) from rfl)
       have l1 := (HN6.out.l 1).trans (show _ = some (.int .i64 x.f1) from rfl)
       have l4 := (HN6.out.l 4).trans (show _ = some (.int .i64 x.f4) from rfl)
       have n0 := HN6.out.n0
       have n1 := HN6.out.n1
       have g0 := HN6.out.f0
       have g1 := HN6.out.f1
       go_wp2_with fail
       refine (within_c x.f4 i W6).mono ?_
       rintro e8 w8 ⟨rfl, hb8⟩
       have HN8 := hid (HN6.out.move hb8)
       clear hb8 l0 l1 l4 n0 n1 g0 g1
       cases hin4 : inB i x.f4 with
       | false =>
        have HE := hid (HBAD.out (by rw [hk0]; unfold againstM; rw [rtell_no HNT.out hin4]; cases atomM a x.f1 <;> simp))
        as_aux_lemma =>
         have l0 := (HN8.out.l 0).trans (show _ = some (.int .u8 x.f0) from rfl)
         have l1 := (HN8.out.l 1).trans (show _ = some (.int .i64 x.f1) from rfl)
         have n0 := HN8.out.n0
         have n1 := HN8.out.n1
         have g0 := HN8.out.f0
         have g1 := HN8.out.f1
         go_wp2
         go_ret2
         exact checked_none HR.out HE.out HN8.out.rc.below
       | true =>
        obtain ⟨m, hm, hmi, htm⟩ := rtell_yes HNT.out hin4
        by_cases hng : x.f1 < 0
        case neg =>
         have HE := hid (HBAD.out (by rw [hk0]; unfold againstM; rw [htm]; cases atomM a x.f1 <;> simp [hng]))
         clear hm
         as_aux_lemma =>
          have l0 := (HN8.out.l 0).trans (show _ = some (.int .u8 x.f0) from rfl)
          have l1 := (HN8.out.l 1).trans (show _ = some (.int .i64 x.f1) from rfl)
          have n0 := HN8.out.n0
          have n1 := HN8.out.n1
          have g0 := HN8.out.f0
          have g1 := HN8.out.f1
          go_wp2
          go_ret2
          exact checked_none HR.out HE.out HN8.out.rc.below
        case pos =>
         have hng' : decide (x.f1 < 0) = true := by simp [hng]
         obtain ⟨⟨u1, u2⟩, hpp, HT⟩ := told_c A1 c1 a NN (by rw [← HWN.out]; exact neg_wf _) (by have := HBN.out.2.1; omega)
         have HT0 := hid HT
         have HM := hid hm
         have HPP := hid hpp
         have HLA := hid hlast
         have HK0 := hid hk0
         have HTM := hid htm
         clear HT hm hpp hlast hk0 htm HL2 hp1 hp2
         obtain ⟨W5, hW5⟩ : ∃ W, W = w8 := ⟨_, rfl⟩
         have hwn := HWN.out
         have l0 := (HN8.out.l 0).trans (show _ = some (.int .u8 x.f0) from rfl)
         have l1 := (HN8.out.l 1).trans (show _ = some (.int .i64 x.f1) from rfl)
         have n0 := HN8.out.n0
         have n1 := HN8.out.n1
         have g0 := HN8.out.f0
         have g1 := HN8.out.f1
         have HNB := hid (show (w8.alloc (.cells #[.int .i64 x.f1] 33)).heap[w8.heap.size]? = some (.cells #[.int .i64 x.f1] 33 (0, 0)) from heap_alloc_new _ _)
         have HPB := hid (HN8.out.move ((Below.refl _ w8).alloc (Nat.le_refl _) (.cells #[.int .i64 x.f1] 33)))
         have HOS := hid (show (w8.alloc (.cells #[.int .i64 x.f1] 33)).ownsRow 0 33 1 (.slice As ns cs) ns (MM.lits s) by
          have h1 := HPB.out.rc.lts
          rw [← HNS.out] at h1
          exact h1)
         go_wp2_with (at_builtin; go_loud (refine wpList_append_lies (w8.alloc (.cells #[.int .i64 x.f1] 33)) (by rfl) _ _ _ (by rfl) 0 33 i33 (.int .i64 0) 1 8 Tryd.underlying28 HI33.out.1 HI33.out.2.1 HI33.out.2.2.1 HI33.out.2.2.2 rfl (by omega) (.slice As ns cs) ns (MM.lits s) (by rfl) HOS.out ⟨w8.heap.size, 0, none⟩ 1 1 [.int .i64 x.f1] (by rfl) (by rfl) (fun j u hu => World.news_of_block HNB.out j u (by simpa using hu)) (by simp [Value.oneCell']) (by omega) (by unfold maxLen; omega) (by omega) (Nat.zero_le _) (w8.heap.size + 1) (by simp) ?_; intro gy cy w9 ho6 hg6 hat6 hlt6; have HN9 := hid (HPB.out.pushS x.f1 (sv' := .slice (some ⟨gy, 0, none⟩) (ns + 1) cy) (by rw [← HNS.out]; exact ho6) hg6 (at_or hat6)); have l0 := (HN9.out.l 0).trans (show _ = some (.int .u8 x.f0) from rfl); have l1 := (HN9.out.l 1).trans (show _ = some (.int .i64 x.f1) from rfl); clear ho6 hg6 hat6 hlt6))
         clear hwn n0 n1 g0 g1 hW5 W5
         have HT2 := hid (HT0.out w9 (Kd.C_below HA.out.2 HN9.out.rc.below) HA.out.1)
         rw [← HNA.out] at HT2
         refine HT2.out.mono ?_
         rintro e10 w10 ⟨he, hb10⟩
         have HN10 := hid (HN9.out.move hb10)
         clear hb10 HT2 HT0 l0 l1
         cases hat : atomM a x.f1 with
         | none =>
          have hgn : givenM a NN = none := by rw [← HWN.out]; exact neg_none HWX.out.1 hng HBN.out.2.1 hat
          rw [hgn] at he
          subst he
          have HE := hid (HBAD.out (by rw [HK0.out]; unfold againstM; rw [hat]; simp))
          have hwn := HWN.out
          clear hgn hat
          as_aux_lemma =>
           have l0 := (HN10.out.l 0).trans (show _ = some (.int .u8 x.f0) from rfl)
           have l1 := (HN10.out.l 1).trans (show _ = some (.int .i64 x.f1) from rfl)
           have n0 := HN10.out.n0
           have n1 := HN10.out.n1
           have g0 := HN10.out.f0
           have g1 := HN10.out.f1
           go_wp2
           go_ret2
           exact checked_none HR.out HE.out HN10.out.rc.below
         | some y =>
          obtain ⟨k, hka, hkw, hky, hkg⟩ := neg_some HWX.out.1 hng HBN.out.2.1 hat
          have hkn : NN = (k : Int) + 1 := HWN.out.symm.trans hkw
          rw [HWN.out] at hkg
          rw [hkg] at he
          have hAG : ok = (decide (y.f0 = 1) && decide (t.getD m (0, 0) = (y.f1, y.f2))) := by
           rw [HK0.out]
           unfold againstM
           rw [hat, HTM.out]
           simp [hng]
          have HAG := hid hAG
          obtain ⟨ad2, rfl, x0, x1, x2, x3⟩ := at_T66 (Kd.C_below HA.out.2 HN10.out.rc.below) (k : Int) (by omega) (by omega)
          rw [show rd_T66 a (k : Int) = a.getD k at0 from rfl, hky] at x0 x1 x2 x3
          rw [Int.toNat_natCast] at x0 x1 x2 x3
          have hkz : (k : Int) < (na : Int) := by have := HNA.out; omega
          have hab := HBN.out.2.1
          have hwm : wrap64 (NN - 1) = (k : Int) := by rw [hkn, Go.IntWalk.wrap64_in] <;> omega
          have hNk : NN.toNat - 1 = k := by omega
          have HHW := hid hwm
          have HKN := hid hkn
          clear hwm hat hkw hky hAG hkn hka hab
          by_cases y1 : y.f0 = 1
          case neg =>
           have HE := hid (HBAD.out (by rw [HAG.out]; simp [y1]))
           rw [if_neg y1] at hkg he
           have yb : (y.f0 == 1) = false := by simp [y1]
           have yd : decide (y.f0 = 1) = false := by simp [y1]
           by_cases y3 : y.f0 = 3
           case pos =>
            rw [if_pos y3] at hkg he
            subst he
            clear y3 hkg
            have hwn := HWN.out
            have hwm := HHW.out
            as_aux_lemma =>
             have l0 := (HN10.out.l 0).trans (show _ = some (.int .u8 x.f0) from rfl)
             have l1 := (HN10.out.l 1).trans (show _ = some (.int .i64 x.f1) from rfl)
             have l4 := (HN10.out.l 4).trans (show _ = some (.int .i64 x.f4) from rfl)
             have n0 := HN10.out.n0
             have n1 := HN10.out.n1
             have g0 := HN10.out.f0
             have g1 := HN10.out.f1
             go_wp2
             go_ret2
             exact checked_none HR.out HE.out HN10.out.rc.below
           case neg =>
            rw [if_neg y3] at hkg he
            subst he
            clear y3 hkg
            have hwn := HWN.out
            as_aux_lemma =>
             have l0 := (HN10.out.l 0).trans (show _ = some (.int .u8 x.f0) from rfl)
             have l1 := (HN10.out.l 1).trans (show _ = some (.int .i64 x.f1) from rfl)
             have l4 := (HN10.out.l 4).trans (show _ = some (.int .i64 x.f4) from rfl)
             have n0 := HN10.out.n0
             have n1 := HN10.out.n1
             have g0 := HN10.out.f0
             have g1 := HN10.out.f1
             go_wp2
             go_ret2
             exact checked_none HR.out HE.out HN10.out.rc.below
          case pos =>
           rw [if_pos y1] at hkg he
           subst he
           obtain ⟨rfl, rfl⟩ : u1 = y.f1 ∧ u2 = y.f2 := by
            have h1 := HPP.out _ hkg
            simp only [Prod.mk.injEq] at h1
            exact h1
           have yb : (y.f0 == 1) = true := by simp [y1]
           have yd : decide (y.f0 = 1) = true := by simp [y1]
           have HY1 := hid y1
           clear y1 hkg
           obtain ⟨g, rfl⟩ := HN10.out.form (by have := HNT.out; omega)
           obtain ⟨⟨P, Q⟩, hPQ⟩ : ∃ r, t.getD m (0, 0) = r := ⟨_, rfl⟩
           obtain ⟨d1, d2⟩ := HN10.out.told m HNT.out hmi hPQ
           have hOK : ok = (decide (P = y.f1) && decide (Q = y.f2)) := by
            rw [HAG.out, hPQ, HY1.out, Bool.eq_iff_iff]
            simp
           have HOK := hid hOK
           clear hPQ hOK
           have l4 := ((HN10.out.l 4).trans (show _ = some (.int .i64 x.f4) from rfl)).trans (congrArg (fun z => some (Value.int .i64 z)) HM.out)
           by_cases z1 : P = y.f1
           case neg =>
            have HE := hid (HBAD.out (by rw [HOK.out]; simp [z1]))
            have zb : (P == y.f1) = false := by simp [z1]
            have hwn := HWN.out
            have hwm := HHW.out
            as_aux_lemma =>
             have l0 := (HN10.out.l 0).trans (show _ = some (.int .u8 x.f0) from rfl)
             have l1 := (HN10.out.l 1).trans (show _ = some (.int .i64 x.f1) from rfl)
             have n0 := HN10.out.n0
             have n1 := HN10.out.n1
             have g0 := HN10.out.f0
             have g1 := HN10.out.f1
             go_wp2
             go_ret2
             exact checked_none HR.out HE.out HN10.out.rc.below
           case pos =>
            by_cases z2 : Q = y.f2
            case neg =>
             have HE := hid (HBAD.out (by rw [HOK.out]; simp [z2]))
             have zb : (P == y.f1) = true := by simp [z1]
             have zc : (Q == y.f2) = false := by simp [z2]
             clear z1
             have hwn := HWN.out
             have hwm := HHW.out
             as_aux_lemma =>
              have l0 := (HN10.out.l 0).trans (show _ = some (.int .u8 x.f0) from rfl)
              have l1 := (HN10.out.l 1).trans (show _ = some (.int .i64 x.f1) from rfl)
              have n0 := HN10.out.n0
              have n1 := HN10.out.n1
              have g0 := HN10.out.f0
              have g1 := HN10.out.f1
              go_wp2
              go_ret2
              exact checked_none HR.out HE.out HN10.out.rc.below
            case pos =>
             have HST := hid (show goM v a t s e (l.drop i) = goM v a (t ++ [(0, 0)]) (s ++ [x.f1]) true (l.drop (i + 1)) by
              rw [HSTEP.out (by rw [HOK.out]; simp [z1, z2]) (by rw [HD.out]), HRS.out.2 HLA.out]
              rfl)
             have zb : (P == y.f1) = true := by simp [z1]
             have zc : (Q == y.f2) = true := by simp [z2]
             clear z1 z2
             have hwn := HWN.out
             have hwm := HHW.out
             as_aux_lemma =>
              have l1 := (HN10.out.l 1).trans (show _ = some (.int .i64 x.f1) from rfl)
              have n0 := HN10.out.n0
              have n1 := HN10.out.n1
              have g0 := HN10.out.f0
              have g1 := HN10.out.f1
              have l0 := (HN10.out.l 0).trans (show _ = some (.int .u8 x.f0) from rfl)
              have n0 := HN10.out.n0
              have n1 := HN10.out.n1
              have g0 := HN10.out.f0
              have g1 := HN10.out.f1
              have HPA := hid (HN10.out.rc.move ((Below.refl _ w10).alloc (Nat.le_refl _) (.cells #[.int .i64 0, .int .i64 0] 60)))
              have HOW := hid (show (w10.alloc (.cells #[.int .i64 0, .int .i64 0] 60)).ownsRow 0 60 2 (.slice (some ⟨g, 0, none⟩) i ct) i (prs t) by
               have h1 := HPA.out.told
               rw [← HNT.out] at h1
               exact h1)
              go_wp2_with (at_builtin; go_loud (refine wpList_append_lies (w10.alloc (.cells #[.int .i64 0, .int .i64 0] 60)) (by rfl) _ _ _ (by rfl) 0 60 i60 (.agg #[.int .i64 0, .int .i64 0]) 2 16 Tryd.underlying58 HI60.out.1 HI60.out.2.1 HI60.out.2.2.1 HI60.out.2.2.2 rfl (by omega) (.slice (some ⟨g, 0, none⟩) i ct) i (prs t) (by rfl) HOW.out ⟨w10.heap.size, 0, none⟩ 1 1 [.int .i64 0, .int .i64 0] (by rfl) (by rfl) (fun j u hu => World.news_of_block (heap_alloc_new w10 (.cells #[.int .i64 0, .int .i64 0] 60)) j u (by simpa using hu)) (by simp [Value.oneCell']) (by omega) (by unfold maxLen; omega) (by omega) (Nat.zero_le _) (w10.heap.size + 1) (by simp) ?_; intro gz cap w7 ho7 hg7 hat7 hlt7; have H60 := hid (HPA.out.pushT (0, 0) (tv' := .slice (some ⟨gz, 0, none⟩) (i + 1) cap) (by rw [← HNT.out]; exact ho7) hg7 (at_or hat7)); clear ho7 hg7 hat7 hlt7))
              go_roundg left
              case measure => omega
              case rel => exact ⟨i + 1, t ++ [(0, 0)], (s ++ [x.f1]), true, _, _, by omega, rfl, rfl, by go_num, by (have := HNT.out; rw [List.length_append, List.length_singleton]; omega), by (have := HNS.out; rw [List.length_append, List.length_singleton]; omega), hid H60.out, hid ⟨HST.out.symm.trans HG.out.1, fun h => absurd h (by omega), fun _ => (decide_eq_true HLA.out).symm⟩⟩
    by_cases k7 : x.f0 = 7
    case pos =>
     as_aux_lemma =>
      have b1 : (x.f0 == 1) = false := by simp; omega
      have d1 : decide (x.f0 = 1) = false := by simp; omega
      have b2 : (x.f0 == 2) = false := by simp; omega
      have d2 : decide (x.f0 = 2) = false := by simp; omega
      have b3 : (x.f0 == 3) = false := by simp; omega
      have d3 : decide (x.f0 = 3) = false := by simp; omega
      have b4 : (x.f0 == 4) = false := by simp; omega
      have d4 : decide (x.f0 = 4) = false := by simp; omega
      have b5 : (x.f0 == 5) = false := by simp; omega
      have d5 : decide (x.f0 = 5) = false := by simp; omega
      have b6 : (x.f0 == 6) = false := by simp; omega
      have d6 : decide (x.f0 = 6) = false := by simp; omega
      have b7 : (x.f0 == 7) = true := by simp [k7]
      have d7 : decide (x.f0 = 7) = true := by simp [k7]
      have HL2 := hid (show linkM v a t x = ((-1, -1), true, (tellM t x.f4).isSome && decide (prO (tellM t x.f4) = (0, 1))) by
       unfold linkM
       rw [if_neg k1, if_neg k2, if_neg k3, if_neg k4, if_neg k5, if_neg k6, if_pos k7])
      obtain ⟨hp1, hp2, he0, hk0⟩ : p1 = -1 ∧ p2 = -1 ∧ EE = true ∧ ok = ((tellM t x.f4).isSome && decide (prO (tellM t x.f4) = (0, 1))) := by
       have := HLM.out.symm.trans HL2.out
       simp only [Prod.mk.injEq] at this
       exact ⟨this.1.1, this.1.2, this.2.1, this.2.2⟩
      subst he0
      have HK := hid k7
      clear k7
      rw [show litsOf x = [] by unfold litsOf; rw [if_neg (by have := HK.out; omega)], List.append_nil] at HSTEP
      go_wp2_with fail
      obtain ⟨W3, hW3⟩ : ∃ W3, W3 = (wr.alloc (.cells (lkC x (.slice A6 x.f6.length c6)) 36)).alloc (.cells #[.int .i64 0, .int .i64 0] 60) := ⟨_, rfl⟩
      have HN3 := hid (Rn.made HLr.out (lkC x (.slice A6 x.f6.length c6)))
      obtain ⟨kx, hkx⟩ : ∃ k, k = wr.heap.size := ⟨_, rfl⟩
      rw [← hkx] at HN3
      rw [← hW3] at HN3
      rw [← hW3, ← hkx]
      clear hW3 hkx y0 y1 y2 y3 y4 y5 y6 b0
      have hSS : (fun w' : World => w'.cell? ⟨kx, 0, none⟩ = some (.int .u8 x.f0)) W3.drew := (HN3.out.drew.l 0).trans rfl
      refine wp_region_noPanic ?_
      refine start_ (n := 30) (S := (fun w' : World => w'.cell? ⟨kx, 0, none⟩ = some (.int .u8 x.f0))) (ds := []) (msk 0 30) (by kernel_rfl) rfl rfl hSS (fun hHeld => ?_)
      refine pure_ (i := 0) (N := some 101) (v := ?_) (a' := ?_) (msk 1 30) rfl rfl (by kernel_rfl) (fun _ _ _ h => h) (Or.inl ⟨by rfl, ?_⟩) ?_ ?_
      rotate_left
      · intro w'; go_simp; with_reducible rfl
      rotate_left
      · simp only [Act.put, sA, sB, sC]; rfl
      refine take_ (i := 1) (N := some 102) (v := ?_) (a' := ?_) (msk 2 30) rfl rfl (by kernel_rfl) (fun _ _ _ h => h) (Or.inl ⟨by rfl, ?_⟩) hHeld ?_ ?_
      rotate_left
      ·
       intro w' s0
       go_simp
       with_reducible rfl
      rotate_left
      · simp only [Act.put, sA, sB, sC]; rfl
      refine pure_ (i := 2) (N := some 103) (v := ?_) (a' := ?_) (msk 3 30) rfl rfl (by kernel_rfl) (fun _ _ _ h => h) (Or.inl ⟨by rfl, ?_⟩) ?_ ?_
      rotate_left
      · intro w'; go_simp; with_reducible rfl
      rotate_left
      · simp only [Act.put, sA, sB, sC]; rfl
      refine pure_ (i := 3) (N := some 104) (v := ?_) (a' := ?_) (msk 4 30) rfl rfl (by kernel_rfl) (fun _ _ _ h => h) (Or.inl ⟨by rfl, ?_⟩) ?_ ?_
      rotate_left
      · intro w'; go_simp; with_reducible rfl
      rotate_left
      · simp only [Act.put, sA, sB, sC]; rfl
      refine take_ (i := 4) (N := some 105) (v := undef) (a' := ?_) (msk 5 30) rfl rfl (by kernel_rfl) (fun _ _ _ h => h) (Or.inr ⟨by rfl, rfl⟩) hHeld ?_ ?_
      rotate_left
      · simp only [Act.put, sA, sB, sC]; rfl
      refine take_ (i := 5) (N := some 106) (v := undef) (a' := ?_) (msk 6 30) rfl rfl (by kernel_rfl) (fun _ _ _ h => h) (Or.inr ⟨by rfl, rfl⟩) hHeld ?_ ?_
      rotate_left
      · simp only [Act.put, sA, sB, sC]; rfl
      refine take_ (i := 6) (N := some 107) (v := undef) (a' := ?_) (msk 7 30) rfl rfl (by kernel_rfl) (fun _ _ _ h => h) (Or.inr ⟨by rfl, rfl⟩) hHeld ?_ ?_
      rotate_left
      · simp only [Act.put, sA, sB, sC]; rfl
      refine take_ (i := 7) (N := some 108) (v := undef) (a' := ?_) (msk 8 30) rfl rfl (by kernel_rfl) (fun _ _ _ h => h) (Or.inr ⟨by rfl, rfl⟩) hHeld ?_ ?_
      rotate_left
      · simp only [Act.put, sA, sB, sC]; rfl
      refine pure_ (i := 8) (N := some 109) (v := ?_) (a' := ?_) (msk 9 30) rfl rfl (by kernel_rfl) (fun _ _ _ h => h) (Or.inl ⟨by rfl, ?_⟩) ?_ ?_
      rotate_left
      · intro w'; go_simp; with_reducible rfl
      rotate_left
      · simp only [Act.put, sA, sB, sC]; rfl
      refine pure_ (i := 9) (N := some 110) (v := ?_) (a' := ?_) (msk 10 30) rfl rfl (by kernel_rfl) (fun _ _ _ h => h) (Or.inl ⟨by rfl, ?_⟩) ?_ ?_
      rotate_left
      · intro w'; go_simp; with_reducible rfl
      rotate_left
      · simp only [Act.put, sA, sB, sC]; rfl
      refine take_ (i := 10) (N := some 111) (v := undef) (a' := ?_) (msk 11 30) rfl rfl (by kernel_rfl) (fun _ _ _ h => h) (Or.inr ⟨by rfl, rfl⟩) hHeld ?_ ?_
      rotate_left
      · simp only [Act.put, sA, sB, sC]; rfl
      refine take_ (i := 11) (N := some 112) (v := undef) (a' := ?_) (msk 12 30) rfl rfl (by kernel_rfl) (fun _ _ _ h => h) (Or.inr ⟨by rfl, rfl⟩) hHeld ?_ ?_
      rotate_left
      · simp only [Act.put, sA, sB, sC]; rfl
      refine take_ (i := 12) (N := some 113) (v := undef) (a' := ?_) (msk 13 30) rfl rfl (by kernel_rfl) (fun _ _ _ h => h) (Or.inr ⟨by rfl, rfl⟩) hHeld ?_ ?_
      rotate_left
      · simp only [Act.put, sA, sB, sC]; rfl
      refine take_ (i := 13) (N := some 114) (v := undef) (a' := ?_) (msk 14 30) rfl rfl (by kernel_rfl) (fun _ _ _ h => h) (Or.inr ⟨by rfl, rfl⟩) hHeld ?_ ?_
      rotate_left
      · simp only [Act.put, sA, sB, sC]; rfl
      refine pure_ (i := 14) (N := some 115) (v := ?_) (a' := ?_) (msk 15 30) rfl rfl (by kernel_rfl) (fun _ _ _ h => h) (Or.inl ⟨by rfl, ?_⟩) ?_ ?_
      rotate_left
      · intro w'; go_simp; with_reducible rfl
      rotate_left
      · simp only [Act.put, sA, sB, sC]; rfl
      refine pure_ (i := 15) (N := some 116) (v := ?_) (a' := ?_) (msk 16 30) rfl rfl (by kernel_rfl) (fun _ _ _ h => h) (Or.inl ⟨by rfl, ?_⟩) ?_ ?_
      rotate_left
      · intro w'; go_simp; with_reducible rfl
      rotate_left
      · simp only [Act.put, sA, sB, sC]; rfl
      refine take_ (i := 16) (N := some 117) (v := undef) (a' := ?_) (msk 17 30) rfl rfl (by kernel_rfl) (fun _ _ _ h => h) (Or.inr ⟨by rfl, rfl⟩) hHeld ?_ ?_
      rotate_left
      · simp only [Act.put, sA, sB, sC]; rfl
      refine take_ (i := 17) (N := some 118) (v := undef) (a' := ?_) (msk 18 30) rfl rfl (by kernel_rfl) (fun _ _ _ h => h) (Or.inr ⟨by rfl, rfl⟩) hHeld ?_ ?_
      rotate_left
      · simp only [Act.put, sA, sB, sC]; rfl
      refine take_ (i := 18) (N := some 119) (v := undef) (a' := ?_) (msk 19 30) rfl rfl (by kernel_rfl) (fun _ _ _ h => h) (Or.inr ⟨by rfl, rfl⟩) hHeld ?_ ?_
      rotate_left
      · simp only [Act.put, sA, sB, sC]; rfl
      refine take_ (i := 19) (N := some 120) (v := undef) (a' := ?_) (msk 20 30) rfl rfl (by kernel_rfl) (fun _ _ _ h => h) (Or.inr ⟨by rfl, rfl⟩) hHeld ?_ ?_
      rotate_left
      · simp only [Act.put, sA, sB, sC]; rfl
      refine take_ (i := 20) (N := some 121) (v := undef) (a' := ?_) (msk 21 30) rfl rfl (by kernel_rfl) (fun _ _ _ h => h) (Or.inr ⟨by rfl, rfl⟩) hHeld ?_ ?_
      rotate_left
      · simp only [Act.put, sA, sB, sC]; rfl
      refine take_ (i := 21) (N := some 122) (v := undef) (a' := ?_) (msk 22 30) rfl rfl (by kernel_rfl) (fun _ _ _ h => h) (Or.inr ⟨by rfl, rfl⟩) hHeld ?_ ?_
      rotate_left
      · simp only [Act.put, sA, sB, sC]; rfl
      refine take_ (i := 22) (N := some 123) (v := undef) (a' := ?_) (msk 23 30) rfl rfl (by kernel_rfl) (fun _ _ _ h => h) (Or.inr ⟨by rfl, rfl⟩) hHeld ?_ ?_
      rotate_left
      · simp only [Act.put, sA, sB, sC]; rfl
      refine take_ (i := 23) (N := some 124) (v := undef) (a' := ?_) (msk 24 30) rfl rfl (by kernel_rfl) (fun _ _ _ h => h) (Or.inr ⟨by rfl, rfl⟩) hHeld ?_ ?_
      rotate_left
      · simp only [Act.put, sA, sB, sC]; rfl
      refine take_ (i := 24) (N := some 125) (v := undef) (a' := ?_) (msk 25 30) rfl rfl (by kernel_rfl) (fun _ _ _ h => h) (Or.inr ⟨by rfl, rfl⟩) hHeld ?_ ?_
      rotate_left
      · simp only [Act.put, sA, sB, sC]; rfl
      refine take_ (i := 25) (N := some 126) (v := undef) (a' := ?_) (msk 26 30) rfl rfl (by kernel_rfl) (fun _ _ _ h => h) (Or.inr ⟨by rfl, rfl⟩) hHeld ?_ ?_
      rotate_left
      · simp only [Act.put, sA, sB, sC]; rfl
      refine take_ (i := 26) (N := some 127) (v := undef) (a' := ?_) (msk 27 30) rfl rfl (by kernel_rfl) (fun _ _ _ h => h) (Or.inr ⟨by rfl, rfl⟩) hHeld ?_ ?_
      rotate_left
      · simp only [Act.put, sA, sB, sC]; rfl
      refine take_ (i := 27) (N := some 128) (v := undef) (a' := ?_) (msk 28 30) rfl rfl (by kernel_rfl) (fun _ _ _ h => h) (Or.inr ⟨by rfl, rfl⟩) hHeld ?_ ?_
      rotate_left
      · simp only [Act.put, sA, sB, sC]; rfl
      refine take_ (i := 28) (N := some 129) (v := undef) (a' := ?_) (msk 29 30) rfl rfl (by kernel_rfl) (fun _ _ _ h => h) (Or.inr ⟨by rfl, rfl⟩) hHeld ?_ ?_
      rotate_left
      · simp only [Act.put, sA, sB, sC]; rfl
      refine pure_ (i := 29) (N := some 130) (v := ?_) (a' := ?_) (msk 30 30) rfl rfl (by kernel_rfl) (fun _ _ _ h => h) (Or.inl ⟨by rfl, ?_⟩) ?_ ?_
      rotate_left
      · intro w'; go_simp; with_reducible rfl
      rotate_left
      · simp only [Act.put, sA, sB, sC]; rfl
      refine done_ (by kernel_rfl) ?_
      try simp only [NoPanic, Exit.then]
      have HN6 := hid HN3.out.drew
      obtain ⟨W6, hW6⟩ : ∃ V, V = W3.drew := ⟨_, rfl⟩
      rw [← hW6] at HN6 ⊢
      clear hW6 hSS hHeld
      by_cases hlast : i + 1 = nl
      case neg =>
       have HD := hid (show decide (l.drop (i + 1) = []) = false by have := HRS.out; simp only [decide_eq_false_iff_not]; exact fun h => hlast (this.1 h))
       have q1 : ((i : Int) == (nl : Int) - 1) = false := by simp; omega
       have q2 : decide ((i : Int) = (nl : Int) - 1) = false := by simp; omega
       have HE := hid (HBAD.out (by rw [HD.out]; simp))
       as_aux_lemma =>
        have l0 := (HN6.out.l 0).trans (show _ = some (.int .u8 x.f0) from rfl)
        have l4 := (HN6.out.l 4).trans (show _ = some (.int .i64 x.f4) from rfl)
        have n0 := HN6.out.n0
        have n1 := HN6.out.n1
        have g0 := HN6.out.f0
        have g1 := HN6.out.f1
        go_wp2
        go_ret2
        exact checked_none HR.out HE.out HN6.out.rc.below
      case pos =>
       have HD := hid (show decide (l.drop (i + 1) = []) = true by simpa using HRS.out.2 hlast)
       have q1 : ((i : Int) == (nl : Int) - 1) = true := by simp; omega
       have q2 : decide ((i : Int) = (nl : Int) - 1) = true := by simp; omega
       have l0 := (HN6.out.l 0).trans (show _ = some (.int .u8 x.f0) from rfl)
       have l4 := (HN6.out.l 4).trans (show _ = some (.int .i64 x.f4) from rfl)
       have n0 := HN6.out.n0
       have n1 := HN6.out.n1
       have g0 := HN6.out.f0
       have g1 := HN6.out.f1
       go_wp2_with fail
       refine (within_c x.f4 i W6).mono ?_
       rintro e8 w8 ⟨rfl, hb8⟩
       have HN8 := hid (HN6.out.move hb8)
       clear hb8 l0 l4 n0 n1 g0 g1
       cases hin4 : inB i x.f4 with
       | false =>
        have HE := hid (HBAD.out (by rw [hk0, rtell_no HNT.out hin4]; simp))
        as_aux_lemma =>
         have l0 := (HN8.out.l 0).trans (show _ = some (.int .u8 x.f0) from rfl)
         have n0 := HN8.out.n0
         have n1 := HN8.out.n1
         have g0 := HN8.out.f0
         have g1 := HN8.out.f1
         go_wp2
         go_ret2
         exact checked_none HR.out HE.out HN8.out.rc.below
       | true =>
        obtain ⟨m, hm, hmi, htm⟩ := rtell_yes HNT.out hin4
        obtain ⟨g, rfl⟩ := HN8.out.form (by have := HNT.out; omega)
        obtain ⟨⟨P, Q⟩, hPQ⟩ : ∃ r, t.getD m (0, 0) = r := ⟨_, rfl⟩
        obtain ⟨c1, c2⟩ := HN8.out.told m HNT.out hmi hPQ
        rw [hPQ] at htm
        have l4 := (HN8.out.l 4).trans (show _ = some (.int .i64 x.f4) from rfl)
        rw [hm] at l4
        have hk1 : ok = decide ((P, Q) = ((0, 1) : Pr)) := by rw [hk0, htm]; rfl
        have HOK := hid hk1
        clear hPQ htm hk0 hk1 hm hp1 hp2
        by_cases z1 : P = 0
        case neg =>
         have HE := hid (HBAD.out (by rw [HOK.out]; simp [z1]))
         have zb : (P == 0) = false := by simp [z1]
         as_aux_lemma =>
          have l0 := (HN8.out.l 0).trans (show _ = some (.int .u8 x.f0) from rfl)
          have n0 := HN8.out.n0
          have n1 := HN8.out.n1
          have g0 := HN8.out.f0
          have g1 := HN8.out.f1
          go_wp2
          go_ret2
          exact checked_none HR.out HE.out HN8.out.rc.below
        case pos =>
         by_cases z2 : Q = 1
         case neg =>
          have HE := hid (HBAD.out (by rw [HOK.out]; simp [z2]))
          have zb : (P == 0) = true := by simp [z1]
          have zc : (Q == 1) = false := by simp [z2]
          as_aux_lemma =>
           have l0 := (HN8.out.l 0).trans (show _ = some (.int .u8 x.f0) from rfl)
           have n0 := HN8.out.n0
           have n1 := HN8.out.n1
           have g0 := HN8.out.f0
           have g1 := HN8.out.f1
           go_wp2
           go_ret2
           exact checked_none HR.out HE.out HN8.out.rc.below
         case pos =>
          have HST := hid (show goM v a t s e (l.drop i) = goM v a (t ++ [(0, 0)]) s true (l.drop (i + 1)) by
           rw [HSTEP.out (by rw [HOK.out]; simp [z1, z2]) (by rw [HD.out]), HRS.out.2 hlast]
           rfl)
          have zb : (P == 0) = true := by simp [z1]
          have zc : (Q == 1) = true := by simp [z2]
          have HLA := hid hlast
          clear hlast
          as_aux_lemma =>
           have l0 := (HN8.out.l 0).trans (show _ = some (.int .u8 x.f0) from rfl)
           have n0 := HN8.out.n0
           have n1 := HN8.out.n1
           have g0 := HN8.out.f0
           have g1 := HN8.out.f1
           have HPA := hid (HN8.out.rc.move ((Below.refl _ w8).alloc (Nat.le_refl _) (.cells #[.int .i64 0, .int .i64 0] 60)))
           have HOW := hid (show (w8.alloc (.cells #[.int .i64 0, .int .i64 0] 60)).ownsRow 0 60 2 (.slice (some ⟨g, 0, none⟩) i ct) i (prs t) by
            have h1 := HPA.out.told
            rw [← HNT.out] at h1
            exact h1)
           go_wp2_with (at_builtin; go_loud (refine wpList_append_lies (w8.alloc (.cells #[.int .i64 0, .int .i64 0] 60)) (by rfl) _ _ _ (by rfl) 0 60 i60 (.agg #[.int .i64 0, .int .i64 0]) 2 16 Tryd.underlying58 HI60.out.1 HI60.out.2.1 HI60.out.2.2.1 HI60.out.2.2.2 rfl (by omega) (.slice (some ⟨g, 0, none⟩) i ct) i (prs t) (by rfl) HOW.out ⟨w8.heap.size, 0, none⟩ 1 1 [.int .i64 0, .int .i64 0] (by rfl) (by rfl) (fun j u hu => World.news_of_block (heap_alloc_new w8 (.cells #[.int .i64 0, .int .i64 0] 60)) j u (by simpa using hu)) (by simp [Value.oneCell']) (by omega) (by unfold maxLen; omega) (by omega) (Nat.zero_le _) (w8.heap.size + 1) (by simp) ?_; intro gz cap w7 ho7 hg7 hat7 hlt7; have H60 := hid (HPA.out.pushT (0, 0) (tv' := .slice (some ⟨gz, 0, none⟩) (i + 1) cap) (by rw [← HNT.out]; exact ho7) hg7 (at_or hat7)); clear ho7 hg7 hat7 hlt7))
           go_roundg left
           case measure => omega
           case rel => exact ⟨i + 1, t ++ [(0, 0)], s, true, _, _, by omega, rfl, rfl, by go_num, by (have := HNT.out; rw [List.length_append, List.length_singleton]; omega), by have := HNS.out; omega, hid H60.out, hid ⟨HST.out.symm.trans HG.out.1, fun h => absurd h (by omega), fun _ => (decide_eq_true HLA.out).symm⟩⟩
    as_aux_lemma =>
     have b1 : (x.f0 == 1) = false := by simp; omega
     have d1 : decide (x.f0 = 1) = false := by simp; omega
     have b2 : (x.f0 == 2) = false := by simp; omega
     have d2 : decide (x.f0 = 2) = false := by simp; omega
     have b3 : (x.f0 == 3) = false := by simp; omega
     have d3 : decide (x.f0 = 3) = false := by simp; omega
     have b4 : (x.f0 == 4) = false := by simp; omega
     have d4 : decide (x.f0 = 4) = false := by simp; omega
     have b5 : (x.f0 == 5) = false := by simp; omega
     have d5 : decide (x.f0 = 5) = false := by simp; omega
     have b6 : (x.f0 == 6) = false := by simp; omega
     have d6 : decide (x.f0 = 6) = false := by simp; omega
     have b7 : (x.f0 == 7) = false := by simp; omega
     have d7 : decide (x.f0 = 7) = false := by simp; omega
     have HLM2 : EE = false ∧ ok = false := by
      have := HLM.out
      unfold linkM at this
      rw [if_neg k1, if_neg k2, if_neg k3, if_neg k4, if_neg k5, if_neg k6, if_neg k7] at this
      cases this
      exact ⟨rfl, rfl⟩
     obtain ⟨rfl, rfl⟩ := HLM2
     have HE := hid (HBAD.out (by simp))
     go_wp2_with fail
     obtain ⟨W3, hW3⟩ : ∃ W3, W3 = (wr.alloc (.cells (lkC x (.slice A6 x.f6.length c6)) 36)).alloc (.cells #[.int .i64 0, .int .i64 0] 60) := ⟨_, rfl⟩
     have HN3 := hid (Rn.made HLr.out (lkC x (.slice A6 x.f6.length c6)))
     obtain ⟨kx, hkx⟩ : ∃ k, k = wr.heap.size := ⟨_, rfl⟩
     rw [← hkx] at HN3
     rw [← hW3] at HN3
     rw [← hW3, ← hkx]
     clear hW3 hkx y0 y1 y2 y3 y4 y5 y6 b0
     have hSS : (fun w' : World => w'.cell? ⟨kx, 0, none⟩ = some (.int .u8 x.f0)) W3.drew := (HN3.out.drew.l 0).trans rfl
     refine wp_region_noPanic ?_
     refine start_ (n := 30) (S := (fun w' : World => w'.cell? ⟨kx, 0, none⟩ = some (.int .u8 x.f0))) (ds := []) (msk 0 30) (by kernel_rfl) rfl rfl hSS (fun hHeld => ?_)
     refine pure_ (i := 0) (N := some 101) (v := ?_) (a' := ?_) (msk 1 30) rfl rfl (by kernel_rfl) (fun _ _ _ h => h) (Or.inl ⟨by rfl, ?_⟩) ?_ ?_
     rotate_left
     · intro w'; go_simp; with_reducible rfl
     rotate_left
     · simp only [Act.put, sA, sB, sC]; rfl
     refine take_ (i := 1) (N := some 102) (v := ?_) (a' := ?_) (msk 2 30) rfl rfl (by kernel_rfl) (fun _ _ _ h => h) (Or.inl ⟨by rfl, ?_⟩) hHeld ?_ ?_
     rotate_left
     ·
      intro w' s0
      go_simp
      with_reducible rfl
     rotate_left
     · simp only [Act.put, sA, sB, sC]; rfl
     refine pure_ (i := 2) (N := some 103) (v := ?_) (a' := ?_) (msk 3 30) rfl rfl (by kernel_rfl) (fun _ _ _ h => h) (Or.inl ⟨by rfl, ?_⟩) ?_ ?_
     rotate_left
     · intro w'; go_simp; with_reducible rfl
     rotate_left
     · simp only [Act.put, sA, sB, sC]; rfl
     refine pure_ (i := 3) (N := some 104) (v := ?_) (a' := ?_) (msk 4 30) rfl rfl (by kernel_rfl) (fun _ _ _ h => h) (Or.inl ⟨by rfl, ?_⟩) ?_ ?_
     rotate_left
     · intro w'; go_simp; with_reducible rfl
     rotate_left
     · simp only [Act.put, sA, sB, sC]; rfl
     refine take_ (i := 4) (N := some 105) (v := undef) (a' := ?_) (msk 5 30) rfl rfl (by kernel_rfl) (fun _ _ _ h => h) (Or.inr ⟨by rfl, rfl⟩) hHeld ?_ ?_
     rotate_left
     · simp only [Act.put, sA, sB, sC]; rfl
     refine take_ (i := 5) (N := some 106) (v := undef) (a' := ?_) (msk 6 30) rfl rfl (by kernel_rfl) (fun _ _ _ h => h) (Or.inr ⟨by rfl, rfl⟩) hHeld ?_ ?_
     rotate_left
     · simp only [Act.put, sA, sB, sC]; rfl
     refine take_ (i := 6) (N := some 107) (v := undef) (a' := ?_) (msk 7 30) rfl rfl (by kernel_rfl) (fun _ _ _ h => h) (Or.inr ⟨by rfl, rfl⟩) hHeld ?_ ?_
     rotate_left
     · simp only [Act.put, sA, sB, sC]; rfl
     refine take_ (i := 7) (N := some 108) (v := undef) (a' := ?_) (msk 8 30) rfl rfl (by kernel_rfl) (fun _ _ _ h => h) (Or.inr ⟨by rfl, rfl⟩) hHeld ?_ ?_
     rotate_left
     · simp only [Act.put, sA, sB, sC]; rfl
     refine pure_ (i := 8) (N := some 109) (v := ?_) (a' := ?_) (msk 9 30) rfl rfl (by kernel_rfl) (fun _ _ _ h => h) (Or.inl ⟨by rfl, ?_⟩) ?_ ?_
     rotate_left
     · intro w'; go_simp; with_reducible rfl
     rotate_left
     · simp only [Act.put, sA, sB, sC]; rfl
     refine pure_ (i := 9) (N := some 110) (v := ?_) (a' := ?_) (msk 10 30) rfl rfl (by kernel_rfl) (fun _ _ _ h => h) (Or.inl ⟨by rfl, ?_⟩) ?_ ?_
     rotate_left
     · intro w'; go_simp; with_reducible rfl
     rotate_left
     · simp only [Act.put, sA, sB, sC]; rfl
     refine take_ (i := 10) (N := some 111) (v := undef) (a' := ?_) (msk 11 30) rfl rfl (by kernel_rfl) (fun _ _ _ h => h) (Or.inr ⟨by rfl, rfl⟩) hHeld ?_ ?_
     rotate_left
     · simp only [Act.put, sA, sB, sC]; rfl
     refine take_ (i := 11) (N := some 112) (v := undef) (a' := ?_) (msk 12 30) rfl rfl (by kernel_rfl) (fun _ _ _ h => h) (Or.inr ⟨by rfl, rfl⟩) hHeld ?_ ?_
     rotate_left
     · simp only [Act.put, sA, sB, sC]; rfl
     refine take_ (i := 12) (N := some 113) (v := undef) (a' := ?_) (msk 13 30) rfl rfl (by kernel_rfl) (fun _ _ _ h => h) (Or.inr ⟨by rfl, rfl⟩) hHeld ?_ ?_
     rotate_left
     · simp only [Act.put, sA, sB, sC]; rfl
     refine take_ (i := 13) (N := some 114) (v := undef) (a' := ?_) (msk 14 30) rfl rfl (by kernel_rfl) (fun _ _ _ h => h) (Or.inr ⟨by rfl, rfl⟩) hHeld ?_ ?_
     rotate_left
     · simp only [Act.put, sA, sB, sC]; rfl
     refine pure_ (i := 14) (N := some 115) (v := ?_) (a' := ?_) (msk 15 30) rfl rfl (by kernel_rfl) (fun _ _ _ h => h) (Or.inl ⟨by rfl, ?_⟩) ?_ ?_
     rotate_left
     · intro w'; go_simp; with_reducible rfl
     rotate_left
     · simp only [Act.put, sA, sB, sC]; rfl
     refine pure_ (i := 15) (N := some 116) (v := ?_) (a' := ?_) (msk 16 30) rfl rfl (by kernel_rfl) (fun _ _ _ h => h) (Or.inl ⟨by rfl, ?_⟩) ?_ ?_
     rotate_left
     · intro w'; go_simp; with_reducible rfl
     rotate_left
     · simp only [Act.put, sA, sB, sC]; rfl
     refine take_ (i := 16) (N := some 117) (v := undef) (a' := ?_) (msk 17 30) rfl rfl (by kernel_rfl) (fun _ _ _ h => h) (Or.inr ⟨by rfl, rfl⟩) hHeld ?_ ?_
     rotate_left
     · simp only [Act.put, sA, sB, sC]; rfl
     refine take_ (i := 17) (N := some 118) (v := undef) (a' := ?_) (msk 18 30) rfl rfl (by kernel_rfl) (fun _ _ _ h => h) (Or.inr ⟨by rfl, rfl⟩) hHeld ?_ ?_
     rotate_left
     · simp only [Act.put, sA, sB, sC]; rfl
     refine take_ (i := 18) (N := some 119) (v := undef) (a' := ?_) (msk 19 30) rfl rfl (by kernel_rfl) (fun _ _ _ h => h) (Or.inr ⟨by rfl, rfl⟩) hHeld ?_ ?_
     rotate_left
     · simp only [Act.put, sA, sB, sC]; rfl
     refine take_ (i := 19) (N := some 120) (v := undef) (a' := ?_) (msk 20 30) rfl rfl (by kernel_rfl) (fun _ _ _ h => h) (Or.inr ⟨by rfl, rfl⟩) hHeld ?_ ?_
     rotate_left
     · simp only [Act.put, sA, sB, sC]; rfl
     refine take_ (i := 20) (N := some 121) (v := undef) (a' := ?_) (msk 21 30) rfl rfl (by kernel_rfl) (fun _ _ _ h => h) (Or.inr ⟨by rfl, rfl⟩) hHeld ?_ ?_
     rotate_left
     · simp only [Act.put, sA, sB, sC]; rfl
     refine take_ (i := 21) (N := some 122) (v := undef) (a' := ?_) (msk 22 30) rfl rfl (by kernel_rfl) (fun _ _ _ h => h) (Or.inr ⟨by rfl, rfl⟩) hHeld ?_ ?_
     rotate_left
     · simp only [Act.put, sA, sB, sC]; rfl
     refine take_ (i := 22) (N := some 123) (v := undef) (a' := ?_) (msk 23 30) rfl rfl (by kernel_rfl) (fun _ _ _ h => h) (Or.inr ⟨by rfl, rfl⟩) hHeld ?_ ?_
     rotate_left
     · simp only [Act.put, sA, sB, sC]; rfl
     refine take_ (i := 23) (N := some 124) (v := undef) (a' := ?_) (msk 24 30) rfl rfl (by kernel_rfl) (fun _ _ _ h => h) (Or.inr ⟨by rfl, rfl⟩) hHeld ?_ ?_
     rotate_left
     · simp only [Act.put, sA, sB, sC]; rfl
     refine take_ (i := 24) (N := some 125) (v := undef) (a' := ?_) (msk 25 30) rfl rfl (by kernel_rfl) (fun _ _ _ h => h) (Or.inr ⟨by rfl, rfl⟩) hHeld ?_ ?_
     rotate_left
     · simp only [Act.put, sA, sB, sC]; rfl
     refine take_ (i := 25) (N := some 126) (v := undef) (a' := ?_) (msk 26 30) rfl rfl (by kernel_rfl) (fun _ _ _ h => h) (Or.inr ⟨by rfl, rfl⟩) hHeld ?_ ?_
     rotate_left
     · simp only [Act.put, sA, sB, sC]; rfl
     refine take_ (i := 26) (N := some 127) (v := undef) (a' := ?_) (msk 27 30) rfl rfl (by kernel_rfl) (fun _ _ _ h => h) (Or.inr ⟨by rfl, rfl⟩) hHeld ?_ ?_
     rotate_left
     · simp only [Act.put, sA, sB, sC]; rfl
     refine take_ (i := 27) (N := some 128) (v := undef) (a' := ?_) (msk 28 30) rfl rfl (by kernel_rfl) (fun _ _ _ h => h) (Or.inr ⟨by rfl, rfl⟩) hHeld ?_ ?_
     rotate_left
     · simp only [Act.put, sA, sB, sC]; rfl
     refine take_ (i := 28) (N := some 129) (v := undef) (a' := ?_) (msk 29 30) rfl rfl (by kernel_rfl) (fun _ _ _ h => h) (Or.inr ⟨by rfl, rfl⟩) hHeld ?_ ?_
     rotate_left
     · simp only [Act.put, sA, sB, sC]; rfl
     refine pure_ (i := 29) (N := some 130) (v := ?_) (a' := ?_) (msk 30 30) rfl rfl (by kernel_rfl) (fun _ _ _ h => h) (Or.inl ⟨by rfl, ?_⟩) ?_ ?_
     rotate_left
     · intro w'; go_simp; with_reducible rfl
     rotate_left
     · simp only [Act.put, sA, sB, sC]; rfl
     refine done_ (by kernel_rfl) ?_
     try simp only [NoPanic, Exit.then]
     go_wp2
     go_ret2
     exact checked_none HR.out HE.out HN3.out.rc.below.drew
end Go.Proofs.YtpopohkbffhckaaDoor.KL
