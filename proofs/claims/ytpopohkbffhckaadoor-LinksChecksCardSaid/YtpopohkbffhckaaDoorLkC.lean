/- Walk of links.Check: a certificate looked at. -/
import Derived.Test.YtpopohkbffhckaaDoorLkPC
import Derived.Test.YtpopohkbffhckaaDoorLkN
import Derived.Test.YtpopohkbffhckaaDoorPLk
import Derived.Test.YtpopohkbffhckaaDoorHkx0
import Derived.Test.YtpopohkbffhckaaDoorHkx1
import Derived.Outline
namespace Go.Proofs.YtpopohkbffhckaaDoor.KL
open Go.RowKit Go.Proofs.YtpopohkbffhckaaDoorW.PrintWords Go.Proofs.YtpopohkbffhckaaDoorW.PrintLast Go.Proofs.YtpopohkbffhckaaDoorW.PrintMore Go.Proofs.YtpopohkbffhckaaDoor.MM Go.Proofs.YtpopohkbffhckaaDoor.Hk
set_option linter.unusedSimpArgs false
set_option linter.unusedVariables false
/-- What links.Check answers: the literals, the error. -/
def checkR (v : List Vx) (a : List At) (l : List Lk) : List Int × Int :=
 if mayM v a = false then ([], 2) else match goM v a [] [] false l with
 | none => ([], 5)
 | some s => (LF.canon s, 0)
/-- A row of literals and an error are answered. -/
def CheckPost (r : List Int × Int) (w : World) (e : Ending) (w' : World) : Prop :=
 ∃ A c, e = .returned (.tuple #[.slice A r.1.length c, .int .i64 r.2]) ∧ r.1.length ≤ c ∧ Kd.C (Kd.int .i64) w' A r.1.length r.1 ∧ Below w.heap.size w w'
theorem nil_C (w : World) : Kd.C (Kd.int .i64) w none 0 [] := ⟨rfl, by omega, fun h => absurd h (by omega)⟩
theorem checkpost_err {v : List Vx} {a : List At} {l : List Lk} {n : Int} {w w' : World} (h : checkR v a l = ([], n)) (hb : Below w.heap.size w w') : CheckPost (checkR v a l) w (.returned (.tuple #[.slice none 0 0, .int .i64 n])) w' := by
 rw [h]
 exact ⟨none, 0, rfl, Nat.le_refl _, nil_C _, hb⟩
theorem checked_none {v : List Vx} {a : List At} {l : List Lk} {w w' : World} (hm : mayM v a = true) (h : goM v a [] [] false l = none) (hb : Below w.heap.size w w') : CheckPost (checkR v a l) w (.returned (.tuple #[.slice none 0 0, .int .i64 5])) w' :=
 checkpost_err (by unfold checkR; rw [hm, h]; rfl) hb
theorem atom_range {a : List At} {y : Int} (h : (atomM a y).isSome = true) : 1 ≤ litN y ∧ litN y ≤ (a.length : Int) := by
 unfold atomM at h
 split at h
 ·
  assumption
 ·
  cases h
theorem normal_yes {l : List Int} (h : MC.mayB l = true) : clauses_Normal.f l = some (LF.canon l, 0) := by
 have hm := h
 unfold MC.mayB at hm
 simp only [Bool.and_eq_true, decide_eq_true_eq, List.all_eq_true] at hm
 unfold clauses_Normal.f clauses_May.f
 rw [h]
 simp only [Option.bind_some, if_true]
 unfold clauses_form.f
 rw [if_pos ⟨by omega, fun x hx => by have := MC.literalB_true.1 (hm.2 x hx); omega⟩]
 rfl
theorem go_snoc_lits {v : List Vx} {a : List At} : ∀ (l : List Lk) (t : List Pr) (s : List Int) (e : Bool) (o : List Int), goM v a t s e l = some o → o.length ≤ s.length + l.length
 | [], t, s, e, o, h => by
  unfold goM at h
  split at h
  ·
   cases h; simp
  ·
   cases h
 | x :: l, t, s, e, o, h => by
  rw [chk_cons] at h
  split at h
  ·
   have := go_snoc_lits l _ _ _ _ h
   have h2 : (litsOf x).length ≤ 1 := by unfold litsOf; split <;> simp
   rw [List.length_append] at this
   rw [List.length_cons]
   omega
  ·
   cases h
theorem check_may {v : List Vx} {a : List At} {l : List Lk} {s : List Int} (h : goM v a [] [] false l = some s) (hl : l.length ≤ 1000) (ha : a.length ≤ 1000) : MC.mayB s = true ∧ s.length ≤ 1000 := by
 have h1 := go_snoc_lits l _ _ _ _ h
 have h2 := chk_range l _ _ _ _ h (by simp)
 have h3 : s.length ≤ 1000 := by simp at h1; omega
 refine ⟨?_, h3⟩
 unfold MC.mayB
 simp only [Bool.and_eq_true, decide_eq_true_eq, List.all_eq_true]
 refine ⟨by omega, fun x hx => MC.literalB_true.2 ?_⟩
 have h4 := atom_range (h2 x hx)
 unfold litN at h4
 split at h4 <;> omega
theorem lk_drop {v : List Vx} {a : List At} {t : List Pr} {s : List Int} {e : Bool} (l : List Lk) (i : Nat) (h : i < l.length) : goM v a t s e (l.drop i) = goM v a t s e (l.getD i lk0 :: l.drop (i + 1)) := by
 rw [List.drop_eq_getElem_cons h, List.getD_eq_getElem?_getD, List.getElem?_eq_getElem h]
 rfl
theorem info54 : (Tryd.prog.info? 54).map (fun i => (i.zero, i.size, i.bytes)) = some (some (.agg #[.int .i64 0, .int .i64 0]), 2, 16) := by kernel_rfl
set_option maxRecDepth 100000 in
set_option maxHeartbeats 6400000 in
theorem check_calls (A0 : Option Addr) (c0 : Nat) (v : List Vx) (A1 : Option Addr) (c1 : Nat) (a : List At) (A2 : Option Addr) (c2 : Nat) (l : List Lk) (w : World) (hv : Kd.C k46 w A0 v.length v) (hc0 : v.length ≤ c0) (ha : Kd.C k66 w A1 a.length a) (hc1 : a.length ≤ c1) (hl : Kd.C k36 w A2 l.length l)
 (hno : Noth w) (hvn : v.length ≤ 1000) (han : a.length ≤ 1000) (hln : l.length ≤ 1000) (hwf : ∀ x ∈ l, (Lit.int .i64 x.f1).wf = true ∧ x.f6.length ≤ 1000) :
 Calls Tryd.prog 11 #[.slice A0 v.length c0, .slice A1 a.length c1, .slice A2 l.length c2] w (CheckPost (checkR v a l) w) := by
 have HV := hid hv
 have HA := hid ha
 have HL := hid hl
 have HCX := hid (show Ctx w A0 c0 v A1 c1 a from ⟨hv, hc0, ha, hc1, hno⟩)
 have HMAY := hid (may_calls A0 c0 v A1 c1 a w hv ha)
 have HWF := hid hwf
 obtain ⟨nv, hnv⟩ : ∃ n, n = v.length := ⟨_, rfl⟩
 obtain ⟨na, hna⟩ : ∃ n, n = a.length := ⟨_, rfl⟩
 obtain ⟨nl, hnl⟩ : ∃ n, n = l.length := ⟨_, rfl⟩
 rw [← hnv, ← hna] at HMAY
 rw [← hnv, ← hna, ← hnl]
 have HNV := hid hnv
 have HNA := hid hna
 have HNL := hid hnl
 have HBN := hid (And.intro hvn (And.intro han hln))
 have hln' : nl ≤ 1000 := by omega
 clear hv ha hl hno hc0 hc1 hnv hna hnl hvn han hln hwf
 cases hm : mayM v a with
 | false =>
  have HE := hid (show checkR v a l = ([], 2) by unfold checkR; rw [if_pos hm])
  rw [hm] at HMAY
  clear hm
  go_enter Tryd.func11, Tryd.ntmps11
  go_wp2_with fail
  refine HMAY.out.mono ?_
  rintro e w1 ⟨rfl, hb1⟩
  have HB1 := hid hb1
  clear hb1
  go_wp2
  go_ret2
  exact checkpost_err HE.out HB1.out
 | true =>
  have HR := hid hm
  rw [hm] at HMAY
  have e1 : decide ((nl : Int) > 20000) = false := by simp; omega
  clear hm
  go_enter Tryd.func11, Tryd.ntmps11
  go_wp2_with fail
  refine HMAY.out.mono ?_
  rintro e w1 ⟨rfl, hb1⟩
  have HB1 := hid hb1
  clear hb1
  go_wp2_with fail
  obtain ⟨W2, hW2⟩ : ∃ W2, W2 = w1.alloc (.cells #[.slice A0 nv c0, .slice A1 na c1, .slice none 0 0, .slice none 0 0] 52) := ⟨_, rfl⟩
  have HLK := hid (Look.made HCX.out HB1.out (w1 := W2) (by rw [hW2, HNV.out, HNA.out]))
  rw [← hW2]
  clear hW2
  obtain ⟨k, hk⟩ : ∃ k, k = w1.heap.size := ⟨_, rfl⟩
  rw [← hk] at HLK ⊢
  clear hk
  go_loopg [9, 10, 11, 12, 13, 14, 30] nl (fun left v9 v10 v11 v12 v13 v14 v30 wr => ∃ (i : Nat) (t : List Pr) (s : List Int) (e : Bool) (tv sv : Value), i + left = nl ∧ v9 = .bool e ∧ v30 = .int .i64 i ∧ t.length = i ∧ s.length ≤ i ∧ Hid (Look w k A0 c0 v A1 c1 a t s tv sv wr) ∧ Hid (goM v a t s e (l.drop i) = goM v a [] [] false l))
  case atStart => exact ⟨0, [], [], false, _, _, by omega, rfl, rfl, rfl, Nat.le_refl _, HLK, hid rfl⟩
  case round =>
   obtain ⟨i, t, s, e, tv, sv, hi, rfl, rfl, ht, hs, HLr, HG⟩ := hrel
   cases gk with
   | zero =>
    have hin : ¬ ((i : Int) < (nl : Int)) := by omega
    obtain ⟨As, cs, rfl, hcs, hCs⟩ := HLr.out.sshape
    have hG : goM v a [] [] false l = if e = true then some s else none := by
     rw [← HG.out, List.drop_eq_nil_of_le (by have := HNL.out; omega)]
     rfl
    cases e with
    | false =>
     have HE := hid (show goM v a [] [] false l = none by rw [hG]; rfl)
     clear hG hcs hCs
     go_wp2
     go_ret2
     exact checked_none HR.out HE.out HLr.out.below
    | true =>
     have HE := hid (show goM v a [] [] false l = some s by rw [hG]; rfl)
     have hms := check_may HE.out HBN.out.2.2 HBN.out.2.1
     have HNO := hid (fun W (hW : Below w.heap.size w W) (hC : Kd.C (Kd.int .i64) W As s.length s) => clauses_Normal.calls As cs s (LF.canon s) 0 W hC hcs (normal_yes hms.1))
     have HCS := hid hCs
     obtain ⟨ns, hns⟩ : ∃ n, n = s.length := ⟨_, rfl⟩
     have hns' : ns ≤ 1000 := by omega
     have e5 : decide ((ns : Int) > 5000) = false := by simp; omega
     have hkc := HLr.out.cells
     have hkl := HLr.out.lt
     obtain ⟨d0, d1, d2, d3⟩ := hkc
     rw [← hns] at d3
     have HNS := hid (hns)
     have HNO2 : Hid (Calls Tryd.prog 20 #[.slice As ns cs] wr fun e w' => ∃ v0_ : Value, e = .returned (.tuple #[v0_, .int .i64 0]) ∧ Kd.R (Kd.int .i64) 33 w' wr.heap.size (fun _ => True) v0_ (LF.canon s) ∧ Below wr.heap.size wr w') := hid (by rw [HNS.out]; exact HNO.out wr HLr.out.below HCS.out)
     clear hG hcs hCs hms HNO hns hs
     go_wp2_with fail
     refine HNO2.out.mono ?_
     rintro e w9 ⟨v0_, rfl, hR9, hb9⟩
     have HR9 := hid hR9
     have HB9 := hid hb9
     clear hR9 hb9
     go_wp2
     go_ret2
     obtain ⟨A9, c9, rfl, hc9, hC9⟩ := Kd.R_reads HR9.out
     have hE : checkR v a l = (LF.canon s, 0) := by unfold checkR; rw [HR.out, HE.out]; rfl
     rw [hE]
     exact ⟨A9, c9, rfl, hc9, hC9, HLr.out.below.trans (HB9.out.mono HLr.out.below.size)⟩
   | succ left =>
    have hin : (i : Int) < (nl : Int) := by omega
    obtain ⟨ad, A6, c6, rfl, x0, x1, x2, x3, x4, x5, x6, l6, C6⟩ := at_T36 HL.out (i : Int) (by omega) (by have := HNL.out; omega)
    rw [show rd_T36 l (i : Int) = l.getD i lk0 from by show l.getD (i : Int).toNat _ = _; rw [Int.toNat_natCast]] at x0 x1 x2 x3 x4 x5 x6 l6 C6
    rw [Int.toNat_natCast] at x0 x1 x2 x3 x4 x5 x6
    have hil : i < l.length := by have := HNL.out; omega
    have hwx := HWF.out (l.getD i lk0) (by rw [List.getD_eq_getElem?_getD, List.getElem?_eq_getElem hil]; exact List.getElem_mem hil)
    have hG := HG.out
    rw [lk_drop l i hil] at hG
    have hrest : (l.drop (i + 1) = []) ↔ i + 1 = nl := by
     rw [List.drop_eq_nil_iff]
     have := HNL.out
     omega
    obtain ⟨x, hx⟩ : ∃ x, l.getD i lk0 = x := ⟨_, rfl⟩
    rw [hx] at x0 x1 x2 x3 x4 x5 x6 l6 C6 hwx hG
    have HG2 := hid hG
    have HRS := hid hrest
    clear hG hrest hx
    have b0 : (ad.add (i * 7)).block < w.heap.size := cell_lt x0
    have y0 := (HLr.out.below.cell (p := ad.add (i * 7)) b0).trans x0
    have y1 := (HLr.out.below.cell (p := ⟨(ad.add (i * 7)).block, (ad.add (i * 7)).off + 1, none⟩) b0).trans x1
    have y2 := (HLr.out.below.cell (p := ⟨(ad.add (i * 7)).block, (ad.add (i * 7)).off + 2, none⟩) b0).trans x2
    have y3 := (HLr.out.below.cell (p := ⟨(ad.add (i * 7)).block, (ad.add (i * 7)).off + 3, none⟩) b0).trans x3
    have y4 := (HLr.out.below.cell (p := ⟨(ad.add (i * 7)).block, (ad.add (i * 7)).off + 4, none⟩) b0).trans x4
    have y5 := (HLr.out.below.cell (p := ⟨(ad.add (i * 7)).block, (ad.add (i * 7)).off + 5, none⟩) b0).trans x5
    have y6 := (HLr.out.below.cell (p := ⟨(ad.add (i * 7)).block, (ad.add (i * 7)).off + 6, none⟩) b0).trans x6
    clear x0 x1 x2 x3 x4 x5 x6
    have HC6 := hid C6
    have HWX := hid hwx
    have hkl := HLr.out.lt
    have HBA := hid (show Below wr.heap.size wr (wr.alloc (.cells (lkC x (.slice A6 x.f6.length c6)) 36)) from (Below.refl _ _).alloc (Nat.le_refl _) _)
    have HCALL := hid (link_calls (HLr.out.move HBA.out) x A6 c6 HC6.out HWX.out.1 HBN.out.2.1 HBN.out.1 HWX.out.2 (by omega))
    obtain ⟨⟨⟨p1, p2⟩, EE, ok⟩, hlm⟩ : ∃ r, linkM v a t x = r := ⟨_, rfl⟩
    have HSTEP := hid (show ok = true → (EE = decide (l.drop (i + 1) = [])) → goM v a t s e (l.drop i) = goM v a (t ++ [(p1, p2)]) (s ++ litsOf x) EE (l.drop (i + 1)) by
     intro h1 h2
     rw [HG.out, ← HG2.out, chk_cons, hlm]
     rw [if_pos ⟨h1, h2⟩])
    have HBAD := hid (show ¬ (ok = true ∧ EE = decide (l.drop (i + 1) = [])) → goM v a t s e (l.drop i) = none by
     intro h1
     rw [HG.out, ← HG2.out, chk_cons, hlm]
     rw [if_neg h1])
    unfold Linked at HCALL
    rw [hlm] at HCALL
    clear hlm C6 hwx l6 HG2
    go_wp2_with fail
    refine HCALL.out.mono ?_
    rintro e3 w3 ⟨rfl, sv', hL3⟩
    have HL3 := hid hL3
    clear hL3 y0 y1 y2 y3 y4 y5 y6
    have HTI := hid ht
    have HSI := hid hs
    have HLI := hid (show (litsOf x).length ≤ 1 by unfold litsOf; split <;> simp)
    clear ht hs HCALL HLr
    cases ok with
    | false =>
     have HE := hid (show goM v a [] [] false l = none by rw [← HG.out]; exact HBAD.out (by simp))
     go_wp2
     go_ret2
     exact checked_none HR.out HE.out (HL3.out.below.alloc HL3.out.below.size _)
    | true =>
     by_cases hlast : i + 1 = nl
     ·
      have HD := hid (show decide (l.drop (i + 1) = []) = true by simpa using HRS.out.2 hlast)
      have q1 : ((i : Int) == (nl : Int) - 1) = true := by simp; omega
      have q2 : decide ((i : Int) = (nl : Int) - 1) = true := by simp; omega
      have q3 : (true == ((i : Int) == (nl : Int) - 1)) = true := by rw [q1]; rfl
      have q4 : (false == ((i : Int) == (nl : Int) - 1)) = false := by rw [q1]; rfl
      cases EE with
      | false =>
       have HE := hid (show goM v a [] [] false l = none by rw [← HG.out]; exact HBAD.out (by rw [HD.out]; simp))
       go_wp2
       go_ret2
       exact checked_none HR.out HE.out (HL3.out.below.alloc HL3.out.below.size _)
      | true =>
       go_wp2_with fail
       obtain ⟨W4, hW4⟩ : ∃ W4, W4 = w3.alloc (.cells #[.int .i64 p1, .int .i64 p2] 54) := ⟨_, rfl⟩
       have y0 : W4.cell? ⟨w3.heap.size, 0, none⟩ = some (.int .i64 p1) := by rw [hW4]; exact (blk_cell (heap_alloc_new w3 _) 0).trans rfl
       have y1 : W4.cell? ⟨w3.heap.size, 1, none⟩ = some (.int .i64 p2) := by rw [hW4]; exact (blk_cell (heap_alloc_new w3 _) 1).trans rfl
       have hL4 : Look w k A0 c0 v A1 c1 a t (s ++ litsOf x) tv sv' W4 := by rw [hW4]; exact HL3.out.move ((Below.refl _ _).alloc (Nat.le_refl _) _)
       rw [← hW4]
       clear hW4
       obtain ⟨At, ct, rfl⟩ := hL4.tshape
       obtain ⟨nt, hnt⟩ : ∃ n, n = t.length := ⟨_, rfl⟩
       have hnt' : nt ≤ 1000 := by have := HTI.out; omega
       rw [← hnt] at hL4
       have HL4 := hid hL4
       have HNT := hid hnt
       clear hL4 hnt
       obtain ⟨i54, hi54, hz0, hz1, hz2⟩ := info_parts info54
       have hk4 := HL4.out.lt
       obtain ⟨_, _, y2, _⟩ := HL4.out.cells
       have HLA := hid (HL4.out.drew.move ((Below.refl _ W4.drew).alloc (Nat.le_refl _) (.cells #[.int .i64 p1, .int .i64 p2] 54)))
       have HBA4 := hid ((Below.refl _ W4.drew).alloc (Nat.le_refl _) (.cells #[.int .i64 p1, .int .i64 p2] 54))
       have HKS := hid (show some k ≠ (Value.slice At nt ct).ownBlock from fun e => (HL4.out.tnew k e.symm).2 rfl)
       have HOW := hid (show (W4.drew.alloc (.cells #[.int .i64 p1, .int .i64 p2] 54)).ownsRow 0 54 2 (.slice At nt ct) nt (prs t) by
        have h1 := HLA.out.told
        rw [← HNT.out] at h1
        exact h1)
       have hSS : (fun w' : World => w'.cell? ⟨k, 2, none⟩ = some (.slice At nt ct) ∧ w'.cell? ⟨w3.heap.size, 0, none⟩ = some (.int .i64 p1) ∧ w'.cell? ⟨w3.heap.size, 1, none⟩ = some (.int .i64 p2)) W4.drew := ⟨y2, y0, y1⟩
       refine wp_region_noPanic ?_
       refine start_ (n := 11) (S := (fun w' : World => w'.cell? ⟨k, 2, none⟩ = some (.slice At nt ct) ∧ w'.cell? ⟨w3.heap.size, 0, none⟩ = some (.int .i64 p1) ∧ w'.cell? ⟨w3.heap.size, 1, none⟩ = some (.int .i64 p2))) (ds := [7, 10]) (msk 0 11) (by kernel_rfl) rfl rfl hSS (fun hHeld => ?_)
       refine pure_ (i := 0) (N := some 53) (v := ?_) (a' := ?_) (msk 1 11) rfl rfl (by kernel_rfl) (fun _ _ _ h => h) (Or.inl ⟨by rfl, ?_⟩) ?_ ?_
       rotate_left
       · intro w'; go_simp; with_reducible rfl
       rotate_left
       · simp only [Act.put, sA, sB, sC]; rfl
       refine take_ (i := 1) (N := some 54) (v := ?_) (a' := ?_) (msk 2 11) rfl rfl (by kernel_rfl) (fun _ _ _ h => h) (Or.inl ⟨by rfl, ?_⟩) hHeld ?_ ?_
       rotate_left
       · rintro w' ⟨s0, s1, s2⟩; go_simp; with_reducible rfl
       rotate_left
       · simp only [Act.put, sA, sB, sC]; rfl
       refine take_ (i := 2) (N := some 55) (v := ?_) (a' := ?_) (msk 3 11) rfl rfl (by kernel_rfl) (fun _ _ _ h => h) (Or.inl ⟨by rfl, ?_⟩) hHeld ?_ ?_
       rotate_left
       · rintro w' ⟨s0, s1, s2⟩; go_simp; with_reducible rfl
       rotate_left
       · simp only [Act.put, sA, sB, sC]; rfl
       refine take_ (i := 3) (N := some 56) (v := ?_) (a' := ?_) (msk 4 11) rfl rfl (by kernel_rfl) (fun _ _ _ h => h) (Or.inl ⟨by rfl, ?_⟩) hHeld ?_ ?_
       rotate_left
       · rintro w' ⟨s0, s1, s2⟩; go_simp; with_reducible rfl
       rotate_left
       · simp only [Act.put, sA, sB, sC]; rfl
       refine take_ (i := 4) (N := some 57) (v := ?_) (a' := ?_) (msk 5 11) rfl rfl (by kernel_rfl) (fun _ _ _ h => h) (Or.inl ⟨by rfl, ?_⟩) hHeld ?_ ?_
       rotate_left
       · rintro w' ⟨s0, s1, s2⟩; go_simp; with_reducible rfl
       rotate_left
       · simp only [Act.put, sA, sB, sC]; rfl
       refine take_ (i := 5) (N := some 58) (v := ?_) (a' := ?_) (msk 6 11) rfl rfl (by kernel_rfl) (fun _ _ _ h => h) (Or.inl ⟨by rfl, ?_⟩) hHeld ?_ ?_
       rotate_left
       · rintro w' ⟨s0, s1, s2⟩; go_simp; with_reducible rfl
       rotate_left
       · simp only [Act.put, sA, sB, sC]; rfl
       refine one_ (i := 6) (N := some 59) (msk 7 11) rfl rfl (by kernel_rfl) (by decide) (fun K hK => ?_)
       refine value_ (by rfl) rfl (v := .slice (some ⟨W4.heap.size, 0, none⟩) 1 1) (w1 := W4.drew.alloc (.cells #[.int .i64 p1, .int .i64 p2] 54)) (by go_simp; first | done | rfl) ?_
       refine hK.out _ _ ⟨(HLA.out.cells).2.2.1, (HBA4.out.cell (p := ⟨w3.heap.size, 0, none⟩) (cell_lt y0)).trans y0, (HBA4.out.cell (p := ⟨w3.heap.size, 1, none⟩) (cell_lt y1)).trans y1⟩ (fun hHeld => ?_)
       refine norm_ (a' := ?_) ?_ ?_
       rotate_left
       · simp only [Act.put, sA, sB, sC]; rfl
       refine last_ (i := 7) (N := some 60) (msk 8 11) rfl rfl (by kernel_rfl) (by decide) (fun K hK => ?_)
       refine step_append_lies _ (by rfl) _ _ _ (by rfl) 0 54 i54 (.agg #[.int .i64 0, .int .i64 0]) 2 16 Tryd.underlying50 hi54 hz0 hz1 hz2 rfl (by omega) (.slice At nt ct) nt (prs t) (by rfl) HOW.out ⟨W4.heap.size, 0, none⟩ 1 1 [.int .i64 p1, .int .i64 p2] (by rfl) (by rfl) (fun j u hu => World.news_of_block (heap_alloc_new W4.drew (.cells #[.int .i64 p1, .int .i64 p2] 54)) j u (by simpa using hu)) (by simp [Value.oneCell']) (by omega) (by unfold maxLen; omega) (by omega) (Nat.zero_le _) (W4.heap.size + 1) (by simp) ?_
       intro g cap w5 ho5 hg5 hat5 hlt5
       refine hK.out _ _ ?_
       refine norm_ (a' := ?_) ?_ ?_
       rotate_left
       · simp only [Act.put, sA, sB, sC]; rfl
       have hk5 := (hg5.block k (by simp; omega) HKS.out).trans HLA.out.blk
       have c5 : w5.cell? ⟨k, 2, none⟩ = some (.slice At nt ct) := (blk_cell hk5 2).trans rfl
       have f5 : w5.frozen? ⟨k, 2, none⟩ = false := blk_frozen hk5 2
       refine pure_ (i := 8) (N := some 61) (v := ?_) (a' := ?_) (msk 9 11) rfl rfl (by kernel_rfl) (fun _ _ _ h => h) (Or.inl ⟨by rfl, ?_⟩) ?_ ?_
       rotate_left
       · intro w'; go_simp; with_reducible rfl
       rotate_left
       · simp only [Act.put, sA, sB, sC]; rfl
       refine pure_ (i := 9) (N := some 62) (v := ?_) (a' := ?_) (msk 10 11) rfl rfl (by kernel_rfl) (fun _ _ _ h => h) (Or.inl ⟨by rfl, ?_⟩) ?_ ?_
       rotate_left
       · intro w'; go_simp; with_reducible rfl
       rotate_left
       · simp only [Act.put, sA, sB, sC]; rfl
       refine last_ (i := 10) (N := none) (msk 11 11) rfl rfl (by kernel_rfl) (by decide) (fun K hK => ?_)
       refine skip_ (by rfl) rfl (w1 := w5.setCell ⟨k, 2, none⟩ (.slice (some ⟨g, 0, none⟩) (nt + 1) cap)) (by go_simp; first | done | rfl) ?_
       refine hK.out _ _ ?_
       refine done_ (by kernel_rfl) ?_
       try simp only [NoPanic, Exit.then]
       have HL7 := hid (HLA.out.pushT (p1, p2) (tv' := .slice (some ⟨g, 0, none⟩) (nt + 1) cap) (by rw [show t.length + 1 = nt + 1 by rw [HNT.out]]; exact ho5) hg5 (fun g' hg' => by
        have hg' : g = g' := by simpa [Value.ownBlock] using hg'
        rcases hat5 with h1 | h1
        ·
         exact .inl (by rw [← hg']; exact h1)
        ·
         exact .inr (by simp; omega)))
       clear ho5 hg5 hat5 hlt5 hk5 c5 f5 hi54 hz0 hz1 hz2 y0 y1 y2 HLA HKS HOW HBA4
       obtain ⟨W7, hW7⟩ : ∃ W7, W7 = w5.setCell ⟨k, 2, none⟩ (.slice (some ⟨g, 0, none⟩) (nt + 1) cap) := ⟨_, rfl⟩
       rw [← hW7] at HL7 ⊢
       clear hW7
       go_wp2_with fail
       go_roundg left
       case measure => omega
       case rel => exact ⟨i + 1, t ++ [(p1, p2)], s ++ litsOf x, true, _, sv', by omega, rfl, by go_num, by (have := HTI.out; rw [List.length_append]; simp; omega), by (have := HSI.out; have := HLI.out; rw [List.length_append]; omega), hid HL7.out, hid (by rw [← HG.out]; exact (HSTEP.out (by first | trivial | rfl) (by rw [HD.out])).symm)⟩
     ·
      have HD := hid (show decide (l.drop (i + 1) = []) = false by have := HRS.out; simp only [decide_eq_false_iff_not]; exact fun h => hlast (this.1 h))
      have q1 : ((i : Int) == (nl : Int) - 1) = false := by simp; omega
      have q2 : decide ((i : Int) = (nl : Int) - 1) = false := by simp; omega
      have q3 : (true == ((i : Int) == (nl : Int) - 1)) = false := by rw [q1]; rfl
      have q4 : (false == ((i : Int) == (nl : Int) - 1)) = true := by rw [q1]; rfl
      cases EE with
      | true =>
       have HE := hid (show goM v a [] [] false l = none by rw [← HG.out]; exact HBAD.out (by rw [HD.out]; simp))
       go_wp2
       go_ret2
       exact checked_none HR.out HE.out (HL3.out.below.alloc HL3.out.below.size _)
      | false =>
       go_wp2_with fail
       obtain ⟨W4, hW4⟩ : ∃ W4, W4 = w3.alloc (.cells #[.int .i64 p1, .int .i64 p2] 54) := ⟨_, rfl⟩
       have y0 : W4.cell? ⟨w3.heap.size, 0, none⟩ = some (.int .i64 p1) := by rw [hW4]; exact (blk_cell (heap_alloc_new w3 _) 0).trans rfl
       have y1 : W4.cell? ⟨w3.heap.size, 1, none⟩ = some (.int .i64 p2) := by rw [hW4]; exact (blk_cell (heap_alloc_new w3 _) 1).trans rfl
       have hL4 : Look w k A0 c0 v A1 c1 a t (s ++ litsOf x) tv sv' W4 := by rw [hW4]; exact HL3.out.move ((Below.refl _ _).alloc (Nat.le_refl _) _)
       rw [← hW4]
       clear hW4
       obtain ⟨At, ct, rfl⟩ := hL4.tshape
       obtain ⟨nt, hnt⟩ : ∃ n, n = t.length := ⟨_, rfl⟩
       have hnt' : nt ≤ 1000 := by have := HTI.out; omega
       rw [← hnt] at hL4
       have HL4 := hid hL4
       have HNT := hid hnt
       clear hL4 hnt
       obtain ⟨i54, hi54, hz0, hz1, hz2⟩ := info_parts info54
       have hk4 := HL4.out.lt
       obtain ⟨_, _, y2, _⟩ := HL4.out.cells
       have HLA := hid (HL4.out.drew.move ((Below.refl _ W4.drew).alloc (Nat.le_refl _) (.cells #[.int .i64 p1, .int .i64 p2] 54)))
       have HBA4 := hid ((Below.refl _ W4.drew).alloc (Nat.le_refl _) (.cells #[.int .i64 p1, .int .i64 p2] 54))
       have HKS := hid (show some k ≠ (Value.slice At nt ct).ownBlock from fun e => (HL4.out.tnew k e.symm).2 rfl)
       have HOW := hid (show (W4.drew.alloc (.cells #[.int .i64 p1, .int .i64 p2] 54)).ownsRow 0 54 2 (.slice At nt ct) nt (prs t) by
        have h1 := HLA.out.told
        rw [← HNT.out] at h1
        exact h1)
       have hSS : (fun w' : World => w'.cell? ⟨k, 2, none⟩ = some (.slice At nt ct) ∧ w'.cell? ⟨w3.heap.size, 0, none⟩ = some (.int .i64 p1) ∧ w'.cell? ⟨w3.heap.size, 1, none⟩ = some (.int .i64 p2)) W4.drew := ⟨y2, y0, y1⟩
       refine wp_region_noPanic ?_
       refine start_ (n := 11) (S := (fun w' : World => w'.cell? ⟨k, 2, none⟩ = some (.slice At nt ct) ∧ w'.cell? ⟨w3.heap.size, 0, none⟩ = some (.int .i64 p1) ∧ w'.cell? ⟨w3.heap.size, 1, none⟩ = some (.int .i64 p2))) (ds := [7, 10]) (msk 0 11) (by kernel_rfl) rfl rfl hSS (fun hHeld => ?_)
       refine pure_ (i := 0) (N := some 53) (v := ?_) (a' := ?_) (msk 1 11) rfl rfl (by kernel_rfl) (fun _ _ _ h => h) (Or.inl ⟨by rfl, ?_⟩) ?_ ?_
       rotate_left
       · intro w'; go_simp; with_reducible rfl
       rotate_left
       · simp only [Act.put, sA, sB, sC]; rfl
       refine take_ (i := 1) (N := some 54) (v := ?_) (a' := ?_) (msk 2 11) rfl rfl (by kernel_rfl) (fun _ _ _ h => h) (Or.inl ⟨by rfl, ?_⟩) hHeld ?_ ?_
       rotate_left
       · rintro w' ⟨s0, s1, s2⟩; go_simp; with_reducible rfl
       rotate_left
       · simp only [Act.put, sA, sB, sC]; rfl
       refine take_ (i := 2) (N := some 55) (v := ?_) (a' := ?_) (msk 3 11) rfl rfl (by kernel_rfl) (fun _ _ _ h => h) (Or.inl ⟨by rfl, ?_⟩) hHeld ?_ ?_
       rotate_left
       · rintro w' ⟨s0, s1, s2⟩; go_simp; with_reducible rfl
       rotate_left
       · simp only [Act.put, sA, sB, sC]; rfl
       refine take_ (i := 3) (N := some 56) (v := ?_) (a' := ?_) (msk 4 11) rfl rfl (by kernel_rfl) (fun _ _ _ h => h) (Or.inl ⟨by rfl, ?_⟩) hHeld ?_ ?_
       rotate_left
       · rintro w' ⟨s0, s1, s2⟩; go_simp; with_reducible rfl
       rotate_left
       · simp only [Act.put, sA, sB, sC]; rfl
       refine take_ (i := 4) (N := some 57) (v := ?_) (a' := ?_) (msk 5 11) rfl rfl (by kernel_rfl) (fun _ _ _ h => h) (Or.inl ⟨by rfl, ?_⟩) hHeld ?_ ?_
       rotate_left
       · rintro w' ⟨s0, s1, s2⟩; go_simp; with_reducible rfl
       rotate_left
       · simp only [Act.put, sA, sB, sC]; rfl
       refine take_ (i := 5) (N := some 58) (v := ?_) (a' := ?_) (msk 6 11) rfl rfl (by kernel_rfl) (fun _ _ _ h => h) (Or.inl ⟨by rfl, ?_⟩) hHeld ?_ ?_
       rotate_left
       · rintro w' ⟨s0, s1, s2⟩; go_simp; with_reducible rfl
       rotate_left
       · simp only [Act.put, sA, sB, sC]; rfl
       refine one_ (i := 6) (N := some 59) (msk 7 11) rfl rfl (by kernel_rfl) (by decide) (fun K hK => ?_)
       refine value_ (by rfl) rfl (v := .slice (some ⟨W4.heap.size, 0, none⟩) 1 1) (w1 := W4.drew.alloc (.cells #[.int .i64 p1, .int .i64 p2] 54)) (by go_simp; first | done | rfl) ?_
       refine hK.out _ _ ⟨(HLA.out.cells).2.2.1, (HBA4.out.cell (p := ⟨w3.heap.size, 0, none⟩) (cell_lt y0)).trans y0, (HBA4.out.cell (p := ⟨w3.heap.size, 1, none⟩) (cell_lt y1)).trans y1⟩ (fun hHeld => ?_)
       refine norm_ (a' := ?_) ?_ ?_
       rotate_left
       · simp only [Act.put, sA, sB, sC]; rfl
       refine last_ (i := 7) (N := some 60) (msk 8 11) rfl rfl (by kernel_rfl) (by decide) (fun K hK => ?_)
       refine step_append_lies _ (by rfl) _ _ _ (by rfl) 0 54 i54 (.agg #[.int .i64 0, .int .i64 0]) 2 16 Tryd.underlying50 hi54 hz0 hz1 hz2 rfl (by omega) (.slice At nt ct) nt (prs t) (by rfl) HOW.out ⟨W4.heap.size, 0, none⟩ 1 1 [.int .i64 p1, .int .i64 p2] (by rfl) (by rfl) (fun j u hu => World.news_of_block (heap_alloc_new W4.drew (.cells #[.int .i64 p1, .int .i64 p2] 54)) j u (by simpa using hu)) (by simp [Value.oneCell']) (by omega) (by unfold maxLen; omega) (by omega) (Nat.zero_le _) (W4.heap.size + 1) (by simp) ?_
       intro g cap w5 ho5 hg5 hat5 hlt5
       refine hK.out _ _ ?_
       refine norm_ (a' := ?_) ?_ ?_
       rotate_left
       · simp only [Act.put, sA, sB, sC]; rfl
       have hk5 := (hg5.block k (by simp; omega) HKS.out).trans HLA.out.blk
       have c5 : w5.cell? ⟨k, 2, none⟩ = some (.slice At nt ct) := (blk_cell hk5 2).trans rfl
       have f5 : w5.frozen? ⟨k, 2, none⟩ = false := blk_frozen hk5 2
       refine pure_ (i := 8) (N := some 61) (v := ?_) (a' := ?_) (msk 9 11) rfl rfl (by kernel_rfl) (fun _ _ _ h => h) (Or.inl ⟨by rfl, ?_⟩) ?_ ?_
       rotate_left
       · intro w'; go_simp; with_reducible rfl
       rotate_left
       · simp only [Act.put, sA, sB, sC]; rfl
       refine pure_ (i := 9) (N := some 62) (v := ?_) (a' := ?_) (msk 10 11) rfl rfl (by kernel_rfl) (fun _ _ _ h => h) (Or.inl ⟨by rfl, ?_⟩) ?_ ?_
       rotate_left
       · intro w'; go_simp; with_reducible rfl
       rotate_left
       · simp only [Act.put, sA, sB, sC]; rfl
       refine last_ (i := 10) (N := none) (msk 11 11) rfl rfl (by kernel_rfl) (by decide) (fun K hK => ?_)
       refine skip_ (by rfl) rfl (w1 := w5.setCell ⟨k, 2, none⟩ (.slice (some ⟨g, 0, none⟩) (nt + 1) cap)) (by go_simp; first | done | rfl) ?_
       refine hK.out _ _ ?_
       refine done_ (by kernel_rfl) ?_
       try simp only [NoPanic, Exit.then]
       have HL7 := hid (HLA.out.pushT (p1, p2) (tv' := .slice (some ⟨g, 0, none⟩) (nt + 1) cap) (by rw [show t.length + 1 = nt + 1 by rw [HNT.out]]; exact ho5) hg5 (fun g' hg' => by
        have hg' : g = g' := by simpa [Value.ownBlock] using hg'
        rcases hat5 with h1 | h1
        ·
         exact .inl (by rw [← hg']; exact h1)
        ·
         exact .inr (by simp; omega)))
       clear ho5 hg5 hat5 hlt5 hk5 c5 f5 hi54 hz0 hz1 hz2 y0 y1 y2 HLA HKS HOW HBA4
       obtain ⟨W7, hW7⟩ : ∃ W7, W7 = w5.setCell ⟨k, 2, none⟩ (.slice (some ⟨g, 0, none⟩) (nt + 1) cap) := ⟨_, rfl⟩
       rw [← hW7] at HL7 ⊢
       clear hW7
       go_wp2_with fail
       go_roundg left
       case measure => omega
       case rel => exact ⟨i + 1, t ++ [(p1, p2)], s ++ litsOf x, false, _, sv', by omega, rfl, by go_num, by (have := HTI.out; rw [List.length_append]; simp; omega), by (have := HSI.out; have := HLI.out; rw [List.length_append]; omega), hid HL7.out, hid (by rw [← HG.out]; exact (HSTEP.out (by first | trivial | rfl) (by rw [HD.out])).symm)⟩
end Go.Proofs.YtpopohkbffhckaaDoor.KL
