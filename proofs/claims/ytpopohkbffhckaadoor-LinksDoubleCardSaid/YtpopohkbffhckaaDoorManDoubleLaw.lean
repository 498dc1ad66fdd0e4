/- Walk of the law LinksDouble. -/
import Derived.Test.YtpopohkbffhckaaDoorManMoreKLaw
namespace Go.Proofs.YtpopohkbffhckaaDoor.KL
open Go.Proofs.YtpopohkbffhckaaDoor.Pure Go.RowKit Go.Proofs.YtpopohkbffhckaaDoorW.PrintWords Go.Proofs.YtpopohkbffhckaaDoorW.PrintLast Go.Proofs.YtpopohkbffhckaaDoorW.PrintMore Go.Proofs.YtpopohkbffhckaaDoor.MM Go.Proofs.YtpopohkbffhckaaDoor.Hk Go.Proofs.YtpopohkbffhckaaDoor.RC
set_option linter.unusedSimpArgs false
set_option linter.unusedVariables false
def dbl2 (l : List Lk) : List Lk := l.flatMap fun x => [dblL x, dblL x]
theorem dbl2_snoc (l : List Lk) (x : Lk) : dbl2 (l ++ [x]) = dbl2 l ++ [dblL x] ++ [dblL x] := by simp [dbl2]
theorem dblAll_snoc (x : Lk) : ∀ l : List Lk, dblAll (l ++ [x]) = dbl2 l ++ [dblL x]
  | [] => rfl
  | [y] => rfl
  | y :: z :: l => by
    have ih := dblAll_snoc x (z :: l)
    simp only [List.cons_append] at ih ⊢
    rw [dblAll, ih]
    rfl
theorem dblAll_len : ∀ l : List Lk, (dblAll l).length ≤ 2 * l.length
  | [] => by simp [dblAll]
  | [x] => by simp [dblAll]
  | x :: y :: l => by
    have := dblAll_len (y :: l)
    rw [dblAll]
    simp only [List.length_cons] at this ⊢
    omega
theorem dblAll_mem : ∀ (l : List Lk) (y : Lk), y ∈ dblAll l → ∃ x ∈ l, y = dblL x
  | [], y, h => by simp [dblAll] at h
  | [x], y, h => ⟨x, by simp, by simpa [dblAll] using h⟩
  | x :: z :: l, y, h => by
    rw [dblAll, List.mem_cons, List.mem_cons] at h
    rcases h with h | h | h
    · exact ⟨x, by simp, h⟩
    · exact ⟨x, by simp, h⟩
    · obtain ⟨q, hq, he⟩ := dblAll_mem (z :: l) y h
      exact ⟨q, List.mem_cons_of_mem _ hq, he⟩
theorem canon_same {s s' : List Int} (h : ∀ y, y ∈ s ↔ y ∈ s') : LF.canon s' = LF.canon s := LF.canon_eq (LF.rising_canon _) fun x => by rw [LF.mem_canon, h]
theorem check_dbl (v : List Vx) (a : List At) (l : List Lk) : checkR v a (dblAll l) = checkR v a l := by
  unfold checkR
  split
  · rfl
  · have h := chk_dbl (v := v) (a := a) l [] [] [] false (fun _ => Iff.rfl) (by simp)
    rw [show dblT [] = [] from rfl] at h
    cases h1 : goM v a [] [] false l with
    | none =>
      cases h2 : goM v a [] [] false (dblAll l) with
      | none => rfl
      | some u => rw [h1, h2] at h; exact h.elim
    | some s =>
      cases h2 : goM v a [] [] false (dblAll l) with
      | none => rw [h1, h2] at h; exact h.elim
      | some u =>
        rw [h1, h2] at h
        show (LF.canon u, 0) = (LF.canon s, 0)
        rw [canon_same h.1]
theorem info36' : (Tryd.prog.info? 36).map (fun i => (i.zero, i.size, i.bytes)) = some (some (.agg #[.int .u8 0, .int .i64 0, .int .i64 0, .int .i64 0, .int .i64 0, .int .i64 0, .slice none 0 0]), 7, 72) := by kernel_rfl
/-- The row of links so far, at the head of a round. -/
def msOf (l : List Lk) (i : Nat) : List Lk := if i < l.length then dbl2 (l.take i) else dblAll l
theorem msOf_zero (l : List Lk) : msOf l 0 = [] := by
  unfold msOf
  split
  · rfl
  · have : l = [] := List.eq_nil_of_length_eq_zero (by omega)
    rw [this]
    rfl
theorem msOf_mid {l : List Lk} {i : Nat} (h : i + 1 < l.length) : msOf l (i + 1) = msOf l i ++ [dblL (l.getD i lk0)] ++ [dblL (l.getD i lk0)] := by
  unfold msOf
  rw [if_pos h, if_pos (by omega), List.take_succ_eq_append_getElem (by omega), dbl2_snoc]
  rw [List.getD_eq_getElem?_getD, List.getElem?_eq_getElem (by omega)]
  rfl
theorem msOf_last {l : List Lk} {i : Nat} (h : i + 1 = l.length) : msOf l (i + 1) = msOf l i ++ [dblL (l.getD i lk0)] := by
  unfold msOf
  rw [if_neg (by omega), if_pos (by omega)]
  have h1 : l = l.take i ++ [l.getD i lk0] := by
    rw [List.getD_eq_getElem?_getD, List.getElem?_eq_getElem (by omega)]
    show l = l.take i ++ [l[i]]
    rw [← List.take_succ_eq_append_getElem (by omega), h, List.take_length]
  conv => lhs; rw [h1]
  rw [dblAll_snoc]
theorem msOf_len {l : List Lk} {i : Nat} (h : i ≤ l.length) : (msOf l i).length ≤ 2 * l.length := by
  unfold msOf
  split
  · have : ∀ m : List Lk, (dbl2 m).length = 2 * m.length := by
      intro m
      induction m with
      | nil => rfl
      | cons x m ih => simp only [dbl2, List.flatMap_cons, List.length_append, List.length_cons, List.length_nil] at ih ⊢; omega
    rw [this, List.length_take]
    omega
  · exact dblAll_len l
theorem R_in {α : Type} {d : Kd α} {e : Nat} {W W' : World} {base lo hi : Nat} {v : Value} {xs : List α} (h : d.R e W lo (fun _ => True) v xs) (hb : base ≤ lo) (hhi : W.heap.size ≤ hi) (hm : ∀ k, lo ≤ k → k < hi → k < W.heap.size → W'.heap[k]? = W.heap[k]?) : d.R e W' base (fun k => lo ≤ k ∧ k < hi) v xs := by
  have h1 := Kd.R_mono (Kd.R_bound h) (ok' := fun k => lo ≤ k ∧ k < W.heap.size) (fun k hk => ⟨hk.2.1, hk.2.2.1⟩)
  have h2 := Kd.R_move h1 (w1 := W') (fun k hk => hm k hk.1 (by omega) hk.2)
  exact Kd.R_lower (Kd.R_mono h2 (fun k hk => ⟨hk.1, by omega⟩)) hb
theorem R_keep {α : Type} {d : Kd α} {e : Nat} {W W' : World} {lo : Nat} {v : Value} {xs : List α} (h : d.R e W lo (fun _ => True) v xs) (hm : ∀ k, lo ≤ k → k < W.heap.size → W'.heap[k]? = W.heap[k]?) : d.R e W' lo (fun _ => True) v xs :=
  Kd.R_mono (R_in h (Nat.le_refl _) (Nat.le_refl _) (fun k h1 _ h2 => hm k h1 h2)) (fun _ _ => trivial)
theorem R_below_of {α : Type} {d : Kd α} {e : Nat} {W W' : World} {lo : Nat} {v : Value} {xs : List α} (h : d.R e W lo (fun _ => True) v xs) (hb : Below W.heap.size W W') : d.R e W' lo (fun _ => True) v xs := R_keep h (fun k _ hk => hb.block k hk)
theorem not_own7 {V9 V7 : Value} {lo hi : Nat} (hmv : ∀ q, V9.ownBlock = some q → q < lo) (hat : V7.ownBlock = V9.ownBlock ∨ ∃ b, V7.ownBlock = some b ∧ hi ≤ b) : ∀ q, lo + 1 ≤ q ∧ q < hi → True ∧ some q ≠ V7.ownBlock := fun q hq => ⟨trivial, fun he => by
  rcases hat with h1 | ⟨b, h1, h2⟩
  · have := hmv q (h1.symm.trans he.symm)
    omega
  · have : b = q := Option.some.inj (h1.symm.trans he.symm)
    omega⟩
set_option maxRecDepth 100000 in
set_option maxHeartbeats 6400000 in
theorem double_law (A0 : Option Addr) (c0 : Nat) (v : List Vx) (A1 : Option Addr) (c1 : Nat) (a : List At) (A2 : Option Addr) (c2 : Nat) (l : List Lk) (w : World)
    (hv : Kd.C k46 w A0 v.length v) (hc0 : v.length ≤ c0) (ha : Kd.C k66 w A1 a.length a) (hc1 : a.length ≤ c1) (hl : Kd.C k36 w A2 l.length l) (hc2 : l.length ≤ c2)
    (hno : Noth w) (bv : v.length < 4611686018427387904) (bl : l.length < 4611686018427387904) (hwf : ∀ x ∈ l, (Lit.int .i64 x.f1).wf = true) :
    Calls Tryd.prog 7 #[.slice A0 v.length c0, .slice A1 a.length c1, .slice A2 l.length c2] w (True1 w) := by
  have HKN := hid (fun W (hW : Below w.heap.size w W) => known_calls W (hno.below hW hno.pos))
  have HLG := hid (large_calls A0 c0 v A1 c1 a A2 c2 l w hv hc0 ha hc1 hl hc2 bv bl)
  have HCK := hid (fun W (hW : Below w.heap.size w W) (h1 : v.length ≤ 1000) (h2 : a.length ≤ 1000) (A : Option Addr) (c : Nat) (m : List Lk) (hm : Kd.C K3 W A m.length m) (h3 : m.length ≤ 1000) (h4 : ∀ x ∈ m, (Lit.int .i64 x.f1).wf = true ∧ x.f6.length ≤ 1000) => check_calls A0 c0 v A1 c1 a A c m W (Kd.C_below hv hW) hc0 (Kd.C_below ha hW) hc1 hm (hno.below hW hno.pos) h1 h2 h3 h4)
  have HL := hid (And.intro hc2 hl)
  have HWF := hid hwf
  obtain ⟨nv, hnv⟩ : ∃ n, n = v.length := ⟨_, rfl⟩
  obtain ⟨na, hna⟩ : ∃ n, n = a.length := ⟨_, rfl⟩
  obtain ⟨nl, hnl⟩ : ∃ n, n = l.length := ⟨_, rfl⟩
  rw [← hnv, ← hna, ← hnl] at HLG
  rw [← hnv, ← hna] at HCK
  rw [← hnv, ← hna, ← hnl]
  have HN := hid (And.intro hnv (And.intro hna hnl))
  have bl' : nl < 4611686018427387904 := by omega
  clear hv hc0 ha hc1 hl hc2 hno bv bl hwf hnv hna hnl
  cases hlg : largeM v a l with
  | true =>
    rw [hlg] at HLG
    clear hlg
    go_enter Tryd.func7, Tryd.ntmps7
    go_wp2_with fail
    refine HLG.out.mono ?_
    rintro e w1 ⟨rfl, hb1⟩
    have HB1 := hid hb1
    clear hb1
    go_wp2_with fail
    refine (HKN.out w1 HB1.out).mono ?_
    rintro e w2 ⟨rfl, hb2⟩
    have HB2 := hid (HB1.out.trans (hb2.mono HB1.out.size))
    clear hb2
    go_wp2
    go_ret
    exact ⟨rfl, HB2.out⟩
  | false =>
    have hlf := large_false hlg
    rw [hlg] at HLG
    have hv100 : nv ≤ 100 := by have := HN.out.1; omega
    have ha200 : na ≤ 200 := by have := HN.out.2.1; omega
    have HWL := hid (show ∀ x ∈ l, (Lit.int .i64 x.f1).wf = true ∧ x.f6.length ≤ 30 from fun x hx => ⟨HWF.out x hx, hlf.2.2.2.2 x hx⟩)
    clear hlg hlf
    by_cases hl150 : nl > 150
    · have f1 : decide ((nl : Int) > 150) = true := by simp; omega
      go_enter Tryd.func7, Tryd.ntmps7
      go_wp2_with fail
      refine HLG.out.mono ?_
      rintro e w1 ⟨rfl, hb1⟩
      have HB1 := hid hb1
      clear hb1
      go_wp2_with fail
      refine (HKN.out w1 HB1.out).mono ?_
      rintro e w2 ⟨rfl, hb2⟩
      have HB2 := hid (HB1.out.trans (hb2.mono HB1.out.size))
      clear hb2
      go_wp2
      go_ret
      exact ⟨rfl, HB2.out⟩
    have f1 : decide ((nl : Int) > 150) = false := by simp; omega
    have HCK2 := hid (fun W hW hl => HCK.out W hW (by omega) (by omega) A2 c2 l hl (by have := HN.out.2.2; omega) (fun x hx => ⟨(HWL.out x hx).1, by have := (HWL.out x hx).2; omega⟩))
    rw [← HN.out.2.2] at HCK2
    have HCD := hid (fun W hW A c hm => HCK.out W hW (by omega) (by omega) A c (dblAll l) hm (by have := HN.out.2.2; have := dblAll_len l; omega) (fun y hy => by
      obtain ⟨x, hx, rfl⟩ := dblAll_mem l y hy
      exact ⟨(HWL.out x hx).1, by have := (HWL.out x hx).2; show (x.f6.map _).length ≤ 1000; rw [List.length_map]; omega⟩))
    rw [check_dbl] at HCD
    have hlen := check_len v a l
    have hrl : (checkR v a l).1.length ≤ 150 := by have := HN.out.2.2; omega
    obtain ⟨⟨r, n⟩, hrn⟩ : ∃ r, checkR v a l = r := ⟨_, rfl⟩
    rw [hrn] at HCK2 HCD hrl
    clear hrn HCK hlen
    go_enter Tryd.func7, Tryd.ntmps7
    go_wp2_with fail
    refine HLG.out.mono ?_
    rintro e w1 ⟨rfl, hb1⟩
    have HB1 := hid hb1
    clear hb1
    go_wp2_with fail
    refine (HCK2.out w1 HB1.out (Kd.C_below (by rw [HN.out.2.2]; exact HL.out.2) HB1.out)).mono ?_
    rintro e w4 ⟨Ax, cx, rfl, hcx, hCx, hb4⟩
    have HX := hid (And.intro hcx hCx)
    have HB4 := hid (HB1.out.trans (hb4.mono HB1.out.size))
    clear hb4 hcx hCx
    obtain ⟨nr, hnr⟩ : ∃ n, n = r.length := ⟨_, rfl⟩
    try simp only [← hnr]
    have HNR := hid hnr
    have hnr' : nr ≤ 150 := by replace hrl : r.length ≤ 150 := hrl; omega
    clear hnr hrl
    go_wp2_with fail
    go_loopg [9, 10, 11, 12, 13, 36] nl (fun left v9 v10 v11 v12 v13 v36 wr => ∃ (i n9 c9 : Nat) (A9 : Option Addr), i + left = nl ∧ v36 = .int .i64 i ∧ v9 = .slice A9 n9 c9 ∧ Hid (Below w4.heap.size w4 wr) ∧ Hid (Kd.R K3 36 wr w4.heap.size (fun _ => True) (.slice A9 n9 c9) (msOf l i)))
    case atStart => exact ⟨0, 0, 0, none, by omega, rfl, rfl, hid (Below.refl _ _), hid (by rw [msOf_zero]; exact Kd.R_nil _ _ _ _ _)⟩
    case round =>
      obtain ⟨i, n9, c9, A9, hi, rfl, rfl, HW, HM⟩ := hrel
      obtain ⟨wo, rfl⟩ : ∃ wo : World, wo = wr := ⟨_, rfl⟩
      have HBO := hid (HB4.out.trans (HW.out.mono HB4.out.size))
      cases gk with
      | zero =>
        have hin : ¬ ((i : Int) < (nl : Int)) := by omega
        have HMA := hid (show Kd.R K3 36 wo w4.heap.size (fun _ => True) (.slice A9 n9 c9) (dblAll l) by
          have h1 := HM.out
          rw [show msOf l i = dblAll l by unfold msOf; rw [if_neg (by have := HN.out.2.2; omega)]] at h1
          exact h1)
        obtain ⟨h9, h9c, h9C⟩ := Kd.R_reads' HMA.out
        subst h9
        have HCY := hid (HCD.out wo HBO.out A9 c9 h9C)
        clear HM h9C
        go_wp2_with fail
        refine HCY.out.mono ?_
        rintro e w9 ⟨Ay, cy, rfl, hcy, hCy, hb9⟩
        have HY := hid (And.intro hcy hCy)
        have HB9 := hid (HBO.out.trans (hb9.mono HBO.out.size))
        have HB49 := hid (HW.out.trans (hb9.mono HW.out.size))
        clear hb9 hcy hCy HCY HMA
        try simp only [← HNR.out]
        have q11 : (n != n) = false := by simp
        have q12 : (n == n) = true := by simp
        go_wp2_with fail
        go_loopg [16, 136] nr (fun left v16 v136 wr => ∃ i : Nat, i + left = nr ∧ v136 = .int .i64 i ∧ Hid (Below w9.heap.size w9 wr))
        case atStart => exact ⟨0, by omega, rfl, hid (Below.refl _ _)⟩
        case round =>
          obtain ⟨j, hj, rfl, HW9⟩ := hrel
          have HBR := hid (HB9.out.trans (HW9.out.mono HB9.out.size))
          cases gk with
          | zero =>
            have hjn : ¬ ((j : Int) < (nr : Int)) := by omega
            go_wp2_with fail
            refine (HKN.out wr HBR.out).mono ?_
            rintro e w8 ⟨rfl, hb8⟩
            have HB8 := hid (HBR.out.trans (hb8.mono HBR.out.size))
            clear hb8
            go_wp2
            go_ret
            exact ⟨rfl, HB8.out⟩
          | succ left =>
            have hjn : (j : Int) < (nr : Int) := by omega
            obtain ⟨ax, rfl, q0⟩ := Kd.at_int (Kd.C_below HX.out.2 (HB49.out.trans (HW9.out.mono HB49.out.size))) (j : Int) (by omega) (by have := HNR.out; show (j : Int) < ((r.length : Nat) : Int); omega)
            obtain ⟨ay, rfl, q1⟩ := Kd.at_int (Kd.C_below HY.out.2 HW9.out) (j : Int) (by omega) (by have := HNR.out; show (j : Int) < ((r.length : Nat) : Int); omega)
            rw [Int.toNat_natCast] at q0 q1
            obtain ⟨z, hz⟩ : ∃ z, rd r (j : Int) = z := ⟨_, rfl⟩
            replace q0 : wr.cell? (ax.add j) = some (.int .i64 (rd r (j : Int))) := q0
            replace q1 : wr.cell? (ay.add j) = some (.int .i64 (rd r (j : Int))) := q1
            rw [hz] at q0 q1
            clear hz
            have q9 : (z != z) = false := by simp
            have q10 : (z == z) = true := by simp
            go_wp2_with fail
            go_quiet (fail)
            go_wp2_with fail
            go_roundg left
            case measure => omega
            case rel => exact ⟨j + 1, by omega, by go_num, hid (pw_below_drewN HW9.out _)⟩
      | succ left =>
        have hin : (i : Int) < (nl : Int) := by omega
        have hil : i < l.length := by have := HN.out.2.2; omega
        obtain ⟨ad, A6, c6, rfl, x0, x1, x2, x3, x4, x5, x6, l6, C6⟩ := at_T36 (Kd.C_below HL.out.2 HBO.out) (i : Int) (by omega) (by omega)
        rw [show rd_T36 l (i : Int) = l.getD i lk0 from by show l.getD (i : Int).toNat _ = _; rw [Int.toNat_natCast]] at x0 x1 x2 x3 x4 x5 x6 l6 C6
        rw [Int.toNat_natCast] at x0 x1 x2 x3 x4 x5 x6
        have hxl := HWL.out (l.getD i lk0) (by rw [List.getD_eq_getElem?_getD, List.getElem?_eq_getElem hil]; exact List.getElem_mem hil)
        obtain ⟨x, hx⟩ : ∃ x, l.getD i lk0 = x := ⟨_, rfl⟩
        have HXE := hid hx
        rw [hx] at x0 x1 x2 x3 x4 x5 x6 l6 C6 hxl
        obtain ⟨nx, hnx⟩ : ∃ n, n = x.f6.length := ⟨_, rfl⟩
        have hnx30 : nx ≤ 30 := by omega
        rw [← hnx] at x6
        have HNX := hid hnx
        have HC6 := hid C6
        have b0 : (ad.add (i * 7)).block < wo.heap.size := cell_lt x0
        have HX6 := hid x6
        clear hx hxl C6 l6 hnx
        by_cases g1 : x.f4 > 1000
        · go_wp2_with fail
          have HBOA := hid (HBO.out.alloc HBO.out.size (.cells (lkC x (.slice A6 nx c6)) 36))
          refine (HKN.out (wo.alloc (.cells (lkC x (.slice A6 nx c6)) 36)) HBOA.out).mono ?_
          rintro e w8 ⟨rfl, hb8⟩
          have HB8 := hid (HBOA.out.trans (hb8.mono HBOA.out.size))
          clear hb8
          go_wp2
          go_ret
          exact ⟨rfl, HB8.out⟩
        by_cases g2 : x.f4 < -1000
        · go_wp2_with fail
          have HBOA := hid (HBO.out.alloc HBO.out.size (.cells (lkC x (.slice A6 nx c6)) 36))
          refine (HKN.out (wo.alloc (.cells (lkC x (.slice A6 nx c6)) 36)) HBOA.out).mono ?_
          rintro e w8 ⟨rfl, hb8⟩
          have HB8 := hid (HBOA.out.trans (hb8.mono HBOA.out.size))
          clear hb8
          go_wp2
          go_ret
          exact ⟨rfl, HB8.out⟩
        by_cases g3 : x.f5 > 1000
        · go_wp2_with fail
          have HBOA := hid (HBO.out.alloc HBO.out.size (.cells (lkC x (.slice A6 nx c6)) 36))
          refine (HKN.out (wo.alloc (.cells (lkC x (.slice A6 nx c6)) 36)) HBOA.out).mono ?_
          rintro e w8 ⟨rfl, hb8⟩
          have HB8 := hid (HBOA.out.trans (hb8.mono HBOA.out.size))
          clear hb8
          go_wp2
          go_ret
          exact ⟨rfl, HB8.out⟩
        by_cases g4 : x.f5 < -1000
        · go_wp2_with fail
          have HBOA := hid (HBO.out.alloc HBO.out.size (.cells (lkC x (.slice A6 nx c6)) 36))
          refine (HKN.out (wo.alloc (.cells (lkC x (.slice A6 nx c6)) 36)) HBOA.out).mono ?_
          rintro e w8 ⟨rfl, hb8⟩
          have HB8 := hid (HBOA.out.trans (hb8.mono HBOA.out.size))
          clear hb8
          go_wp2
          go_ret
          exact ⟨rfl, HB8.out⟩
        go_wp2_with fail
        obtain ⟨W2, hW2⟩ : ∃ W2, W2 = wo.alloc (.cells #[.int .u8 x.f0, .int .i64 x.f1, .int .i64 x.f2, .int .i64 x.f3, .int .i64 (2 * x.f4), .int .i64 (2 * x.f5), .slice none 0 0] 36) := ⟨_, rfl⟩
        have HY2 := hid (show W2.heap[wo.heap.size]? = some (.cells (lkL (dblL x) (.slice none 0 0)).toArray 36 (0, 0)) by rw [hW2]; exact heap_alloc_new _ _)
        have HB2 := hid (show Below wo.heap.size wo W2 by rw [hW2]; exact (Below.refl _ _).alloc (Nat.le_refl _) _)
        rw [← hW2]
        clear hW2 x0 x1 x2 x3 x4 x5 x6
        go_loopg [12, 13, 77] nx (fun left' v12 v13 v77 wr => ∃ (k nL cL : Nat) (AL : Option Addr), k + left' = nx ∧ v77 = .int .i64 k ∧ Hid (wr.heap[wo.heap.size]? = some (.cells (lkL (dblL x) (.slice AL nL cL)).toArray 36 (0, 0))) ∧ Hid (Below wo.heap.size wo wr) ∧ Hid ((Kd.int .i64).R 3 wr (wo.heap.size + 1) (fun _ => True) (.slice AL nL cL) ((x.f6.take k).map (2 * ·))))
        case atStart => exact ⟨0, 0, 0, none, by omega, rfl, HY2, HB2, hid (Kd.R_nil _ _ _ _ _)⟩
        case round =>
          obtain ⟨k, nL, cL, AL, hk, rfl, HYB, HBI, HRL⟩ := hrel
          have hsz : wo.heap.size < wr.heap.size := blk_lt HYB.out
          have HBR := hid (HBO.out.trans (HBI.out.mono HBO.out.size))
          have z6 : wr.cell? ⟨wo.heap.size, 6, none⟩ = some (.slice AL nL cL) := (blk_cell HYB.out 6).trans rfl
          have z60 : wr.frozen? ⟨wo.heap.size, 6, none⟩ = false := blk_frozen HYB.out 6
          have x6 := (HBI.out.cell (p := ⟨(ad.add (i * 7)).block, (ad.add (i * 7)).off + 6, none⟩) b0).trans HX6.out
          cases gk with
          | succ left' =>
            have hkn : (k : Int) < (nx : Int) := by omega
            have hkx : k < x.f6.length := by have := HNX.out; omega
            obtain ⟨a6, rfl, q0⟩ := Kd.at_int (Kd.C_below HC6.out HBI.out) (k : Int) (by omega) (by omega)
            rw [Int.toNat_natCast] at q0
            have HTK := hid (show (x.f6.take (k + 1)).map (2 * ·) = (x.f6.take k).map (2 * ·) ++ [2 * rd x.f6 (k : Int)] by
              rw [List.take_succ_eq_append_getElem hkx, List.map_append, rd_lt hkx]
              rfl)
            have HLN := hid (show ((x.f6.take k).map (2 * ·)).length + 1 ≤ 31 by rw [List.length_map, List.length_take]; have := HNX.out; omega)
            obtain ⟨m, hm⟩ : ∃ m, rd x.f6 (k : Int) = m := ⟨_, rfl⟩
            rw [hm] at q0 HTK
            clear hm
            by_cases m1 : m > 1000
            · go_wp2_with fail
              refine (HKN.out wr HBR.out).mono ?_
              rintro e w8 ⟨rfl, hb8⟩
              have HB8 := hid (HBR.out.trans (hb8.mono HBR.out.size))
              clear hb8
              go_wp2
              go_ret
              exact ⟨rfl, HB8.out⟩
            by_cases m2 : m < -1000
            · go_wp2_with fail
              refine (HKN.out wr HBR.out).mono ?_
              rintro e w8 ⟨rfl, hb8⟩
              have HB8 := hid (HBR.out.trans (hb8.mono HBR.out.size))
              clear hb8
              go_wp2
              go_ret
              exact ⟨rfl, HB8.out⟩
            go_wp2_with (at_builtin; (refine Kd.R_append (Kd.int .i64) (w0 := wr) (W := wr) (wo.heap.size + 1) rfl (.tmp 96) (.tmp 99) 34 3 (.int .i64 0) 8 rfl Tryd.underlying34 info3 rfl (by decide) (by decide) (.slice AL nL cL) ((x.f6.take k).map (2 * ·)) (2 * m) [.int .i64 (2 * m)] (fun _ => True) (fun _ => False) (by rfl) (by rfl) rfl (fun _ h => h.elim) (fun _ _ => trivial) HRL.out (Below.refl _ _) (by omega) (by have := HLN.out; omega) ?_; intro v5 w5 hr5 hb5 hg5 hat5; obtain ⟨A5, n5, c5, rfl⟩ : ∃ A n c, v5 = .slice A n c := (by obtain ⟨A, c, h, _, _⟩ := Kd.R_reads hr5; exact ⟨A, _, c, h⟩); have HR5 := hid hr5; have HB5 := hid hb5; have y5 := (hb5.block wo.heap.size (by omega)).trans HYB.out; have HY5 := hid y5; have z65 : w5.cell? ⟨wo.heap.size, 6, none⟩ = some (.slice AL nL cL) := (blk_cell y5 6).trans rfl; have z66 : w5.frozen? ⟨wo.heap.size, 6, none⟩ = false := blk_frozen y5 6; clear hr5 hb5 hg5 hat5 y5))
            go_roundg left'
            case measure => omega
            case rel => exact ⟨k + 1, _, _, _, by omega, by go_num, hid ((blk_set HY5.out 6 _).trans rfl), hid ((HBI.out.trans (HB5.out.mono (Nat.le_succ _))).setCell (Nat.le_refl _) _), hid (by
              rw [HTK.out]
              exact R_keep HR5.out (fun q h1 _ => Below.heap_setCell _ _ _ _ (by show q ≠ wo.heap.size; omega)))⟩
          | zero =>
            have hkn : ¬ ((k : Int) < (nx : Int)) := by omega
            have HF6 := hid (show (x.f6.take k).map (2 * ·) = (dblL x).f6 by rw [List.take_of_length_le (by have := HNX.out; omega)]; rfl)
            have HML := hid (show (msOf l i).length ≤ 300 by have := msOf_len (l := l) (i := i) (by omega); have := HN.out.2.2; omega)
            have HM1 := hid (Kd.R_move (Kd.R_mono (Kd.R_bound HM.out) (ok' := fun k => k < wo.heap.size) (fun k hk => hk.2.2.1)) (w1 := wr) (fun k hk => HBI.out.block k hk))
            have HMV := hid (show ∀ q, Value.ownBlock (.slice A9 n9 c9) = some q → q < wo.heap.size from fun q hq => HM1.out.1 q hq)
            have HP1 := hid (k36_mkM wr w4.heap.size (fun k => wo.heap.size + 1 ≤ k ∧ k < wr.heap.size) (dblL x) (by
              have h1 := HRL.out
              rw [HF6.out] at h1
              exact R_in h1 (by have := HW.out.size; omega) (Nat.le_refl _) (fun _ _ _ _ => rfl)))
            have HBW := hid (HW.out.trans (HBI.out.mono HW.out.size))
            have y0 : wr.cell? ⟨wo.heap.size, 0, none⟩ = some (.int .u8 x.f0) := (blk_cell HYB.out 0).trans rfl
            have y1 : wr.cell? ⟨wo.heap.size, 1, none⟩ = some (.int .i64 x.f1) := (blk_cell HYB.out 1).trans rfl
            have y2 : wr.cell? ⟨wo.heap.size, 2, none⟩ = some (.int .i64 x.f2) := (blk_cell HYB.out 2).trans rfl
            have y3 : wr.cell? ⟨wo.heap.size, 3, none⟩ = some (.int .i64 x.f3) := (blk_cell HYB.out 3).trans rfl
            have y4 : wr.cell? ⟨wo.heap.size, 4, none⟩ = some (.int .i64 (2 * x.f4)) := (blk_cell HYB.out 4).trans rfl
            have y5 : wr.cell? ⟨wo.heap.size, 5, none⟩ = some (.int .i64 (2 * x.f5)) := (blk_cell HYB.out 5).trans rfl
            clear x6 z60
            by_cases hl1 : i + 1 < nl
            · have t1 : (i : Int) + 1 < (nl : Int) := by omega
              go_wp2_with (first | (at_builtin; (refine Kd.R_append K3 (w0 := w4) (W := wr) w4.heap.size rfl (.tmp 103) (.tmp 105) 24 36 (.agg #[.int .u8 0, .int .i64 0, .int .i64 0, .int .i64 0, .int .i64 0, .int .i64 0, .slice none 0 0]) 72 rfl Tryd.underlying24 info36' rfl (by decide) (by decide) (.slice A9 n9 c9) (msOf l i) (dblL x) (lkL (dblL x) (.slice AL nL cL)) (fun _ => True) (fun k => wo.heap.size + 1 ≤ k ∧ k < wr.heap.size) (by rfl) (by rfl) HP1.out (fun q hq => ⟨trivial, fun he => by have := HMV.out q he.symm; omega⟩) (fun _ _ => trivial) (Kd.R_mono HM1.out (fun _ _ => trivial)) HBW.out HBW.out.size (by have := HML.out; omega) ?_; intro v7 w7 hr7 hb7 hg7 hat7; obtain ⟨A7, n7, c7, rfl⟩ : ∃ A n c, v7 = .slice A n c := (by obtain ⟨A, c, h, _, _⟩ := Kd.R_reads hr7; exact ⟨A, _, c, h⟩); have HR7 := hid hr7; have HB7 := hid hb7; have yb7 := (hg7.block wo.heap.size hsz (fun he => by have := HMV.out _ he.symm; omega)).trans HYB.out; have HY7 := hid yb7; have HG7 := hid hg7; have HA7 := hid hat7; have z0' : w7.cell? ⟨wo.heap.size, 0, none⟩ = some (.int .u8 x.f0) := (blk_cell yb7 0).trans rfl; have z1' : w7.cell? ⟨wo.heap.size, 1, none⟩ = some (.int .i64 x.f1) := (blk_cell yb7 1).trans rfl; have z2' : w7.cell? ⟨wo.heap.size, 2, none⟩ = some (.int .i64 x.f2) := (blk_cell yb7 2).trans rfl; have z3' : w7.cell? ⟨wo.heap.size, 3, none⟩ = some (.int .i64 x.f3) := (blk_cell yb7 3).trans rfl; have z4' : w7.cell? ⟨wo.heap.size, 4, none⟩ = some (.int .i64 (2 * x.f4)) := (blk_cell yb7 4).trans rfl; have z5' : w7.cell? ⟨wo.heap.size, 5, none⟩ = some (.int .i64 (2 * x.f5)) := (blk_cell yb7 5).trans rfl; have z6' : w7.cell? ⟨wo.heap.size, 6, none⟩ = some (.slice AL nL cL) := (blk_cell yb7 6).trans rfl; clear hr7 hb7 hg7 hat7 yb7)) | (at_builtin; (refine Kd.R_append K3 (w0 := w4) (W := w7) w4.heap.size rfl (.tmp 112) (.tmp 114) 24 36 (.agg #[.int .u8 0, .int .i64 0, .int .i64 0, .int .i64 0, .int .i64 0, .int .i64 0, .slice none 0 0]) 72 rfl Tryd.underlying24 info36' rfl (by decide) (by decide) (.slice A7 n7 c7) (msOf l i ++ [dblL x]) (dblL x) (lkL (dblL x) (.slice AL nL cL)) (fun _ => True) (fun k => wo.heap.size + 1 ≤ k ∧ k < wr.heap.size) (by rfl) (by rfl) (K3.M_move (fun q hq => HG7.out.block q hq.2 (fun he => by have := HMV.out q he.symm; omega)) HP1.out) (not_own7 HMV.out HA7.out) (fun _ _ => trivial) HR7.out HB7.out HB7.out.size (by have := HML.out; rw [List.length_append]; simp; omega) ?_; intro v8 w8 hr8 hb8 hg8 hat8; obtain ⟨A8, n8, c8, rfl⟩ : ∃ A n c, v8 = .slice A n c := (by obtain ⟨A, c, h, _, _⟩ := Kd.R_reads hr8; exact ⟨A, _, c, h⟩); have HR8 := hid hr8; have HB8 := hid hb8; clear hr8 hb8 hg8 hat8)))
              go_roundg left
              case measure => omega
              case rel => exact ⟨i + 1, _, _, _, by omega, by go_num, rfl, hid HB8.out, hid (by
                rw [msOf_mid (by have := HN.out.2.2; omega), HXE.out]
                exact HR8.out)⟩
            · have t1 : ¬ ((i : Int) + 1 < (nl : Int)) := by omega
              go_wp2_with (at_builtin; (refine Kd.R_append K3 (w0 := w4) (W := wr) w4.heap.size rfl (.tmp 103) (.tmp 105) 24 36 (.agg #[.int .u8 0, .int .i64 0, .int .i64 0, .int .i64 0, .int .i64 0, .int .i64 0, .slice none 0 0]) 72 rfl Tryd.underlying24 info36' rfl (by decide) (by decide) (.slice A9 n9 c9) (msOf l i) (dblL x) (lkL (dblL x) (.slice AL nL cL)) (fun _ => True) (fun k => wo.heap.size + 1 ≤ k ∧ k < wr.heap.size) (by rfl) (by rfl) HP1.out (fun q hq => ⟨trivial, fun he => by have := HMV.out q he.symm; omega⟩) (fun _ _ => trivial) (Kd.R_mono HM1.out (fun _ _ => trivial)) HBW.out HBW.out.size (by have := HML.out; omega) ?_; intro v7 w7 hr7 hb7 hg7 hat7; obtain ⟨A7, n7, c7, rfl⟩ : ∃ A n c, v7 = .slice A n c := (by obtain ⟨A, c, h, _, _⟩ := Kd.R_reads hr7; exact ⟨A, _, c, h⟩); have HR7 := hid hr7; have HB7 := hid hb7; clear hr7 hb7 hg7 hat7))
              go_roundg left
              case measure => omega
              case rel => exact ⟨i + 1, _, _, _, by omega, by go_num, rfl, hid HB7.out, hid (by
                rw [msOf_last (by have := HN.out.2.2; omega), HXE.out]
                exact HR7.out)⟩
end Go.Proofs.YtpopohkbffhckaaDoor.KL
