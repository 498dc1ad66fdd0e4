/- The document's terms, in memory: the constructors (printed by wip/tools/rfc.py). -/
import Derived.Test.YtmgbodmpjholiaaRfP
namespace Go.Proofs.Ytmgbodmpjholiaa.RT
open Go.RowKit Go.Maps Go.Shelf Go.Lib Go.Proofs.YtmgbodmpjholiaaW.PrintWords Go.Proofs.YtmgbodmpjholiaaW.PrintLast Go.Proofs.YtmgbodmpjholiaaW.PrintMore Go.Proofs.Ytmgbodmpjholiaa.MM Go.Proofs.Ytmgbodmpjholiaa.KM Go.Proofs.Ytmgbodmpjholiaa.TM
attribute [local go_sem ↓] Go.wp_at_zero Go.wp_at_succ
set_option linter.unusedSimpArgs false
set_option linter.unusedVariables false

/-- Where the sorts stand. -/
theorem rs_frame {w : World} {u : Nat} {l : List NodeM} {F : Nat → Prop} (h : Rs w u l F) (hl : 0 < l.length) : ∃ g cap, w.cell? ⟨u, 0, none⟩ = some (.slice (some ⟨g, 0, none⟩) l.length cap) ∧ ∀ i : Nat, i < l.length → w.cell? ⟨g, i * 5 + 3, none⟩ = some (.int .i64 (sortM l (i : Int))) := by
  obtain ⟨v, A, h1, hN, _⟩ := h
  obtain ⟨g0, cap0, y0, hv, _⟩ := hN.cells (List.getElem?_eq_getElem hl)
  subst hv
  refine ⟨g0, cap0, (blk_cell h1 0).trans rfl, fun i hi => ?_⟩
  obtain ⟨g, cap, y, hv, hg, hcells, hr, _⟩ := hN.cells (nodes_get (has_of hi))
  injection hv with e1 e2 e3
  injection e1 with e1
  injection e1 with e1 _ _
  subst e1
  have := hcells 3 _ rfl
  rwa [Int.toNat_natCast] at this
theorem of_one (l : List NodeM) (s x : Int) : ofM l s [x] = decide (sortM l x = s) := by simp [ofM]
theorem has_nat {l : List NodeM} {x : Int} (h : hasM l x = true) : ∃ i : Nat, x = (i : Int) ∧ i < l.length := ⟨x.toNat, by have := getD_mem h; omega, (getD_mem h).2.2.1⟩
set_option maxRecDepth 100000 in
set_option maxHeartbeats 3200000 in
theorem Not_calls (w : World) (u : Nat) (l : List NodeM) (F : Nat → Prop) (a : Int) (h : Rs w u l F) :
    Calls Try.prog 34 #[ptr u, .int .i64 a] w (GotR w u F (notM l a)) := by
  have HS := hid h
  have HTH := hid (fun (W : World) (v : Value) (xs : List Int) (hW : Below w.heap.size w W) (hr : Row W 26 v (lits xs)) => there_calls W u l F v xs (h.below hW) hr)
  have HOF := hid (fun (W : World) (s : Int) (v : Value) (xs : List Int) (hW : Below w.heap.size w W) (hr : Row W 26 v (lits xs)) (hx : thereM l xs = true) => of_calls W u l F s v xs (h.below hW) hr hx)
  have HPUT := hid (fun (W : World) (n : NodeM) (v : Value) (hW : Below w.heap.size w W) (hr : Row W 26 v (lits n.args)) (hn : WfN n) => (put_got W u l F n v (h.below hW) hr hn).mono fun e w' => GotR.below hW)
  have HWF := hid h.wf
  have HB0 := hid ((Below.refl w.heap.size w).alloc (Nat.le_refl _) (.cells (lits [a]).toArray 26))
  have HR0 := hid (Row.many w 26 (lits [a]) (by simp))
  clear h
  go_enter Try.func34, Try.ntmps34
  go_wp2_with fail
  refine (HTH.out _ _ [a] HB0.out HR0.out).mono ?_
  rintro e w1 ⟨rfl, hb⟩
  have HR1 := hid (Row.bel HR0.out hb)
  have HB1 := hid (TM.bel HB0.out hb)
  clear hb
  cases hth : thereM l [a] with
  | false =>
    have HTHE := hid hth
    clear hth
    go_wp2_with fail
    go_ret2
    rw [show notM l a = (0, 7, l) from (by unfold TM.notM; rw [HTHE.out]; rfl)]
    exact GotR.same HS.out HB1.out
  | true =>
    have HTHE := hid hth
    clear hth
    go_wp2_with fail
    refine (HOF.out _ 0 _ [a] HB1.out HR1.out HTHE.out).mono ?_
    rintro e w2 ⟨rfl, hb⟩
    have HR2 := hid (Row.bel HR1.out hb)
    have HB2 := hid (TM.bel HB1.out hb)
    clear hb
    cases hof : ofM l 0 [a] with
    | false =>
      have HOFE := hid hof
      clear hof
      go_wp2_with fail
      go_ret2
      rw [show notM l a = (0, 60, l) from (by unfold TM.notM; rw [HTHE.out, HOFE.out]; rfl)]
      exact GotR.same HS.out HB2.out
    | true =>
      have HOFE := hid hof
      clear hof
      go_wp2_with fail
      refine (HPUT.out _ ⟨9, 0, 0, 0, [a]⟩ _ HB2.out HR2.out (wfN_of HWF.out HTHE.out (by simp) (by omega) wf0 wf0 wf0)).mono ?_
      rintro e w9 ⟨rfl, hl⟩
      have HL := hid hl
      clear hl
      generalize hr9 : putM l ⟨9, 0, 0, 0, [a]⟩ = r9 at HL ⊢
      have HR9 := hid hr9
      clear hr9
      go_wp2_with fail
      go_ret2
      rw [show notM l a = r9 from (by unfold TM.notM; rw [HTHE.out, HOFE.out]; exact HR9.out)]
      exact ⟨rfl, HL.out⟩
set_option maxRecDepth 100000 in
set_option maxHeartbeats 3200000 in
theorem Eq_calls (w : World) (u : Nat) (l : List NodeM) (F : Nat → Prop) (a b : Int) (h : Rs w u l F) :
    Calls Try.prog 37 #[ptr u, .int .i64 a, .int .i64 b] w (GotR w u F (eqM l a b)) := by
  have HS := hid h
  have HTH := hid (fun (W : World) (v : Value) (xs : List Int) (hW : Below w.heap.size w W) (hr : Row W 26 v (lits xs)) => there_calls W u l F v xs (h.below hW) hr)
  have HOF := hid (fun (W : World) (s : Int) (v : Value) (xs : List Int) (hW : Below w.heap.size w W) (hr : Row W 26 v (lits xs)) (hx : thereM l xs = true) => of_calls W u l F s v xs (h.below hW) hr hx)
  have HPUT := hid (fun (W : World) (n : NodeM) (v : Value) (hW : Below w.heap.size w W) (hr : Row W 26 v (lits n.args)) (hn : WfN n) => (put_got W u l F n v (h.below hW) hr hn).mono fun e w' => GotR.below hW)
  have HWF := hid h.wf
  have HB0 := hid ((Below.refl w.heap.size w).alloc (Nat.le_refl _) (.cells (lits [a, b]).toArray 26))
  have HR0 := hid (Row.many w 26 (lits [a, b]) (by simp))
  clear h
  go_enter Try.func37, Try.ntmps37
  go_wp2_with fail
  refine (HTH.out _ _ [a, b] HB0.out HR0.out).mono ?_
  rintro e w1 ⟨rfl, hb⟩
  have HR1 := hid (Row.bel HR0.out hb)
  have HB1 := hid (TM.bel HB0.out hb)
  clear hb
  cases hth : thereM l [a, b] with
  | false =>
    have HTHE := hid hth
    clear hth
    go_wp2_with fail
    go_ret2
    rw [show eqM l a b = (0, 7, l) from (by unfold eqM; rw [HTHE.out]; rfl)]
    exact GotR.same HS.out HB1.out
  | true =>
    have HTHE := hid hth
    clear hth
    have hlen : 0 < l.length := by have := (has_nat (there_mem HTHE.out a (by simp))).choose_spec.2; omega
    obtain ⟨g, cap, d0, hsort⟩ := rs_frame (HS.out.below HB1.out) hlen
    have hlb : (l.length : Int) ≤ 20000 := by have := HWF.out.high; omega
    obtain ⟨i, hi, hil⟩ := has_nat (there_mem HTHE.out a (by simp))
    subst hi
    have ic := hsort i hil
    have iI : (i : Int) < (l.length : Int) := by omega
    obtain ⟨si, hsi⟩ : ∃ s, s = sortM l (i : Int) := ⟨_, rfl⟩
    rw [← hsi] at ic
    have HSi := hid hsi
    clear hsi
    obtain ⟨j, hj, hjl⟩ := has_nat (there_mem HTHE.out b (by simp))
    subst hj
    have jc := hsort j hjl
    have jI : (j : Int) < (l.length : Int) := by omega
    obtain ⟨sj, hsj⟩ : ∃ s, s = sortM l (j : Int) := ⟨_, rfl⟩
    rw [← hsj] at jc
    have HSj := hid hsj
    clear hsj
    clear hsort hil hjl hlen
    by_cases hij : si = sj
    · have e1 : (si != sj) = false := by simpa using hij
      have HIJ := hid hij
      clear hij
      go_wp2_with fail
      go_quiet (fail)
      have HR2 := hid (Row.bel HR1.out (pw_below_drewN (Below.refl _ _) nq))
      have HB2 := hid (TM.bel HB1.out (pw_below_drewN (Below.refl _ _) nq))
      go_wp2_with fail
      refine (HPUT.out _ ⟨7, 0, 0, 0, [(i : Int), (j : Int)]⟩ _ HB2.out HR2.out (wfN_of HWF.out HTHE.out (by simp) (by omega) wf0 wf0 wf0)).mono ?_
      rintro e w9 ⟨rfl, hl⟩
      have HL := hid hl
      clear hl
      generalize hr9 : putM l ⟨7, 0, 0, 0, [(i : Int), (j : Int)]⟩ = r9 at HL ⊢
      have HR9 := hid hr9
      clear hr9
      go_wp2_with fail
      go_ret2
      rw [show eqM l (i : Int) (j : Int) = r9 from (by unfold eqM; rw [HTHE.out, of_one, ← HSi.out, ← HSj.out, HIJ.out]; simpa using HR9.out)]
      exact ⟨rfl, HL.out⟩
    · have e1 : (si != sj) = true := by simpa using hij
      have HIJ := hid hij
      clear hij
      go_wp2_with fail
      go_quiet (fail)
      have HB2 := hid (TM.bel HB1.out (pw_below_drewN (Below.refl _ _) nq))
      go_wp2_with fail
      go_ret2
      rw [show eqM l (i : Int) (j : Int) = (0, 60, l) from (by unfold eqM; rw [HTHE.out, of_one, ← HSi.out, ← HSj.out]; simp; exact fun e => absurd e.symm HIJ.out)]
      exact GotR.same HS.out HB2.out
set_option maxRecDepth 100000 in
set_option maxHeartbeats 3200000 in
theorem Ite_calls (w : World) (u : Nat) (l : List NodeM) (F : Nat → Prop) (c a b : Int) (h : Rs w u l F) :
    Calls Try.prog 38 #[ptr u, .int .i64 c, .int .i64 a, .int .i64 b] w (GotR w u F (iteM l c a b)) := by
  have HS := hid h
  have HTH := hid (fun (W : World) (v : Value) (xs : List Int) (hW : Below w.heap.size w W) (hr : Row W 26 v (lits xs)) => there_calls W u l F v xs (h.below hW) hr)
  have HOF := hid (fun (W : World) (s : Int) (v : Value) (xs : List Int) (hW : Below w.heap.size w W) (hr : Row W 26 v (lits xs)) (hx : thereM l xs = true) => of_calls W u l F s v xs (h.below hW) hr hx)
  have HPUT := hid (fun (W : World) (n : NodeM) (v : Value) (hW : Below w.heap.size w W) (hr : Row W 26 v (lits n.args)) (hn : WfN n) => (put_got W u l F n v (h.below hW) hr hn).mono fun e w' => GotR.below hW)
  have HWF := hid h.wf
  have HB0 := hid ((Below.refl w.heap.size w).alloc (Nat.le_refl _) (.cells (lits [c, a, b]).toArray 26))
  have HR0 := hid (Row.many w 26 (lits [c, a, b]) (by simp))
  clear h
  go_enter Try.func38, Try.ntmps38
  go_wp2_with fail
  refine (HTH.out _ _ [c, a, b] HB0.out HR0.out).mono ?_
  rintro e w1 ⟨rfl, hb⟩
  have HR1 := hid (Row.bel HR0.out hb)
  have HB1 := hid (TM.bel HB0.out hb)
  clear hb
  cases hth : thereM l [c, a, b] with
  | false =>
    have HTHE := hid hth
    clear hth
    go_wp2_with fail
    go_ret2
    rw [show iteM l c a b = (0, 7, l) from (by unfold iteM; rw [HTHE.out]; rfl)]
    exact GotR.same HS.out HB1.out
  | true =>
    have HTHE := hid hth
    clear hth
    have hlen : 0 < l.length := by have := (has_nat (there_mem HTHE.out c (by simp))).choose_spec.2; omega
    obtain ⟨g, cap, d0, hsort⟩ := rs_frame (HS.out.below HB1.out) hlen
    have hlb : (l.length : Int) ≤ 20000 := by have := HWF.out.high; omega
    obtain ⟨k, hk, hkl⟩ := has_nat (there_mem HTHE.out c (by simp))
    subst hk
    have kc := hsort k hkl
    have kI : (k : Int) < (l.length : Int) := by omega
    obtain ⟨sk, hsk⟩ : ∃ s, s = sortM l (k : Int) := ⟨_, rfl⟩
    rw [← hsk] at kc
    have HSk := hid hsk
    clear hsk
    obtain ⟨i, hi, hil⟩ := has_nat (there_mem HTHE.out a (by simp))
    subst hi
    have ic := hsort i hil
    have iI : (i : Int) < (l.length : Int) := by omega
    obtain ⟨si, hsi⟩ : ∃ s, s = sortM l (i : Int) := ⟨_, rfl⟩
    rw [← hsi] at ic
    have HSi := hid hsi
    clear hsi
    obtain ⟨j, hj, hjl⟩ := has_nat (there_mem HTHE.out b (by simp))
    subst hj
    have jc := hsort j hjl
    have jI : (j : Int) < (l.length : Int) := by omega
    obtain ⟨sj, hsj⟩ : ∃ s, s = sortM l (j : Int) := ⟨_, rfl⟩
    rw [← hsj] at jc
    have HSj := hid hsj
    clear hsj
    clear hsort hil hjl hkl hlen
    by_cases hk0 : sk = 0
    · have e1 : (sk != 0) = false := by simpa using hk0
      have HK0 := hid hk0
      clear hk0
      by_cases hij : si = sj
      · have e2 : (si != sj) = false := by simpa using hij
        have HIJ := hid hij
        have HWS := hid (show wf64 si from by rw [HSi.out]; exact (HWF.out.has (there_mem HTHE.out (i : Int) (by simp))).sort)
        clear hij
        go_wp2_with fail
        go_quiet (fail)
        have HR2 := hid (Row.bel HR1.out (pw_below_drewN (Below.refl _ _) nq))
        have HB2 := hid (TM.bel HB1.out (pw_below_drewN (Below.refl _ _) nq))
        go_wp2_with fail
        refine (HPUT.out _ ⟨6, 0, 0, si, [(k : Int), (i : Int), (j : Int)]⟩ _ HB2.out HR2.out (wfN_of HWF.out HTHE.out (by simp) (by omega) wf0 wf0 HWS.out)).mono ?_
        rintro e w9 ⟨rfl, hl⟩
        have HL := hid hl
        clear hl
        generalize hr9 : putM l ⟨6, 0, 0, si, [(k : Int), (i : Int), (j : Int)]⟩ = r9 at HL ⊢
        have HR9 := hid hr9
        clear hr9
        go_wp2_with fail
        go_ret2
        rw [show iteM l (k : Int) (i : Int) (j : Int) = r9 from (by unfold iteM; rw [HTHE.out, of_one, of_one, ← HSi.out, ← HSj.out, ← HSk.out]; simp [HK0.out, ← HIJ.out]; exact HR9.out)]
        exact ⟨rfl, HL.out⟩
      · have e2 : (si != sj) = true := by simpa using hij
        have HIJ := hid hij
        clear hij
        go_wp2_with fail
        go_quiet (fail)
        have HB2 := hid (TM.bel HB1.out (pw_below_drewN (Below.refl _ _) nq))
        go_wp2_with fail
        go_ret2
        rw [show iteM l (k : Int) (i : Int) (j : Int) = (0, 60, l) from (by unfold iteM; rw [HTHE.out, of_one, of_one, ← HSi.out, ← HSj.out, ← HSk.out]; simp [HK0.out]; exact fun e => absurd e.symm HIJ.out)]
        exact GotR.same HS.out HB2.out
    · have e1 : (sk != 0) = true := by simpa using hk0
      have HK0 := hid hk0
      clear hk0
      go_wp2_with fail
      go_quiet (fail)
      have HB2 := hid (TM.bel HB1.out (pw_below_drewN (Below.refl _ _) nq))
      go_wp2_with fail
      go_ret2
      rw [show iteM l (k : Int) (i : Int) (j : Int) = (0, 60, l) from (by unfold iteM; rw [HTHE.out, of_one, ← HSk.out]; simp [HK0.out])]
      exact GotR.same HS.out HB2.out
set_option maxRecDepth 100000 in
set_option maxHeartbeats 3200000 in
theorem Num_calls (w : World) (u : Nat) (l : List NodeM) (F : Nat → Prop) (n : Int) (hn : wf64 n) (h : Rs w u l F) :
    Calls Try.prog 40 #[ptr u, .int .i64 n] w (GotR w u F (numM l n)) := by
  have HS := hid h
  have HTH := hid (fun (W : World) (v : Value) (xs : List Int) (hW : Below w.heap.size w W) (hr : Row W 26 v (lits xs)) => there_calls W u l F v xs (h.below hW) hr)
  have HOF := hid (fun (W : World) (s : Int) (v : Value) (xs : List Int) (hW : Below w.heap.size w W) (hr : Row W 26 v (lits xs)) (hx : thereM l xs = true) => of_calls W u l F s v xs (h.below hW) hr hx)
  have HPUT := hid (fun (W : World) (n : NodeM) (v : Value) (hW : Below w.heap.size w W) (hr : Row W 26 v (lits n.args)) (hn : WfN n) => (put_got W u l F n v (h.below hW) hr hn).mono fun e w' => GotR.below hW)
  have HWF := hid h.wf
  have HN := hid hn
  have HB0 := hid (Below.refl w.heap.size w)
  clear h hn
  go_enter Try.func40, Try.ntmps40
  go_wp2_with fail
  refine (bound_calls _ n).mono ?_
  rintro e w2 ⟨rfl, hw⟩
  obtain rfl := hw
  cases hb : boundM n with
  | false =>
    have HBD := hid hb
    clear hb
    go_wp2_with fail
    go_ret2
    rw [show numM l n = (0, 6, l) from (by unfold numM; rw [HBD.out]; rfl)]
    exact GotR.same HS.out HB0.out
  | true =>
    have HBD := hid hb
    clear hb
    go_wp2_with fail
    refine (HPUT.out _ ⟨3, 0, n, 1, []⟩ _ HB0.out (Row.nil _ _) ⟨⟨by show (0:Int) ≤ 3; omega, by show (3:Int) ≤ 255; omega⟩, wf0, HN.out, wf1, by simp, by simp, fun _ => HBD.out, fun e => absurd e (by show ¬ (3:Int) = 4; omega)⟩).mono ?_
    rintro e w9 ⟨rfl, hl⟩
    have HL := hid hl
    clear hl
    generalize hr9 : putM l ⟨3, 0, n, 1, []⟩ = r9 at HL ⊢
    have HR9 := hid hr9
    clear hr9
    go_wp2_with fail
    go_ret2
    rw [show numM l n = r9 from (by unfold numM; rw [HBD.out]; exact HR9.out)]
    exact ⟨rfl, HL.out⟩
set_option maxRecDepth 100000 in
set_option maxHeartbeats 3200000 in
theorem many_calls (w : World) (u : Nat) (l : List NodeM) (F : Nat → Prop) (op none_ : Int) (v : Value) (xs : List Int) (hr : Row w 26 v (lits xs)) (hop : 5 ≤ op ∧ op ≤ 255) (h : Rs w u l F) :
    Calls Try.prog 57 #[ptr u, .int .u8 op, .int .i64 none_, v] w (GotR w u F (manyM l op none_ xs)) := by
  have HS := hid h
  have HTH := hid (fun (W : World) (v : Value) (xs : List Int) (hW : Below w.heap.size w W) (hr : Row W 26 v (lits xs)) => there_calls W u l F v xs (h.below hW) hr)
  have HOF := hid (fun (W : World) (s : Int) (v : Value) (xs : List Int) (hW : Below w.heap.size w W) (hr : Row W 26 v (lits xs)) (hx : thereM l xs = true) => of_calls W u l F s v xs (h.below hW) hr hx)
  have HPUT := hid (fun (W : World) (n : NodeM) (v : Value) (hW : Below w.heap.size w W) (hr : Row W 26 v (lits n.args)) (hn : WfN n) => (put_got W u l F n v (h.below hW) hr hn).mono fun e w' => GotR.below hW)
  have HWF := hid h.wf
  have HOP := hid hop
  clear hop
  have HB0 := hid (Below.refl w.heap.size w)
  obtain ⟨N, hN⟩ : ∃ N, N = xs.length := ⟨_, rfl⟩
  obtain ⟨A, c, rfl, hcap⟩ := hr.shape
  rw [show (lits xs).length = N from by simp [hN]] at hr ⊢
  have HR0 := hid hr
  have HNN := hid hN
  have hNb : N ≤ 9223372036854775807 := by have h1 := hcap.1; have h2 := hcap.2; unfold maxLen at h2; simp at h1; omega
  clear h hr hN hcap
  go_enter Try.func57, Try.ntmps57
  go_wp2_with fail
  refine (HTH.out _ _ xs HB0.out HR0.out).mono ?_
  rintro e w1 ⟨rfl, hb⟩
  have HR1 := hid (Row.bel HR0.out hb)
  have HB1 := hid (TM.bel HB0.out hb)
  clear hb
  cases hth : thereM l xs with
  | false =>
    have HTHE := hid hth
    clear hth
    go_wp2_with fail
    go_ret2
    rw [show manyM l op none_ xs = (0, 7, l) from (by unfold manyM; rw [HTHE.out]; rfl)]
    exact GotR.same HS.out HB1.out
  | true =>
    have HTHE := hid hth
    clear hth
    by_cases hlong : 2000 < N
    · have hI : (N : Int) > 2000 := by omega
      go_wp2_with fail
      go_ret2
      rw [show manyM l op none_ xs = (0, 3, l) from (by unfold manyM; rw [HTHE.out, ← HNN.out, if_pos hlong]; rfl)]
      exact GotR.same HS.out HB1.out
    · have HLG := hid hlong
      have hI : ¬ (N : Int) > 2000 := by omega
      clear hlong
      go_wp2_with fail
      refine (HOF.out _ 0 _ xs HB1.out HR1.out HTHE.out).mono ?_
      rintro e w2 ⟨rfl, hb⟩
      have HR2 := hid (Row.bel HR1.out hb)
      have HB2 := hid (TM.bel HB1.out hb)
      clear hb
      cases hof : ofM l 0 xs with
      | false =>
        have HOFE := hid hof
        clear hof
        go_wp2_with fail
        go_ret2
        rw [show manyM l op none_ xs = (0, 60, l) from (by unfold manyM; rw [HTHE.out, ← HNN.out, if_neg (show ¬ 2000 < N by have := HLG.out; omega), HOFE.out]; rfl)]
        exact GotR.same HS.out HB2.out
      | true =>
        have HOFE := hid hof
        clear hof
        rcases Nat.eq_zero_or_pos N with h0 | h0
        · have HZ := hid h0
          subst h0
          go_wp2_with fail
          go_ret2
          rw [show manyM l op none_ xs = (none_, 0, l) from (by unfold manyM; rw [HTHE.out, ← HNN.out, if_neg (show ¬ 2000 < (0 : Nat) by omega), HOFE.out]; rfl)]
          exact GotR.same HS.out HB2.out
        · by_cases h1 : N = 1
          · obtain ⟨x, hx⟩ : ∃ x, xs = [x] := List.length_eq_one_iff.1 (by rw [← HNN.out]; exact h1)
            obtain ⟨g, off, cap, hv, _, _, _, hcells, _⟩ := HR2.out.cells (by simp; have := HNN.out; omega)
            injection hv with e1 e2 e3
            subst e1 e3
            have hx0 := hcells 0 (by simp; have := HNN.out; omega)
            rw [hx] at hx0
            have hx1 : w2.cell? ⟨g, off, none⟩ = some (.int .i64 x) := hx0
            have HX := hid hx
            subst h1
            clear hx0 hcells e2 hx h0
            go_wp2_with fail
            go_ret2
            rw [show manyM l op none_ xs = (x, 0, l) from (by unfold manyM; rw [HTHE.out, ← HNN.out, if_neg (show ¬ 2000 < (1 : Nat) by omega), HOFE.out, HX.out]; rfl)]
            exact GotR.same HS.out HB2.out
          · have e0 : ((N : Int) == 0) = false := by simp; omega
            have e1 : ((N : Int) == 1) = false := by simp; omega
            have HNE := hid (And.intro h0 h1)
            clear h0 h1
            go_wp2_with fail
            refine (HPUT.out _ ⟨op, 0, 0, 0, xs⟩ _ HB2.out HR2.out (wfN_of HWF.out HTHE.out (by have := HNN.out; have := HLG.out; omega) HOP.out wf0 wf0 wf0)).mono ?_
            rintro e w9 ⟨rfl, hl⟩
            have HL := hid hl
            clear hl
            generalize hr9 : putM l ⟨op, 0, 0, 0, xs⟩ = r9 at HL ⊢
            have HR9 := hid hr9
            clear hr9
            go_wp2_with fail
            go_ret2
            rw [show manyM l op none_ xs = r9 from (by unfold manyM; rw [HTHE.out, ← HNN.out, if_neg (show ¬ 2000 < N by have := HLG.out; omega), HOFE.out, if_neg (show ¬ N = 0 by have := HNE.out; omega), if_neg HNE.out.2]; exact HR9.out)]
            exact ⟨rfl, HL.out⟩
set_option maxRecDepth 100000 in
set_option maxHeartbeats 3200000 in
theorem And_calls (w : World) (u : Nat) (l : List NodeM) (F : Nat → Prop) (v : Value) (xs : List Int) (hr : Row w 26 v (lits xs)) (h : Rs w u l F) :
    Calls Try.prog 35 #[ptr u, v] w (GotR w u F (andM l xs)) := by
  have HM := hid (many_calls w u l F 10 0 v xs hr (by omega) h)
  obtain ⟨A, c, rfl, _⟩ := hr.shape
  obtain ⟨N, hN⟩ : ∃ N, N = (lits xs).length := ⟨_, rfl⟩
  rw [← hN] at HM ⊢
  clear h hr hN
  go_enter Try.func35, Try.ntmps35
  go_wp2_with fail
  refine HM.out.mono ?_
  rintro e w9 ⟨rfl, hl⟩
  have HL := hid hl
  clear hl
  generalize hr9 : manyM l 10 0 xs = r9 at HL ⊢
  have HR9 := hid hr9
  clear hr9
  go_wp2_with fail
  go_ret2
  rw [show andM l xs = r9 from HR9.out]
  exact ⟨rfl, HL.out⟩
set_option maxRecDepth 100000 in
set_option maxHeartbeats 3200000 in
theorem Or_calls (w : World) (u : Nat) (l : List NodeM) (F : Nat → Prop) (v : Value) (xs : List Int) (hr : Row w 26 v (lits xs)) (h : Rs w u l F) :
    Calls Try.prog 36 #[ptr u, v] w (GotR w u F (orM l xs)) := by
  have HM := hid (many_calls w u l F 11 1 v xs hr (by omega) h)
  obtain ⟨A, c, rfl, _⟩ := hr.shape
  obtain ⟨N, hN⟩ : ∃ N, N = (lits xs).length := ⟨_, rfl⟩
  rw [← hN] at HM ⊢
  clear h hr hN
  go_enter Try.func36, Try.ntmps36
  go_wp2_with fail
  refine HM.out.mono ?_
  rintro e w9 ⟨rfl, hl⟩
  have HL := hid hl
  clear hl
  generalize hr9 : manyM l 11 1 xs = r9 at HL ⊢
  have HR9 := hid hr9
  clear hr9
  go_wp2_with fail
  go_ret2
  rw [show orM l xs = r9 from HR9.out]
  exact ⟨rfl, HL.out⟩
set_option maxRecDepth 100000 in
set_option maxHeartbeats 3200000 in
theorem App_calls (w : World) (u : Nat) (l : List NodeM) (F : Nat → Prop) (f s : Int) (v : Value) (xs : List Int) (hr : Row w 26 v (lits xs)) (hf : wf64 f) (hs : wf64 s) (h : Rs w u l F) :
    Calls Try.prog 39 #[ptr u, .int .i64 f, .int .i64 s, v] w (GotR w u F (appM l f s xs)) := by
  have HS := hid h
  have HTH := hid (fun (W : World) (v : Value) (xs : List Int) (hW : Below w.heap.size w W) (hr : Row W 26 v (lits xs)) => there_calls W u l F v xs (h.below hW) hr)
  have HOF := hid (fun (W : World) (s : Int) (v : Value) (xs : List Int) (hW : Below w.heap.size w W) (hr : Row W 26 v (lits xs)) (hx : thereM l xs = true) => of_calls W u l F s v xs (h.below hW) hr hx)
  have HPUT := hid (fun (W : World) (n : NodeM) (v : Value) (hW : Below w.heap.size w W) (hr : Row W 26 v (lits n.args)) (hn : WfN n) => (put_got W u l F n v (h.below hW) hr hn).mono fun e w' => GotR.below hW)
  have HWF := hid h.wf
  have HWFS := hid (And.intro hf hs)
  clear hf hs
  have HB0 := hid (Below.refl w.heap.size w)
  obtain ⟨N, hN⟩ : ∃ N, N = xs.length := ⟨_, rfl⟩
  obtain ⟨A, c, rfl, hcap⟩ := hr.shape
  rw [show (lits xs).length = N from by simp [hN]] at hr ⊢
  have HR0 := hid hr
  have HNN := hid hN
  have hNb : N ≤ 9223372036854775807 := by have h1 := hcap.1; have h2 := hcap.2; unfold maxLen at h2; simp at h1; omega
  clear h hr hN hcap
  by_cases f0 : f < 0
  · have HF0 := hid f0
    go_enter Try.func39, Try.ntmps39
    go_wp2_with fail
    go_ret2
    rw [show appM l f s xs = (0, 2, l) from (by unfold appM; rw [if_pos HF0.out])]
    exact GotR.same HS.out HB0.out
  · have HF0 := hid f0
    by_cases s0 : s < 0
    · have HS0 := hid s0
      go_enter Try.func39, Try.ntmps39
      go_wp2_with fail
      go_ret2
      rw [show appM l f s xs = (0, 2, l) from (by unfold appM; rw [if_neg (show ¬ f < 0 by have := HF0.out; omega), if_pos HS0.out])]
      exact GotR.same HS.out HB0.out
    · have HS0 := hid s0
      go_enter Try.func39, Try.ntmps39
      go_wp2_with fail
      refine (HTH.out _ _ xs HB0.out HR0.out).mono ?_
      rintro e w1 ⟨rfl, hb⟩
      have HR1 := hid (Row.bel HR0.out hb)
      have HB1 := hid (TM.bel HB0.out hb)
      clear hb
      cases hth : thereM l xs with
      | false =>
        have HTHE := hid hth
        clear hth
        go_wp2_with fail
        go_ret2
        rw [show appM l f s xs = (0, 7, l) from (by unfold appM; rw [if_neg (show ¬ f < 0 by have := HF0.out; omega), if_neg (show ¬ s < 0 by have := HS0.out; omega), HTHE.out]; rfl)]
        exact GotR.same HS.out HB1.out
      | true =>
        have HTHE := hid hth
        clear hth
        by_cases hlong : 20 < N
        · have hI : (N : Int) > 20 := by omega
          go_wp2_with fail
          go_ret2
          rw [show appM l f s xs = (0, 3, l) from (by unfold appM; rw [if_neg (show ¬ f < 0 by have := HF0.out; omega), if_neg (show ¬ s < 0 by have := HS0.out; omega), HTHE.out, ← HNN.out, if_pos hlong]; rfl)]
          exact GotR.same HS.out HB1.out
        · have HLG := hid hlong
          have hI : ¬ (N : Int) > 20 := by omega
          clear hlong
          go_wp2_with fail
          refine (HPUT.out _ ⟨5, f, 0, s, xs⟩ _ HB1.out HR1.out (wfN_of HWF.out HTHE.out (by have := HNN.out; have := HLG.out; omega) (by omega) HWFS.out.1 wf0 HWFS.out.2)).mono ?_
          rintro e w9 ⟨rfl, hl⟩
          have HL := hid hl
          clear hl
          generalize hr9 : putM l ⟨5, f, 0, s, xs⟩ = r9 at HL ⊢
          have HR9 := hid hr9
          clear hr9
          go_wp2_with fail
          go_ret2
          rw [show appM l f s xs = r9 from (by unfold appM; rw [if_neg (show ¬ f < 0 by have := HF0.out; omega), if_neg (show ¬ s < 0 by have := HS0.out; omega), HTHE.out, ← HNN.out, if_neg (show ¬ 20 < N by have := HLG.out; omega)]; exact HR9.out)]
          exact ⟨rfl, HL.out⟩
end Go.Proofs.Ytmgbodmpjholiaa.RT
