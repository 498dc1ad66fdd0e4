/- Walks of terms: the constructors and the rest (printed by wip/tools/termc.py). -/
import Derived.Test.YtmgbodmpjholiaaTermP
namespace Go.Proofs.Ytmgbodmpjholiaa.TM
open Go.RowKit Go.Maps Go.Shelf Go.Lib Go.Proofs.YtmgbodmpjholiaaW.PrintWords Go.Proofs.YtmgbodmpjholiaaW.PrintLast Go.Proofs.YtmgbodmpjholiaaW.PrintMore Go.Proofs.Ytmgbodmpjholiaa.MM Go.Proofs.Ytmgbodmpjholiaa.KM
attribute [local go_sem ↓] Go.wp_at_zero Go.wp_at_succ
set_option linter.unusedSimpArgs false
set_option linter.unusedVariables false

/-- What a constructor leaves. -/
def Got (w : World) (t : Nat) (q : Nat) (F : Nat → Prop) (r : Ans) (e : Ending) (w' : World) : Prop := e = .returned (.tuple #[.int .i64 r.1, .int .i64 r.2.1]) ∧ LeftS w t r.2.2 q F w'
theorem Got.below {w w1 : World} {t q : Nat} {F : Nat → Prop} {r : Ans} {e : Ending} {w2 : World} (hb : Below w.heap.size w w1) (h : Got w1 t q F r e w2) : Got w t q F r e w2 := ⟨h.1, h.2.below hb⟩
theorem Got.same {w w1 : World} {t q : Nat} {F : Nat → Prop} {l : List NodeM} {x y : Int} (h : St w t l q F) (hb : Below w.heap.size w w1) : Got w t (q + 2000) F (x, y, l) (.returned (.tuple #[.int .i64 x, .int .i64 y])) w1 := ⟨rfl, (LeftS.same h hb).more (by omega)⟩
theorem bel {w w1 w2 : World} (h1 : Below w.heap.size w w1) (h2 : Below w1.heap.size w1 w2) : Below w.heap.size w w2 := h1.trans (h2.mono h1.size)
theorem Row.many (w : World) (e : TypeId) (xs : List Value) (hl : xs.length ≤ 1000000) : Row (w.alloc (.cells xs.toArray e)) e (.slice (some ⟨w.heap.size, 0, none⟩) xs.length xs.length) xs :=
  .inr ⟨w.heap.size, 0, xs.length, xs.toArray, rfl, heap_alloc_new w _, Nat.le_refl _, by unfold maxLen; omega, by simp, by simp⟩
theorem thereE_true {l : List NodeM} {xs : List Int} (h : thereM l xs = true) : thereE l xs = 0 := by unfold thereE; rw [h]; rfl
theorem thereE_false {l : List NodeM} {xs : List Int} (h : thereM l xs = false) : thereE l xs = 7 := by unfold thereE; rw [h]; rfl
theorem there_mem {l : List NodeM} {xs : List Int} (h : thereM l xs = true) : ∀ x ∈ xs, hasM l x = true := by
  unfold thereM at h
  rw [List.all_eq_true] at h
  exact h
theorem there_sub {l : List NodeM} {xs : List Int} (h : ∀ x ∈ xs, hasM l x = true) : thereM l xs = true := by
  unfold thereM
  rw [List.all_eq_true]
  exact h
theorem wfN_of {l : List NodeM} {xs : List Int} (wf : Wf l) (h : thereM l xs = true) (hl : xs.length ≤ 2000) {op fn num s : Int} (hop : 5 ≤ op ∧ op ≤ 255) (h1 : wf64 fn) (h2 : wf64 num) (h3 : wf64 s) : WfN ⟨op, fn, num, s, xs⟩ where
  op := ⟨by show 0 ≤ op; omega, hop.2⟩
  fn := h1
  num := h2
  sort := h3
  args := fun x hx => has_wf wf (there_mem h x hx)
  len := hl
  bd := fun e => by
    have e' : op = 3 ∨ op = 4 := e
    omega
  one := fun e => by
    have e' : op = 4 := e
    omega
theorem put_got (w : World) (t : Nat) (l : List NodeM) (q : Nat) (F : Nat → Prop) (n : NodeM) (x : Value) (h : St w t l q F) (hr : Row w 26 x (lits n.args)) (hn : WfN n) (hq : q + 2000 < 1000000000) :
    Calls Try.prog 30 #[ptr t, nodeV n x] w (Got w t (q + 2000) F (putM l n)) :=
  (put_calls w t l q F n x h hr hn (by have := hn.len; omega)).mono fun e w' ⟨he, hl⟩ => ⟨he, hl.more (by have := hn.len; omega)⟩
theorem wf0 : wf64 0 := wf64_zero
theorem wf1 : wf64 1 := ⟨by omega, by omega⟩
set_option maxRecDepth 100000 in
set_option maxHeartbeats 1600000 in
theorem Not_calls (w : World) (t : Nat) (l : List NodeM) (q : Nat) (F : Nat → Prop) (a : Int) (h : St w t l q F) (hq : q + 2000 < 1000000000) :
    Calls Try.prog 24 #[ptr t, .int .i64 a] w (Got w t (q + 2000) F (notM l a)) := by
  have HS := hid h
  have HTH := hid (fun (W : World) (v : Value) (xs : List Int) (hW : Below w.heap.size w W) (hr : Row W 26 v (lits xs)) => there_calls W t l q F v xs (h.below hW) hr)
  have HOF := hid (fun (W : World) (s : Int) (v : Value) (xs : List Int) (hW : Below w.heap.size w W) (hr : Row W 26 v (lits xs)) (hx : thereM l xs = true) => of_calls W t l q F s v xs (h.below hW) hr hx)
  have HPUT := hid (fun (W : World) (n : NodeM) (v : Value) (hW : Below w.heap.size w W) (hr : Row W 26 v (lits n.args)) (hn : WfN n) => (put_got W t l q F n v (h.below hW) hr hn hq).mono fun e w' => Got.below hW)
  have HWF := hid h.wf
  have HB0 := hid (Below.refl w.heap.size w)
  clear h
  go_enter Try.func24, Try.ntmps24
  go_wp2_with fail
  refine (HTH.out _ _ [a] (HB0.out.alloc HB0.out.size _) (Row.many _ _ (lits [a]) (by simp))).mono ?_
  rintro e w1 ⟨rfl, hb⟩
  have HB1 := hid (bel (HB0.out.alloc HB0.out.size _) hb)
  clear hb
  cases hth : thereM l [a] with
  | false =>
    rw [thereE_false hth]
    have HTHE := hid hth
    clear hth
    go_wp2_with fail
    go_ret2
    rw [show notM l a = (0, 7, l) from (by unfold notM; rw [HTHE.out]; rfl)]
    exact Got.same HS.out HB1.out
  | true =>
    rw [thereE_true hth]
    have HTHE := hid hth
    clear hth
    go_wp2_with fail
    refine (HOF.out _ 0 _ [a] (HB1.out.alloc HB1.out.size _) (Row.many _ _ (lits [a]) (by simp)) HTHE.out).mono ?_
    rintro e w2 ⟨rfl, hb⟩
    have HB2 := hid (bel (HB1.out.alloc HB1.out.size _) hb)
    clear hb
    cases hof : ofM l 0 [a] with
    | false =>
      have HOFE := hid hof
      clear hof
      go_wp2_with fail
      go_ret2
      rw [show notM l a = (0, 60, l) from (by unfold notM; rw [HTHE.out, HOFE.out]; rfl)]
      exact Got.same HS.out HB2.out
    | true =>
      have HOFE := hid hof
      clear hof
      go_wp2_with fail
      refine (HPUT.out _ ⟨9, 0, 0, 0, [a]⟩ _ (HB2.out.alloc HB2.out.size _) (Row.many _ _ (lits [a]) (by simp)) (wfN_of HWF.out HTHE.out (by simp) (by omega) wf0 wf0 wf0)).mono ?_
      rintro e w9 ⟨rfl, hl⟩
      have HL := hid hl
      clear hl
      generalize hr9 : putM l ⟨9, 0, 0, 0, [a]⟩ = r9 at HL ⊢
      have HR9 := hid hr9
      clear hr9
      go_wp2_with fail
      go_ret2
      rw [show notM l a = r9 from (by unfold notM; rw [HTHE.out, HOFE.out]; exact HR9.out)]
      exact ⟨rfl, HL.out⟩
/-- Where the sort of a term stands. -/
theorem sort_cell {w : World} {t : Nat} {l : List NodeM} {q : Nat} {F : Nat → Prop} {a : Int} (h : St w t l q F) (ha : hasM l a = true) : ∃ (i g : Nat) (n cap : Nat), a = (i : Int) ∧ (i : Int) < (n : Int) ∧ w.cell? ⟨t, 0, none⟩ = some (.slice (some ⟨g, 0, none⟩) n cap) ∧ w.cell? ⟨g, i * 5 + 3, none⟩ = some (.int .i64 (sortM l a)) := by
  obtain ⟨A, v, b1, b2, L, g1, g2, h1, _⟩ := h
  obtain ⟨g, cap, y, rfl, hg, hcells, _, _⟩ := h1.nodes.cells (nodes_get ha)
  have h2 := getD_mem ha
  exact ⟨a.toNat, g, l.length, cap, by omega, by omega, h1.at.c0, hcells 3 _ rfl⟩
set_option maxRecDepth 100000 in
set_option maxHeartbeats 1600000 in
theorem Eq_calls (w : World) (t : Nat) (l : List NodeM) (q : Nat) (F : Nat → Prop) (a b : Int) (h : St w t l q F) (hq : q + 2000 < 1000000000) :
    Calls Try.prog 27 #[ptr t, .int .i64 a, .int .i64 b] w (Got w t (q + 2000) F (eqM l a b)) := by
  have HS := hid h
  have HTH := hid (fun (W : World) (v : Value) (xs : List Int) (hW : Below w.heap.size w W) (hr : Row W 26 v (lits xs)) => there_calls W t l q F v xs (h.below hW) hr)
  have HOF := hid (fun (W : World) (s : Int) (v : Value) (xs : List Int) (hW : Below w.heap.size w W) (hr : Row W 26 v (lits xs)) (hx : thereM l xs = true) => of_calls W t l q F s v xs (h.below hW) hr hx)
  have HPUT := hid (fun (W : World) (n : NodeM) (v : Value) (hW : Below w.heap.size w W) (hr : Row W 26 v (lits n.args)) (hn : WfN n) => (put_got W t l q F n v (h.below hW) hr hn hq).mono fun e w' => Got.below hW)
  have HWF := hid h.wf
  have HB0 := hid (Below.refl w.heap.size w)
  clear h
  go_enter Try.func27, Try.ntmps27
  go_wp2_with fail
  refine (HTH.out _ _ [a, b] (HB0.out.alloc HB0.out.size _) (Row.many _ _ (lits [a, b]) (by simp))).mono ?_
  rintro e w1 ⟨rfl, hb⟩
  have HB1 := hid (bel (HB0.out.alloc HB0.out.size _) hb)
  clear hb
  cases hth : thereM l [a, b] with
  | false =>
    rw [thereE_false hth]
    have HTHE := hid hth
    clear hth
    go_wp2_with fail
    go_ret2
    rw [show eqM l a b = (0, 7, l) from (by unfold eqM; rw [HTHE.out]; rfl)]
    exact Got.same HS.out HB1.out
  | true =>
    rw [thereE_true hth]
    have HTHE := hid hth
    clear hth
    have HSC := hid (sort_cell (HS.out.below HB1.out) (there_mem HTHE.out a (by simp)))
    obtain ⟨i, g, av, cap, hxi, hil, hc0, hcs⟩ := HSC.out
    obtain ⟨s, hs⟩ : ∃ s, s = sortM l a := ⟨_, rfl⟩
    rw [← hs] at hcs
    have HXI := hid hxi
    have HSS := hid hs
    subst hxi
    clear hs
    go_wp2_with fail
    refine (HOF.out _ s _ [b] (HB1.out.alloc HB1.out.size _) (Row.many _ _ (lits [b]) (by simp)) (there_sub fun x hx => there_mem HTHE.out x (by simp at hx; simp [hx]))).mono ?_
    rintro e w2 ⟨rfl, hb⟩
    have HB2 := hid (bel (HB1.out.alloc HB1.out.size _) hb)
    clear hb
    clear hc0 hcs hil
    cases hof : ofM l s [b] with
    | false =>
      have HOFE := hid hof
      clear hof
      go_wp2_with fail
      go_ret2
      rw [show eqM l (i : Int) b = (0, 60, l) from (by unfold eqM; rw [HTHE.out, ← HSS.out, HOFE.out]; rfl)]
      exact Got.same HS.out HB2.out
    | true =>
      have HOFE := hid hof
      clear hof
      go_wp2_with fail
      refine (HPUT.out _ ⟨7, 0, 0, 0, [(i : Int), b]⟩ _ (HB2.out.alloc HB2.out.size _) (Row.many _ _ (lits [(i : Int), b]) (by simp)) (wfN_of HWF.out HTHE.out (by simp) (by omega) wf0 wf0 wf0)).mono ?_
      rintro e w9 ⟨rfl, hl⟩
      have HL := hid hl
      clear hl
      generalize hr9 : putM l ⟨7, 0, 0, 0, [(i : Int), b]⟩ = r9 at HL ⊢
      have HR9 := hid hr9
      clear hr9
      go_wp2_with fail
      go_ret2
      rw [show eqM l (i : Int) b = r9 from (by unfold eqM; rw [HTHE.out, ← HSS.out, HOFE.out]; exact HR9.out)]
      exact ⟨rfl, HL.out⟩
set_option maxRecDepth 100000 in
set_option maxHeartbeats 1600000 in
theorem Ite_calls (w : World) (t : Nat) (l : List NodeM) (q : Nat) (F : Nat → Prop) (c a b : Int) (h : St w t l q F) (hq : q + 2000 < 1000000000) :
    Calls Try.prog 28 #[ptr t, .int .i64 c, .int .i64 a, .int .i64 b] w (Got w t (q + 2000) F (iteM l c a b)) := by
  have HS := hid h
  have HTH := hid (fun (W : World) (v : Value) (xs : List Int) (hW : Below w.heap.size w W) (hr : Row W 26 v (lits xs)) => there_calls W t l q F v xs (h.below hW) hr)
  have HOF := hid (fun (W : World) (s : Int) (v : Value) (xs : List Int) (hW : Below w.heap.size w W) (hr : Row W 26 v (lits xs)) (hx : thereM l xs = true) => of_calls W t l q F s v xs (h.below hW) hr hx)
  have HPUT := hid (fun (W : World) (n : NodeM) (v : Value) (hW : Below w.heap.size w W) (hr : Row W 26 v (lits n.args)) (hn : WfN n) => (put_got W t l q F n v (h.below hW) hr hn hq).mono fun e w' => Got.below hW)
  have HWF := hid h.wf
  have HB0 := hid (Below.refl w.heap.size w)
  clear h
  go_enter Try.func28, Try.ntmps28
  go_wp2_with fail
  refine (HTH.out _ _ [c, a, b] (HB0.out.alloc HB0.out.size _) (Row.many _ _ (lits [c, a, b]) (by simp))).mono ?_
  rintro e w1 ⟨rfl, hb⟩
  have HB1 := hid (bel (HB0.out.alloc HB0.out.size _) hb)
  clear hb
  cases hth : thereM l [c, a, b] with
  | false =>
    rw [thereE_false hth]
    have HTHE := hid hth
    clear hth
    go_wp2_with fail
    go_ret2
    rw [show iteM l c a b = (0, 7, l) from (by unfold iteM; rw [HTHE.out]; rfl)]
    exact Got.same HS.out HB1.out
  | true =>
    rw [thereE_true hth]
    have HTHE := hid hth
    clear hth
    have HSC := hid (sort_cell (HS.out.below HB1.out) (there_mem HTHE.out a (by simp)))
    obtain ⟨i, g, av, cap, hxi, hil, hc0, hcs⟩ := HSC.out
    obtain ⟨s, hs⟩ : ∃ s, s = sortM l a := ⟨_, rfl⟩
    rw [← hs] at hcs
    have HSS := hid hs
    have HWS := hid (show wf64 s from by rw [hs]; exact (HWF.out.has (there_mem HTHE.out a (by simp))).sort)
    subst hxi
    clear hs
    go_wp2_with fail
    refine (HOF.out _ 0 _ [c] (HB1.out.alloc HB1.out.size _) (Row.many _ _ (lits [c]) (by simp)) (there_sub fun x hx => there_mem HTHE.out x (by simp at hx; simp [hx]))).mono ?_
    rintro e w2 ⟨rfl, hb⟩
    have HB2 := hid (bel (HB1.out.alloc HB1.out.size _) hb)
    clear hb
    clear hc0 hcs hil
    cases hof : ofM l 0 [c] with
    | false =>
      have HOFE := hid hof
      clear hof
      go_wp2_with fail
      go_ret2
      rw [show iteM l c (i : Int) b = (0, 60, l) from (by unfold iteM; rw [HTHE.out, HOFE.out]; rfl)]
      exact Got.same HS.out HB2.out
    | true =>
      have HOFE := hid hof
      clear hof
      go_wp2_with fail
      refine (HOF.out _ s _ [b] (HB2.out.alloc HB2.out.size _) (Row.many _ _ (lits [b]) (by simp)) (there_sub fun x hx => there_mem HTHE.out x (by simp at hx; simp [hx]))).mono ?_
      rintro e w3 ⟨rfl, hb⟩
      have HB3 := hid (bel (HB2.out.alloc HB2.out.size _) hb)
      clear hb
      cases hof2 : ofM l s [b] with
      | false =>
        have HOFE2 := hid hof2
        clear hof2
        go_wp2_with fail
        go_ret2
        rw [show iteM l c (i : Int) b = (0, 60, l) from (by unfold iteM; rw [HTHE.out, HOFE.out, ← HSS.out, HOFE2.out]; rfl)]
        exact Got.same HS.out HB3.out
      | true =>
        have HOFE2 := hid hof2
        clear hof2
        go_wp2_with fail
        refine (HPUT.out _ ⟨6, 0, 0, s, [c, (i : Int), b]⟩ _ (HB3.out.alloc HB3.out.size _) (Row.many _ _ (lits [c, (i : Int), b]) (by simp)) (wfN_of HWF.out HTHE.out (by simp) (by omega) wf0 wf0 HWS.out)).mono ?_
        rintro e w9 ⟨rfl, hl⟩
        have HL := hid hl
        clear hl
        generalize hr9 : putM l ⟨6, 0, 0, s, [c, (i : Int), b]⟩ = r9 at HL ⊢
        have HR9 := hid hr9
        clear hr9
        go_wp2_with fail
        go_ret2
        rw [show iteM l c (i : Int) b = r9 from (by unfold iteM; rw [HTHE.out, HOFE.out, ← HSS.out, HOFE2.out]; exact HR9.out)]
        exact ⟨rfl, HL.out⟩
theorem none_cell {w : World} {t : Nat} {l : List NodeM} {q : Nat} {F : Nat → Prop} (h : St w t l q F) : ∃ b1, w.cell? ⟨t, 1, none⟩ = some (.map (some b1)) ∧ t < w.heap.size := by
  obtain ⟨A, v, b1, b2, L, g1, g2, h1, _⟩ := h
  exact ⟨b1, h1.at.c1, h1.at.lt⟩
set_option maxRecDepth 100000 in
set_option maxHeartbeats 1600000 in
theorem Num_calls (w : World) (t : Nat) (l : List NodeM) (q : Nat) (F : Nat → Prop) (n : Int) (hn : wf64 n) (h : St w t l q F) (hq : q + 2000 < 1000000000) :
    Calls Try.prog 14 #[ptr t, .int .i64 n] w (Got w t (q + 2000) F (numM l n)) := by
  have HS := hid h
  have HTH := hid (fun (W : World) (v : Value) (xs : List Int) (hW : Below w.heap.size w W) (hr : Row W 26 v (lits xs)) => there_calls W t l q F v xs (h.below hW) hr)
  have HOF := hid (fun (W : World) (s : Int) (v : Value) (xs : List Int) (hW : Below w.heap.size w W) (hr : Row W 26 v (lits xs)) (hx : thereM l xs = true) => of_calls W t l q F s v xs (h.below hW) hr hx)
  have HPUT := hid (fun (W : World) (n : NodeM) (v : Value) (hW : Below w.heap.size w W) (hr : Row W 26 v (lits n.args)) (hn : WfN n) => (put_got W t l q F n v (h.below hW) hr hn hq).mono fun e w' => Got.below hW)
  have HWF := hid h.wf
  have HB0 := hid (Below.refl w.heap.size w)
  obtain ⟨b1, hc1⟩ := none_cell HS.out
  have HNONE := hid (fun (W : World) (hW : Below w.heap.size w W) => none_walk W t b1 ((hW.cell (p := ⟨t, 1, none⟩) hc1.2).trans hc1.1))
  clear h hc1
  have HN := hid hn
  clear hn
  go_enter Try.func14, Try.ntmps14
  go_wp2_with fail
  refine (HNONE.out _ HB0.out).mono ?_
  rintro e w1 ⟨rfl, hw⟩
  obtain rfl := hw
  go_wp2_with fail
  refine (bound_calls _ n).mono ?_
  rintro e w2 ⟨rfl, hw⟩
  obtain rfl := hw
  cases hb : boundM n with
  | false =>
    have HBD := hid hb
    clear hb
    go_wp2_with fail
    go_ret2
    rw [show numM l n = (0, 6, l) from (by unfold numM; rw [HBD.out]; rfl)]
    exact Got.same HS.out HB0.out
  | true =>
    have HBD := hid hb
    clear hb
    go_wp2_with fail
    refine (HPUT.out _ ⟨3, 0, n, 1, []⟩ _ HB0.out (Row.nil _ _) ⟨⟨by show (0:Int) ≤ 3; omega, by show (3:Int) ≤ 255; omega⟩, wf0, HN.out, wf1, by simp, by simp, fun _ => HBD.out, fun e => absurd e (by show ¬ (3:Int) = 4; omega)⟩).mono ?_
    rintro e w9 ⟨rfl, hl⟩
    have HL := hid hl
    clear hl
    generalize hr9 : putM l ⟨3, 0, n, 1, []⟩ = r9 at HL ⊢
    have HR9 := hid hr9
    clear hr9
    go_wp2_with fail
    go_ret2
    rw [show numM l n = r9 from (by unfold numM; rw [HBD.out]; exact HR9.out)]
    exact ⟨rfl, HL.out⟩
set_option maxRecDepth 100000 in
set_option maxHeartbeats 1600000 in
theorem many_calls (w : World) (t : Nat) (l : List NodeM) (q : Nat) (F : Nat → Prop) (op none_ : Int) (v : Value) (xs : List Int) (hr : Row w 26 v (lits xs)) (hop : 5 ≤ op ∧ op ≤ 255) (h : St w t l q F) (hq : q + 2000 < 1000000000) :
    Calls Try.prog 50 #[ptr t, .int .u8 op, .int .i64 none_, v] w (Got w t (q + 2000) F (manyM l op none_ xs)) := by
  have HS := hid h
  have HTH := hid (fun (W : World) (v : Value) (xs : List Int) (hW : Below w.heap.size w W) (hr : Row W 26 v (lits xs)) => there_calls W t l q F v xs (h.below hW) hr)
  have HOF := hid (fun (W : World) (s : Int) (v : Value) (xs : List Int) (hW : Below w.heap.size w W) (hr : Row W 26 v (lits xs)) (hx : thereM l xs = true) => of_calls W t l q F s v xs (h.below hW) hr hx)
  have HPUT := hid (fun (W : World) (n : NodeM) (v : Value) (hW : Below w.heap.size w W) (hr : Row W 26 v (lits n.args)) (hn : WfN n) => (put_got W t l q F n v (h.below hW) hr hn hq).mono fun e w' => Got.below hW)
  have HWF := hid h.wf
  have HB0 := hid (Below.refl w.heap.size w)
  obtain ⟨N, hN⟩ : ∃ N, N = xs.length := ⟨_, rfl⟩
  have HR := hid (fun (W : World) (hW : Below w.heap.size w W) => (hr.keep (Keep.ofBelow (F := fun _ => False) hW) (fun _ _ h => h) : Row W 26 v (lits xs)))
  obtain ⟨A, c, rfl, hcap⟩ := hr.shape
  rw [show (lits xs).length = N from by simp [hN]] at HR ⊢
  have HNN := hid hN
  have HOP := hid hop
  have hNb : N ≤ 9223372036854775807 := by have := hcap.1; have := hcap.2; unfold maxLen at this; simp at *; omega
  clear h hr hN hcap hop
  go_enter Try.func50, Try.ntmps50
  go_wp2_with fail
  refine (HTH.out _ _ xs HB0.out (HR.out _ HB0.out)).mono ?_
  rintro e w1 ⟨rfl, hb⟩
  have HB1 := hid (bel HB0.out hb)
  clear hb
  cases hth : thereM l xs with
  | false =>
    rw [thereE_false hth]
    have HTHE := hid hth
    clear hth
    go_wp2_with fail
    go_ret2
    rw [show manyM l op none_ xs = (0, 7, l) from (by unfold manyM; rw [HTHE.out]; rfl)]
    exact Got.same HS.out HB1.out
  | true =>
    rw [thereE_true hth]
    have HTHE := hid hth
    clear hth
    by_cases hlong : 2000 < N
    · have hI : (N : Int) > 2000 := by omega
      go_wp2_with fail
      go_ret2
      rw [show manyM l op none_ xs = (0, 3, l) from (by unfold manyM; rw [HTHE.out, ← HNN.out, if_pos hlong]; rfl)]
      exact Got.same HS.out HB1.out
    · have HLG := hid hlong
      have hI : ¬ (N : Int) > 2000 := by omega
      clear hlong
      go_wp2_with fail
      refine (HOF.out _ 0 _ xs HB1.out (HR.out _ HB1.out) HTHE.out).mono ?_
      rintro e w2 ⟨rfl, hb⟩
      have HB2 := hid (bel HB1.out hb)
      clear hb
      cases hof : ofM l 0 xs with
      | false =>
        have HOFE := hid hof
        clear hof
        go_wp2_with fail
        go_ret2
        rw [show manyM l op none_ xs = (0, 60, l) from (by unfold manyM; rw [HTHE.out, ← HNN.out, if_neg (show ¬ 2000 < N by have := HLG.out; omega), HOFE.out]; rfl)]
        exact Got.same HS.out HB2.out
      | true =>
        have HOFE := hid hof
        clear hof
        rcases Nat.eq_zero_or_pos N with h0 | h0
        · have hz : (N : Int) = 0 := by omega
          have HZ := hid h0
          subst h0
          go_wp2_with fail
          go_ret2
          rw [show manyM l op none_ xs = (none_, 0, l) from (by unfold manyM; rw [HTHE.out, ← HNN.out, if_neg (show ¬ 2000 < (0 : Nat) by omega), HOFE.out]; rfl)]
          exact Got.same HS.out HB2.out
        · by_cases h1 : N = 1
          · obtain ⟨x, hx⟩ : ∃ x, xs = [x] := List.length_eq_one_iff.1 (by rw [← HNN.out]; exact h1)
            obtain ⟨g, off, cap, hv, _, _, _, hcells, _⟩ := (HR.out _ HB2.out).cells (by simp; have := HNN.out; omega)
            injection hv with e1 e2 e3
            subst e1 e3
            have hx0 := hcells 0 (by simp; have := HNN.out; omega)
            rw [hx] at hx0
            have hx1 : w2.cell? ⟨g, off, none⟩ = some (.int .i64 x) := hx0
            have HX := hid hx
            subst h1
            clear hx0 hcells e2 hx h0
            go_wp2_with fail
            go_ret2
            rw [show manyM l op none_ xs = (x, 0, l) from (by unfold manyM; rw [HTHE.out, ← HNN.out, if_neg (show ¬ 2000 < (1 : Nat) by omega), HOFE.out, HX.out]; rfl)]
            exact Got.same HS.out HB2.out
          · have e0 : ((N : Int) == 0) = false := by simp; omega
            have e1 : ((N : Int) == 1) = false := by simp; omega
            have HNE := hid (And.intro h0 h1)
            clear h0 h1
            go_wp2_with fail
            refine (HPUT.out _ ⟨op, 0, 0, 0, xs⟩ _ HB2.out (HR.out _ HB2.out) (wfN_of HWF.out HTHE.out (by have := HNN.out; have := HLG.out; omega) HOP.out wf0 wf0 wf0)).mono ?_
            rintro e w9 ⟨rfl, hl⟩
            have HL := hid hl
            clear hl
            generalize hr9 : putM l ⟨op, 0, 0, 0, xs⟩ = r9 at HL ⊢
            have HR9 := hid hr9
            clear hr9
            go_wp2_with fail
            go_ret2
            rw [show manyM l op none_ xs = r9 from (by unfold manyM; rw [HTHE.out, ← HNN.out, if_neg (show ¬ 2000 < N by have := HLG.out; omega), HOFE.out, if_neg (show ¬ N = 0 by have := HNE.out; omega), if_neg HNE.out.2]; exact HR9.out)]
            exact ⟨rfl, HL.out⟩
set_option maxRecDepth 100000 in
set_option maxHeartbeats 1600000 in
theorem And_calls (w : World) (t : Nat) (l : List NodeM) (q : Nat) (F : Nat → Prop) (v : Value) (xs : List Int) (hr : Row w 26 v (lits xs)) (h : St w t l q F) (hq : q + 2000 < 1000000000) :
    Calls Try.prog 25 #[ptr t, v] w (Got w t (q + 2000) F (andM l xs)) := by
  have HM := hid (many_calls w t l q F 10 0 v xs hr (by omega) h hq)
  obtain ⟨A, c, rfl, _⟩ := hr.shape
  obtain ⟨N, hN⟩ : ∃ N, N = (lits xs).length := ⟨_, rfl⟩
  rw [← hN] at HM ⊢
  clear h hr hN
  go_enter Try.func25, Try.ntmps25
  go_wp2_with fail
  refine HM.out.mono ?_
  rintro e w9 ⟨rfl, hl⟩
  have HL := hid hl
  clear hl
  generalize hr9 : manyM l 10 0 xs = r9 at HL ⊢
  have HR9 := hid hr9
  clear hr9
  go_wp2_with fail
  go_ret2
  rw [show andM l xs = r9 from HR9.out]
  exact ⟨rfl, HL.out⟩
set_option maxRecDepth 100000 in
set_option maxHeartbeats 1600000 in
theorem Or_calls (w : World) (t : Nat) (l : List NodeM) (q : Nat) (F : Nat → Prop) (v : Value) (xs : List Int) (hr : Row w 26 v (lits xs)) (h : St w t l q F) (hq : q + 2000 < 1000000000) :
    Calls Try.prog 26 #[ptr t, v] w (Got w t (q + 2000) F (orM l xs)) := by
  have HM := hid (many_calls w t l q F 11 1 v xs hr (by omega) h hq)
  obtain ⟨A, c, rfl, _⟩ := hr.shape
  obtain ⟨N, hN⟩ : ∃ N, N = (lits xs).length := ⟨_, rfl⟩
  rw [← hN] at HM ⊢
  clear h hr hN
  go_enter Try.func26, Try.ntmps26
  go_wp2_with fail
  refine HM.out.mono ?_
  rintro e w9 ⟨rfl, hl⟩
  have HL := hid hl
  clear hl
  generalize hr9 : manyM l 11 1 xs = r9 at HL ⊢
  have HR9 := hid hr9
  clear hr9
  go_wp2_with fail
  go_ret2
  rw [show orM l xs = r9 from HR9.out]
  exact ⟨rfl, HL.out⟩
set_option maxRecDepth 100000 in
set_option maxHeartbeats 1600000 in
theorem App_calls (w : World) (t : Nat) (l : List NodeM) (q : Nat) (F : Nat → Prop) (f s : Int) (v : Value) (xs : List Int) (hr : Row w 26 v (lits xs)) (hf : wf64 f) (hs : wf64 s) (h : St w t l q F) (hq : q + 2000 < 1000000000) :
    Calls Try.prog 11 #[ptr t, .int .i64 f, .int .i64 s, v] w (Got w t (q + 2000) F (appM l f s xs)) := by
  have HS := hid h
  have HTH := hid (fun (W : World) (v : Value) (xs : List Int) (hW : Below w.heap.size w W) (hr : Row W 26 v (lits xs)) => there_calls W t l q F v xs (h.below hW) hr)
  have HOF := hid (fun (W : World) (s : Int) (v : Value) (xs : List Int) (hW : Below w.heap.size w W) (hr : Row W 26 v (lits xs)) (hx : thereM l xs = true) => of_calls W t l q F s v xs (h.below hW) hr hx)
  have HPUT := hid (fun (W : World) (n : NodeM) (v : Value) (hW : Below w.heap.size w W) (hr : Row W 26 v (lits n.args)) (hn : WfN n) => (put_got W t l q F n v (h.below hW) hr hn hq).mono fun e w' => Got.below hW)
  have HWF := hid h.wf
  have HB0 := hid (Below.refl w.heap.size w)
  obtain ⟨b1, hc1⟩ := none_cell HS.out
  have HNONE := hid (fun (W : World) (hW : Below w.heap.size w W) => none_walk W t b1 ((hW.cell (p := ⟨t, 1, none⟩) hc1.2).trans hc1.1))
  obtain ⟨N, hN⟩ : ∃ N, N = xs.length := ⟨_, rfl⟩
  have HR := hid (fun (W : World) (hW : Below w.heap.size w W) => (hr.keep (Keep.ofBelow (F := fun _ => False) hW) (fun _ _ h => h) : Row W 26 v (lits xs)))
  obtain ⟨A, c, rfl, hcap⟩ := hr.shape
  rw [show (lits xs).length = N from by simp [hN]] at HR ⊢
  have HNN := hid hN
  have HWFS := hid (And.intro hf hs)
  have hNb : N ≤ 9223372036854775807 := by have := hcap.1; have := hcap.2; unfold maxLen at this; simp at *; omega
  clear h hr hN hcap hf hs hc1
  by_cases f0 : f < 0
  · have HF0 := hid f0
    go_enter Try.func11, Try.ntmps11
    go_wp2_with fail
    refine (HNONE.out _ HB0.out).mono ?_
    rintro e w1 ⟨rfl, hw⟩
    obtain rfl := hw
    go_wp2_with fail
    go_ret2
    rw [show appM l f s xs = (0, 2, l) from (by unfold appM; rw [if_pos HF0.out])]
    exact Got.same HS.out HB0.out
  · have HF0 := hid f0
    by_cases s0 : s < 0
    · have HS0 := hid s0
      go_enter Try.func11, Try.ntmps11
      go_wp2_with fail
      refine (HNONE.out _ HB0.out).mono ?_
      rintro e w1 ⟨rfl, hw⟩
      obtain rfl := hw
      go_wp2_with fail
      go_ret2
      rw [show appM l f s xs = (0, 2, l) from (by unfold appM; rw [if_neg (show ¬ f < 0 by have := HF0.out; omega), if_pos HS0.out])]
      exact Got.same HS.out HB0.out
    · have HS0 := hid s0
      go_enter Try.func11, Try.ntmps11
      go_wp2_with fail
      refine (HNONE.out _ HB0.out).mono ?_
      rintro e w1 ⟨rfl, hw⟩
      obtain rfl := hw
      go_wp2_with fail
      refine (HTH.out _ _ xs HB0.out (HR.out _ HB0.out)).mono ?_
      rintro e w1 ⟨rfl, hb⟩
      have HB1 := hid (bel HB0.out hb)
      clear hb
      cases hth : thereM l xs with
      | false =>
        rw [thereE_false hth]
        have HTHE := hid hth
        clear hth
        go_wp2_with fail
        go_ret2
        rw [show appM l f s xs = (0, 7, l) from (by unfold appM; rw [if_neg (show ¬ f < 0 by have := HF0.out; omega), if_neg (show ¬ s < 0 by have := HS0.out; omega), HTHE.out]; rfl)]
        exact Got.same HS.out HB1.out
      | true =>
        rw [thereE_true hth]
        have HTHE := hid hth
        clear hth
        by_cases hlong : 20 < N
        · have hI : (N : Int) > 20 := by omega
          go_wp2_with fail
          go_ret2
          rw [show appM l f s xs = (0, 3, l) from (by unfold appM; rw [if_neg (show ¬ f < 0 by have := HF0.out; omega), if_neg (show ¬ s < 0 by have := HS0.out; omega), HTHE.out, ← HNN.out, if_pos hlong]; rfl)]
          exact Got.same HS.out HB1.out
        · have HLG := hid hlong
          have hI : ¬ (N : Int) > 20 := by omega
          clear hlong
          go_wp2_with fail
          refine (HPUT.out _ ⟨5, f, 0, s, xs⟩ _ HB1.out (HR.out _ HB1.out) (wfN_of HWF.out HTHE.out (by have := HNN.out; have := HLG.out; omega) (by omega) HWFS.out.1 wf0 HWFS.out.2)).mono ?_
          rintro e w9 ⟨rfl, hl⟩
          have HL := hid hl
          clear hl
          generalize hr9 : putM l ⟨5, f, 0, s, xs⟩ = r9 at HL ⊢
          have HR9 := hid hr9
          clear hr9
          go_wp2_with fail
          go_ret2
          rw [show appM l f s xs = r9 from (by unfold appM; rw [if_neg (show ¬ f < 0 by have := HF0.out; omega), if_neg (show ¬ s < 0 by have := HS0.out; omega), HTHE.out, ← HNN.out, if_neg (show ¬ 20 < N by have := HLG.out; omega)]; exact HR9.out)]
          exact ⟨rfl, HL.out⟩
end Go.Proofs.Ytmgbodmpjholiaa.TM
