/- The document's terms, in memory: Plus, Le, New (printed by wip/tools/rfe.py). -/
import Derived.Test.YtmgbodmpjholiaaRfD
namespace Go.Proofs.Ytmgbodmpjholiaa.RT
open Go.RowKit Go.Maps Go.Shelf Go.Lib Go.Proofs.YtmgbodmpjholiaaW.PrintWords Go.Proofs.YtmgbodmpjholiaaW.PrintLast Go.Proofs.YtmgbodmpjholiaaW.PrintMore Go.Proofs.Ytmgbodmpjholiaa.MM Go.Proofs.Ytmgbodmpjholiaa.KM Go.Proofs.Ytmgbodmpjholiaa.TM
attribute [local go_sem ↓] Go.wp_at_zero Go.wp_at_succ
set_option linter.unusedSimpArgs false
set_option linter.unusedVariables false
set_option maxRecDepth 100000 in
set_option maxHeartbeats 3200000 in
theorem Plus_calls (w : World) (u : Nat) (l : List NodeM) (F : Nat → Prop) (a n : Int) (hn : wf64 n) (h : Rs w u l F) :
    Calls Try.prog 41 #[ptr u, .int .i64 a, .int .i64 n] w (GotR w u F (plusM l a n)) := by
  have HS := hid h
  have HTH := hid (fun (W : World) (v : Value) (xs : List Int) (hW : Below w.heap.size w W) (hr : Row W 26 v (lits xs)) => there_calls W u l F v xs (h.below hW) hr)
  have HOF := hid (fun (W : World) (s : Int) (v : Value) (xs : List Int) (hW : Below w.heap.size w W) (hr : Row W 26 v (lits xs)) (hx : thereM l xs = true) => of_calls W u l F s v xs (h.below hW) hr hx)
  have HPUT := hid (fun (W : World) (n : NodeM) (v : Value) (hW : Below w.heap.size w W) (hr : Row W 26 v (lits n.args)) (hn : WfN n) => (put_got W u l F n v (h.below hW) hr hn).mono fun e w' => GotR.below hW)
  have HWF := hid h.wf
  have HSP := hid (fun (W : World) (a : Int) (hW : Below w.heap.size w W) => Split_calls W u l F a (h.below hW))
  have HB0 := hid (Below.refl w.heap.size w)
  have HNUM := hid (fun (W : World) (n : Int) (hW : Below w.heap.size w W) (hn : wf64 n) => (Num_calls W u l F n hn (h.below hW)).mono fun e w' => GotR.below hW)
  have HNW := hid hn
  clear h hn
  go_enter Try.func41, Try.ntmps41
  go_wp2_with fail
  refine (HSP.out _ a HB0.out).mono ?_
  rintro e w1 ⟨rfl, hb⟩
  have HB1 := hid (TM.bel HB0.out hb)
  clear hb
  have HSW1 := hid (HWF.out.split a)
  obtain ⟨x1, hx1⟩ : ∃ x, x = (splitM l a).1 := ⟨_, rfl⟩
  obtain ⟨p1, hp1⟩ : ∃ x, x = (splitM l a).2.1 := ⟨_, rfl⟩
  obtain ⟨e1, he1⟩ : ∃ x, x = (splitM l a).2.2 := ⟨_, rfl⟩
  rw [← hx1, ← hp1, ← he1]
  rw [← hx1, ← hp1, ← he1] at HSW1
  have HX1 := hid (And.intro hx1 (And.intro hp1 he1))
  clear hx1 hp1 he1
  by_cases he : e1 = 0
  · have HE0 := hid he
    subst he
    have hpb := (bound_iff p1).1 HSW1.out.1
    have hnb : -9223372036854775808 ≤ n ∧ n ≤ 9223372036854775807 := HNW.out
    obtain ⟨s, hs⟩ : ∃ s, s = p1 + n := ⟨_, rfl⟩
    have HSE := hid hs
    clear hs hpb hnb
    go_wp2_with fail
    refine (bound_calls _ n).mono ?_
    rintro e wb ⟨rfl, hw⟩
    obtain rfl := hw
    cases hbn : boundM n with
    | false =>
      have HBDn := hid hbn
      clear hbn
      go_wp2_with fail
      go_ret2
      rw [show plusM l a n = (0, 6, l) from (by unfold plusM; rw [← HX1.out.1, ← HX1.out.2.1, ← HX1.out.2.2, if_neg (show ¬ (0:Int) ≠ 0 by simp), HBDn.out]; rfl)]
      exact GotR.same HS.out HB1.out
    | true =>
      have HBDn := hid hbn
      clear hbn
      have hpb := (bound_iff p1).1 HSW1.out.1
      have hnb := (bound_iff n).1 HBDn.out
      have hsw : wrap64 (p1 + n) = s := by rw [HSE.out]; unfold wrap64; omega
      clear hpb hnb
      go_wp2_with fail
      refine (bound_calls _ s).mono ?_
      rintro e wb ⟨rfl, hw⟩
      obtain rfl := hw
      cases hbs : boundM s with
      | false =>
        have HBDs := hid hbs
        clear hbs
        go_wp2_with fail
        go_ret2
        rw [show plusM l a n = (0, 6, l) from (by unfold plusM; rw [← HX1.out.1, ← HX1.out.2.1, ← HX1.out.2.2, if_neg (show ¬ (0:Int) ≠ 0 by simp), HBDn.out, ← HSE.out, HBDs.out]; rfl)]
        exact GotR.same HS.out HB1.out
      | true =>
        have HBDs := hid hbs
        clear hbs
        by_cases h2 : x1 = 2
        · have H2 := hid h2
          have e2 : (x1 == 2) = true := by simpa using h2
          clear h2
          go_wp2_with fail
          refine (HNUM.out _ s HB1.out (by have := (bound_iff s).1 HBDs.out; unfold wf64; omega)).mono ?_
          rintro e w9 ⟨rfl, hl⟩
          have HL := hid hl
          clear hl
          generalize hr9 : numM l s = r9 at HL ⊢
          have HR9 := hid hr9
          clear hr9
          go_wp2_with fail
          go_ret2
          rw [show plusM l a n = r9 from (by unfold plusM; rw [← HX1.out.1, ← HX1.out.2.1, ← HX1.out.2.2, if_neg (show ¬ (0:Int) ≠ 0 by simp), HBDn.out, ← HSE.out, HBDs.out, if_neg (by simp), if_neg (by simp), if_pos H2.out]; exact HR9.out)]
          exact ⟨rfl, HL.out⟩
        · have e2 : (x1 == 2) = false := by simpa using h2
          have H2 := hid h2
          clear h2
          by_cases h0 : s = 0
          · have e0 : (s == 0) = true := by simpa using h0
            have H0 := hid h0
            clear h0
            go_wp2_with fail
            go_ret2
            rw [show plusM l a n = (x1, 0, l) from (by unfold plusM; rw [← HX1.out.1, ← HX1.out.2.1, ← HX1.out.2.2, if_neg (show ¬ (0:Int) ≠ 0 by simp), HBDn.out, ← HSE.out, HBDs.out, if_neg (by simp), if_neg (by simp), if_neg H2.out, if_pos H0.out])]
            exact GotR.same HS.out HB1.out
          · have e0 : (s == 0) = false := by simpa using h0
            have H0 := hid h0
            clear h0
            go_wp2_with fail
            refine (HPUT.out _ ⟨4, 0, s, 1, [x1]⟩ _ (HB1.out.alloc HB1.out.size _) (Row.many _ _ (lits [x1]) (by simp)) ⟨⟨by show (0:Int) ≤ 4; omega, by show (4:Int) ≤ 255; omega⟩, wf0, by have := (bound_iff s).1 HBDs.out; show wf64 s; unfold wf64; omega, wf1, fun y hy => by rw [List.mem_singleton.1 hy]; exact (HSW1.out.2 HE0.out).2, by simp, fun _ => HBDs.out, fun _ => rfl⟩).mono ?_
            rintro e w9 ⟨rfl, hl⟩
            have HL := hid hl
            clear hl
            generalize hr9 : putM l ⟨4, 0, s, 1, [x1]⟩ = r9 at HL ⊢
            have HR9 := hid hr9
            clear hr9
            go_wp2_with fail
            go_ret2
            rw [show plusM l a n = r9 from (by unfold plusM; rw [← HX1.out.1, ← HX1.out.2.1, ← HX1.out.2.2, if_neg (show ¬ (0:Int) ≠ 0 by simp), HBDn.out, ← HSE.out, HBDs.out, if_neg (by simp), if_neg (by simp), if_neg H2.out, if_neg H0.out]; exact HR9.out)]
            exact ⟨rfl, HL.out⟩
  · have hen : (e1 != 0) = true := by simpa using he
    have HEN := hid he
    clear he
    go_wp2_with fail
    go_ret2
    rw [show plusM l a n = (0, e1, l) from (by unfold plusM; rw [← HX1.out.1, ← HX1.out.2.1, ← HX1.out.2.2, if_pos (show e1 ≠ 0 from HEN.out)])]
    exact GotR.same HS.out HB1.out
/-- Numbers in quarters. -/
theorem quarters {n p1 p2 : Int} (hn : -4611686018427387903 ≤ n ∧ n ≤ 4611686018427387903) (h1 : -4611686018427387903 ≤ p1 ∧ p1 ≤ 4611686018427387903) (h2 : -4611686018427387903 ≤ p2 ∧ p2 ≤ 4611686018427387903) :
    ∃ n4 nr q1 r1 q2 r2 : Int, n.tdiv 4 = n4 ∧ n.tmod 4 = nr ∧ p1.tdiv 4 = q1 ∧ p1.tmod 4 = r1 ∧ p2.tdiv 4 = q2 ∧ p2.tmod 4 = r2 ∧
      Hid (-1152921504606846976 ≤ n4 ∧ n4 ≤ 1152921504606846976 ∧ -3 ≤ nr ∧ nr ≤ 3 ∧ -1152921504606846976 ≤ q1 ∧ q1 ≤ 1152921504606846976 ∧ -3 ≤ r1 ∧ r1 ≤ 3 ∧ -1152921504606846976 ≤ q2 ∧ q2 ≤ 1152921504606846976 ∧ -3 ≤ r2 ∧ r2 ≤ 3 ∧ Hid (n + (p2 - p1) = (n4 - q1 + q2) * 4 + (nr - r1 + r2))) := by
  have key : ∀ x : Int, 4 * x.tdiv 4 + x.tmod 4 = x := fun x => Int.mul_tdiv_add_tmod x 4
  have lo : ∀ x : Int, -4 < x.tmod 4 := fun x => Int.lt_tmod_of_pos x (by omega)
  have hi : ∀ x : Int, x.tmod 4 < 4 := fun x => Int.tmod_lt_of_pos x (by omega)
  refine ⟨_, _, _, _, _, _, rfl, rfl, rfl, rfl, rfl, rfl, hid ?_⟩
  have k1 := key n
  have k2 := key p1
  have k3 := key p2
  have l1 := lo n
  have l2 := lo p1
  have l3 := lo p2
  have m1 := hi n
  have m2 := hi p1
  have m3 := hi p2
  generalize n.tdiv 4 = A1 at *
  generalize n.tmod 4 = A2 at *
  generalize p1.tdiv 4 = A3 at *
  generalize p1.tmod 4 = A4 at *
  generalize p2.tdiv 4 = A5 at *
  generalize p2.tmod 4 = A6 at *
  refine ⟨by omega, by omega, by omega, by omega, by omega, by omega, by omega, by omega, by omega, by omega, by omega, by omega, hid (by omega)⟩
set_option maxRecDepth 100000 in
set_option maxHeartbeats 3200000 in
theorem Le_calls (w : World) (u : Nat) (l : List NodeM) (F : Nat → Prop) (a b n : Int) (hn : wf64 n) (h : Rs w u l F) :
    Calls Try.prog 42 #[ptr u, .int .i64 a, .int .i64 b, .int .i64 n] w (GotR w u F (leM l a b n)) := by
  have HS := hid h
  have HTH := hid (fun (W : World) (v : Value) (xs : List Int) (hW : Below w.heap.size w W) (hr : Row W 26 v (lits xs)) => there_calls W u l F v xs (h.below hW) hr)
  have HOF := hid (fun (W : World) (s : Int) (v : Value) (xs : List Int) (hW : Below w.heap.size w W) (hr : Row W 26 v (lits xs)) (hx : thereM l xs = true) => of_calls W u l F s v xs (h.below hW) hr hx)
  have HPUT := hid (fun (W : World) (n : NodeM) (v : Value) (hW : Below w.heap.size w W) (hr : Row W 26 v (lits n.args)) (hn : WfN n) => (put_got W u l F n v (h.below hW) hr hn).mono fun e w' => GotR.below hW)
  have HWF := hid h.wf
  have HSP := hid (fun (W : World) (a : Int) (hW : Below w.heap.size w W) => Split_calls W u l F a (h.below hW))
  have HB0 := hid (Below.refl w.heap.size w)
  have HNW := hid hn
  clear h hn
  go_enter Try.func42, Try.ntmps42
  go_wp2_with fail
  refine (HTH.out _ _ [a, b] (HB0.out.alloc HB0.out.size _) (Row.many _ _ (lits [a, b]) (by simp))).mono ?_
  rintro e w1 ⟨rfl, hb⟩
  have HB1 := hid (TM.bel (HB0.out.alloc HB0.out.size _) hb)
  clear hb
  cases hth : thereM l [a, b] with
  | false =>
    have HTHE := hid hth
    clear hth
    go_wp2_with fail
    go_ret2
    rw [show leM l a b n = (0, 7, l) from (by unfold leM; rw [HTHE.out]; rfl)]
    exact GotR.same HS.out HB1.out
  | true =>
    have HTHE := hid hth
    clear hth
    go_wp2_with fail
    refine (HSP.out _ a HB1.out).mono ?_
    rintro e w2 ⟨rfl, hb⟩
    have HB2 := hid (TM.bel HB1.out hb)
    clear hb
    have HSW1 := hid (HWF.out.split a)
    obtain ⟨x1, hx1⟩ : ∃ x, x = (splitM l a).1 := ⟨_, rfl⟩
    obtain ⟨p1, hp1⟩ : ∃ x, x = (splitM l a).2.1 := ⟨_, rfl⟩
    obtain ⟨e1, he1⟩ : ∃ x, x = (splitM l a).2.2 := ⟨_, rfl⟩
    rw [← hx1, ← hp1, ← he1]
    rw [← hx1, ← hp1, ← he1] at HSW1
    have HX1 := hid (And.intro hx1 (And.intro hp1 he1))
    clear hx1 hp1 he1
    go_wp2_with fail
    refine (HSP.out _ b HB2.out).mono ?_
    rintro e w3 ⟨rfl, hb⟩
    have HB3 := hid (TM.bel HB2.out hb)
    clear hb
    have HSW2 := hid (HWF.out.split b)
    obtain ⟨x2, hx2⟩ : ∃ x, x = (splitM l b).1 := ⟨_, rfl⟩
    obtain ⟨p2, hp2⟩ : ∃ x, x = (splitM l b).2.1 := ⟨_, rfl⟩
    obtain ⟨e2, he2⟩ : ∃ x, x = (splitM l b).2.2 := ⟨_, rfl⟩
    rw [← hx2, ← hp2, ← he2]
    rw [← hx2, ← hp2, ← he2] at HSW2
    have HX2 := hid (And.intro hx2 (And.intro hp2 he2))
    clear hx2 hp2 he2
    by_cases he1 : e1 = 0
    · have HE1 := hid he1
      subst he1
      by_cases he2 : e2 = 0
      · have HE2 := hid he2
        subst he2
        go_wp2_with fail
        refine (bound_calls _ n).mono ?_
        rintro e wb ⟨rfl, hw⟩
        obtain rfl := hw
        cases hbn : boundM n with
        | false =>
          have HBDn := hid hbn
          clear hbn
          go_wp2_with fail
          go_ret2
          rw [show leM l a b n = (0, 6, l) from (by unfold leM; rw [HTHE.out, ← HX1.out.2.2, ← HX2.out.2.2, if_neg (show ¬ (true = false) by simp), if_neg (show ¬ (0:Int) ≠ 0 by simp), if_neg (show ¬ (0:Int) ≠ 0 by simp), HBDn.out]; rfl)]
          exact GotR.same HS.out HB3.out
        | true =>
          have HBDn := hid hbn
          clear hbn
          obtain ⟨c, hc⟩ : ∃ c, c = n + (p2 - p1) := ⟨_, rfl⟩
          have HLC := hid (show leC l a b n = c by unfold leC; rw [← HX1.out.2.1, ← HX2.out.2.1, hc])
          obtain ⟨n4, nr, q1, r1, q2, r2, t1, t2, t3, t4, t5, t6, HQ⟩ := quarters ((bound_iff n).1 HBDn.out) ((bound_iff p1).1 HSW1.out.1) ((bound_iff p2).1 HSW2.out.1)
          obtain ⟨b1, b2, b3, b4, b5, b6, b7, b8, b9, b10, b11, b12, HC⟩ := HQ.out
          have HCC := hid (show c = (n4 - q1 + q2) * 4 + (nr - r1 + r2) by rw [hc, HC.out])
          clear hc
          by_cases hlo : n4 - q1 + q2 < -1152921504606846980
          · have HBC := hid (show boundM c = false by
              cases e : boundM c with
              | false => rfl
              | true => have := (bound_iff c).1 e; have := HCC.out; omega)
            go_wp2_with fail
            go_ret2
            rw [show leM l a b n = (0, 6, l) from (by unfold leM; rw [HTHE.out, ← HX1.out.2.2, ← HX2.out.2.2, if_neg (show ¬ (true = false) by simp), if_neg (show ¬ (0:Int) ≠ 0 by simp), if_neg (show ¬ (0:Int) ≠ 0 by simp), HBDn.out, if_neg (show ¬ (true = false) by simp), HLC.out, HBC.out]; rfl)]
            exact GotR.same HS.out HB3.out
          · by_cases hhi : n4 - q1 + q2 > 1152921504606846980
            · have HBC := hid (show boundM c = false by
                cases e : boundM c with
                | false => rfl
                | true => have := (bound_iff c).1 e; have := HCC.out; omega)
              go_wp2_with fail
              go_ret2
              rw [show leM l a b n = (0, 6, l) from (by unfold leM; rw [HTHE.out, ← HX1.out.2.2, ← HX2.out.2.2, if_neg (show ¬ (true = false) by simp), if_neg (show ¬ (0:Int) ≠ 0 by simp), if_neg (show ¬ (0:Int) ≠ 0 by simp), HBDn.out, if_neg (show ¬ (true = false) by simp), HLC.out, HBC.out]; rfl)]
              exact GotR.same HS.out HB3.out
            · have hcs : (n4 - q1 + q2) * 4 + (nr - r1 + r2) = c := HCC.out.symm
              go_wp2_with fail
              refine (bound_calls _ c).mono ?_
              rintro e wb ⟨rfl, hw⟩
              obtain rfl := hw
              cases hbc : boundM c with
              | false =>
                have HBDc := hid hbc
                clear hbc
                go_wp2_with fail
                go_ret2
                rw [show leM l a b n = (0, 6, l) from (by unfold leM; rw [HTHE.out, ← HX1.out.2.2, ← HX2.out.2.2, if_neg (show ¬ (true = false) by simp), if_neg (show ¬ (0:Int) ≠ 0 by simp), if_neg (show ¬ (0:Int) ≠ 0 by simp), HBDn.out, if_neg (show ¬ (true = false) by simp), HLC.out, HBDc.out]; rfl)]
                exact GotR.same HS.out HB3.out
              | true =>
                have HBDc := hid hbc
                clear hbc
                by_cases hxy : x1 = x2
                · have HXY := hid hxy
                  have exy : (x1 == x2) = true := by simpa using hxy
                  clear hxy
                  by_cases hc0 : 0 ≤ c
                  · have HC0 := hid hc0
                    have hcg : c ≥ 0 := hc0
                    clear hc0
                    go_wp2_with fail
                    go_ret2
                    rw [show leM l a b n = (0, 0, l) from (by unfold leM; rw [HTHE.out, ← HX1.out.2.2, ← HX2.out.2.2, if_neg (show ¬ (true = false) by simp), if_neg (show ¬ (0:Int) ≠ 0 by simp), if_neg (show ¬ (0:Int) ≠ 0 by simp), HBDn.out, if_neg (show ¬ (true = false) by simp), HLC.out, HBDc.out, if_neg (show ¬ (true = false) by simp), ← HX1.out.1, ← HX2.out.1, if_pos HXY.out, if_pos HC0.out])]
                    exact GotR.same HS.out HB3.out
                  · have HC0 := hid hc0
                    have hcg : decide (0 ≤ c) = false := by simpa using hc0
                    clear hc0
                    go_wp2_with fail
                    go_ret2
                    rw [show leM l a b n = (1, 0, l) from (by unfold leM; rw [HTHE.out, ← HX1.out.2.2, ← HX2.out.2.2, if_neg (show ¬ (true = false) by simp), if_neg (show ¬ (0:Int) ≠ 0 by simp), if_neg (show ¬ (0:Int) ≠ 0 by simp), HBDn.out, if_neg (show ¬ (true = false) by simp), HLC.out, HBDc.out, if_neg (show ¬ (true = false) by simp), ← HX1.out.1, ← HX2.out.1, if_pos HXY.out, if_neg (show ¬ 0 ≤ c by have := HC0.out; omega)])]
                    exact GotR.same HS.out HB3.out
                · have HXY := hid hxy
                  have exy : (x1 == x2) = false := by simpa using hxy
                  clear hxy
                  go_wp2_with fail
                  refine (HPUT.out _ ⟨8, 0, c, 0, [x1, x2]⟩ _ (HB3.out.alloc HB3.out.size _) (Row.many _ _ (lits [x1, x2]) (by simp)) ⟨⟨by show (0:Int) ≤ 8; omega, by show (8:Int) ≤ 255; omega⟩, wf0, by have := (bound_iff c).1 HBDc.out; show wf64 c; unfold wf64; omega, wf0, fun y hy => by rcases List.mem_cons.1 hy with h1 | h1; exact h1 ▸ (HSW1.out.2 HE1.out).2; rw [List.mem_singleton.1 h1]; exact (HSW2.out.2 HE2.out).2, by simp, fun e => absurd e (by show ¬ ((8:Int) = 3 ∨ (8:Int) = 4); omega), fun e => absurd e (by show ¬ (8:Int) = 4; omega)⟩).mono ?_
                  rintro e w9 ⟨rfl, hl⟩
                  have HL := hid hl
                  clear hl
                  generalize hr9 : putM l ⟨8, 0, c, 0, [x1, x2]⟩ = r9 at HL ⊢
                  have HR9 := hid hr9
                  clear hr9
                  go_wp2_with fail
                  go_ret2
                  rw [show leM l a b n = r9 from (by unfold leM; rw [HTHE.out, ← HX1.out.2.2, ← HX2.out.2.2, if_neg (show ¬ (true = false) by simp), if_neg (show ¬ (0:Int) ≠ 0 by simp), if_neg (show ¬ (0:Int) ≠ 0 by simp), HBDn.out, if_neg (show ¬ (true = false) by simp), HLC.out, HBDc.out, if_neg (show ¬ (true = false) by simp), ← HX1.out.1, ← HX2.out.1, if_neg HXY.out]; exact HR9.out)]
                  exact ⟨rfl, HL.out⟩
      · have HE2 := hid he2
        have hen : (e2 != 0) = true := by simpa using he2
        clear he2
        go_wp2_with fail
        go_ret2
        rw [show leM l a b n = (0, 60, l) from (by unfold leM; rw [HTHE.out, ← HX1.out.2.2, ← HX2.out.2.2, if_neg (show ¬ (true = false) by simp), if_neg (show ¬ (0:Int) ≠ 0 by simp), if_pos (show e2 ≠ 0 from HE2.out)])]
        exact GotR.same HS.out HB3.out
    · have HE1 := hid he1
      have hen : (e1 != 0) = true := by simpa using he1
      clear he1
      go_wp2_with fail
      go_ret2
      rw [show leM l a b n = (0, 60, l) from (by unfold leM; rw [HTHE.out, ← HX1.out.2.2, ← HX2.out.2.2, if_neg (show ¬ (true = false) by simp), if_pos (show e1 ≠ 0 from HE1.out)])]
      exact GotR.same HS.out HB3.out
end Go.Proofs.Ytmgbodmpjholiaa.RT
