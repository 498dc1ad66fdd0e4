/- Walks of terms: Le, New (printed by wip/tools/terme.py). -/
import Derived.Test.YtmgbodmpjholiaaTermD
namespace Go.Proofs.Ytmgbodmpjholiaa.TM
open Go.RowKit Go.Maps Go.Shelf Go.Lib Go.Proofs.YtmgbodmpjholiaaW.PrintWords Go.Proofs.YtmgbodmpjholiaaW.PrintLast Go.Proofs.YtmgbodmpjholiaaW.PrintMore Go.Proofs.Ytmgbodmpjholiaa.MM Go.Proofs.Ytmgbodmpjholiaa.KM
attribute [local go_sem ↓] Go.wp_at_zero Go.wp_at_succ
set_option linter.unusedSimpArgs false
set_option linter.unusedVariables false
set_option maxRecDepth 100000 in
set_option maxHeartbeats 3200000 in
theorem Le_calls (w : World) (t : Nat) (l : List NodeM) (q : Nat) (F : Nat → Prop) (a b n : Int) (hn : wf64 n) (h : St w t l q F) (hq : q + 2000 < 1000000000) :
    Calls Try.prog 29 #[ptr t, .int .i64 a, .int .i64 b, .int .i64 n] w (Got w t (q + 2000) F (leM l a b n)) := by
  have HS := hid h
  have HTH := hid (fun (W : World) (v : Value) (xs : List Int) (hW : Below w.heap.size w W) (hr : Row W 26 v (lits xs)) => there_calls W t l q F v xs (h.below hW) hr)
  have HOF := hid (fun (W : World) (s : Int) (v : Value) (xs : List Int) (hW : Below w.heap.size w W) (hr : Row W 26 v (lits xs)) (hx : thereM l xs = true) => of_calls W t l q F s v xs (h.below hW) hr hx)
  have HPUT := hid (fun (W : World) (n : NodeM) (v : Value) (hW : Below w.heap.size w W) (hr : Row W 26 v (lits n.args)) (hn : WfN n) => (put_got W t l q F n v (h.below hW) hr hn hq).mono fun e w' => Got.below hW)
  have HWF := hid h.wf
  have HSP := hid (fun (W : World) (a : Int) (hW : Below w.heap.size w W) => Split_calls W t l q F a (h.below hW))
  have HB0 := hid (Below.refl w.heap.size w)
  have HNW := hid hn
  clear h hn
  go_enter Try.func29, Try.ntmps29
  go_wp2_with fail
  refine (HTH.out _ _ [a, b] (HB0.out.alloc HB0.out.size _) (Row.many _ _ (lits [a, b]) (by simp))).mono ?_
  rintro e w1 ⟨rfl, hb⟩
  have HB1 := hid (bel (HB0.out.alloc HB0.out.size _) hb)
  clear hb
  cases hth : thereM l [a, b] with
  | false =>
    rw [thereE_false hth]
    have HTHE := hid hth
    clear hth
    go_wp2_with fail
    go_ret2
    rw [show leM l a b n = (0, 7, l) from (by unfold leM; rw [HTHE.out]; rfl)]
    exact Got.same HS.out HB1.out
  | true =>
    rw [thereE_true hth]
    have HTHE := hid hth
    clear hth
    go_wp2_with fail
    refine (HSP.out _ a HB1.out).mono ?_
    rintro e w2 ⟨rfl, hb⟩
    have HB2 := hid (bel HB1.out hb)
    clear hb
    have HSW1 := hid (HWF.out.split a)
    obtain ⟨x1, hx1⟩ : ∃ x, x = (splitM l a).1 := ⟨_, rfl⟩
    obtain ⟨p1, hp1⟩ : ∃ x, x = (splitM l a).2.1 := ⟨_, rfl⟩
    obtain ⟨e1, he1⟩ : ∃ x, x = (splitM l a).2.2 := ⟨_, rfl⟩
    rw [← hx1, ← hp1, ← he1]
    rw [← hx1, ← hp1, ← he1] at HSW1
    have HX1 := hid (And.intro hx1 (And.intro hp1 he1))
    clear hx1 hp1 he1
    go_wp2_with fail
    refine (HSP.out _ b HB2.out).mono ?_
    rintro e w3 ⟨rfl, hb⟩
    have HB3 := hid (bel HB2.out hb)
    clear hb
    have HSW2 := hid (HWF.out.split b)
    obtain ⟨x2, hx2⟩ : ∃ x, x = (splitM l b).1 := ⟨_, rfl⟩
    obtain ⟨p2, hp2⟩ : ∃ x, x = (splitM l b).2.1 := ⟨_, rfl⟩
    obtain ⟨e2, he2⟩ : ∃ x, x = (splitM l b).2.2 := ⟨_, rfl⟩
    rw [← hx2, ← hp2, ← he2]
    rw [← hx2, ← hp2, ← he2] at HSW2
    have HX2 := hid (And.intro hx2 (And.intro hp2 he2))
    clear hx2 hp2 he2
    by_cases he1 : e1 = 0
    · have HE1 := hid he1
      subst he1
      by_cases he2 : e2 = 0
      · have HE2 := hid he2
        subst he2
        have hp1 := (bound_iff p1).1 HSW1.out.1
        have hp2 := (bound_iff p2).1 HSW2.out.1
        obtain ⟨d, hd⟩ : ∃ d, d = p2 - p1 := ⟨_, rfl⟩
        have HD := hid hd
        have HDW := hid (show wf64 d by rw [hd]; unfold wf64; omega)
        have hsw : wrap64 (p2 - p1) = d := by rw [hd]; unfold wrap64; omega
        clear hd hp1 hp2
        go_wp2_with fail
        refine (add_calls _ n d HNW.out HDW.out).mono ?_
        rintro e wa ⟨rfl, hw⟩
        obtain rfl := hw
        by_cases hf : -9223372036854775808 ≤ n + d ∧ n + d ≤ 9223372036854775807
        · rw [show addM n d = (n + d, true) from if_pos hf]
          obtain ⟨c, hc⟩ : ∃ c, c = n + d := ⟨_, rfl⟩
          rw [← hc]
          have HLC := hid (show leC l a b n = c by unfold leC; rw [← HX1.out.2.1, ← HX2.out.2.1, hc, HD.out])
          clear hf hc
          go_wp2_with fail
          refine (bound_calls _ n).mono ?_
          rintro e wb ⟨rfl, hw⟩
          obtain rfl := hw
          cases hbn : boundM n with
          | false =>
            have HBDn := hid hbn
            clear hbn
            go_wp2_with fail
            go_ret2
            rw [show leM l a b n = (0, 6, l) from (by unfold leM; rw [HTHE.out, ← HX1.out.2.2, ← HX2.out.2.2, if_neg (show ¬ (true = false) by simp), if_neg (show ¬ (0:Int) ≠ 0 by simp), if_neg (show ¬ (0:Int) ≠ 0 by simp), HBDn.out]; rfl)]
            exact Got.same HS.out HB3.out
          | true =>
            have HBDn := hid hbn
            clear hbn
            go_wp2_with fail
            refine (bound_calls _ c).mono ?_
            rintro e wb ⟨rfl, hw⟩
            obtain rfl := hw
            cases hbc : boundM c with
            | false =>
              have HBDc := hid hbc
              clear hbc
              go_wp2_with fail
              go_ret2
              rw [show leM l a b n = (0, 6, l) from (by unfold leM; rw [HTHE.out, ← HX1.out.2.2, ← HX2.out.2.2, if_neg (show ¬ (true = false) by simp), if_neg (show ¬ (0:Int) ≠ 0 by simp), if_neg (show ¬ (0:Int) ≠ 0 by simp), HBDn.out, if_neg (show ¬ (true = false) by simp), HLC.out, HBDc.out]; rfl)]
              exact Got.same HS.out HB3.out
            | true =>
              have HBDc := hid hbc
              clear hbc
              by_cases hxy : x1 = x2
              · have HXY := hid hxy
                have exy : (x1 == x2) = true := by simpa using hxy
                clear hxy
                by_cases hc0 : 0 ≤ c
                · have HC0 := hid hc0
                  have hcg : c ≥ 0 := hc0
                  clear hc0
                  go_wp2_with fail
                  go_ret2
                  rw [show leM l a b n = (0, 0, l) from (by unfold leM; rw [HTHE.out, ← HX1.out.2.2, ← HX2.out.2.2, if_neg (show ¬ (true = false) by simp), if_neg (show ¬ (0:Int) ≠ 0 by simp), if_neg (show ¬ (0:Int) ≠ 0 by simp), HBDn.out, if_neg (show ¬ (true = false) by simp), HLC.out, HBDc.out, if_neg (show ¬ (true = false) by simp), ← HX1.out.1, ← HX2.out.1, if_pos HXY.out, if_pos HC0.out])]
                  exact Got.same HS.out HB3.out
                · have HC0 := hid hc0
                  have hcg : decide (0 ≤ c) = false := by simpa using hc0
                  clear hc0
                  go_wp2_with fail
                  go_ret2
                  rw [show leM l a b n = (1, 0, l) from (by unfold leM; rw [HTHE.out, ← HX1.out.2.2, ← HX2.out.2.2, if_neg (show ¬ (true = false) by simp), if_neg (show ¬ (0:Int) ≠ 0 by simp), if_neg (show ¬ (0:Int) ≠ 0 by simp), HBDn.out, if_neg (show ¬ (true = false) by simp), HLC.out, HBDc.out, if_neg (show ¬ (true = false) by simp), ← HX1.out.1, ← HX2.out.1, if_pos HXY.out, if_neg (show ¬ 0 ≤ c by have := HC0.out; omega)])]
                  exact Got.same HS.out HB3.out
              · have HXY := hid hxy
                have exy : (x1 == x2) = false := by simpa using hxy
                clear hxy
                go_wp2_with fail
                refine (HPUT.out _ ⟨8, 0, c, 0, [x1, x2]⟩ _ (HB3.out.alloc HB3.out.size _) (Row.many _ _ (lits [x1, x2]) (by simp)) ⟨⟨by show (0:Int) ≤ 8; omega, by show (8:Int) ≤ 255; omega⟩, wf0, by have := (bound_iff c).1 HBDc.out; show wf64 c; unfold wf64; omega, wf0, fun y hy => by rcases List.mem_cons.1 hy with h1 | h1; exact h1 ▸ (HSW1.out.2 HE1.out).2; rw [List.mem_singleton.1 h1]; exact (HSW2.out.2 HE2.out).2, by simp, fun e => absurd e (by show ¬ ((8:Int) = 3 ∨ (8:Int) = 4); omega), fun e => absurd e (by show ¬ (8:Int) = 4; omega)⟩).mono ?_
                rintro e w9 ⟨rfl, hl⟩
                have HL := hid hl
                clear hl
                generalize hr9 : putM l ⟨8, 0, c, 0, [x1, x2]⟩ = r9 at HL ⊢
                have HR9 := hid hr9
                clear hr9
                go_wp2_with fail
                go_ret2
                rw [show leM l a b n = r9 from (by unfold leM; rw [HTHE.out, ← HX1.out.2.2, ← HX2.out.2.2, if_neg (show ¬ (true = false) by simp), if_neg (show ¬ (0:Int) ≠ 0 by simp), if_neg (show ¬ (0:Int) ≠ 0 by simp), HBDn.out, if_neg (show ¬ (true = false) by simp), HLC.out, HBDc.out, if_neg (show ¬ (true = false) by simp), ← HX1.out.1, ← HX2.out.1, if_neg HXY.out]; exact HR9.out)]
                exact ⟨rfl, HL.out⟩
        · rw [show addM n d = (0, false) from if_neg hf]
          have HLC := hid (show boundM (leC l a b n) = false by
            have h1 : leC l a b n = n + d := by unfold leC; rw [← HX1.out.2.1, ← HX2.out.2.1, HD.out]
            rw [h1]
            cases h2 : boundM (n + d) with
            | false => rfl
            | true => have := (bound_iff (n + d)).1 h2; omega)
          clear hf
          go_wp2_with fail
          refine (bound_calls _ n).mono ?_
          rintro e wb ⟨rfl, hw⟩
          obtain rfl := hw
          cases hbn : boundM n with
          | false =>
            have HBDn := hid hbn
            clear hbn
            go_wp2_with fail
            go_ret2
            rw [show leM l a b n = (0, 6, l) from (by unfold leM; rw [HTHE.out, ← HX1.out.2.2, ← HX2.out.2.2, if_neg (show ¬ (true = false) by simp), if_neg (show ¬ (0:Int) ≠ 0 by simp), if_neg (show ¬ (0:Int) ≠ 0 by simp), HBDn.out]; rfl)]
            exact Got.same HS.out HB3.out
          | true =>
            have HBDn := hid hbn
            clear hbn
            go_wp2_with fail
            go_ret2
            rw [show leM l a b n = (0, 6, l) from (by unfold leM; rw [HTHE.out, ← HX1.out.2.2, ← HX2.out.2.2, if_neg (show ¬ (true = false) by simp), if_neg (show ¬ (0:Int) ≠ 0 by simp), if_neg (show ¬ (0:Int) ≠ 0 by simp), HBDn.out, if_neg (show ¬ (true = false) by simp), HLC.out]; rfl)]
            exact Got.same HS.out HB3.out
      · have HE2 := hid he2
        have hen : (e2 != 0) = true := by simpa using he2
        clear he2
        go_wp2_with fail
        go_ret2
        rw [show leM l a b n = (0, 60, l) from (by unfold leM; rw [HTHE.out, ← HX1.out.2.2, ← HX2.out.2.2, if_neg (show ¬ (true = false) by simp), if_neg (show ¬ (0:Int) ≠ 0 by simp), if_pos (show e2 ≠ 0 from HE2.out)])]
        exact Got.same HS.out HB3.out
    · have HE1 := hid he1
      have hen : (e1 != 0) = true := by simpa using he1
      clear he1
      go_wp2_with fail
      go_ret2
      rw [show leM l a b n = (0, 60, l) from (by unfold leM; rw [HTHE.out, ← HX1.out.2.2, ← HX2.out.2.2, if_neg (show ¬ (true = false) by simp), if_pos (show e1 ≠ 0 from HE1.out)])]
      exact Got.same HS.out HB3.out
def Made (w : World) (e : Ending) (w' : World) : Prop := ∃ t F, e = .returned (ptr t) ∧ St w' t newM 6000 F ∧ (∀ j, F j → w.heap.size ≤ j) ∧ Below w.heap.size w w'
theorem St.made (w : World) : St (((w.alloc (.map #[] 0)).alloc (.map #[] 0)).alloc (.cells #[.slice none 0 0, .map (some w.heap.size), .map (some (w.heap.size + 1))] 63)) (w.heap.size + 2) [] 0 (fun j => w.heap.size ≤ j ∧ j ≤ w.heap.size + 2) := by
  have hN : ∀ W : World, Nodes W (.slice none 0 0) [] (fun _ => False) := fun W => ⟨⟨[], rfl, World.ownsRow_nil _ _ _ _, fun i n x h => by simp at h⟩, fun _ _ h => h, fun _ h => h.elim⟩
  refine ⟨fun _ => False, .slice none 0 0, w.heap.size, w.heap.size + 1, [], fun _ => none, fun _ => none, ⟨?_, hN _, ?_, ?_, Maps.new, by omega, ⟨fun h => h, fun h => h, fun h => h⟩, fun g hg => by (cases hg), ⟨fun n hn => by simp at hn, by simp⟩, Nat.le_refl _⟩, by omega, fun g hg => by (cases hg), fun _ h => h.elim, fun g hg => by simp; omega⟩
  · have := heap_alloc_new ((w.alloc (.map #[] 0)).alloc (.map #[] 0)) (.cells #[.slice none 0 0, .map (some w.heap.size), .map (some (w.heap.size + 1))] 63)
    simpa using this
  · exact ((KMap.made (P := Try.prog) (K := 79) (val := keyV) w).move (old_alloc (w := w.alloc (.map #[] 0)) _ (by simp))).move (old_alloc _ (by simp; omega))
  · have h1 := KMap.made (P := Try.prog) (K := 82) (val := cellV) (w.alloc (.map #[] 0))
    rw [show (w.alloc (.map #[] 0)).heap.size = w.heap.size + 1 from by simp] at h1
    exact h1.move (old_alloc _ (by simp))
theorem wfN_new : ∀ n ∈ newM, WfN n := by
  intro n hn
  unfold newM at hn
  rcases List.mem_cons.1 hn with rfl | hn
  · exact ⟨by simp, wf0, wf0, wf0, by simp, by simp, fun e => absurd e (by simp), fun e => absurd e (by simp)⟩
  · rcases List.mem_cons.1 hn with rfl | hn
    · exact ⟨by simp, wf0, wf0, wf0, by simp, by simp, fun e => absurd e (by simp), fun e => absurd e (by simp)⟩
    · rw [List.mem_singleton.1 hn]
      exact ⟨by simp, wf0, wf0, wf1, by simp, by simp, fun _ => by decide, fun e => absurd e (by simp)⟩
/-- What a made store's calls leave: all of it is new. -/
structure NewAt (w : World) (t : Nat) (l : List NodeM) (q : Nat) (wr : World) : Prop where
  st : ∃ F, St wr t l q F ∧ ∀ j, F j → w.heap.size ≤ j
  bel : Below w.heap.size w wr
theorem NewAt.step {w wr w2 : World} {t : Nat} {l l' : List NodeM} {q q' : Nat} {F : Nat → Prop} (h : NewAt w t l q wr) (hF : ∀ j, F j → w.heap.size ≤ j) (hl : LeftS wr t l' q' F w2) : NewAt w t l' q' w2 := by
  obtain ⟨F', h1, h2, h3⟩ := hl
  exact ⟨⟨F', h1, fun j hj => (h3 j hj).elim (hF j) fun e => Nat.le_trans h.bel.size e⟩, h.bel.trans (h2.below hF h.bel.size)⟩
set_option maxHeartbeats 1600000 in
theorem New_calls (w : World) : Calls Try.prog 10 #[] w (Made w) := by
  have H0 := hid (show NewAt w (w.heap.size + 2) [] 0 _ from ⟨⟨_, St.made w, fun j hj => hj.1⟩, (((Below.refl _ _).alloc (Nat.le_refl _) _).alloc (by simp) _).alloc (by simp; omega) _⟩)
  have HP := hid (fun (W : World) (l : List NodeM) (q : Nat) (n : NodeM) (h : NewAt w (w.heap.size + 2) l q W) (hn : WfN n) (h0 : n.args = []) (hq : q + 2000 < 1000000000) => (by
    obtain ⟨F, h1, h2⟩ := h.st
    exact (put_got W (w.heap.size + 2) l q F n (.slice none 0 0) h1 (by rw [h0]; exact .nil _ _) hn hq).mono fun e w2 hg => (⟨hg.1, h.step h2 hg.2⟩ : e = .returned (.tuple #[.int .i64 (putM l n).1, .int .i64 (putM l n).2.1]) ∧ NewAt w (w.heap.size + 2) (putM l n).2.2 (q + 2000) w2) : Calls Try.prog 30 #[ptr (w.heap.size + 2), nodeV n (.slice none 0 0)] W fun e w2 => e = .returned (.tuple #[.int .i64 (putM l n).1, .int .i64 (putM l n).2.1]) ∧ NewAt w (w.heap.size + 2) (putM l n).2.2 (q + 2000) w2))
  have hmm := @run_makeMap Try.prog
  go_enter Try.func10, Try.ntmps10
  go_wp2_with fail
  refine (HP.out _ [] 0 ⟨1, 0, 0, 0, []⟩ H0.out (wfN_new _ (by simp [newM])) rfl (by omega)).mono ?_
  rintro e w1 ⟨rfl, h1⟩
  have H1 := hid (show NewAt w (w.heap.size + 2) [⟨1, 0, 0, 0, []⟩] 2000 w1 from h1)
  clear h1 H0
  go_wp2_with fail
  refine (HP.out _ [⟨1, 0, 0, 0, []⟩] 2000 ⟨2, 0, 0, 0, []⟩ H1.out (wfN_new _ (by simp [newM])) rfl (by omega)).mono ?_
  rintro e w2 ⟨rfl, h2⟩
  have H2 := hid (show NewAt w (w.heap.size + 2) [⟨1, 0, 0, 0, []⟩, ⟨2, 0, 0, 0, []⟩] 4000 w2 from h2)
  clear h2 H1
  go_wp2_with fail
  refine (HP.out _ [⟨1, 0, 0, 0, []⟩, ⟨2, 0, 0, 0, []⟩] 4000 ⟨3, 0, 0, 1, []⟩ H2.out (wfN_new _ (by simp [newM])) rfl (by omega)).mono ?_
  rintro e w3 ⟨rfl, h3⟩
  have H3 := hid (show NewAt w (w.heap.size + 2) newM 6000 w3 from h3)
  clear h3 H2
  go_wp2_with fail
  go_ret
  obtain ⟨F, h4, h5⟩ := H3.out.st
  exact ⟨_, F, rfl, h4, h5, H3.out.bel⟩
end Go.Proofs.Ytmgbodmpjholiaa.TM
