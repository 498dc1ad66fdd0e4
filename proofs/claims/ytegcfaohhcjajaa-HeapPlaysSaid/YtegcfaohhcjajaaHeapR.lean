/- Walk of heap.Pop. -/
import Derived.Test.YtegcfaohhcjajaaHeapQ
namespace Go.Proofs.Ytegcfaohhcjajaa.HM
open Go.RowKit Go.Proofs.YtegcfaohhcjajaaW.PrintWords Go.Proofs.YtegcfaohhcjajaaW.PrintLast Go.Proofs.YtegcfaohhcjajaaW.PrintMore Go.Proofs.Ytegcfaohhcjajaa.MM
attribute [local go_sem ↓] Go.wp_at_zero Go.wp_at_succ
set_option linter.unusedSimpArgs false
set_option linter.unusedVariables false

def cutM (s : HS) : HS := { setM s 0 (s.r.getD (s.r.length - 1) 0) with r := (setM s 0 (s.r.getD (s.r.length - 1) 0)).r.take (s.r.length - 1) }
def outM (s : HS) : HS := { cutM s with p := (cutM s).p.set (s.r.getD 0 0) (-1) }
def popM (s : HS) : HS := if 0 < s.r.length - 1 then downM (outM s) 0 else outM s
theorem nats_take (l : List Nat) (k : Nat) : nats (l.take k) = (nats l).take k := List.map_take ..
theorem Wf.out {s : HS} (h : Wf s) (h0 : 0 < s.r.length) : Wf (outM s) := by
  have h1 := h.set (at_ := 0) (h.at (i := s.r.length - 1) (by omega))
  exact ⟨by simpa [outM, cutM] using h1.len, h1.big, by have := h.rbig; simp [outM, cutM]; omega, fun x hx => h1.row x (List.mem_of_mem_take hx)⟩
set_option maxHeartbeats 1600000 in
theorem Pop_none (w : World) (t : Nat) (s : HS) (F : Nat → Prop) (h : Hp w t s F) (h0 : s.r.length = 0) :
    Calls Try.prog 21 #[ptr t] w fun e w' => e = .returned (.tuple #[.int .i64 0, .bool false]) ∧ Below w.heap.size w w' := by
  have HF := hid (First_calls w t s F h)
  rw [if_neg (by omega)] at HF
  clear h
  go_enter Try.func21, Try.ntmps21
  go_wp2_with fail
  refine HF.out.mono ?_
  rintro e w1 ⟨rfl, hb1⟩
  have HB1 := hid hb1
  clear hb1
  go_wp2_with fail
  go_ret2
  exact ⟨rfl, HB1.out⟩
set_option maxRecDepth 100000 in
set_option maxHeartbeats 3200000 in
theorem Pop_keeps (w : World) (t : Nat) (s : HS) (F : Nat → Prop) (h : Hp w t s F) (wf : Wf s) (h0 : 0 < s.r.length) :
    Calls Try.prog 21 #[ptr t] w fun e w' => e = .returned (.tuple #[.int .i64 (s.r.getD 0 0 : Nat), .bool true]) ∧ ∃ F', Hp w' t (popM s) F' ∧ Keep (Fv s F) w w' ∧ ∀ j, F' j → F j ∨ w.heap.size ≤ j := by
  have HF := hid (First_calls w t s F h)
  rw [if_pos h0] at HF
  have HH := hid h
  obtain ⟨i, hi⟩ : ∃ i, i = s.r.getD 0 0 := ⟨_, rfl⟩
  obtain ⟨m, hm⟩ : ∃ m, s.r.length = m + 1 := ⟨s.r.length - 1, by omega⟩
  obtain ⟨x, hx⟩ : ∃ x, x = s.r.getD m 0 := ⟨_, rfl⟩
  rw [← hi] at HF ⊢
  have HI := hid hi
  have HM := hid hm
  have HX := hid hx
  have HWF := hid wf
  have hms : m < 1048576 := by have := wf.rbig; omega
  clear h wf h0 hi hm hx
  go_enter Try.func21, Try.ntmps21
  go_wp2_with fail
  refine HF.out.mono ?_
  rintro e w1 ⟨rfl, hb1⟩
  have HB1 := hid hb1
  obtain ⟨vw, vp, vr, h1, HV⟩ := HH.out.below hb1
  obtain ⟨g, off, cap, hv, hcap, hg, hcells, _⟩ := row_at h1 2 _ _ vr rfl rfl (by simp [HM.out])
  rw [List.length_map, HM.out] at hv hcap
  subst hv
  have hc1 := h1.cell 2 _ rfl
  have hx1 := (hcells m (by simp [HM.out])).trans (nats_get _ _ (by rw [HM.out]; omega))
  rw [← HX.out] at hx1
  have hw : wrap64 (m : Int) = (m : Int) := by unfold wrap64; omega
  have hmI : (m : Int) < ((m + 1 : Nat) : Int) := by omega
  have SET := hid (set_calls w1 t s F 0 x ⟨_, _, _, h1, HV⟩ (by rw [HM.out]; omega) (by rw [HWF.out.len, HX.out]; exact HWF.out.at (by rw [HM.out]; omega)))
  clear hb1 hcells hcap h1 hg
  go_wp2_with fail
  refine SET.out.mono ?_
  rintro e w2 ⟨rfl, hp2, hk2⟩
  have HK2 := hid hk2
  obtain ⟨vw2, vp2, vr2, h2, HV⟩ := hp2
  obtain ⟨A2, c2, hv2, hA2, hB2⟩ := (h2.row 2 _ _ vr2 rfl rfl).shape
  rw [List.length_map, setM_rlen, HM.out] at hv2
  subst hv2
  have hA3 : m ≤ c2 := by simp [HM.out] at hA2; omega
  have hc2 := h2.cell 2 _ rfl
  have hf2 := h2.frozen 2
  have hip : i < (setM s 0 x).p.length := by
    have h1 := HWF.out.at (i := 0) (by rw [HM.out]; omega)
    rw [← HI.out, ← HWF.out.len] at h1
    simpa [setM] using h1
  obtain ⟨np, hnp⟩ : ∃ n, n = (setM s 0 x).p.length := ⟨_, rfl⟩
  obtain ⟨gp, op, cp, hvp, _, hgp, hcp, hfp⟩ := row_at h2 1 _ _ vp2 rfl rfl (by simp; omega)
  rw [List.length_map, ← hnp] at hvp
  subst hvp
  have hc3 := h2.cell 1 _ rfl
  have hne : gp ≠ t := (h2.fr 1 _ rfl gp rfl).2
  have hne' : t ≠ gp := fun e => hne e.symm
  have hx3 := (hcp i (by simpa using hip)).trans (lits_get _ _ hip)
  have hf3 := hfp (op + i)
  have hiI : (i : Int) < (np : Int) := by omega
  have T1 := h2.turn 2 _ 3 _ ((nats (setM s 0 x).r).take m) _ (.slice A2 m c2) rfl rfl (Keep.refl _ w2) ((h2.row 2 _ _ _ rfl rfl).front m (by simp [HM.out])) (.inr (.inl (by cases A2 <;> rfl)))
  have T2 := T1.1.put 1 _ _ gp op np cp rfl rfl i (by simpa using hip) (.int .i64 (-1))
  have hfin : HpO ((w2.setCell ⟨t, 2, none⟩ (.slice A2 m c2)).setCell ⟨gp, op + i, none⟩ (.int .i64 (-1))) t vw2 (.slice (some ⟨gp, op, none⟩) np cp) (.slice A2 m c2) (outM s) (fun j => F j ∨ w2.heap.size ≤ j ∧ j < w2.heap.size) := by
    have e1 : outM s = { setM s 0 x with r := (setM s 0 x).r.take m, p := (setM s 0 x).p.set i (-1) } := by
      simp only [outM, cutM, ← HI.out, HM.out, Nat.add_sub_cancel, ← HX.out]
    rw [e1]
    show Ob _ _ _ _ [_, (_, lits ((setM s 0 x).p.set i (-1))), (_, nats ((setM s 0 x).r.take m))] _
    rw [lits_set, nats_take]
    exact T2.1
  have HFIN := hid hfin
  have hkeep0 : Keep (Fv s F) w2 ((w2.setCell ⟨t, 2, none⟩ (.slice A2 m c2)).setCell ⟨gp, op + i, none⟩ (.int .i64 (-1))) := by
    have e0 : vw2 = s.v := HV.out
    have n1 : Fv s F t := ⟨h2.fp, fun e => (h2.fr 0 _ rfl t (by rw [← e0] at e; exact e)).2 rfl⟩
    have n2 : Fv s F gp := ⟨(h2.fr 1 _ rfl gp rfl).1, fun e => h2.ap 0 1 _ _ rfl rfl (by decide) gp (by rw [← e0] at e; exact e) rfl⟩
    exact (setCell_keep w2 t 2 (.slice A2 m c2)).trans (H := Fv s F) (setCell_keep (w2.setCell ⟨t, 2, none⟩ (.slice A2 m c2)) gp (op + i) (.int .i64 (-1))) (fun j hj => by rw [show j = t from hj]; exact n1) (fun j hj => by rw [show j = gp from hj]; exact .inl n2)
  have HKEEP := hid ((((Keep.ofBelow (F := fun _ => False) HB1.out).trans hk2 (H := Fv s F) (fun _ h => h.elim) (fun _ h => .inl h)).trans hkeep0 (H := Fv s F) (fun _ h => h) (fun _ h => .inl h)))
  have HS2 := hid (Nat.le_trans HB1.out.size hk2.size)
  clear h2 hk2 hcp T1 T2 hfin hgp hip hnp hA2 hkeep0
  by_cases hm0 : m = 0
  · subst hm0
    go_wp2_with fail
    go_ret2
    refine ⟨rfl, fun j => F j ∨ w2.heap.size ≤ j ∧ j < w2.heap.size, ?_, HKEEP.out, fun j hj => hj.imp id (fun h => Nat.le_trans HS2.out h.1)⟩
    rw [popM, HM.out, if_neg (by simp)]
    exact ⟨_, _, _, HFIN.out, HV⟩
  · have hm0' : (0 : Int) < (m : Int) := by omega
    have DOWN := hid (down_calls _ t (outM s) _ 0 ⟨_, _, _, HFIN.out, HV⟩ (HWF.out.out (by rw [HM.out]; omega)) (by simp [outM, cutM, HM.out]; omega))
    go_wp2_with fail
    refine DOWN.out.mono ?_
    rintro e w5 ⟨rfl, hp5, hk5⟩
    have HP5 := hid hp5
    have HK5 := hid hk5
    clear hp5 hk5
    go_wp2_with fail
    go_ret2
    refine ⟨rfl, fun j => F j ∨ w2.heap.size ≤ j ∧ j < w2.heap.size, ?_, HKEEP.out.trans HK5.out (fun _ h => h) (fun j h => h.1.elim (fun q => .inl ⟨q, h.2⟩) (fun q => .inr (Nat.le_trans HS2.out q.1))), fun j hj => hj.imp id (fun h => Nat.le_trans HS2.out h.1)⟩
    rw [popM, HM.out, if_pos (by omega)]
    exact HP5.out
theorem Pop_calls (w : World) (t : Nat) (s : HS) (F : Nat → Prop) (h : Hp w t s F) (wf : Wf s) (h0 : 0 < s.r.length) :
    Calls Try.prog 21 #[ptr t] w fun e w' => e = .returned (.tuple #[.int .i64 (s.r.getD 0 0 : Nat), .bool true]) ∧ Left w t (popM s) F w' :=
  (Pop_keeps w t s F h wf h0).mono fun e w' ⟨he, F', hp, hk, hs⟩ => ⟨he, F', hp, hk.mono fun _ h => h.1, hs⟩
end Go.Proofs.Ytegcfaohhcjajaa.HM
