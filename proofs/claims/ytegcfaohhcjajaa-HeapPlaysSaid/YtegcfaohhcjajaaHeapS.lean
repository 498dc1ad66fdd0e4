/- Walks of heap.set, up, down (printed by wip/tools/heap.py). -/
import Derived.Test.YtegcfaohhcjajaaHeapM
namespace Go.Proofs.Ytegcfaohhcjajaa.HM
open Go.RowKit Go.Proofs.YtegcfaohhcjajaaW.PrintWords Go.Proofs.YtegcfaohhcjajaaW.PrintLast Go.Proofs.YtegcfaohhcjajaaW.PrintMore Go.Proofs.Ytegcfaohhcjajaa.MM
attribute [local go_sem ↓] Go.wp_at_zero Go.wp_at_succ
set_option linter.unusedSimpArgs false
set_option linter.unusedVariables false

theorem Left.of {w w' : World} {t n : Nat} {vw vp vr : Value} {s : HS} {F G : Nat → Prop} {xs ys zs : List Value} (h1 : Ob 67 w' t [vw, vp, vr] [(2, xs), (3, ys), (3, zs)] G) (h2 : Keep F w w') (hx : lits s.w = xs) (hy : lits s.p = ys) (hz : nats s.r = zs) (hG : ∀ j, G j → F j ∨ w.heap.size ≤ j) (hv : Hid (vw = s.v)) : Left w t s F w' := by
  subst hx hy hz
  exact ⟨_, ⟨_, _, _, h1, hv⟩, h2, hG⟩
set_option maxHeartbeats 3200000 in
theorem set_calls (w : World) (t : Nat) (s : HS) (F : Nat → Prop) (at_ i : Nat) (h : Hp w t s F) (ha : at_ < s.r.length) (hi : i < s.p.length) :
    Calls Try.prog 44 #[ptr t, .int .i64 at_, .int .i64 i] w fun e w' => e = .returned (.tuple #[]) ∧ Hp w' t (setM s at_ i) F ∧ Keep (Fv s F) w w' := by
  obtain ⟨vw, vp, vr, h, HV⟩ := h
  obtain ⟨gr, orr, capr, hv, hcap, hg, hcr, _⟩ := row_at h 2 _ _ vr rfl rfl (by simp; omega)
  rw [List.length_map] at hv hcap
  subst hv
  obtain ⟨gp, op, capp, hv, hcapp, hgp, _, _⟩ := row_at h 1 _ _ vp rfl rfl (by simp; omega)
  rw [List.length_map] at hv hcapp
  subst hv
  obtain ⟨nr, hnr⟩ : ∃ n, n = s.r.length := ⟨_, rfl⟩
  obtain ⟨np, hnp⟩ : ∃ n, n = s.p.length := ⟨_, rfl⟩
  rw [← hnr] at h hcap
  rw [← hnp] at h hcapp
  have T0 := h.drew.put 2 _ _ gr orr nr capr rfl rfl at_ (by simpa using ha) (.int .i64 i)
  have T1 := T0.1.put 1 _ _ gp op np capp rfl rfl i (by simpa using hi) (.int .i64 at_)
  have hfin : HpO ((w.drew.setCell ⟨gr, orr + at_, none⟩ (.int .i64 i)).setCell ⟨gp, op + i, none⟩ (.int .i64 at_)) t vw (.slice (some ⟨gp, op, none⟩) np capp) (.slice (some ⟨gr, orr, none⟩) nr capr) (setM s at_ i) F := by
    show Ob _ _ _ _ [_, (_, lits (s.p.set i at_)), (_, nats (s.r.set at_ i))] _
    rw [lits_set, nats_set]
    exact T1.1
  have hkeep : Keep (Fv s F) w ((w.drew.setCell ⟨gr, orr + at_, none⟩ (.int .i64 i)).setCell ⟨gp, op + i, none⟩ (.int .i64 at_)) := by
    have e0 := HV.out
    have n1 : Fv s F gr := ⟨(h.fr 2 _ rfl gr rfl).1, fun e => h.ap 0 2 _ _ rfl rfl (by decide) gr (by rw [← e0] at e; exact e) rfl⟩
    have n2 : Fv s F gp := ⟨(h.fr 1 _ rfl gp rfl).1, fun e => h.ap 0 1 _ _ rfl rfl (by decide) gp (by rw [← e0] at e; exact e) rfl⟩
    have := (setCell_keep w.drew gr (orr + at_) (.int .i64 i)).trans (H := Fv s F) (setCell_keep (w.drew.setCell ⟨gr, orr + at_, none⟩ (.int .i64 i)) gp (op + i) (.int .i64 at_)) (fun j hj => by rw [show j = gr from hj]; exact n1) (fun j hj => by rw [show j = gp from hj]; exact .inl n2)
    exact ⟨this.os, this.tape, this.output, this.size, this.block⟩
  have hS : ∀ W : World, W.heap[t]? = some (.cells #[vw, .slice (some ⟨gp, op, none⟩) np capp, .slice (some ⟨gr, orr, none⟩) nr capr] 67 (0, 0)) → (∃ c1, W.heap[gr]? = some (.cells c1 3 (0, 0))) → (∃ c2, W.heap[gp]? = some (.cells c2 3 (0, 0))) →
      W.cell? ⟨t, 1, none⟩ = some (.slice (some ⟨gp, op, none⟩) np capp) ∧ W.cell? ⟨t, 2, none⟩ = some (.slice (some ⟨gr, orr, none⟩) nr capr) ∧ W.frozen? ⟨gr, orr + at_, none⟩ = false ∧ W.frozen? ⟨gp, op + i, none⟩ = false :=
    fun W q ⟨c1, h1⟩ ⟨c2, h2⟩ => ⟨(blk_cell q 1).trans rfl, (blk_cell q 2).trans rfl, blk_frozen h1 _, blk_frozen h2 _⟩
  have hx1 : w.cell? ⟨gr, orr + at_, none⟩ = some (.int .i64 (s.r.getD at_ 0 : Nat)) := (hcr at_ (by simpa [← hnr] using ha)).trans (nats_get _ _ (by omega))
  obtain ⟨g2, o2, cp2, hv2, _, _, hc2, _⟩ := row_at T0.1 1 _ _ _ rfl rfl (by simp; omega)
  injection hv2 with e1 e3 e4
  clear e3 e4
  injection e1 with e1
  injection e1 with e1 e2 _
  subst e1 e2
  have hx2 : (w.setCell ⟨gr, orr + at_, none⟩ (.int .i64 i)).cell? ⟨gp, op + i, none⟩ = some (.int .i64 (s.p.getD i 0)) := (hc2 i (by simpa using (by omega : i < s.p.length))).trans (lits_get _ _ (by omega))
  have HS0 := hid (hS w h.blk ((h.row 2 _ _ _ rfl rfl).typed gr rfl) ((h.row 1 _ _ _ rfl rfl).typed gp rfl))
  have HS1 := hid (hS _ T0.1.blk ((T0.1.row 2 _ _ _ rfl rfl).typed gr rfl) ((T0.1.row 1 _ _ _ rfl rfl).typed gp rfl))
  have HFIN := hid hfin
  have HKEEP := hid hkeep
  have a1 : (at_ : Int) < (nr : Int) := by omega
  have a2 : (i : Int) < (np : Int) := by omega
  have a3 : at_ < nr := by omega
  have a4 : i < np := by omega
  obtain ⟨hq1, hq2, hq3, hq4⟩ := HS0.out
  have hcl1 : ∀ u, (World.setCell w ⟨gr, orr + at_, none⟩ u).frozen? ⟨gp, op + i, none⟩ = w.frozen? ⟨gp, op + i, none⟩ := fun u => by simp
  clear hcr hc2 h T0 T1 hfin hkeep hS hnr hnp ha hi hcap hcapp
  go_enter Try.func44, Try.ntmps44
  go_wp2_with fail
  refine start_ (n := 16) (S := (fun w' => w'.cell? ⟨t, 1, none⟩ = some (.slice (some ⟨gp, op, none⟩) np capp) ∧ w'.cell? ⟨t, 2, none⟩ = some (.slice (some ⟨gr, orr, none⟩) nr capr) ∧ w'.frozen? ⟨gr, orr + at_, none⟩ = false ∧ w'.frozen? ⟨gp, op + i, none⟩ = false)) (ds := [15]) #[false, false, false, false, false, false, false, false, false, false, false, false, false, false, false, false] (by kernel_rfl) rfl rfl HS0.out (fun hHeld => ?_)
  refine take_ (i := 0) (N := some 6) (v := ?_) (a' := ?_) #[true, false, false, false, false, false, false, false, false, false, false, false, false, false, false, false] rfl rfl (by kernel_rfl) (fun _ _ _ h => h) (Or.inl ⟨by rfl, ?_⟩) hHeld ?_ ?_   -- move (%0)
  rotate_left
  · rintro w' ⟨s0, s1, s2, s3⟩
    go_simp
    with_reducible rfl
  rotate_left
  · simp only [Act.put, List.setIfInBounds_toArray, List.set_cons_zero, List.set_cons_succ]
    rfl
  refine take_ (i := 1) (N := some 7) (v := ?_) (a' := ?_) #[true, true, false, false, false, false, false, false, false, false, false, false, false, false, false, false] rfl rfl (by kernel_rfl) (fun _ _ _ h => h) (Or.inl ⟨by rfl, ?_⟩) hHeld ?_ ?_   -- nilCheck (%6)
  rotate_left
  · rintro w' ⟨s0, s1, s2, s3⟩
    go_simp
    with_reducible rfl
  rotate_left
  · simp only [Act.put, List.setIfInBounds_toArray, List.set_cons_zero, List.set_cons_succ]
    rfl
  refine take_ (i := 2) (N := some 8) (v := ?_) (a' := ?_) #[true, true, true, false, false, false, false, false, false, false, false, false, false, false, false, false] rfl rfl (by kernel_rfl) (fun _ _ _ h => h) (Or.inl ⟨by rfl, ?_⟩) hHeld ?_ ?_   -- fieldAddr 67 (%7) 2
  rotate_left
  · rintro w' ⟨s0, s1, s2, s3⟩
    go_simp
    with_reducible rfl
  rotate_left
  · simp only [Act.put, List.setIfInBounds_toArray, List.set_cons_zero, List.set_cons_succ]
    rfl
  refine take_ (i := 3) (N := some 9) (v := ?_) (a' := ?_) #[true, true, true, true, false, false, false, false, false, false, false, false, false, false, false, false] rfl rfl (by kernel_rfl) (fun _ _ _ h => h) (Or.inl ⟨by rfl, ?_⟩) hHeld ?_ ?_   -- load 25 (%8)
  rotate_left
  · rintro w' ⟨s0, s1, s2, s3⟩
    go_simp
    with_reducible rfl
  rotate_left
  · simp only [Act.put, List.setIfInBounds_toArray, List.set_cons_zero, List.set_cons_succ]
    rfl
  refine take_ (i := 4) (N := some 10) (v := ?_) (a' := ?_) #[true, true, true, true, true, false, false, false, false, false, false, false, false, false, false, false] rfl rfl (by kernel_rfl) (fun _ _ _ h => h) (Or.inl ⟨by rfl, ?_⟩) hHeld ?_ ?_   -- move (%1)
  rotate_left
  · rintro w' ⟨s0, s1, s2, s3⟩
    go_simp
    with_reducible rfl
  rotate_left
  · simp only [Act.put, List.setIfInBounds_toArray, List.set_cons_zero, List.set_cons_succ]
    rfl
  refine take_ (i := 5) (N := some 11) (v := ?_) (a' := ?_) #[true, true, true, true, true, true, false, false, false, false, false, false, false, false, false, false] rfl rfl (by kernel_rfl) (fun _ _ _ h => h) (Or.inl ⟨by rfl, ?_⟩) hHeld ?_ ?_   -- move (%0)
  rotate_left
  · rintro w' ⟨s0, s1, s2, s3⟩
    go_simp
    with_reducible rfl
  rotate_left
  · simp only [Act.put, List.setIfInBounds_toArray, List.set_cons_zero, List.set_cons_succ]
    rfl
  refine take_ (i := 6) (N := some 12) (v := ?_) (a' := ?_) #[true, true, true, true, true, true, true, false, false, false, false, false, false, false, false, false] rfl rfl (by kernel_rfl) (fun _ _ _ h => h) (Or.inl ⟨by rfl, ?_⟩) hHeld ?_ ?_   -- nilCheck (%11)
  rotate_left
  · rintro w' ⟨s0, s1, s2, s3⟩
    go_simp
    with_reducible rfl
  rotate_left
  · simp only [Act.put, List.setIfInBounds_toArray, List.set_cons_zero, List.set_cons_succ]
    rfl
  refine take_ (i := 7) (N := some 13) (v := ?_) (a' := ?_) #[true, true, true, true, true, true, true, true, false, false, false, false, false, false, false, false] rfl rfl (by kernel_rfl) (fun _ _ _ h => h) (Or.inl ⟨by rfl, ?_⟩) hHeld ?_ ?_   -- fieldAddr 67 (%12) 1
  rotate_left
  · rintro w' ⟨s0, s1, s2, s3⟩
    go_simp
    with_reducible rfl
  rotate_left
  · simp only [Act.put, List.setIfInBounds_toArray, List.set_cons_zero, List.set_cons_succ]
    rfl
  refine take_ (i := 8) (N := some 14) (v := ?_) (a' := ?_) #[true, true, true, true, true, true, true, true, true, false, false, false, false, false, false, false] rfl rfl (by kernel_rfl) (fun _ _ _ h => h) (Or.inl ⟨by rfl, ?_⟩) hHeld ?_ ?_   -- load 25 (%13)
  rotate_left
  · rintro w' ⟨s0, s1, s2, s3⟩
    go_simp
    with_reducible rfl
  rotate_left
  · simp only [Act.put, List.setIfInBounds_toArray, List.set_cons_zero, List.set_cons_succ]
    rfl
  refine take_ (i := 9) (N := some 15) (v := ?_) (a' := ?_) #[true, true, true, true, true, true, true, true, true, true, false, false, false, false, false, false] rfl rfl (by kernel_rfl) (fun _ _ _ h => h) (Or.inl ⟨by rfl, ?_⟩) hHeld ?_ ?_   -- move (%2)
  rotate_left
  · rintro w' ⟨s0, s1, s2, s3⟩
    go_simp
    with_reducible rfl
  rotate_left
  · simp only [Act.put, List.setIfInBounds_toArray, List.set_cons_zero, List.set_cons_succ]
    rfl
  refine take_ (i := 10) (N := some 16) (v := ?_) (a' := ?_) #[true, true, true, true, true, true, true, true, true, true, true, false, false, false, false, false] rfl rfl (by kernel_rfl) (fun _ _ _ h => h) (Or.inl ⟨by rfl, ?_⟩) hHeld ?_ ?_   -- move (%2)
  rotate_left
  · rintro w' ⟨s0, s1, s2, s3⟩
    go_simp
    with_reducible rfl
  rotate_left
  · simp only [Act.put, List.setIfInBounds_toArray, List.set_cons_zero, List.set_cons_succ]
    rfl
  refine take_ (i := 11) (N := some 17) (v := ?_) (a' := ?_) #[true, true, true, true, true, true, true, true, true, true, true, true, false, false, false, false] rfl rfl (by kernel_rfl) (fun _ _ _ h => h) (Or.inl ⟨by rfl, ?_⟩) hHeld ?_ ?_   -- move (%1)
  rotate_left
  · rintro w' ⟨s0, s1, s2, s3⟩
    go_simp
    with_reducible rfl
  rotate_left
  · simp only [Act.put, List.setIfInBounds_toArray, List.set_cons_zero, List.set_cons_succ]
    rfl
  refine take_ (i := 12) (N := some 18) (v := ?_) (a' := ?_) #[true, true, true, true, true, true, true, true, true, true, true, true, true, false, false, false] rfl rfl (by kernel_rfl) (fun _ _ _ h => h) (Or.inl ⟨by rfl, ?_⟩) hHeld ?_ ?_   -- indexAddr 25 (%9) (%10)
  rotate_left
  · rintro w' ⟨s0, s1, s2, s3⟩
    go_simp
    with_reducible rfl
  rotate_left
  · simp only [Act.put, List.setIfInBounds_toArray, List.set_cons_zero, List.set_cons_succ]
    rfl
  refine one_ (i := 13) (N := none) #[true, true, true, true, true, true, true, true, true, true, true, true, true, true, false, false] rfl rfl (by kernel_rfl) (by decide) (fun K hK => ?_)
  refine skip_ (by rfl) rfl (w1 := w.drew.setCell ⟨gr, orr + at_, none⟩ (.int .i64 i)) (by go_simp; first | done | rfl) ?_
  refine hK.out _ _ HS1.out (fun hHeld => ?_)
  have hf1' := hHeld.2.2.2
  refine take_ (i := 14) (N := some 19) (v := ?_) (a' := ?_) #[true, true, true, true, true, true, true, true, true, true, true, true, true, true, true, false] rfl rfl (by kernel_rfl) (fun _ _ _ h => h) (Or.inl ⟨by rfl, ?_⟩) hHeld ?_ ?_   -- indexAddr 25 (%14) (%15)
  rotate_left
  · rintro w' ⟨s0, s1, s2, s3⟩
    go_simp
    with_reducible rfl
  rotate_left
  · simp only [Act.put, List.setIfInBounds_toArray, List.set_cons_zero, List.set_cons_succ]
    rfl
  refine last_ (i := 15) (N := none) #[true, true, true, true, true, true, true, true, true, true, true, true, true, true, true, true] rfl rfl (by kernel_rfl) (by decide) (fun K hK => ?_)
  refine skip_ (by rfl) rfl (w1 := (w.drew.setCell ⟨gr, orr + at_, none⟩ (.int .i64 i)).setCell ⟨gp, op + i, none⟩ (.int .i64 at_)) (by go_simp; first | done | rfl) ?_
  refine hK.out _ _ ?_
  refine done_ (by kernel_rfl) ?_
  try simp only [Exit.inBlock, Exit.then]
  refine bodyPost_end (results_none rfl _ _ _) rfl ?_
  exact ⟨rfl, ⟨_, _, _, HFIN.out, HV⟩, HKEEP.out⟩
end Go.Proofs.Ytegcfaohhcjajaa.HM
