/- Walk of heap.Push. -/
import Derived.Test.YtegcfaohhcjajaaHeapP
namespace Go.Proofs.Ytegcfaohhcjajaa.HM
open Go.RowKit Go.Proofs.YtegcfaohhcjajaaW.PrintWords Go.Proofs.YtegcfaohhcjajaaW.PrintLast Go.Proofs.YtegcfaohhcjajaaW.PrintMore Go.Proofs.Ytegcfaohhcjajaa.MM
attribute [local go_sem ↓] Go.wp_at_zero Go.wp_at_succ
set_option linter.unusedSimpArgs false
set_option linter.unusedVariables false

theorem infoI : (Try.prog.info? 3).map (fun i => (i.zero, i.size, i.bytes)) = some (some (.int .i64 0), 1, 8) := by kernel_rfl
theorem wp_app (w : World) {ops : Array Oper} {rest : List Oper} {o : Oper} {a : Act} {Q : Exit → Act → World → Prop} (hgd : o.guard = none) (s x : Operand)
    (ho : o.op = .call { callee := .builtin .append, args := #[s, x], argTypes := #[25, 25] })
    (v u : Value) (xs ys : List Value) (hs : a.eval s = v) (hx : a.eval x = u) (h : Row w 3 v xs) (hy : Row w 3 u ys) (h1 : ∀ u ∈ ys, u.oneCell' = true) (hl : xs.length + ys.length < 461168601842)
    (hK : ∀ v' w', Row w' 3 v' (xs ++ ys) → Keep (fun k => v.ownBlock = some k) w w' → (v'.ownBlock = v.ownBlock ∨ v'.ownBlock = some w.heap.size) → wpList Try.prog ops Q rest (a.put o.dst v') w') :
    wpList Try.prog ops Q (o :: rest) a w := by
  obtain ⟨i0, hi0, hz0, hz1, hz2⟩ := info_parts infoI
  exact wpList_append_row hgd s x _ ho _ i0 _ Try.underlying25 hi0 hz0 hz1 rfl v u xs ys hs hx h hy.src h1 (by simp [maxLen]; omega) (by rw [hz2]; omega) hK

def addM (s : HS) (i : Nat) : HS := { s with r := s.r ++ [i] }
def pushM (s : HS) (i : Nat) : HS := upM (addM s i) s.r.length
theorem Wf.add {s : HS} (h : Wf s) {i : Nat} (hi : i < s.w.length) (hr : s.r.length < 1048576) : Wf (addM s i) where
  len := h.len
  big := h.big
  rbig := by simp [addM]; omega
  row := fun x hx => by
    rcases List.mem_append.1 hx with hx | hx
    · exact h.row x hx
    · rw [List.mem_singleton.1 hx]; exact hi
/-- What Push answers. -/
def pushE (s : HS) (i : Int) : Int := if knownM s i then (if 0 ≤ s.p.getD i.toNat 0 then 8 else 0) else 2
set_option maxHeartbeats 1600000 in
theorem Push_unknown (w : World) (t : Nat) (s : HS) (F : Nat → Prop) (i : Int) (h : Hp w t s F) (hk : knownM s i = false) :
    Calls Try.prog 19 #[ptr t, .int .i64 i] w fun e w' => e = .returned (.int .i64 2) ∧ Below w.heap.size w w' := by
  have HKN := hid (known_calls w t s F i h)
  rw [hk] at HKN
  clear h hk
  go_enter Try.func19, Try.ntmps19
  go_wp2_with fail
  refine HKN.out.mono ?_
  rintro e w1 ⟨rfl, hb1⟩
  have HB1 := hid hb1
  clear hb1
  go_wp2_with fail
  go_ret
  exact ⟨rfl, HB1.out⟩
set_option maxHeartbeats 1600000 in
theorem Push_twice (w : World) (t : Nat) (s : HS) (F : Nat → Prop) (m : Nat) (h : Hp w t s F) (hm : m < s.p.length) (hk : knownM s m = true) (hp : 0 ≤ s.p.getD m 0) :
    Calls Try.prog 19 #[ptr t, .int .i64 m] w fun e w' => e = .returned (.int .i64 8) ∧ Below w.heap.size w w' := by
  have HKN := hid (known_calls w t s F m h)
  rw [hk] at HKN
  obtain ⟨vw, vp, vr, h, HV⟩ := h
  have htl := blk_lt h.blk
  obtain ⟨g, off, cap, hv, hcap, hg, hcells, _⟩ := row_at h 1 _ _ vp rfl rfl (by simp; omega)
  rw [List.length_map] at hv hcap
  subst hv
  have hx := (hcells m (by simpa using hm)).trans (lits_get _ _ hm)
  obtain ⟨x, hx0⟩ : ∃ x, x = s.p.getD m 0 := ⟨_, rfl⟩
  rw [← hx0] at hx hp
  have HX := hid hx
  have hc := h.cell 1 _ rfl
  have HC := hid hc
  have HG := hid hg
  have hmI : (m : Int) < (s.p.length : Int) := by omega
  have hp' : x ≥ 0 := hp
  clear hcells hx hc hg hx0 h hk
  go_enter Try.func19, Try.ntmps19
  go_wp2_with fail
  refine HKN.out.mono ?_
  rintro e w1 ⟨rfl, hb1⟩
  have hc1 : w1.cell? ⟨t, 1, none⟩ = _ := (hb1.cell (p := ⟨t, 1, none⟩) htl).trans HC.out
  have hx1 : w1.cell? ⟨g, off + m, none⟩ = _ := (hb1.cell (p := ⟨g, off + m, none⟩) HG.out).trans HX.out
  have HB1 := hid hb1
  clear hb1
  go_wp2_with fail
  go_ret
  exact ⟨rfl, HB1.out⟩
set_option maxRecDepth 100000 in
set_option maxHeartbeats 3200000 in
theorem Push_new (w : World) (t : Nat) (s : HS) (F : Nat → Prop) (m : Nat) (h : Hp w t s F) (wf : Wf s) (hm : m < s.w.length) (hp : s.p.getD m 0 < 0) (hr : s.r.length < 1048576) :
    Calls Try.prog 19 #[ptr t, .int .i64 m] w fun e w' => e = .returned (.int .i64 0) ∧ Left w t (pushM s m) F w' := by
  have HKN := hid (known_calls w t s F m h)
  rw [(known_iff s m).2 ⟨by omega, by omega⟩] at HKN
  obtain ⟨vw, vp, vr, h, HV⟩ := h
  have HH := hid h
  have htl := blk_lt h.blk
  have hmp : m < s.p.length := by rw [wf.len]; exact hm
  obtain ⟨g, off, cap, hv, hcap, hg, hcells, _⟩ := row_at h 1 _ _ vp rfl rfl (by simp; omega)
  rw [List.length_map] at hv hcap
  subst hv
  have hx := (hcells m (by simpa using hmp)).trans (lits_get _ _ hmp)
  obtain ⟨x, hx0⟩ : ∃ x, x = s.p.getD m 0 := ⟨_, rfl⟩
  rw [← hx0] at hx hp
  have HX := hid hx
  have HC := hid (h.cell 1 _ rfl)
  have HG := hid hg
  have HWF := hid wf
  have HHM := hid hm
  have HHR := hid hr
  have hmI : (m : Int) < (s.p.length : Int) := by omega
  have hp' : ¬ x ≥ 0 := by omega
  have hne : ∀ j, vr.ownBlock = some j → j ≠ t := fun j hj => (h.fr 2 _ rfl j hj).2
  have HNE := hid hne
  clear hcells hx hg hx0 h hm wf hmp hcap hr hne
  go_enter Try.func19, Try.ntmps19
  go_wp2_with fail
  refine HKN.out.mono ?_
  rintro e w1 ⟨rfl, hb1⟩
  have hc1 : w1.cell? ⟨t, 1, none⟩ = _ := (hb1.cell (p := ⟨t, 1, none⟩) htl).trans HC.out
  have hx1 : w1.cell? ⟨g, off + m, none⟩ = _ := (hb1.cell (p := ⟨g, off + m, none⟩) HG.out).trans HX.out
  have HB1 := hid hb1
  have H1 := hid (HH.out.below hb1)
  have hc2 := H1.out.cell 2 vr rfl
  have hR := hid (H1.out.row 2 _ _ vr rfl rfl)
  have lt := blk_lt H1.out.blk
  clear hb1
  go_wp2_with (at_builtin; go_loud (refine wp_app _ rfl _ _ rfl _ _ (nats s.r) [.int .i64 (m : Nat)] (by rfl) (by rfl) (hR.out.alloc _) (Row.one _ _ _) (by simp [Value.oneCell']) (by have := HHR.out; simp; omega) ?_; intro v' w3 hr hk hat; obtain ⟨A3, c3, rfl, _, _⟩ := hr.shape; have hln : (nats s.r ++ [Value.int .i64 (m : Nat)]).length = s.r.length + 1 := (by simp); rw [hln] at hr hat; try rw [hln]; have hb3 := hk.blk ((old_alloc _ lt).trans H1.out.blk) (fun e => HNE.out t e rfl); have hf := blk_frozen hb3 2; have hc3 := (blk_cell hb3 2).trans rfl; have HR := hid hr; have HK := hid hk; have HA := hid hat; clear hr hk hat hb3))
  have hk0 : Keep (fun k => vr.ownBlock = some k) w1 w3 := (Keep.ofBelow (F := fun k => vr.ownBlock = some k) ((Below.refl w1.heap.size w1).alloc (Nat.le_refl _) _)).trans HK.out (fun _ h => h) (fun _ h => .inl h)
  obtain ⟨a1, a2⟩ := H1.out.turn 2 _ 3 _ _ vr _ rfl rfl hk0 HR.out (HA.out.elim (fun e => .inr (.inl e)) fun e => .inr (.inr ⟨_, e, by simp⟩))
  have hw : wrap64 (s.r.length : Int) = (s.r.length : Int) := by have := HHR.out; unfold wrap64; omega
  rw [hw]
  have hob : HpO (w3.setCell ⟨t, 2, none⟩ (Value.slice A3 (s.r.length + 1) c3)) t vw (Value.slice (some ⟨g, off, none⟩) s.p.length cap) (Value.slice A3 (s.r.length + 1) c3) (addM s m) (fun j => F j ∨ w1.heap.size ≤ j ∧ j < w3.heap.size) := by
    show Ob _ _ _ _ [_, _, (_, nats (s.r ++ [m]))] _
    rw [show nats (s.r ++ [m]) = nats s.r ++ [Value.int .i64 (m : Nat)] from by simp [nats]]
    exact a1
  refine (up_calls _ t (addM s m) _ s.r.length ⟨_, _, _, hob, HV⟩ (HWF.out.add HHM.out HHR.out) (by simp [addM])).mono ?_
  rintro e w5 ⟨rfl, hp5, hk5⟩
  have HP5 := hid hp5
  have HK5 := hid hk5
  have HA2 := hid a2
  clear hp5 hk5 a1 a2 hob hk0
  go_wp2_with fail
  go_ret
  refine ⟨rfl, _, HP5.out, ((Keep.ofBelow (F := F) HB1.out).trans HA2.out (fun _ h => h) (fun _ h => .inl h)).trans HK5.out (fun _ h => h) (fun j h => ?_), fun j hj => ?_⟩
  · rcases h with h | ⟨h, _⟩
    · exact .inl h
    · exact .inr (Nat.le_trans HB1.out.size h)
  · rcases hj with h | ⟨h, _⟩
    · exact .inl h
    · exact .inr (Nat.le_trans HB1.out.size h)
end Go.Proofs.Ytegcfaohhcjajaa.HM
