/- What a run over the base of rup answers. What rup's may, based and follows answer. What rup's based and follows answer. Sorting what comes by its atoms. What rup.Units, Follows and Row of the given program answer. What rup.Units of the given program answers. What rup.Units, Follows and Row of the given program answer: by the walks. -/
import Derived.Test.YtjlkjgoncfdaeaaManRupA
import Derived.Test.YtjlkjgoncfdaeaaManRupF
import Derived.Test.YtjlkjgoncfdaeaaRupPl
import Derived.Maps.RangeWalk
import Derived.Maps.AppendAt
import Derived.Laws.AppendOwn
namespace Go.Proofs.Ytjlkjgoncfdaeaa.RM
open Go.RowKit Go.Proofs.YtjlkjgoncfdaeaaW.PrintWords Go.Proofs.YtjlkjgoncfdaeaaW.PrintLast Go.Proofs.YtjlkjgoncfdaeaaW.PrintMore Go.Lib Go.Sort Go.Shelf Go.Maps Go.Proofs.Ytjlkjgoncfdaeaa.LF Go.Proofs.Ytjlkjgoncfdaeaa.IM Go.Proofs.Ytjlkjgoncfdaeaa.MC Go.Proofs.Ytjlkjgoncfdaeaa.MM Go.Proofs.Ytjlkjgoncfdaeaa.VM
attribute [local go_sem ↓] Go.wp_at_zero Go.wp_at_succ
set_option linter.unusedSimpArgs false
set_option linter.unusedVariables false

/-- The base at a place, whatever its parts. -/
def BaseAt (w : World) (p : Nat) (b : RB) (F : Nat → Prop) : Prop := ∃ M vA vU hs g, RupMem w p M vA vU hs g 2097153 b F ∧ Dom g
theorem BaseAt.keep {w w1 : World} {p : Nat} {b : RB} {F G : Nat → Prop} (h : BaseAt w p b F) (hk : Keep G w w1) (hn : ∀ j, F j → ¬ G j) : BaseAt w1 p b F := by
  obtain ⟨M, vA, vU, hs, g, h1, h2⟩ := h
  exact ⟨M, vA, vU, hs, g, h1.keep hk hn, h2⟩
theorem BaseAt.old {w : World} {p : Nat} {b : RB} {F : Nat → Prop} (h : BaseAt w p b F) : ∀ j, F j → j < w.heap.size := by
  obtain ⟨M, vA, vU, hs, g, h1, h2⟩ := h
  exact h1.old
theorem src_of_C {w : World} {A : Option Addr} {l : List Int} {c : Nat} (h : Kd.C (Kd.int .i64) w A l.length l) : Src w (.slice A l.length c) (lits l) := by
  rcases Nat.eq_zero_or_pos l.length with h0 | h0
  · have : l = [] := List.eq_nil_of_length_eq_zero h0
    subst this
    cases A with
    | none => exact .inl ⟨c, rfl, rfl⟩
    | some a => exact .inr ⟨a, c, rfl, fun j u hj => by cases hj⟩
  · obtain ⟨b, off, rfl, hc⟩ := cells_of_C h h0
    refine .inr ⟨⟨b, off, none⟩, c, by rw [show (lits l).length = l.length from by simp], fun j u hj => ?_⟩
    rw [List.getElem?_map] at hj
    cases hl : l[j]? with
    | none => rw [hl] at hj; cases hj
    | some x =>
      rw [hl] at hj
      have hj2 := (List.getElem?_eq_some_iff.1 hl).1
      rw [Addr.add_lit, hc j hj2]
      rw [← Option.some.inj hj]
      simp [hl]

theorem fall_base (p mh nh : Nat) (b : RB) (F : Nat → Prop) (l : Int) (H : List Int) (w : World) (h : BaseAt w p b F) (hinv : Inv b.all b.by_) (hH : HMap w mh nh H) (hmF : ¬ F mh) (h1 : -1048576 ≤ l) (h2 : l ≤ 1048576) (hall : b.all.length < 1000000) :
    Calls Try.prog 48 #[.pointer (some ⟨p, 0, none⟩), .int .i64 l, .map (some mh)] w fun e w' => ∃ vC, e = .returned (.tuple #[vC, .bool (fallO l H b)]) ∧
      ∃ F', BaseAt w' p (fallB l H b) F' ∧ Row w' 46 vC (lits (fallC l H b)) ∧ (∀ j, vC.ownBlock = some j → ¬ F' j ∧ w.heap.size ≤ j) ∧ Keep F w w' ∧ (∀ j, F' j → F j ∨ w.heap.size ≤ j) := by
  obtain ⟨M, vA, vU, hs, g, h3, h4⟩ := h
  refine (fall_calls p M mh nh vA vU hs g b F l H w h3 h4 hinv hH hmF h1 h2 hall).mono ?_
  rintro e w' ⟨vC, he, g', F', k1, k2, k3, k4, k5, k6⟩
  exact ⟨vC, he, F', ⟨M, vA, vU, hs, g', k1, k2⟩, k3, k4, k5, k6⟩

/-- A run's answer: what holds, or none; and the base behind it. -/
def outR (b : RB) (r : Option (List Int) × RB) : Option (List Int) × RB := if b.empty then (none, b) else r

/-- What stands at the head of a run's loop. -/
structure Running (w : World) (p mh : Nat) (F : Nat → Prop) (b : RB) (r : Option (List Int) × RB) (left : Nat) (v7 : Value) (wr : World) (b1 : RB) (H Q : List Int) (F1 : Nat → Prop) : Prop where
  base : BaseAt wr p b1 F1
  inv : Inv b1.all b1.by_
  hm : HMap wr mh 2097153 H
  mF : ¬ F1 mh
  mw : w.heap.size ≤ mh
  q : Row wr 46 v7 (lits Q)
  far : ∀ j, v7.ownBlock = some j → ¬ F1 j ∧ w.heap.size ≤ j
  run : runM left b1 H Q = some r
  bdQ : ∀ x ∈ Q, Bd x
  bdH : ∀ x ∈ H, Bd x
  nd : H.Nodup
  len : b1.all.length = b.all.length
  size : Q.length ≤ 20000 + H.length * b.all.length
  keep : Keep F w wr
  more : ∀ j, F1 j → F j ∨ w.heap.size ≤ j

theorem held_short {H : List Int} (hn : H.Nodup) (hb : ∀ x ∈ H, Bd x) : H.length ≤ 2097153 := by
  have := VM.nodup_len (l := H.map fun x => (Lit.int .i64 x)) (S := keys) (List.pairwise_map.2 (hn.imp fun h e => h (by injection e))) (fun k hk => by
    obtain ⟨x, hx, rfl⟩ := List.mem_map.1 hk
    exact mem_keys (hb x hx).2.1 (hb x hx).2.2)
  rw [len_keys] at this
  simpa using this
theorem Row.notMap {w : World} {t : TypeId} {v : Value} {xs : List Value} {m n : Nat} {f : Lit → Option Value} (h : Row w t v xs) (hm : VMap Try.prog 46 w m n f) : v.ownBlock ≠ some m := by
  intro e
  obtain ⟨cur, hc⟩ := h.typed m e
  obtain ⟨es, cl, hmm⟩ := hm.obj
  rw [hc] at hmm
  simp at hmm

variable {w : World} {p mh : Nat} {F : Nat → Prop} {b : RB} {r : Option (List Int) × RB} {left : Nat} {v7 : Value} {wr : World} {b1 : RB} {H : List Int} {F1 : Nat → Prop} {l : Int} {q : List Int}
theorem Running.skip (R : Running w p mh F b r (left + 1) v7 wr b1 H (l :: q) F1) (hl : l ∈ H) {v7' : Value} (hq : Row wr 46 v7' (lits q)) (ho : v7'.ownBlock = v7.ownBlock) : Running w p mh F b r left v7' wr b1 H q F1 :=
  { R with
    q := hq
    far := fun j hj => R.far j (by rw [← ho]; exact hj)
    run := by have h := R.run; unfold runM at h; rw [if_pos hl] at h; exact h
    bdQ := fun x hx => R.bdQ x (by simp [hx])
    size := by have h := R.size; simp at h; omega }
theorem Running.step (R : Running w p mh F b r (left + 1) v7 wr b1 H (l :: q) F1) (hl : l ∉ H) (hnl : -l ∉ H) {v7' : Value} (hq : Row wr 46 v7' (lits q)) (ho : v7'.ownBlock = v7.ownBlock)
    {wm w2 w3 : World} {v8 : Value} {F2 : Nat → Prop} (hg : wr.grownBy wm (some mh)) (hm : HMap wm mh 2097153 (l :: H)) (hb : BaseAt w2 p (fallB (-l) (l :: H) b1) F2) (hk2 : Keep F1 wm w2) (hmo : ∀ j, F2 j → F1 j ∨ wm.heap.size ≤ j)
    (hok : fallO (-l) (l :: H) b1 = true) (hk3 : Keep (fun j => v7'.ownBlock = some j) w2 w3) (hr : Row w3 46 v8 (lits (q ++ fallC (-l) (l :: H) b1))) (hat : v8.ownBlock = v7'.ownBlock ∨ v8.ownBlock = some w2.heap.size) :
    Running w p mh F b r left v8 w3 (fallB (-l) (l :: H) b1) (l :: H) (q ++ fallC (-l) (l :: H) b1) F2 := by
  have kept := fallB_kept (-l) (l :: H) b1 R.inv
  have k1 : Keep (fun j => j = mh) wr wm := Keep.ofGrown hg fun j hj => (Option.some.inj hj).symm
  have hlt := R.hm.lt
  have hmF2 : ¬ F2 mh := fun h => by
    rcases hmo mh h with h | h
    · exact R.mF h
    · have := k1.size; omega
  have hq7 : ∀ j, v7'.ownBlock = some j → ¬ F2 j ∧ w.heap.size ≤ j := by
    intro j hj
    have h1 := R.far j (by rw [← ho]; exact hj)
    refine ⟨fun h => ?_, h1.2⟩
    rcases hmo j h with h | h
    · exact h1.1 h
    · have := hq.lt j hj; have := k1.size; omega
  have hm2 : HMap w2 mh 2097153 (l :: H) := hm.move (hk2.block mh hm.lt R.mF)
  have hbl : Bd l := R.bdQ l (by simp)
  have hbH : ∀ x ∈ l :: H, Bd x := by
    intro x hx
    rcases List.mem_cons.1 hx with rfl | hx
    · exact hbl
    · exact R.bdH x hx
  exact {
    base := hb.keep hk3 fun j hj h => (hq7 j h).1 hj
    inv := kept.1
    hm := hm2.move (hk3.block mh hm2.lt (Row.notMap (m := mh) (hq.move (w1 := wr) fun _ _ => rfl) R.hm))
    mF := hmF2
    mw := R.mw
    q := hr
    far := fun j hj => by
      rcases hat with e | e
      · exact hq7 j (by rw [← e]; exact hj)
      · have e2 : j = w2.heap.size := by rw [hj] at e; injection e
        have := hk2.size
        have := k1.size
        have := R.keep.size
        exact ⟨fun h => by have := hb.old j h; omega, by omega⟩
    run := by have h := R.run; unfold runM at h; rw [if_neg hl, if_neg hnl, if_pos hok] at h; exact h
    bdQ := fun x hx => by
      rcases List.mem_append.1 hx with h | h
      · exact R.bdQ x (by simp [h])
      · obtain ⟨n, hn, hx⟩ := kept.2.2.1 x h
        exact R.inv.bd n hn x hx
    bdH := hbH
    nd := List.nodup_cons.2 ⟨hl, R.nd⟩
    len := kept.2.1.len.trans R.len
    size := by
      have h1 := R.size
      have h2 := kept.2.2.2
      have h3 := R.inv.short (-l)
      rw [R.len] at h3
      simp only [List.length_cons, List.length_append] at h1 ⊢
      rw [Nat.add_mul]
      omega
    keep := ((R.keep.trans k1 (fun _ h => h) (fun j h => .inr (h ▸ R.mw))).trans hk2 (fun _ h => h) (fun j h => R.more j h)).trans hk3 (fun _ h => h) (fun j h => .inr (hq7 j h).2)
    more := fun j h => by
      rcases hmo j h with h | h
      · exact R.more j h
      · have := k1.size; have := R.keep.size; exact .inr (by omega) }

set_option maxRecDepth 100000 in
set_option maxHeartbeats 12800000 in
theorem run_calls (p : Nat) (b : RB) (F : Nat → Prop) (A1 : Option Addr) (c1 : Nat) (given : List Int) (w : World) (h : BaseAt w p b F) (hinv : Inv b.all b.by_) (hub : ∀ x ∈ b.units, Bd x) (hgb : ∀ x ∈ given, Bd x) (hr1 : Kd.C (Kd.int .i64) w A1 given.length given)
    (hall : b.all.length < 10000) (hul : b.units.length < 10000) (hgl : given.length < 10000) (m : Nat) (r : Option (List Int) × RB) (hm : runM m b [] (b.units ++ given) = some r) :
    Calls Try.prog 33 #[.pointer (some ⟨p, 0, none⟩), .slice A1 given.length c1] w fun e w' => ∃ vH F', e = .returned (.tuple #[vH, .bool (outR b r).1.isSome]) ∧ BaseAt w' p (outR b r).2 F' ∧ Keep F w w' ∧ (∀ j, F' j → F j ∨ w.heap.size ≤ j) ∧
      ∀ H, (outR b r).1 = some H → ∃ mh, vH = .map (some mh) ∧ HMap w' mh 2097153 H ∧ H.Nodup ∧ w.heap.size ≤ mh := by
  obtain ⟨M, vA, vU, hs, g, hmem, hdom⟩ := h
  have hp2 : w.cell? ⟨p, 2, none⟩ = some vU := (blk_cell hmem.obj 2).trans rfl
  have hp3 : w.cell? ⟨p, 3, none⟩ = some (.bool b.empty) := (blk_cell hmem.obj 3).trans rfl
  have hlp : p < w.heap.size := blk_lt hmem.obj
  obtain ⟨AU, cU, hvU, hcU, _, hCU⟩ := reads_of_row hmem.units
  subst hvU
  have HB := hid (show BaseAt w p b F from ⟨M, vA, _, hs, g, hmem, hdom⟩)
  have hmm := @run_makeMap Try.prog
  have hka : Keep F w (w.alloc (.map #[] 0)) := kept_new _ _
  have HCL := hid (clone_calls AU cU b.units (w.alloc (.map #[] 0)) (Kd.C_below hCU ((Below.refl _ _).alloc (Nat.le_refl _) _)) (by omega))
  have HG := hid (src_of_C (c := c1) hr1)
  have HI := hid hinv
  have HX := hid (And.intro hub (And.intro hgb (And.intro hall (And.intro hul hgl))))
  have HR := hid hm
  have HC1 := hid hr1
  clear hinv hub hgb hr1 hall hul hgl hm hCU hmem
  by_cases he : b.empty = true
  · rw [he] at hp3
    have HO := hid (show outR b r = (none, b) by unfold outR; rw [if_pos he])
    clear he
    go_enter Try.func33, Try.ntmps33
    go_wp2_with fail
    go_ret2
    rw [HO.out]
    exact ⟨_, F, rfl, HB.out.keep (kept_new _ (fun _ => False)) (fun _ _ h => h), kept_new _ _, fun j h => .inl h, fun H h => by cases h⟩
  · have hef : b.empty = false := by simpa using he
    rw [hef] at hp3
    have HO := hid (show outR b r = r by unfold outR; rw [hef]; rfl)
    clear he hef
    go_enter Try.func33, Try.ntmps33
    go_wp2_with fail
    refine HCL.out.mono ?_
    rintro e w1 ⟨v', rfl, hown, _, hb1⟩
    obtain ⟨hrow, _, hnew⟩ := Row.ofOwns hown
    have hbw : Below w.heap.size w w1 := ((Below.refl w.heap.size w).alloc (Nat.le_refl _) _).trans (hb1.mono (by simp))
    have HSRC := hid (src_of_C (c := c1) (Kd.C_below HC1.out hbw))
    have HROW := hid (show Row w1 46 v' (lits b.units) from hrow)
    have HNEW := hid hnew
    have HB1 := hid hb1
    have HBW := hid hbw
    clear hown hrow hnew hb1 hbw
    go_wp2_with (at_builtin; refine wp_app_src _ rfl _ _ rfl _ _ (lits b.units) (lits given) (by rfl) (by rfl) HROW.out HSRC.out (lits_one _) (by have := HX.out; simp; omega) ?_; intro v7 w2 hr hk hat; have HR7 := hid hr; have HK7 := hid hk; have HA7 := hid hat; clear hr hk hat)
    have hk02 : Keep (fun _ => False) w w2 := ⟨HK7.out.os.trans HBW.out.os, HK7.out.tape.trans HBW.out.tape, HK7.out.output.trans HBW.out.output, Nat.le_trans HBW.out.size HK7.out.size, fun q hq _ => (HK7.out.block q (Nat.lt_of_lt_of_le hq HBW.out.size) (fun e => by have := HNEW.out q e; simp at this; omega)).trans (HBW.out.block q hq)⟩
    have hmap : HMap w2 w.heap.size 2097153 [] := by
      have h1 : VMap Try.prog 46 (w.alloc (.map #[] 0)) w.heap.size 0 (fun _ => none) := VMap.made w
      have h2 : VMap Try.prog 46 w2 w.heap.size 0 (fun _ => none) := h1.move ((HK7.out.block _ (by have := HB1.out.size; simp at this; omega) (fun e => by have := HNEW.out _ e; simp at this; omega)).trans (HB1.out.block _ (by simp)))
      have e : hf [] = fun _ => none := by funext kl; unfold hf; rw [if_neg (by simp)]
      show VMap _ _ _ _ _ (hf [])
      rw [e]
      exact h2.more (by omega)
    have start : Running w p w.heap.size F b r m v7 w2 b [] (b.units ++ given) F := {
      base := HB.out.keep hk02 (fun _ _ h => h)
      inv := HI.out
      hm := hmap
      mF := fun h => by have := HB.out.old _ h; omega
      mw := Nat.le_refl _
      q := by have := HR7.out; simpa [lits] using this
      far := fun j hj => by
        rcases HA7.out with e | e
        · have := HNEW.out j (by rw [← e]; exact hj)
          simp at this
          exact ⟨fun h => by have := HB.out.old j h; omega, by omega⟩
        · have e2 : j = w1.heap.size := by rw [hj] at e; injection e
          have := HBW.out.size
          exact ⟨fun h => by have := HB.out.old j h; omega, by omega⟩
      run := HR.out
      bdQ := fun x hx => by
        rcases List.mem_append.1 hx with h | h
        · exact HX.out.1 x h
        · exact HX.out.2.1 x h
      bdH := fun x hx => by cases hx
      nd := List.nodup_nil
      len := rfl
      size := by have := HX.out; simp; omega
      keep := hk02.mono (fun _ h => h.elim)
      more := fun j h => .inl h }
    have ST := hid start
    clear start hmap hk02
    go_loopg [7] m (fun left v7 wr => ∃ b1 H Q F1, Hid (Running w p w.heap.size F b r left v7 wr b1 H Q F1))
    case atStart => exact ⟨b, [], _, F, ST⟩
    case round =>
      obtain ⟨b1, H, Q, F1, R⟩ := hrel
      cases gk with
      | zero => exact absurd R.out.run (by unfold runM; simp)
      | succ left =>
        cases Q with
        | nil =>
          obtain ⟨A7, c7, hv7, hc7, _⟩ := R.out.q.shape
          have hr := R.out.run
          unfold runM at hr
          have hR := hid (Option.some.inj hr)
          subst hv7
          clear hr
          have h0 : (lits []).length = 0 := rfl
          rw [h0]
          go_wp2_with fail
          go_ret2
          rw [HO.out, ← hR.out]
          refine ⟨_, F1, rfl, R.out.base, R.out.keep, R.out.more, fun H' h => ?_⟩
          injection h with h
          subst h
          exact ⟨_, rfl, R.out.hm, R.out.nd, Nat.le_refl _⟩
        | cons l q =>
          obtain ⟨gq, oq, cq, hv7, hcq, _, _, hcells, _⟩ := R.out.q.cells (by simp)
          subst hv7
          have hrow := R.out.q
          have hcut := hrow.cut 1 (by simp)
          rw [show (lits (l :: q)).length = q.length + 1 from by simp] at hcq hcut R ⊢
          have hcl : wr.cell? ⟨gq, oq, none⟩ = some (.int .i64 l) := hcells 0 (by simp)
          obtain ⟨nq, hnq⟩ : ∃ n, n = q.length := ⟨_, rfl⟩
          rw [← hnq] at hcq hcut R ⊢
          have HCUT := hid (show Row wr 46 (.slice (some ⟨gq, if cq = 1 then oq else oq + 1, none⟩) nq (cq - 1)) (lits q) by
            by_cases e : cq = 1
            · rw [if_pos e] at hcut ⊢; exact hcut
            · rw [if_neg e] at hcut ⊢; exact hcut)
          have hbl := R.out.bdQ l (by simp)
          have hwl : (Lit.int .i64 l).wf = true := WalkArith.wf_i64 (by omega)
          have hnegl : wrap64 (-l) = -l := wrap64_lit hbl
          have HWL := hid hwl
          have HNL := hid hnegl
          have HWN := hid (show (Lit.int .i64 (wrap64 (-l))).wf = true from wrap64_wf _)
          have HBL := hid hbl
          have hpos : (0 : Int) < (nq : Int) + 1 := by omega
          clear hcells hrow hcut hwl hnegl hbl hnq
          by_cases hq1 : cq = 1
          all_goals
            have HQ := hid hq1
            by_cases hlH : l ∈ H
            · have HV1 := hid (show hv H l = 1 from if_pos hlH)
              have HLH := hid hlH
              clear hlH
              go_wp2_with (at_lookup; (with_reducible refine wp_look_hold _ rfl _ _ rfl w.heap.size 2097153 H R.out.hm l 1 rfl rfl HWL.out HV1.out ?_))
              all_goals
                go_roundg left
                case measure => omega
                case rel => exact ⟨b1, H, q, F1, hid (R.out.skip HLH.out (by have h := HCUT.out; first | (rw [if_pos HQ.out, show cq - 1 = 0 from by have := HQ.out; omega] at h; exact h) | (rw [if_neg HQ.out] at h; exact h)) rfl)⟩
            · have HV0 := hid (show hv H l = 0 from if_neg hlH)
              have HLH := hid hlH
              clear hlH
              by_cases hnH : -l ∈ H
              · have HV1 := hid (show hv H (wrap64 (-l)) = 1 by rw [HNL.out]; exact if_pos hnH)
                have hr := R.out.run
                unfold runM at hr
                rw [if_neg HLH.out, if_pos hnH] at hr
                have hR := hid (Option.some.inj hr)
                clear hnH hr
                go_wp2_with (first
                  | (at_lookup; (with_reducible refine wp_look_hold _ rfl _ _ rfl w.heap.size 2097153 H R.out.hm l 0 rfl rfl HWL.out HV0.out ?_))
                  | (at_lookup; (with_reducible refine wp_look_hold _ rfl _ _ rfl w.heap.size 2097153 H R.out.hm (wrap64 (-l)) 1 rfl rfl HWN.out HV1.out ?_)))
                all_goals
                  go_ret2
                  rw [HO.out, ← hR.out]
                  exact ⟨_, F1, rfl, R.out.base, R.out.keep, R.out.more, fun H' h => by cases h⟩
              · have HV1 := hid (show hv H (wrap64 (-l)) = 0 by rw [HNL.out]; exact if_neg hnH)
                have HNH := hid hnH
                clear hnH
                have hput := R.out.hm.put_run keyed Try.underlying51 (by simp [maxLen]) (keyOf_int_mk Try.underlying46 HWL.out) (.int .i64 1)
                rw [hf_cons] at hput
                obtain ⟨wm, hwm⟩ : ∃ wm, wm = putW Try.prog 51 wr w.heap.size (.int .i64 l) (.int .i64 1) := ⟨_, rfl⟩
                rw [← hwm] at hput
                have hrunH := hput.1
                have HGR := hid hput.2.2
                have hbH : ∀ x ∈ l :: H, Bd x := by
                  intro x hx
                  rcases List.mem_cons.1 hx with rfl | hx
                  · exact HBL.out
                  · exact R.out.bdH x hx
                have HMM := hid (show HMap wm w.heap.size 2097153 (l :: H) from VMap.tight_dom hput.2.1 (Dom.hf fun x hx => ⟨(hbH x hx).2.1, (hbH x hx).2.2⟩))
                have hk1 : Keep (fun j => j = w.heap.size) wr wm := Keep.ofGrown hput.2.2 fun j hj => (Option.some.inj hj).symm
                have HFALL := hid (show Calls Try.prog 48 #[.pointer (some ⟨p, 0, none⟩), .int .i64 (wrap64 (-l)), .map (some w.heap.size)] wm _ by
                  rw [HNL.out]
                  exact fall_base p w.heap.size 2097153 b1 F1 (-l) (l :: H) wm (R.out.base.keep hk1 (fun j hj e => R.out.mF (e ▸ hj))) R.out.inv HMM.out R.out.mF (by have := HBL.out; omega) (by have := HBL.out; omega) (by rw [R.out.len]; have := HX.out; omega))
                clear hput hwm hbH hk1
                go_wp2_with (first
                  | (at_lookup; (with_reducible refine wp_look_hold _ rfl _ _ rfl w.heap.size 2097153 H R.out.hm l 0 rfl rfl HWL.out HV0.out ?_))
                  | (at_lookup; (with_reducible refine wp_look_hold _ rfl _ _ rfl w.heap.size 2097153 H R.out.hm (wrap64 (-l)) 0 rfl rfl HWN.out HV1.out ?_)))
                refine HFALL.out.mono ?_
                rintro e w2 ⟨vC, rfl, F2, hb2, hrC, hfC, hk2, hm2⟩
                have hk1 : Keep (fun j => j = w.heap.size) wr wm := Keep.ofGrown HGR.out fun j hj => (Option.some.inj hj).symm
                have hq7 : Row wr 46 (.slice (some ⟨gq, if cq = 1 then oq else oq + 1, none⟩) nq (cq - 1)) (lits q) := HCUT.out
                have hfar7 := R.out.far gq rfl
                have hne7 : gq ≠ w.heap.size := fun e => Row.notMap HCUT.out R.out.hm (by rw [← e]; rfl)
                have hq2 : Row w2 46 (.slice (some ⟨gq, if cq = 1 then oq else oq + 1, none⟩) nq (cq - 1)) (lits q) := (hq7.keep hk1 (fun j hj => by cases hj; exact hne7)).keep hk2 (fun j hj => by cases hj; exact hfar7.1)
                have HQ2 := hid hq2
                have HB2 := hid hb2
                have HRC := hid hrC
                have HFC := hid hfC
                have HK2 := hid hk2
                have HM2 := hid hm2
                have hsz : q.length + (fallC (-l) (l :: H) b1).length < 4611686018427 := by
                  have h1 := R.out.size
                  have h2 := (fallB_kept (-l) (l :: H) b1 R.out.inv).2.2.2
                  have h3 := R.out.inv.short (-l)
                  have h4 := held_short R.out.nd R.out.bdH
                  have h5 := HX.out.2.2.1
                  rw [R.out.len] at h3
                  have h6 : H.length * b.all.length ≤ 2097153 * 10000 := Nat.mul_le_mul h4 (by omega)
                  simp only [List.length_cons] at h1
                  omega
                have HSZ := hid hsz
                clear hk1 hq7 hfar7 hne7 hq2 hb2 hrC hfC hk2 hm2 hsz
                by_cases hok : fallO (-l) (l :: H) b1 = true
                · rw [hok]
                  have HOK := hid hok
                  clear hok
                  go_wp2_with (at_builtin; refine wp_app_lit _ rfl _ _ rfl _ _ (lits q) (lits (fallC (-l) (l :: H) b1)) (by rfl) (by rfl) (by have h := HQ2.out; first | (rw [if_pos HQ.out, show cq - 1 = 0 from by have := HQ.out; omega] at h; exact h) | (rw [if_neg HQ.out] at h; exact h)) HRC.out (lits_one _) (by have := HSZ.out; simp; omega) ?_; intro v8 w3 hr hk hat; have HR8 := hid hr; have HK8 := hid hk; have HA8 := hid hat; clear hr hk hat)
                  have R2 := hid (R.out.step HLH.out HNH.out HCUT.out rfl HGR.out HMM.out HB2.out HK2.out HM2.out HOK.out HK8.out (by have h := HR8.out; simpa [lits] using h) HA8.out)
                  go_roundg left
                  case measure => omega
                  case rel => exact ⟨_, _, _, _, R2⟩
                · have hof : fallO (-l) (l :: H) b1 = false := by simpa using hok
                  rw [hof]
                  have hr := R.out.run
                  unfold runM at hr
                  rw [if_neg HLH.out, if_neg HNH.out, if_neg hok] at hr
                  have hR := hid (Option.some.inj hr)
                  clear hok hof hr
                  go_wp2_with fail
                  go_ret2
                  rw [HO.out, ← hR.out]
                  have k1 : Keep (fun j => j = w.heap.size) wr wm := Keep.ofGrown HGR.out fun j hj => (Option.some.inj hj).symm
                  exact ⟨_, F2, rfl, HB2.out, (R.out.keep.trans k1 (fun _ h => h) (fun j h => .inr (h ▸ Nat.le_refl _))).trans HK2.out (fun _ h => h) (fun j h => R.out.more j h), fun j h => by
                    rcases HM2.out j h with h | h
                    · exact R.out.more j h
                    · have := k1.size; have := R.out.keep.size; exact .inr (by omega), fun H' h => by cases h⟩
end Go.Proofs.Ytjlkjgoncfdaeaa.RM

namespace Go.Proofs.Ytjlkjgoncfdaeaa.RM
open Go.RowKit Go.Proofs.YtjlkjgoncfdaeaaW.PrintWords Go.Proofs.YtjlkjgoncfdaeaaW.PrintLast Go.Proofs.YtjlkjgoncfdaeaaW.PrintMore Go.Lib Go.Sort Go.Shelf Go.Maps Go.Proofs.Ytjlkjgoncfdaeaa.LF Go.Proofs.Ytjlkjgoncfdaeaa.IM Go.Proofs.Ytjlkjgoncfdaeaa.MC Go.Proofs.Ytjlkjgoncfdaeaa.MM Go.Proofs.Ytjlkjgoncfdaeaa.VM
attribute [local go_sem ↓] Go.wp_at_zero Go.wp_at_succ
set_option linter.unusedSimpArgs false
set_option linter.unusedVariables false

set_option maxHeartbeats 400000 in
theorem May_draws (A0 : Option Addr) (c0 : Nat) (l0 : List Int) (w : World) (hr0 : Kd.C (Kd.int .i64) w A0 l0.length l0) :
    Calls Try.prog 44 #[.slice A0 l0.length c0] w fun e w' => e = .returned (.bool (mayB l0)) ∧ ∃ q, w' = w.drewN q := by
  have eg : ∀ args w, (callFunc 55 args).run Try.prog w = .ok (.enter 55 args) w := enters_of Try.func55 (by kernel_rfl) rfl
  have hcon := contains_calls A0 c0 l0 w hr0 (fun x => !literalB x) 55 #[] eg (may_pred w)
  have hall : (l0.any fun x => !literalB x) = !(l0.all literalB) := by
    rw [List.not_all_eq_any_not]
  rw [hall] at hcon
  have hm : (decide (l0.length ≤ 5000) && l0.all literalB) = mayB l0 := rfl
  generalize l0.all literalB = b at hcon hm
  have hn : l0.length ≤ 9223372036854775807 := hr0.2.1
  clear hall hr0 eg
  have HM := Lib.hid hm
  have HC := Lib.hid hcon
  clear hcon hm
  by_cases h1 : l0.length ≤ 5000
  · have e1 : decide (l0.length ≤ 5000) = true := by simp [h1]
    have e2 : decide ((l0.length : Int) ≤ 5000) = true := by simp; omega
    go_enter Try.func44, Try.ntmps44
    go_wp2_with (go_at_call 54; (refine HC.out.mono ?_); rintro e w' ⟨rfl, q, rfl⟩)
    go_ret
    exact ⟨by rw [← HM.out]; simp [h1], q, rfl⟩
  · have e1 : decide (l0.length ≤ 5000) = false := by simp [h1]
    have e2 : decide ((l0.length : Int) ≤ 5000) = false := by simp; omega
    go_enter Try.func44, Try.ntmps44
    go_wp2_with fail
    go_ret
    exact ⟨by rw [← HM.out]; simp [h1], 0, rfl⟩

/-- A row of clauses that is read. -/
abbrev CC (w : World) (A : Option Addr) (l : List (List Int)) : Prop := Kd.C (Kd.slice 46 (Kd.int .i64)) w A l.length l
theorem clauses_of_C {w : World} {A : Option Addr} {l : List (List Int)} (h : CC w A l) (h0 : 0 < l.length) :
    ∃ b off, A = some ⟨b, off, none⟩ ∧ b < w.heap.size ∧ ∀ j, j < l.length → ∃ A' c', w.cell? ⟨b, off + j, none⟩ = some (.slice A' (l.getD j []).length c') ∧ Kd.C (Kd.int .i64) w A' (l.getD j []).length (l.getD j []) := by
  obtain ⟨ad, e, hc⟩ := h.2.2 h0
  have key : ∀ j, j < l.length → ∃ A' c', w.cell? (ad.add j) = some (.slice A' (l.getD j []).length c') ∧ Kd.C (Kd.int .i64) w A' (l.getD j []).length (l.getD j []) := by
    intro j hj
    obtain ⟨c, hc1, ⟨A', c', hcs, _, hC⟩, hcell⟩ := hc j l[j] (List.getElem?_eq_getElem hj)
    subst hcs
    have h1 := hcell 0 _ rfl
    rw [show l.getD j [] = l[j] from by simp [List.getD_eq_getElem?_getD, hj]]
    refine ⟨A', c', ?_, hC⟩
    have h2 : w.cell? (ad.add (j * 1 + 0)) = some (.slice A' l[j].length c') := h1
    simpa using h2
  obtain ⟨b, off, sp⟩ := ad
  have hsp : sp = none := by
    obtain ⟨A', c', hc', _⟩ := key 0 h0
    unfold World.cell? at hc'
    simp only [Addr.add] at hc'
    cases sp with
    | none => rfl
    | some s => split at hc' <;> simp at hc'
  subst hsp
  have key2 : ∀ j, j < l.length → ∃ A' c', w.cell? ⟨b, off + j, none⟩ = some (.slice A' (l.getD j []).length c') ∧ Kd.C (Kd.int .i64) w A' (l.getD j []).length (l.getD j []) := by
    intro j hj
    have := key j hj
    rw [Addr.add_lit] at this
    exact this
  obtain ⟨A', c', hc', _⟩ := key2 0 h0
  exact ⟨b, off, e, World.block_lt_of_cell? w ⟨b, off + 0, none⟩ hc', key2⟩

/-- The same, told of no capacities. -/
def CCw (w : World) (A : Option Addr) (l : List (List Int)) : Prop := l.length ≤ 9223372036854775807 ∧ (0 < l.length →
    ∃ b off, A = some ⟨b, off, none⟩ ∧ b < w.heap.size ∧ ∀ j, j < l.length → ∃ A' c', w.cell? ⟨b, off + j, none⟩ = some (.slice A' (l.getD j []).length c') ∧ Kd.C (Kd.int .i64) w A' (l.getD j []).length (l.getD j []))
theorem CCw.of {w : World} {A : Option Addr} {l : List (List Int)} (h : CC w A l) : CCw w A l := ⟨h.2.1, clauses_of_C h⟩
theorem CCw.one {w : World} {A : Option Addr} {l : List Int} (c : Nat) (h : Kd.C (Kd.int .i64) w A l.length l) : CCw (w.alloc (.cells #[.slice A l.length c] 31)) (some ⟨w.heap.size, 0, none⟩) [l] := by
  refine ⟨by simp, fun _ => ⟨w.heap.size, 0, rfl, by simp, fun j hj => ?_⟩⟩
  have : j = 0 := by simpa using hj
  subst this
  exact ⟨A, c, blk_cell (heap_alloc_new w _) 0, Kd.C_below h ((Below.refl _ _).alloc (Nat.le_refl _) _)⟩
/-- A clause, and where it lies. -/
abbrev At (w : World) := { e : Value × List Int // ∃ A c, e.1 = .slice A e.2.length c ∧ Kd.C (Kd.int .i64) w A e.2.length e.2 }
theorem nilC (w : World) : Kd.C (Kd.int .i64) w none 0 [] := ⟨rfl, by omega, fun h => by omega⟩
instance (w : World) : Inhabited (At w) := ⟨⟨(.slice none 0 0, []), none, 0, rfl, nilC w⟩⟩
set_option maxHeartbeats 400000 in
theorem mays_pred (w : World) : PredAt Try.prog 43 #[] (fun e : At w => e.1.1) (fun e => !mayB e.1.2) w := fun W x hb => by
  obtain ⟨⟨v, l⟩, A, c, hv, hC⟩ := x
  have hv' : v = .slice A l.length c := hv
  subst hv'
  show Calls Try.prog 43 #[.slice A l.length c] W fun e w' => e = .returned (.bool (!mayB l)) ∧ ∃ q, w' = W.drewN q
  have hcon := May_draws A c l W (Kd.C_below hC hb)
  generalize mayB l = b at hcon ⊢
  have HC := Lib.hid hcon
  clear hcon hC hb
  go_enter Try.func43, Try.ntmps43
  go_wp2_with (go_at_call 44; (refine HC.out.mono ?_); rintro e w' ⟨rfl, q, rfl⟩)
  go_ret
  exact ⟨rfl, q, rfl⟩

set_option maxHeartbeats 400000 in
theorem mays_contains (A0 : Option Addr) (c0 : Nat) (l0 : List (List Int)) (w : World) (h : CCw w A0 l0) :
    Calls Try.prog 42 #[.slice A0 l0.length c0, .func (.func 43) #[] #[]] w fun e w' => e = .returned (.bool (!(l0.all mayB))) ∧ ∃ q, w' = w.drewN q := by
  have eg : ∀ args w, (callFunc 43 args).run Try.prog w = .ok (.enter 43 args) w := enters_of Try.func43 (by kernel_rfl) rfl
  rcases Nat.eq_zero_or_pos l0.length with h0 | h0
  · have : l0 = [] := List.eq_nil_of_length_eq_zero h0
    subst this
    exact (AnyE.slices_ContainsFunc_empty (ρ := layContainsFunc2_ren) layContainsFunc2 A0 c0 _ w).mono fun _ _ ⟨he, hw⟩ => ⟨he, 0, hw⟩
  · obtain ⟨b, off, rfl, _, hc⟩ := h.2 h0
    have hz : ∃ zs : List (At w), zs.length = l0.length ∧ (∀ j, j < l0.length → (zs[j]!).1.2 = l0.getD j [] ∧ w.cell? ⟨b, off + j, none⟩ = some (zs[j]!).1.1) := by
      have hc' : ∀ j : Fin l0.length, ∃ z : At w, z.1.2 = l0.getD j.1 [] ∧ w.cell? ⟨b, off + j.1, none⟩ = some z.1.1 := fun j => by
        obtain ⟨A', c', h1, h2⟩ := hc j.1 j.2
        exact ⟨⟨(_, l0.getD j.1 []), A', c', rfl, h2⟩, rfl, h1⟩
      obtain ⟨f, hf⟩ := Classical.axiomOfChoice hc'
      refine ⟨List.ofFn f, by simp, fun j hj => ?_⟩
      have e : (List.ofFn f)[j]! = f ⟨j, hj⟩ := by simp [hj]
      rw [e]
      exact hf ⟨j, hj⟩
    obtain ⟨zs, hl, hz⟩ := hz
    have := AnyE.slices_ContainsFunc (ρ := layContainsFunc2_ren) layContainsFunc2 (fun e : At w => e.1.1) (fun e => !mayB e.1.2) 43 #[] eg b off l0.length c0 zs w (mays_pred w) (by omega) h.1 (fun j hj => (hz j (by omega)).2)
    rw [show (zs.take l0.length).any (fun e => !mayB e.1.2) = !(l0.all mayB) from by
      rw [← hl, List.take_length]
      rw [List.not_all_eq_any_not]
      have : zs.map (fun e => e.1.2) = l0 := by
        apply List.ext_getElem (by simp [hl])
        intro j h1 h2
        have := (hz j h2).1
        rw [List.getElem_map]
        simp [show j < zs.length by omega, List.getD_eq_getElem?_getD, h2] at this
        exact this
      rw [← this, List.any_map]
      rfl] at this
    exact this
set_option maxHeartbeats 400000 in
theorem may_calls (A0 : Option Addr) (c0 : Nat) (l0 : List (List Int)) (w : World) (h : CCw w A0 l0) :
    Calls Try.prog 29 #[.slice A0 l0.length c0] w fun e w' => e = .returned (.bool (l0.all mayB)) ∧ ∃ q, w' = w.drewN q := by
  have hcon := mays_contains A0 c0 l0 w h
  generalize l0.all mayB = b at hcon ⊢
  have HC := Lib.hid hcon
  clear hcon h
  go_enter Try.func29, Try.ntmps29
  go_wp2_with (go_at_call 42; (refine HC.out.mono ?_); rintro e w' ⟨rfl, q, rfl⟩)
  go_ret
  exact ⟨by simp, q, rfl⟩
end Go.Proofs.Ytjlkjgoncfdaeaa.RM

namespace Go.Proofs.Ytjlkjgoncfdaeaa.RM
open Go.RowKit Go.Proofs.YtjlkjgoncfdaeaaW.PrintWords Go.Proofs.YtjlkjgoncfdaeaaW.PrintLast Go.Proofs.YtjlkjgoncfdaeaaW.PrintMore Go.Lib Go.Sort Go.Shelf Go.Maps Go.Proofs.Ytjlkjgoncfdaeaa.LF Go.Proofs.Ytjlkjgoncfdaeaa.IM Go.Proofs.Ytjlkjgoncfdaeaa.MC Go.Proofs.Ytjlkjgoncfdaeaa.MM Go.Proofs.Ytjlkjgoncfdaeaa.VM
attribute [local go_sem ↓] Go.wp_at_zero Go.wp_at_succ
set_option linter.unusedSimpArgs false
set_option linter.unusedVariables false

theorem may_bd {c : List Int} (h : mayB c = true) : c.length ≤ 5000 ∧ ∀ x ∈ c, Bd x := by
  unfold mayB at h
  rw [Bool.and_eq_true] at h
  exact ⟨of_decide_eq_true h.1, fun x hx => literalB_true.1 (List.all_eq_true.1 h.2 x hx)⟩
theorem saysB_iff {c : List Int} (h : ∀ x ∈ c, Bd x) : saysB c = true ↔ ∃ x ∈ c, -x ∈ c := by
  unfold saysB
  rw [List.any_eq_true]
  constructor
  · rintro ⟨x, hx, h1⟩
    simp only [Bool.and_eq_true, List.contains_iff_mem] at h1
    rw [wrap64_lit (h x hx)] at h1
    exact ⟨x, hx, h1.2⟩
  · rintro ⟨x, hx, hnx⟩
    refine ⟨x, hx, ?_⟩
    have hb := h x hx
    simp only [Bool.and_eq_true, List.contains_iff_mem, bne_iff_ne]
    rw [wrap64_lit hb]
    exact ⟨⟨hb.1, by omega⟩, hnx⟩
theorem says_canon {c : List Int} (h : ∀ x ∈ c, Bd x) : saysB (canon c) = saysB c := by
  have h2 : ∀ x ∈ canon c, Bd x := fun x hx => h x ((mem_canon x c).1 hx)
  rw [Bool.eq_iff_iff, saysB_iff h2, saysB_iff h]
  constructor
  · rintro ⟨x, hx, hn⟩; exact ⟨x, (mem_canon _ _).1 hx, (mem_canon _ _).1 hn⟩
  · rintro ⟨x, hx, hn⟩; exact ⟨x, (mem_canon _ _).2 hx, (mem_canon _ _).2 hn⟩
theorem canon_nodup (c : List Int) : (canon c).Nodup := List.Pairwise.imp (fun {a b} (h : litLt a b) (e : a = b) => by subst e; exact litLt_irrefl a h) (rising_canon c)
theorem addC_stands {b : RB} {db : List (List Int)} (h : Stands b db) {c : List Int} (hm : mayB c = true) : Stands (addC b c) (db ++ [c]) := by
  have hb := (may_bd hm).2
  unfold addC
  by_cases hs : saysB (canon c) = true
  · rw [if_pos hs]
    rw [says_canon hb] at hs
    exact h.skip ((saysB_iff hb).1 hs) hb
  · rw [if_neg hs]
    exact h.add hb (canon_nodup c) (fun x => mem_canon x c)
def basedM (l : List (List Int)) : RB := l.foldl addC ⟨[], fun _ => [], [], false⟩
theorem basedM_snoc (l : List (List Int)) (c : List Int) : basedM (l ++ [c]) = addC (basedM l) c := by unfold basedM; rw [List.foldl_append]; rfl
theorem basedM_take {l : List (List Int)} (h : l.all mayB = true) : ∀ k, k ≤ l.length → Stands (basedM (l.take k)) (l.take k)
  | 0, _ => by rw [List.take_zero]; exact Stands.empty
  | k + 1, hk => by
    rw [List.take_succ_eq_append_getElem (by omega), basedM_snoc]
    exact addC_stands (basedM_take h k (by omega)) (List.all_eq_true.1 h _ (List.getElem_mem _))
theorem basedM_stands {l : List (List Int)} (h : l.all mayB = true) : Stands (basedM l) l := by
  have := basedM_take h l.length (Nat.le_refl _)
  rwa [List.take_length] at this

theorem add_base (p : Nat) (b : RB) (F : Nat → Prop) (A0 : Option Addr) (c0 : Nat) (l : List Int) (w : World) (h : BaseAt w p b F) (hr0 : Kd.C (Kd.int .i64) w A0 l.length l) (hm : mayB l = true) (hinv : Inv b.all b.by_) (hall : b.all.length < 1000000) (hun : b.units.length < 1000000) :
    Calls Try.prog 32 #[.pointer (some ⟨p, 0, none⟩), .slice A0 l.length c0] w fun e w' => e = .returned (.tuple #[]) ∧ ∃ F', BaseAt w' p (addC b l) F' ∧ Keep F w w' ∧ (∀ j, F' j → F j ∨ w.heap.size ≤ j) := by
  obtain ⟨M, vA, vU, hs, g, h1, h2⟩ := h
  refine (add_calls p M vA vU hs g 2097153 b F A0 c0 l w h1 hr0 hm (by simp [maxLen]) (fun x => by have := hinv.short x; omega) hall hun).mono ?_
  rintro e w' ⟨he, vA', vU', hs', g', k', F', k1, k2, k3, k4, k5⟩
  exact ⟨he, F', ⟨M, vA', vU', hs', g', k1.tight (k5 h2), k5 h2⟩, k2, k3⟩

theorem keep_below {F : Nat → Prop} {w w1 w2 : World} (hb : Below w.heap.size w w1) (hk : Keep F w1 w2) (hF : ∀ j, F j → w.heap.size ≤ j) : Below w.heap.size w w2 :=
  hb.trans (hk.below hF hb.size)

theorem base_made (w : World) : BaseAt ((w.alloc (.map #[] 0)).alloc (.cells #[.slice none 0 0, .map (some w.heap.size), .slice none 0 0, .bool false] 64)) (w.heap.size + 1) ⟨[], fun _ => [], [], false⟩ (fun j => j = w.heap.size ∨ j = w.heap.size + 1) := by
  have hsz : (w.alloc (.map #[] 0)).heap.size = w.heap.size + 1 := by simp
  refine ⟨w.heap.size, .slice none 0 0, .slice none 0 0, [], fun _ => none, ?_, fun kl h => absurd rfl h⟩
  constructor
  · rw [← hsz]; exact heap_alloc_new _ _
  · exact Row.nil _ _
  · rfl
  · intro i hi; cases hi
  · refine (VMap.more (VMap.move (VMap.made w) ?_) (by omega))
    exact old_alloc _ (by simp)
  · exact fun x => Row.nil _ _
  · exact Row.nil _ _
  · exact .inr rfl
  · exact .inl rfl
  · intro j hj; cases hj
  · intro j hj; cases hj
  · intro i hi; cases hi
  · intro x j hj; cases hj
  · intro i j hi; cases hi
  · intro i hi; cases hi
  · intro x y _ j hj; cases hj
  · rintro j (rfl | rfl)
    · simp; omega
    · simp

set_option maxRecDepth 100000 in
set_option maxHeartbeats 3200000 in
theorem based_calls (A0 : Option Addr) (c0 : Nat) (l0 : List (List Int)) (w : World) (h : CC w A0 l0) (hm : l0.all mayB = true) (hl : l0.length < 10000) :
    Calls Try.prog 30 #[.slice A0 l0.length c0] w fun e w' => e = .returned (.pointer (some ⟨w.heap.size + 1, 0, none⟩)) ∧ ∃ F, BaseAt w' (w.heap.size + 1) (basedM l0) F ∧ (∀ j, F j → w.heap.size ≤ j) ∧ Below w.heap.size w w' := by
  have hmm := @run_makeMap Try.prog
  have start := base_made w
  have hb0 : Below w.heap.size w ((w.alloc (.map #[] 0)).alloc (.cells #[.slice none 0 0, .map (some w.heap.size), .slice none 0 0, .bool false] 64)) := ((Below.refl _ _).alloc (Nat.le_refl _) _).alloc (by simp) _
  have ST := hid (And.intro start hb0)
  have HM := hid hm
  have HC := hid h
  obtain ⟨nl, hnl⟩ : ∃ n, n = l0.length := ⟨_, rfl⟩
  rw [← hnl]
  have HNL := hid hnl
  have hl' : nl < 10000 := by omega
  clear h hm start hb0 hl hnl
  go_enter Try.func30, Try.ntmps30
  go_wp2_with fail
  go_loopg [11] nl (fun left v11 wr => ∃ k F, k + left = nl ∧ v11 = .int .i64 k ∧ Hid (BaseAt wr (w.heap.size + 1) (basedM (l0.take k)) F ∧ (∀ j, F j → w.heap.size ≤ j) ∧ Below w.heap.size w wr))
  case atStart => exact ⟨0, _, by omega, rfl, hid ⟨by rw [List.take_zero]; exact ST.out.1, (by rintro j (rfl | rfl) <;> omega), ST.out.2⟩⟩
  case round =>
    obtain ⟨k, F, hk, rfl, R⟩ := hrel
    cases gk with
    | zero =>
      have hkn : ¬ ((k : Int) < (nl : Int)) := by omega
      have e : l0.take k = l0 := List.take_of_length_le (by have := HNL.out; omega)
      rw [e] at R
      clear e
      go_wp2_with fail
      go_ret
      exact ⟨rfl, F, R.out⟩
    | succ left =>
      have hkn : (k : Int) < (nl : Int) := by omega
      have hk0 : k < l0.length := by have := HNL.out; omega
      obtain ⟨b, off, rfl, hbs, hc⟩ := clauses_of_C HC.out (by omega)
      obtain ⟨A', c', hcell, hC⟩ := hc k hk0
      obtain ⟨cl, hcl⟩ : ∃ cl, cl = l0.getD k [] := ⟨_, rfl⟩
      rw [← hcl] at hcell hC
      have hcr : wr.cell? ⟨b, off + k, none⟩ = some (.slice A' cl.length c') := (R.out.2.2.cell (p := ⟨b, off + k, none⟩) hbs).trans hcell
      have hst := basedM_take HM.out k (by omega)
      have hmay : mayB cl = true := by
        rw [hcl, List.getD_eq_getElem?_getD, List.getElem?_eq_getElem hk0]
        exact List.all_eq_true.1 HM.out _ (List.getElem_mem _)
      have hA := hst.sizeA
      have hU := hst.sizeU
      rw [List.length_take] at hA hU
      have HADD := hid (add_base (w.heap.size + 1) _ F A' c' cl wr R.out.1 (Kd.C_below hC R.out.2.2) hmay hst.inv (by omega) (by omega))
      have HT := hid (show basedM (l0.take (k + 1)) = addC (basedM (l0.take k)) cl by
        rw [List.take_succ_eq_append_getElem hk0, basedM_snoc, hcl, List.getD_eq_getElem?_getD, List.getElem?_eq_getElem hk0]; rfl)
      clear hc hcell hC hcl hst hmay hA hU
      go_wp2_with fail
      refine HADD.out.mono ?_
      rintro e w' ⟨rfl, F', hb', hk', hmo⟩
      have R2 := hid (show BaseAt w' (w.heap.size + 1) (basedM (l0.take (k + 1))) F' ∧ (∀ j, F' j → w.heap.size ≤ j) ∧ Below w.heap.size w w' from ⟨by rw [HT.out]; exact hb', fun j hj => by
        rcases hmo j hj with h | h
        · exact R.out.2.1 j h
        · have := R.out.2.2.size; omega, keep_below R.out.2.2 hk' R.out.2.1⟩)
      clear hb' hk' hmo
      go_wp2_with fail
      go_roundg left
      case measure => omega
      case rel => exact ⟨k + 1, F', by omega, by go_num, R2⟩

def negs (c : List Int) : List Int := c.map fun x => -x
/-- Whether a clause follows, told by the run's answer. -/
def followsM (b : RB) (c : List Int) (r : Option (List Int) × RB) : Bool := !(outR b r).1.isSome || saysB c

set_option maxRecDepth 100000 in
set_option maxHeartbeats 3200000 in
theorem follows_calls (p : Nat) (b : RB) (F : Nat → Prop) (A1 : Option Addr) (c1 : Nat) (c : List Int) (w : World) (h : BaseAt w p b F) (hinv : Inv b.all b.by_) (hub : ∀ x ∈ b.units, Bd x) (hm : mayB c = true) (w0 : World) (hr0 : Kd.C (Kd.int .i64) w0 A1 c.length c) (hb0 : Below w0.heap.size w0 w) (hF0 : ∀ j, F j → w0.heap.size ≤ j)
    (hall : b.all.length < 10000) (hul : b.units.length < 10000) (m : Nat) (r : Option (List Int) × RB) (hrun : runM m b [] (b.units ++ negs c) = some r) :
    Calls Try.prog 31 #[.pointer (some ⟨p, 0, none⟩), .slice A1 c.length c1] w fun e w' => e = .returned (.bool (followsM b c r)) ∧ ∃ F', BaseAt w' p (outR b r).2 F' ∧ Keep F w w' ∧ (∀ j, F' j → F j ∨ w.heap.size ≤ j) := by
  have hbd := may_bd hm
  have hr1 := Kd.C_below hr0 hb0
  have hsay : ∀ W, Keep F w W → Calls Try.prog 45 #[.slice A1 c.length c1] W fun e w' => e = .returned (.bool (saysB c)) ∧ Below W.heap.size W w' := fun W hW =>
    SaysNothing_calls A1 c1 c W (Kd.C_below hr0 (hb0.trans (hW.below hF0 hb0.size))) (by have := hbd.1; omega) (fun x hx => WalkArith.wf_i64 (by have := hbd.2 x hx; omega))
  have HB := hid h
  have HI := hid hinv
  have HU := hid hub
  have HX := hid (And.intro hall hul)
  have HR := hid hrun
  have HC := hid hr1
  have HBD := hid hbd
  have hold : ∀ j, F j → j < w.heap.size := h.old
  have HOLD := hid hold
  obtain ⟨nl, hnl⟩ : ∃ n, n = c.length := ⟨_, rfl⟩
  rw [← hnl] at hsay ⊢
  have HNL := hid hnl
  have HSAY := hid hsay
  have hl' : nl < 10000 := by omega
  clear h hm hinv hub hr1 hr0 hb0 hF0 hsay hall hul hrun hbd hold hnl
  go_enter Try.func31, Try.ntmps31
  go_wp2_with fail
  go_loopg [5, 12] nl (fun left v5 v12 wr => ∃ k, k + left = nl ∧ v12 = .int .i64 k ∧ Hid (Row wr 46 v5 (lits (negs (c.take k))) ∧ (∀ j, v5.ownBlock = some j → w.heap.size ≤ j) ∧ Below w.heap.size w wr))
  case atStart => exact ⟨0, by omega, rfl, hid ⟨by rw [List.take_zero]; exact Row.nil _ _, (fun j hj => by cases hj), Below.refl _ _⟩⟩
  case round =>
    obtain ⟨k, hk, rfl, R⟩ := hrel
    cases gk with
    | zero =>
      have hkn : ¬ ((k : Int) < (nl : Int)) := by omega
      have e : c.take k = c := List.take_of_length_le (by have := HNL.out; omega)
      rw [e] at R
      obtain ⟨A5, c5, hv5, _, _, hC5⟩ := reads_of_row R.out.1
      subst hv5
      have hln : (negs c).length = nl := by unfold negs; rw [List.length_map]; exact HNL.out.symm
      have hk0 : Keep (fun _ => False) w wr := Keep.ofBelow R.out.2.2
      have HRUN := hid (run_calls p b F A5 c5 (negs c) wr (HB.out.keep hk0 (fun _ _ h => h)) HI.out HU.out (fun x hx => by
        obtain ⟨y, hy, rfl⟩ := List.mem_map.1 hx
        have := HBD.out.2 y hy
        exact ⟨by omega, by omega, by omega⟩) hC5 HX.out.1 HX.out.2 (by omega) m r HR.out)
      rw [hln] at HRUN R ⊢
      have HK0 := hid hk0
      clear e hC5 hln hk0
      go_wp2_with fail
      refine HRUN.out.mono ?_
      rintro e w2 ⟨vH, F', rfl, hb2, hk2, hm2, _⟩
      have HB2 := hid hb2
      have hK2 : Keep F w w2 := HK0.out.trans hk2 (fun _ h => h.elim) (fun j h => .inl h)
      have hM2 : ∀ j, F' j → F j ∨ w.heap.size ≤ j := fun j hj => by
        rcases hm2 j hj with h | h
        · exact .inl h
        · have := HK0.out.size; exact .inr (by omega)
      have HK2 := hid hK2
      have HM2 := hid hM2
      have hbel : Below w.heap.size wr w2 → True := fun _ => trivial
      clear hb2 hk2 hm2 hK2 hM2 hbel
      cases ho : (outR b r).1.isSome with
      | false =>
        have HF := hid (show followsM b c r = true by unfold followsM; rw [ho]; rfl)
        clear ho
        go_wp2_with fail
        go_ret
        exact ⟨by rw [HF.out]; rfl, F', HB2.out, HK2.out, HM2.out⟩
      | true =>
        have HF := hid (show followsM b c r = saysB c by unfold followsM; rw [ho]; rfl)
        clear ho
        go_wp2_with fail
        refine (HSAY.out w2 HK2.out).mono ?_
        rintro e w3 ⟨rfl, hb3⟩
        have hk3 : Keep (fun _ => False) w2 w3 := Keep.ofBelow hb3
        have HK3 := hid hk3
        clear hb3 hk3
        go_wp2_with fail
        go_ret
        exact ⟨by rw [HF.out]; rfl, F', HB2.out.keep HK3.out (fun _ _ h => h), HK2.out.trans HK3.out (fun _ h => h) (fun _ h => h.elim), HM2.out⟩
    | succ left =>
      have hkn : (k : Int) < (nl : Int) := by omega
      have hk0 : k < c.length := by have := HNL.out; omega
      obtain ⟨b', off, rfl, hc⟩ := cells_of_C HC.out (by omega)
      have hbs : b' < w.heap.size := World.block_lt_of_cell? w ⟨b', off + k, none⟩ (hc k hk0)
      obtain ⟨x, hx⟩ : ∃ x, x = c[k]! := ⟨_, rfl⟩
      have hcr : wr.cell? ⟨b', off + k, none⟩ = some (.int .i64 x) := (R.out.2.2.cell (p := ⟨b', off + k, none⟩) hbs).trans (by rw [hx]; exact hc k hk0)
      have hxb := HBD.out.2 c[k] (List.getElem_mem hk0)
      have hx' : x = c[k] := by rw [hx]; simp [hk0]
      have HT := hid (show negs (c.take (k + 1)) = negs (c.take k) ++ [wrap64 (-x)] by
        rw [wrap64_lit (by rw [hx']; exact hxb), List.take_succ_eq_append_getElem hk0, hx']
        unfold negs
        rw [List.map_append]; rfl)
      clear hc hx hx' hxb
      go_wp2_with (at_builtin; refine wp_app_lit _ rfl _ _ rfl _ _ (lits (negs (c.take k))) [.int .i64 (wrap64 (-x))] (by rfl) (by rfl) (R.out.1.alloc _) (Row.one _ _ _) (by simp [Value.oneCell']) (by simp [negs]; omega) ?_; intro v' w3 hr hk2 hat; have HR2 := hid hr; have HK2 := hid hk2; have HA := hid hat; clear hr hk2 hat)
      have R2 := hid (show Row w3 46 v' (lits (negs (c.take (k + 1)))) ∧ (∀ j, v'.ownBlock = some j → w.heap.size ≤ j) ∧ Below w.heap.size w w3 from ⟨by rw [HT.out]; have h := HR2.out; simpa [lits] using h, fun j hj => by
        rcases HA.out with e | e
        · exact R.out.2.1 j (by rw [← e]; exact hj)
        · rw [hj] at e
          injection e with e
          have := R.out.2.2.size
          simp at e
          omega, keep_below (R.out.2.2.alloc R.out.2.2.size _) HK2.out R.out.2.1⟩)
      go_roundg left
      case measure => omega
      case rel => exact ⟨k + 1, by omega, by go_num, R2⟩
end Go.Proofs.Ytjlkjgoncfdaeaa.RM

namespace Go.Proofs.Ytjlkjgoncfdaeaa.RM
open Go.RowKit Go.Proofs.YtjlkjgoncfdaeaaW.PrintWords Go.Proofs.YtjlkjgoncfdaeaaW.PrintLast Go.Proofs.YtjlkjgoncfdaeaaW.PrintMore Go.Lib Go.Sort Go.Shelf Go.Maps Go.Proofs.Ytjlkjgoncfdaeaa.LF Go.Proofs.Ytjlkjgoncfdaeaa.IM Go.Proofs.Ytjlkjgoncfdaeaa.MC Go.Proofs.Ytjlkjgoncfdaeaa.MM Go.Proofs.Ytjlkjgoncfdaeaa.VM
set_option linter.unusedSimpArgs false
set_option linter.unusedVariables false

abbrev In (H : List Int) := {x : Int // x ∈ H}
def atomCf (H : List Int) (x y : In H) : Int := litAtom x.1 - litAtom y.1
theorem atomCf_lt (H : List Int) (x y : In H) : ltOf (atomCf H) x y = decide (litAtom x.1 < litAtom y.1) := by
  unfold ltOf atomCf
  exact decide_eq_decide.2 (by omega)
theorem atomCf_swo (H : List Int) : SWO (ltOf (atomCf H)) where
  irrefl x := by rw [atomCf_lt]; exact decide_eq_false (by omega)
  trans x y z h k := by rw [atomCf_lt] at *; exact decide_eq_true (by have := of_decide_eq_true h; have := of_decide_eq_true k; omega)
  ntrans x y z h k := by rw [atomCf_lt] at *; exact decide_eq_false (by have := of_decide_eq_false h; have := of_decide_eq_false k; omega)
theorem atom_inj {H : List Int} (hs : Sane H) {x y : Int} (hx : x ∈ H) (hy : y ∈ H) (h : litAtom x = litAtom y) : x = y := by
  by_cases e : x = y
  · exact e
  · have : y = -x := by unfold litAtom at h; split at h <;> split at h <;> omega
    exact absurd (this ▸ hy) (hs x hx)
theorem atomCf_parts {H : List Int} (hs : Sane H) (x y : In H) (h : ltOf (atomCf H) x y = false) (k : ltOf (atomCf H) y x = false) : x = y := by
  rw [atomCf_lt] at *
  exact Subtype.ext (atom_inj hs x.2 y.2 (by have := of_decide_eq_false h; have := of_decide_eq_false k; omega))

set_option maxHeartbeats 400000 in
theorem atoms_calls (x y : Int) (w : World) (hx : Bd x) (hy : Bd y) :
    Calls Try.prog 35 #[.int .i64 x, .int .i64 y] w fun e w' => e = .returned (.int .i64 (litAtom x - litAtom y)) ∧ w' = w := by
  have hrx : max x (-x) = litAtom x := by unfold litAtom; split <;> omega
  have hry : max y (-y) = litAtom y := by unfold litAtom; split <;> omega
  have HR := Lib.hid (show max x (-x) - max y (-y) = litAtom x - litAtom y by rw [hrx, hry])
  have hnx : wrap64 (-x) = -x := wrap64_lit hx
  have hny : wrap64 (-y) = -y := wrap64_lit hy
  have hsub : wrap64 (max x (-x) - max y (-y)) = max x (-x) - max y (-y) := by
    rw [hrx, hry]
    have := litAtom_bd hx.2.1 hx.2.2
    have := litAtom_bd hy.2.1 hy.2.2
    unfold wrap64
    omega
  clear hrx hry hx hy
  go_enter Try.func35, Try.ntmps35
  go_wp2
  go_ret
  refine ⟨?_, rfl⟩
  rw [← HR.out]
  exact congrArg (fun z => Ending.returned (.int .i64 z)) hsub

def encIn (H : List Int) (x : In H) : Value := .int .i64 x.1
theorem atoms_lays (H : List Int) [Inhabited (In H)] (hb : ∀ x ∈ H, Bd x) (blk off size : Nat) (w : World) : CmpLays1 Try.prog 35 #[] (encIn H) (atomCf H) blk off size w :=
  CmpReads.lays fun m os dk _ x y => (atoms_calls x.1 y.1 _ (hb x.1 x.2) (hb y.1 y.2)).mono fun _ _ ⟨he, hw⟩ => ⟨he, 0, by rw [hw]; rfl⟩

/-- A list's members, as such. -/
def ins_ {H L : List Int} (h : ∀ x, x ∈ L ↔ x ∈ H) : List (In H) := L.attach.map fun x => ⟨x.1, (h x.1).1 x.2⟩
theorem ins_val {H L : List Int} (h : ∀ x, x ∈ L ↔ x ∈ H) : (ins_ h).map (·.1) = L := by
  unfold ins_
  rw [List.map_map]
  exact List.attach_map_subtype_val L
theorem ins_enc {H L : List Int} (h : ∀ x, x ∈ L ↔ x ∈ H) : (ins_ h).map (encIn H) = nums .i64 L := by
  have : nums .i64 L = nums .i64 ((ins_ h).map (·.1)) := by rw [ins_val]
  rw [this]
  unfold nums
  rw [List.map_map]
  rfl
theorem sorted_canon {H L : List Int} (hs : Sane H) (h : ∀ x, x ∈ L ↔ x ∈ H) (hn : L.Nodup) : ((ins_ h).mergeSort fun x y => !(ltOf (atomCf H)) y x).map (·.1) = canon H := by
  symm
  refine canon_eq ?_ fun x => ?_
  · have hp := List.pairwise_mergeSort (le := fun x y => !(ltOf (atomCf H)) y x) (fun a b c h k => by
      have h : ltOf (atomCf H) b a = false := by simpa using h
      have k : ltOf (atomCf H) c b = false := by simpa using k
      have := (atomCf_swo H).ntrans c b a k h
      simp [this]) (fun a b => by
        cases h : ltOf (atomCf H) b a with
        | false => simp
        | true =>
          have : ltOf (atomCf H) a b = false := by
            rw [atomCf_lt] at *
            exact decide_eq_false (by have := of_decide_eq_true h; omega)
          simp [this]) (ins_ h)
    have hnd : ((ins_ h).mergeSort fun x y => !(ltOf (atomCf H)) y x).Nodup := by
      refine (List.mergeSort_perm _ _).nodup_iff.2 ?_
      have : ((ins_ h).map (·.1)).Nodup := by rw [ins_val]; exact hn
      exact List.Pairwise.imp (fun {a b} h e => h (by rw [e])) (List.pairwise_map.1 this)
    refine List.pairwise_map.2 ?_
    refine (hp.and hnd).imp ?_
    rintro a b ⟨h1, h2⟩
    have h1 : ltOf (atomCf H) b a = false := by simpa using h1
    rw [atomCf_lt] at h1
    have h1 := of_decide_eq_false h1
    refine .inl ?_
    have : litAtom a.1 ≠ litAtom b.1 := fun e => h2 (Subtype.ext (atom_inj hs a.2 b.2 e))
    omega
  · rw [List.mem_map]
    constructor
    · rintro ⟨y, hy, rfl⟩; exact y.2
    · intro hx
      have hx' := (h x).2 hx
      rw [← ins_val h] at hx'
      obtain ⟨y, hy, e⟩ := List.mem_map.1 hx'
      exact ⟨y, List.mem_mergeSort.2 hy, e⟩

/-- Sorting a row of the call's own. -/
theorem sortA_own {base g cap : Nat} {w : World} (H L : List Int) (hs : Sane H) (hb : ∀ x ∈ H, Bd x) (h : ∀ x, x ∈ L ↔ x ∈ H) (hnd : L.Nodup) (x0 : Int) (h0 : x0 ∈ H) (hn : L.length < 17592186044416)
    (ho : w.ownsRow base 46 1 (.slice (some ⟨g, 0, none⟩) L.length cap) L.length (nums .i64 L)) :
    Calls Try.prog 34 #[.slice (some ⟨g, 0, none⟩) L.length cap, .func (.func 35) #[] #[]] w fun e w' =>
      e = .returned (.tuple #[]) ∧ Below base w w' ∧ w'.ownsRow base 46 1 (.slice (some ⟨g, 0, none⟩) L.length cap) L.length (nums .i64 (canon H)) := by
  haveI : Inhabited (In H) := ⟨⟨x0, h0⟩⟩
  have eg : ∀ args w, (callFunc 35 args).run Try.prog w = .ok (.enter 35 args) w := enters_of Try.func35 (by kernel_rfl) rfl
  rw [← ins_enc h] at ho
  obtain ⟨g', cap', e, hbg, hlt, hcap, hmax, hlen, hH⟩ := holds_of_ownsRow ho (by simp)
  cases e
  have hs' : (ins_ h).toArray.size = L.length := by simpa using hlen
  have := Any.slices_SortFunc_total (ρ := laySort_ren) laySort (encIn H) (fun _ => rfl) (atomCf H) (atomCf_swo H) 35 #[] g 0 cap (ins_ h).toArray w eg (atoms_lays H hb _ _ _ _) hH hlt (by rw [hs']; omega) (atomCf_parts hs)
  rw [hs'] at this
  refine this.mono fun e w' ⟨he, n, os, hw⟩ => ⟨he, ?_, ?_⟩
  · rw [hw]
    exact (below_putRow (Below.refl _ _) hbg).trans (below_grown_os _ _ os (by simp [putRow, mapBlock, Sort.ahead]; omega))
  · rw [hw]
    have h2 := ownsRow_putRow (q := n) (ys := (ins_ h).mergeSort fun x y => !(ltOf (atomCf H)) y x) ho (by simpa using hlen) (Nat.le_refl _)
    rw [List.take_of_length_le (by simp; omega)] at h2
    have e1 : ((ins_ h).mergeSort fun x y => !(ltOf (atomCf H)) y x).map (encIn H) = nums .i64 (canon H) := by
      rw [← sorted_canon hs h hnd]
      unfold nums
      rw [List.map_map]
      rfl
    rw [e1] at h2
    exact pw_own_below h2 (below_grown_os _ _ os (Nat.le_refl _))
end Go.Proofs.Ytjlkjgoncfdaeaa.RM

namespace Go.Proofs.Ytjlkjgoncfdaeaa.RM
open Go.RowKit Go.Proofs.YtjlkjgoncfdaeaaW.PrintWords Go.Proofs.YtjlkjgoncfdaeaaW.PrintLast Go.Proofs.YtjlkjgoncfdaeaaW.PrintMore Go.Lib Go.Sort Go.Shelf Go.Maps Go.Proofs.Ytjlkjgoncfdaeaa.LF Go.Proofs.Ytjlkjgoncfdaeaa.IM Go.Proofs.Ytjlkjgoncfdaeaa.MC Go.Proofs.Ytjlkjgoncfdaeaa.MM Go.Proofs.Ytjlkjgoncfdaeaa.VM
attribute [local go_sem ↓] Go.wp_at_zero Go.wp_at_succ
set_option linter.unusedSimpArgs false
set_option linter.unusedVariables false

/-- A run's answer. -/
def runC (b : RB) (given : List Int) : Option (List Int) × RB := (runM ((b.units ++ given ++ b.all.flatten).length * (b.all.length + 1) + (b.units ++ given).length + 1) b [] (b.units ++ given)).getD (none, b)
theorem runC_run {b : RB} (hi : Inv b.all b.by_) (given : List Int) : ∃ m, runM m b [] (b.units ++ given) = some (runC b given) := by
  obtain ⟨r, h⟩ := runM_within (b.units ++ given ++ b.all.flatten) b.all.length (b.units ++ given ++ b.all.flatten).length b [] hi (Nat.le_refl _) (fun x => hi.few x) (fun n hn x hx => by
    refine List.mem_append_right _ (List.mem_flatten.2 ⟨nth b.all n, ?_, hx⟩)
    unfold nth
    rw [List.getD_eq_getElem?_getD, List.getElem?_eq_getElem hn]
    exact List.getElem_mem hn) (List.length_filter_le _ _) (b.units ++ given) (fun x hx => List.mem_append_left _ hx)
  refine ⟨(b.units ++ given ++ b.all.flatten).length * (b.all.length + 1) + (b.units ++ given).length + 1, ?_⟩
  unfold runC
  rw [h]
  rfl

/-- As many clauses, and literals, as are looked at here. -/
def fitB (n m : Nat) : Bool := decide (n + m < 10000)
def followsR (l0 : List (List Int)) (l1 : List Int) : Option (Bool × Int) :=
  if fitB l0.length l1.length then some (if l0.all mayB && mayB l1 then (followsM (basedM l0) l1 (runC (basedM l0) (negs l1)), 0) else (false, 2)) else none

set_option maxRecDepth 100000 in
set_option maxHeartbeats 3200000 in
theorem Follows_calls (A0 : Option Addr) (c0 : Nat) (l0 : List (List Int)) (A1 : Option Addr) (c1 : Nat) (l1 : List Int) (r1 : Bool) (r2 : Int) (w : World) (hr0 : Kd.C (Kd.slice 46 (Kd.int .i64)) w A0 l0.length l0) (hr1 : Kd.C (Kd.int .i64) w A1 l1.length l1) (h : followsR l0 l1 = some (r1, r2)) :
    Calls Try.prog 16 #[.slice A0 l0.length c0, .slice A1 l1.length c1] w fun e w' => e = .returned (.tuple #[.bool r1, .int .i64 r2]) ∧ Below w.heap.size w w' := by
  unfold followsR at h
  split at h
  case isFalse => cases h
  rename_i hfit
  unfold fitB at hfit
  have hfit := of_decide_eq_true hfit
  have HRES := hid (Option.some.inj h)
  have HM0 := hid (may_calls A0 c0 l0 w (CCw.of hr0))
  have HC0 := hid hr0
  have HC1 := hid hr1
  obtain ⟨n0, hn0⟩ : ∃ n, n = l0.length := ⟨_, rfl⟩
  obtain ⟨n1, hn1⟩ : ∃ n, n = l1.length := ⟨_, rfl⟩
  rw [← hn0] at HM0 ⊢
  rw [← hn1]
  have HN0 := hid hn0
  have HN1 := hid hn1
  have hfit' : n0 + n1 < 10000 := by omega
  clear h hr0 hr1 hfit hn0 hn1
  cases hm0 : l0.all mayB with
  | false =>
    rw [hm0] at HM0 HRES
    simp only [Bool.false_and] at HRES
    have HRES := hid (show (r1, r2) = (false, 2) from HRES.out.symm)
    clear hm0
    go_enter Try.func16, Try.ntmps16
    go_wp2_with fail
    refine HM0.out.mono ?_
    rintro e w1 ⟨rfl, q, rfl⟩
    go_wp2_with fail
    go_ret2
    injection HRES.out with e1 e2
    subst e1 e2
    exact ⟨rfl, pw_below_drewN (Below.refl _ _) q⟩
  | true =>
    rw [hm0] at HM0 HRES
    simp only [Bool.true_and] at HRES
    have HM0B := hid hm0
    clear hm0
    go_enter Try.func16, Try.ntmps16
    go_wp2_with fail
    refine HM0.out.mono ?_
    rintro e w1 ⟨rfl, q, hw1⟩
    have hb1 : Below w.heap.size w w1 := by rw [hw1]; exact pw_below_drewN (Below.refl _ _) q
    have HM1 := hid (may_calls (some ⟨w1.heap.size, 0, none⟩) 1 [l1] (w1.alloc (.cells #[.slice A1 n1 c1] 31)) (by have := CCw.one c1 (Kd.C_below HC1.out hb1); rw [HN1.out]; exact this))
    have HB1 := hid hb1
    clear hb1 hw1
    go_wp2_with fail
    refine HM1.out.mono ?_
    rintro e w2 ⟨rfl, q2, hw2⟩
    have hb2 : Below w.heap.size w w2 := by rw [hw2]; exact pw_below_drewN (HB1.out.alloc HB1.out.size _) q2
    have HB2 := hid hb2
    clear hb2 hw2
    cases hm1 : mayB l1 with
    | false =>
      rw [hm1] at HRES
      have HRES := hid (show (r1, r2) = (false, 2) from HRES.out.symm)
      rw [show ([l1] : List (List Int)).all mayB = false from by simp [hm1]]
      clear hm1
      go_wp2_with fail
      go_ret2
      injection HRES.out with e1 e2
      subst e1 e2
      exact ⟨rfl, HB2.out⟩
    | true =>
      rw [hm1] at HRES
      have HRES := hid (show (r1, r2) = (followsM (basedM l0) l1 (runC (basedM l0) (negs l1)), 0) from HRES.out.symm)
      rw [show ([l1] : List (List Int)).all mayB = true from by simp [hm1]]
      have hst := basedM_stands HM0B.out
      obtain ⟨m, hrun⟩ := runC_run hst.inv (negs l1)
      have hA := hst.sizeA
      have hU := hst.sizeU
      have HBASE := hid (based_calls A0 c0 l0 w2 (Kd.C_below HC0.out HB2.out) HM0B.out (by have := HN0.out; omega))
      have HFOL := hid (fun (w3 : World) (F : Nat → Prop) (hb : BaseAt w3 (w2.heap.size + 1) (basedM l0) F) (hF : ∀ j, F j → w.heap.size ≤ j) (hbw : Below w.heap.size w w3) => follows_calls (w2.heap.size + 1) (basedM l0) F A1 c1 l1 w3 hb hst.inv (fun x hx => hst.ubd x hx) hm1 w HC1.out hbw hF (by have := HN0.out; omega) (by have := HN0.out; omega) m _ hrun)
      rw [← HN0.out] at HBASE
      rw [← HN1.out] at HFOL
      clear hm1 hst hrun hA hU
      go_wp2_with fail
      refine HBASE.out.mono ?_
      rintro e w3 ⟨rfl, F, hb3, hF3, hbw3⟩
      have hF : ∀ j, F j → w.heap.size ≤ j := fun j hj => Nat.le_trans HB2.out.size (hF3 j hj)
      have hbw : Below w.heap.size w w3 := HB2.out.trans (hbw3.mono HB2.out.size)
      have HF4 := hid (HFOL.out w3 F hb3 hF hbw)
      have HF := hid hF
      have HBW := hid hbw
      clear hb3 hF3 hbw3 hF hbw
      go_wp2_with fail
      refine HF4.out.mono ?_
      rintro e w4 ⟨rfl, F', hb4, hk4, hm4⟩
      have HK4 := hid hk4
      clear hb4 hk4 hm4
      go_wp2_with fail
      go_ret2
      injection HRES.out with e1 e2
      subst e1 e2
      exact ⟨rfl, keep_below HBW.out HK4.out HF.out⟩

theorem drv_bd {db : List (List Int)} {given : List Int} (h : ∀ c ∈ db, ∀ x ∈ c, Bd x) (hg : ∀ x ∈ given, Bd x) {x : Int} (hx : Drv db given x) : Bd x := by
  cases hx with
  | given hx => exact hg x hx
  | unit hc hx _ => exact h _ hc x hx
/-- What a run over a base that stands for clauses tells of these. -/
theorem out_ans {b : RB} {db : List (List Int)} (h : Stands b db) {given : List Int} (hg : ∀ x ∈ given, Bd x) {m : Nat} {r : Option (List Int) × RB} (hrun : runM m b [] (b.units ++ given) = some r) :
    Stands (outR b r).2 db ∧ Ans db given (outR b r).1 ∧ ∀ l, (outR b r).1 = some l → l.Nodup ∧ Sane l ∧ ∀ x ∈ l, Bd x := by
  unfold outR
  by_cases he : b.empty = true
  · rw [if_pos he]
    exact ⟨h, h.conf he given, fun l hl => by cases hl⟩
  · rw [if_neg he]
    obtain ⟨r1, b'⟩ := r
    obtain ⟨k1, k2, k3, k4⟩ := run_ans h.inv (by simpa using he) (fun h0 => (h.ubd 0 h0).1 rfl) (fun h0 => (hg 0 h0).1 rfl) hrun
    refine ⟨h.kin k1 k2, h.ans k3, fun l hl => ?_⟩
    have hl : r1 = some l := hl
    subst hl
    have ha := h.ans k3
    refine ⟨k4 l rfl, fun x hx hn => ha.1 (.inr ⟨x, (ha.2 x).1 hx, (ha.2 _).1 hn⟩), fun x hx => drv_bd h.dbd hg ((ha.2 x).1 hx)⟩
theorem negs_bd {c : List Int} (h : ∀ x ∈ c, Bd x) : ∀ x ∈ negs c, Bd x := by
  intro x hx
  obtain ⟨y, hy, rfl⟩ := List.mem_map.1 hx
  have := h y hy
  exact ⟨by omega, by omega, by omega⟩

/-- How far a row follows, and whether it refutes. -/
def rowL (b : RB) : List (List Int) → Nat → Bool → Int × Bool
  | [], i, ref => (i, ref)
  | c :: r, i, ref => if followsM b c (runC b (negs c)) = true then rowL (addC (outR b (runC b (negs c))).2 c) r (i + 1) (ref || decide ((c.length : Int) = 0)) else (i, false)
def rowR (l0 l1 : List (List Int)) : Option (Int × Bool × Int) :=
  if fitB l0.length l1.length then some (if l0.all mayB && l1.all mayB then ((rowL (basedM l0) l1 0 false).1, (rowL (basedM l0) l1 0 false).2, 0) else (0, false, 2)) else none

set_option maxRecDepth 100000 in
set_option maxHeartbeats 3200000 in
theorem Row_calls (A0 : Option Addr) (c0 : Nat) (l0 : List (List Int)) (A1 : Option Addr) (c1 : Nat) (l1 : List (List Int)) (r1 : Int) (r2 : Bool) (r3 : Int) (w : World) (hr0 : Kd.C (Kd.slice 46 (Kd.int .i64)) w A0 l0.length l0) (hr1 : Kd.C (Kd.slice 46 (Kd.int .i64)) w A1 l1.length l1) (h : rowR l0 l1 = some (r1, r2, r3)) :
    Calls Try.prog 14 #[.slice A0 l0.length c0, .slice A1 l1.length c1] w fun e w' => e = .returned (.tuple #[.int .i64 r1, .bool r2, .int .i64 r3]) ∧ Below w.heap.size w w' := by
  unfold rowR at h
  split at h
  case isFalse => cases h
  rename_i hfit
  unfold fitB at hfit
  have hfit := of_decide_eq_true hfit
  have HRES := hid (Option.some.inj h)
  have HM0 := hid (may_calls A0 c0 l0 w (CCw.of hr0))
  have HC0 := hid hr0
  have HC1 := hid hr1
  obtain ⟨n0, hn0⟩ : ∃ n, n = l0.length := ⟨_, rfl⟩
  obtain ⟨n1, hn1⟩ : ∃ n, n = l1.length := ⟨_, rfl⟩
  rw [← hn0] at HM0 ⊢
  rw [← hn1]
  have HN0 := hid hn0
  have HN1 := hid hn1
  have hfit' : n0 + n1 < 10000 := by omega
  clear h hr0 hr1 hfit hn0 hn1
  cases hm0 : l0.all mayB with
  | false =>
    rw [hm0] at HM0 HRES
    simp only [Bool.false_and] at HRES
    have HRES := hid (show (r1, r2, r3) = (0, false, 2) from HRES.out.symm)
    clear hm0
    go_enter Try.func14, Try.ntmps14
    go_wp2_with fail
    refine HM0.out.mono ?_
    rintro e w1 ⟨rfl, q, rfl⟩
    go_wp2_with fail
    refine bodyPost_ret (results_tmp3 rfl _ _ _) rfl ?_
    injection HRES.out with e1 e2
    injection e2 with e2 e3
    subst e1 e2 e3
    exact ⟨rfl, pw_below_drewN (Below.refl _ _) q⟩
  | true =>
    rw [hm0] at HM0 HRES
    simp only [Bool.true_and] at HRES
    have HM0B := hid hm0
    clear hm0
    go_enter Try.func14, Try.ntmps14
    go_wp2_with fail
    refine HM0.out.mono ?_
    rintro e w1 ⟨rfl, q, hw1⟩
    have hb1 : Below w.heap.size w w1 := by rw [hw1]; exact pw_below_drewN (Below.refl _ _) q
    have HM1 := hid (may_calls A1 c1 l1 w1 (CCw.of (Kd.C_below HC1.out hb1)))
    rw [← HN1.out] at HM1
    have HB1 := hid hb1
    clear hb1 hw1
    go_wp2_with fail
    refine HM1.out.mono ?_
    rintro e w2 ⟨rfl, q2, hw2⟩
    have hb2 : Below w.heap.size w w2 := by rw [hw2]; exact pw_below_drewN HB1.out q2
    have HB2 := hid hb2
    clear hb2 hw2
    cases hm1 : l1.all mayB with
    | false =>
      rw [hm1] at HRES
      have HRES := hid (show (r1, r2, r3) = (0, false, 2) from HRES.out.symm)
      clear hm1
      go_wp2_with fail
      refine bodyPost_ret (results_tmp3 rfl _ _ _) rfl ?_
      injection HRES.out with e1 e2
      injection e2 with e2 e3
      subst e1 e2 e3
      exact ⟨rfl, HB2.out⟩
    | true =>
      rw [hm1] at HRES
      have HRES := hid (show (r1, r2, r3) = ((rowL (basedM l0) l1 0 false).1, (rowL (basedM l0) l1 0 false).2, 0) from HRES.out.symm)
      have HM1B := hid hm1
      have HBASE := hid (based_calls A0 c0 l0 w2 (Kd.C_below HC0.out HB2.out) HM0B.out (by have := HN0.out; omega))
      rw [← HN0.out] at HBASE
      clear hm1
      go_wp2_with fail
      refine HBASE.out.mono ?_
      rintro e w3 ⟨rfl, F, hb3, hF3, hbw3⟩
      have hF : ∀ j, F j → w.heap.size ≤ j := fun j hj => Nat.le_trans HB2.out.size (hF3 j hj)
      have hbw : Below w.heap.size w w3 := HB2.out.trans (hbw3.mono HB2.out.size)
      obtain ⟨p, hp⟩ : ∃ p, p = w2.heap.size + 1 := ⟨_, rfl⟩
      rw [← hp] at hb3 ⊢
      have ST := hid (show BaseAt w3 p (basedM l0) F ∧ Stands (basedM l0) (l0 ++ l1.take 0) ∧ rowL (basedM l0) (l1.drop 0) 0 false = rowL (basedM l0) l1 0 false ∧ (∀ j, F j → w.heap.size ≤ j) ∧ Below w.heap.size w w3 from
        ⟨hb3, by rw [List.take_zero, List.append_nil]; exact basedM_stands HM0B.out, by rw [List.drop_zero], hF, hbw⟩)
      clear hb3 hF3 hbw3 hF hbw hp
      go_wp2_with fail
      go_loopg [8, 23] n1 (fun left v8 v23 wr => ∃ k b ref F, k + left = n1 ∧ v23 = .int .i64 k ∧ v8 = .bool ref ∧ Hid (BaseAt wr p b F ∧ Stands b (l0 ++ l1.take k) ∧ rowL b (l1.drop k) k ref = rowL (basedM l0) l1 0 false ∧ (∀ j, F j → w.heap.size ≤ j) ∧ Below w.heap.size w wr))
      case atStart => exact ⟨0, _, false, F, by omega, rfl, rfl, ST⟩
      case round =>
        obtain ⟨k, b, ref, F1, hk, rfl, rfl, R⟩ := hrel
        cases gk with
        | zero =>
          have hkn : ¬ ((k : Int) < (n1 : Int)) := by omega
          have hlast := R.out.2.2.1
          rw [List.drop_eq_nil_of_le (by have := HN1.out; omega), rowL] at hlast
          have HLAST := hid hlast
          clear hlast
          go_wp2_with fail
          refine bodyPost_ret (results_tmp3 rfl _ _ _) rfl ?_
          have hres := HRES.out
          rw [← HLAST.out] at hres
          injection hres with e1 e2
          injection e2 with e2 e3
          subst e1 e2 e3
          have : k = n1 := by omega
          subst this
          exact ⟨rfl, R.out.2.2.2.2⟩
        | succ left =>
          have hkn : (k : Int) < (n1 : Int) := by omega
          have hk0 : k < l1.length := by have := HN1.out; omega
          obtain ⟨blk, off, rfl, hbs, hc⟩ := clauses_of_C HC1.out (by omega)
          obtain ⟨A', c', hcell, hC⟩ := hc k hk0
          obtain ⟨cl, hcl⟩ : ∃ cl, cl = l1.getD k [] := ⟨_, rfl⟩
          rw [← hcl] at hcell hC
          have hcr : wr.cell? ⟨blk, off + k, none⟩ = some (.slice A' cl.length c') := (R.out.2.2.2.2.cell (p := ⟨blk, off + k, none⟩) hbs).trans hcell
          have hcl' : cl = l1[k] := by rw [hcl, List.getD_eq_getElem?_getD, List.getElem?_eq_getElem hk0]; rfl
          have hmay : mayB cl = true := by rw [hcl']; exact List.all_eq_true.1 HM1B.out _ (List.getElem_mem _)
          have hst := R.out.2.1
          have hA := hst.sizeA
          have hU := hst.sizeU
          rw [List.length_append, List.length_take] at hA hU
          obtain ⟨m, hrun⟩ := runC_run hst.inv (negs cl)
          have hout := out_ans hst (negs_bd (may_bd hmay).2) hrun
          have HFOL := hid (follows_calls p b F1 A' c' cl wr R.out.1 hst.inv hst.ubd hmay w hC R.out.2.2.2.2 R.out.2.2.2.1 (by have := HN0.out; have := HN1.out; omega) (by have := HN0.out; have := HN1.out; omega) m _ hrun)
          have HOUT := hid hout.1
          have HST2 := hid (show Stands (addC (outR b (runC b (negs cl))).2 cl) (l0 ++ l1.take (k + 1)) by
            rw [List.take_succ_eq_append_getElem hk0, ← List.append_assoc, ← hcl']
            exact addC_stands hout.1 hmay)
          have HDR := hid (show l1.drop k = cl :: l1.drop (k + 1) by rw [hcl']; exact List.drop_eq_getElem_cons hk0)
          have HMAY := hid hmay
          have HCL := hid hC
          obtain ⟨nc, hnc⟩ : ∃ n, n = cl.length := ⟨_, rfl⟩
          rw [← hnc] at hcr HFOL
          have HNC := hid hnc
          clear hc hcell hC hcl hcl' hmay hst hA hU hrun hout hnc
          go_wp2_with fail
          refine HFOL.out.mono ?_
          rintro e w4 ⟨rfl, F', hb4, hk4, hm4⟩
          have hF4 : ∀ j, F' j → w.heap.size ≤ j := fun j hj => by
            rcases hm4 j hj with h | h
            · exact R.out.2.2.2.1 j h
            · have := R.out.2.2.2.2.size; omega
          have hbw4 : Below w.heap.size w w4 := keep_below R.out.2.2.2.2 hk4 R.out.2.2.2.1
          have HB4 := hid hb4
          have HF4 := hid hF4
          have HW4 := hid hbw4
          clear hb4 hk4 hm4 hF4 hbw4
          cases hfo : followsM b cl (runC b (negs cl)) with
          | false =>
            have hlast := R.out.2.2.1
            rw [HDR.out, rowL, if_neg (by rw [hfo]; simp)] at hlast
            have HLAST := hid hlast
            clear hlast hfo
            go_wp2_with fail
            refine bodyPost_ret (results_tmp3 rfl _ _ _) rfl ?_
            have hres := HRES.out
            rw [← HLAST.out] at hres
            injection hres with e1 e2
            injection e2 with e2 e3
            subst e1 e2 e3
            exact ⟨rfl, HW4.out⟩
          | true =>
            have hlast := R.out.2.2.1
            rw [HDR.out, rowL, if_pos hfo] at hlast
            have HLAST := hid hlast
            have HADD := hid (add_base p _ F' A' c' cl w4 HB4.out (Kd.C_below HCL.out HW4.out) HMAY.out HOUT.out.inv (by have h1 := HOUT.out.sizeA; rw [List.length_append, List.length_take] at h1; have := HN0.out; have := HN1.out; omega) (by have h1 := HOUT.out.sizeU; rw [List.length_append, List.length_take] at h1; have := HN0.out; have := HN1.out; omega))
            rw [← HNC.out] at HADD
            clear hlast hfo
            go_wp2_with fail
            refine HADD.out.mono ?_
            rintro e w5 ⟨rfl, F5, hb5, hk5, hm5⟩
            have hF5 : ∀ j, F5 j → w.heap.size ≤ j := fun j hj => by
              rcases hm5 j hj with h | h
              · exact HF4.out j h
              · have := HW4.out.size; omega
            have R2 := fun ref' (e : ref' = (ref || decide ((nc : Int) = 0))) => hid (show BaseAt w5 p (addC (outR b (runC b (negs cl))).2 cl) F5 ∧ Stands (addC (outR b (runC b (negs cl))).2 cl) (l0 ++ l1.take (k + 1)) ∧ rowL (addC (outR b (runC b (negs cl))).2 cl) (l1.drop (k + 1)) (k + 1) ref' = rowL (basedM l0) l1 0 false ∧ (∀ j, F5 j → w.heap.size ≤ j) ∧ Below w.heap.size w w5 from
              ⟨hb5, HST2.out, by rw [e, HNC.out]; exact HLAST.out, hF5, keep_below HW4.out hk5 HF4.out⟩)
            have R2 := hid R2
            clear hb5 hk5 hm5 hF5
            cases ref with
            | true =>
              go_wp2_with fail
              go_roundg left
              case measure => omega
              case rel => exact ⟨k + 1, _, true, F5, by omega, by go_num, rfl, R2.out true (by simp)⟩
            | false =>
              go_wp2_with fail
              go_roundg left
              case measure => omega
              case rel => exact ⟨k + 1, _, decide ((nc : Int) = 0), F5, by omega, by go_num, by first | rfl | simp, R2.out _ (by simp)⟩
end Go.Proofs.Ytjlkjgoncfdaeaa.RM

namespace Go.Proofs.Ytjlkjgoncfdaeaa.RM
open Go.RowKit Go.Proofs.YtjlkjgoncfdaeaaW.PrintWords Go.Proofs.YtjlkjgoncfdaeaaW.PrintLast Go.Proofs.YtjlkjgoncfdaeaaW.PrintMore Go.Lib Go.Sort Go.Shelf Go.Maps Go.Proofs.Ytjlkjgoncfdaeaa.LF Go.Proofs.Ytjlkjgoncfdaeaa.IM Go.Proofs.Ytjlkjgoncfdaeaa.MC Go.Proofs.Ytjlkjgoncfdaeaa.MM Go.Proofs.Ytjlkjgoncfdaeaa.VM
attribute [local go_sem ↓] Go.wp_at_zero Go.wp_at_succ
set_option linter.unusedSimpArgs false
set_option linter.unusedVariables false

/-- What has come of the range over what holds. -/
structure Got (B : Nat) (wr w : World) (mh r : Nat) (D : DataW Value) (H L : List Int) (left : Lit → Bool) (cnt : Nat) (v9 : Value) : Prop where
  rg : wr.ranges Try.prog 46 raw mh r 2097153 D left cnt
  own : wr.ownsRow B 46 1 v9 L.length (nums .i64 L)
  nil : L = [] → v9 = .slice none 0 0
  nd : L.Nodup
  sub : ∀ x ∈ L, x ∈ H ∧ left (.int .i64 x) = false
  all : ∀ x ∈ H, x ∈ L ∨ left (.int .i64 x) = true
  new : B ≤ mh ∧ B ≤ r
  low : Below B w wr
  base : B ≤ wr.heap.size
theorem Got.notMap {B : Nat} {wr w : World} {mh r : Nat} {D : DataW Value} {H L : List Int} {left : Lit → Bool} {cnt : Nat} {v9 : Value} (h : Got B wr w mh r D H L left cnt v9) : some mh ≠ v9.ownBlock ∧ some r ≠ v9.ownBlock := by
  obtain ⟨es, clock, since, seen, c0, h1, _, _, _, h2, _⟩ := h.rg
  refine ⟨fun e => ?_, fun e => ?_⟩
  · obtain ⟨cells, hc⟩ := own_typed h.own mh e.symm
    rw [h1] at hc
    simp at hc
  · obtain ⟨cells, hc⟩ := own_typed h.own r e.symm
    rw [h2] at hc
    simp at hc
theorem key_in {w : World} {mh n : Nat} {D : DataW Value} {H : List Int} (hat : ∀ kl, KeysOf Try.prog 46 kl → ∀ z : DataW Value, D.atKey kl z = (match hf H kl with | some v => .held v | none => z))
    {key : Value} {kl : Lit} (hkey : keyOf Try.prog 46 key = some kl) {y : DataW Value} (hy : ∀ zd, D.atKey kl zd = y) : ∃ x ∈ H, kl = .int .i64 x := by
  have h1 := hat kl ⟨key, hkey⟩
  unfold hf at h1
  by_cases e : ∃ x ∈ H, kl = .int .i64 x
  · exact e
  · rw [if_neg e] at h1
    have a := (h1 (.held (.bool true))).symm.trans (hy _)
    have b := (h1 (.held (.bool false))).symm.trans (hy _)
    have c := a.trans b.symm
    cases c
theorem has_key {D : DataW Value} {H : List Int} (hat : ∀ kl, KeysOf Try.prog 46 kl → ∀ z : DataW Value, D.atKey kl z = (match hf H kl with | some v => .held v | none => z)) {x : Int} (hx : x ∈ H) (hw : (Lit.int .i64 x).wf = true) : Maps.has D (.int .i64 x) = true := by
  refine Maps.has_true_of_atKey (y := .held (.int .i64 1)) fun zd => ?_
  rw [hat _ ⟨_, keyOf_int_mk Try.underlying46 hw⟩ zd]
  unfold hf
  rw [if_pos ⟨x, hx, rfl⟩]
theorem same_int (x y : Int) : (Lit.int .i64 x).sameKey (.int .i64 y) = decide (x = y) := by
  show decide (IntKind.i64 = IntKind.i64 ∧ x = y) = _
  simp
/-- An entry has come, and is laid behind the others. -/
theorem Got.more {B : Nat} {wr w w1 w2 w3 : World} {mh r : Nat} {D : DataW Value} {H L : List Int} {left : Lit → Bool} {cnt cnt1 : Nat} {v9 v' : Value} (h : Got B wr w mh r D H L left cnt v9) {x : Int} (hx : x ∈ H) (hl : left (.int .i64 x) = true)
    (h1 : w1.ranges Try.prog 46 raw mh r 2097153 D (fun z => left z && !z.sameKey (.int .i64 x)) cnt1) (hg1 : wr.grownBy w1 (some r)) (o : Obj) (hw2 : w2 = w1.alloc o) (hown : w3.ownsRow B 46 1 v' (L.length + 1) (nums .i64 L ++ [.int .i64 x])) (hg3 : w2.grownBy w3 v9.ownBlock) (hnil : v' = .slice none 0 0 ↔ v9 = .slice none 0 0 ∧ 1 = 0) :
    Got B w3 w mh r D H (L ++ [x]) (fun z => left z && !z.sameKey (.int .i64 x)) cnt1 v' := by
  subst hw2
  have hne := h.notMap
  constructor
  · exact (h1.alloc o).kept hg3 hne.1 hne.2
  · rw [List.length_append, show nums .i64 (L ++ [x]) = nums .i64 L ++ [.int .i64 x] from by unfold nums; simp]; exact hown
  · intro e; simp at e
  · rw [List.nodup_append]
    refine ⟨h.nd, by simp, fun a ha b hb => ?_⟩
    rintro rfl
    rw [List.mem_singleton.1 hb] at ha
    rw [(h.sub x ha).2] at hl
    cases hl
  · intro y hy
    rcases List.mem_append.1 hy with hy | hy
    · exact ⟨(h.sub y hy).1, by rw [(h.sub y hy).2]; rfl⟩
    · rw [List.mem_singleton.1 hy]
      exact ⟨hx, by rw [same_int]; simp⟩
  · intro y hy
    by_cases e : y = x
    · exact .inl (by simp [e])
    · rcases h.all y hy with h2 | h2
      · exact .inl (List.mem_append_left _ h2)
      · right
        rw [same_int, h2]
        simp [e]
  · exact h.new
  · have a := h.low.grown hg1 h.base (fun j hj => by cases hj; exact h.new.2)
    have hb1 : B ≤ w1.heap.size := Nat.le_trans h.base hg1.size
    exact (a.alloc hb1 o).grown hg3 (by simp; omega) (fun j hj => own_base h.own j hj)
  · have := hg1.size
    have := hg3.size
    have := h.base
    simp at *
    omega

/-- A step of the range over what holds. -/
theorem wp_next_hold (w : World) {ops : Array Oper} {rest : List Oper} {o : Oper} {a : Act} {Q : Exit → Act → World → Prop} (hg : o.guard = none) (it : Operand) (hop : o.op = Op.next it false) (mh r n : Nat) (D : DataW Value) (H : List Int) (left : Lit → Bool) (cnt : Nat)
    (hat : ∀ kl, KeysOf Try.prog 46 kl → ∀ z : DataW Value, D.atKey kl z = (match hf H kl with | some v => .held v | none => z))
    (hit : a.eval it = .pointer (some ⟨r, 0, none⟩)) (h : w.ranges Try.prog 46 raw mh r n D left cnt)
    (hDone : Hid (cnt = 0 → (∀ kl, left kl = false) → wpList Try.prog ops Q rest (a.put o.dst (.tuple #[.bool false])) w))
    (hMore : Hid (∀ (x : Int) (c : Value) (w' : World) (cnt' : Nat), x ∈ H → left (.int .i64 x) = true → w'.ranges Try.prog 46 raw mh r n D (fun z => left z && !z.sameKey (.int .i64 x)) cnt' → cnt' < cnt →
      w.grownBy w' (some r) → (Instr.entry (.pointer (some ⟨r, 0, none⟩))).run Try.prog w' = .ok (.tuple #[.int .i64 x, c]) w' → wpList Try.prog ops Q rest (a.put o.dst (.tuple #[.bool true, .int .i64 x, c])) w')) :
    wpList Try.prog ops Q (o :: rest) a w := by
  refine wpList_next_ranges w hg it hop 46 keyed raw (Value.int .i64) (fun v : Value => v) (fun key kl hk => by obtain ⟨x, h1, _⟩ := Maps.keyOf_int_inv Try.underlying46 hk; exact ⟨x, h1⟩) (fun v y _ => ⟨v, rfl⟩) mh r n D left cnt hit h hDone.out ?_
  intro x c kl y w6 cnt1 hkey hlf hR hatk hrg6 hlt hg6 hs6 hen
  obtain ⟨x', hx', rfl⟩ := key_in (w := w) (mh := mh) (n := n) hat hkey hatk
  have hxx : x' = x := by
    obtain ⟨x2, h1, h2, _⟩ := Maps.keyOf_int_inv Try.underlying46 hkey
    injection h1 with _ h1
    injection h2 with _ h2
    omega
  subst hxx
  exact hMore.out x' c w6 cnt1 hx' hlf hrg6 hlt hg6 hen

def unitsR (l0 : List (List Int)) (l1 : List Int) : Option (List Int × Bool × Int) :=
  if fitB l0.length l1.length then some (if l0.all mayB && mayB l1 then (match (outR (basedM l0) (runC (basedM l0) l1)).1 with | none => ([], true, 0) | some H => (canon H, false, 0)) else ([], false, 2)) else none

set_option maxRecDepth 100000 in
set_option maxHeartbeats 6400000 in
theorem Units_calls (A0 : Option Addr) (c0 : Nat) (l0 : List (List Int)) (A1 : Option Addr) (c1 : Nat) (l1 : List Int) (r1 : List Int) (r2 : Bool) (r3 : Int) (w : World) (hr0 : Kd.C (Kd.slice 46 (Kd.int .i64)) w A0 l0.length l0) (hr1 : Kd.C (Kd.int .i64) w A1 l1.length l1) (h : unitsR l0 l1 = some (r1, r2, r3)) :
    Calls Try.prog 18 #[.slice A0 l0.length c0, .slice A1 l1.length c1] w fun e w' => ∃ v0_ : Value, e = .returned (.tuple #[v0_, .bool r2, .int .i64 r3]) ∧ Kd.R (Kd.int .i64) 46 w' w.heap.size (fun _ => True) v0_ r1 ∧ Below w.heap.size w w' := by
  unfold unitsR at h
  split at h
  case isFalse => cases h
  rename_i hfit
  unfold fitB at hfit
  have hfit := of_decide_eq_true hfit
  have HRES := hid (Option.some.inj h)
  have HM0 := hid (may_calls A0 c0 l0 w (CCw.of hr0))
  have HC0 := hid hr0
  have HC1 := hid hr1
  obtain ⟨n0, hn0⟩ : ∃ n, n = l0.length := ⟨_, rfl⟩
  obtain ⟨n1, hn1⟩ : ∃ n, n = l1.length := ⟨_, rfl⟩
  rw [← hn0] at HM0 ⊢
  rw [← hn1]
  have HN0 := hid hn0
  have HN1 := hid hn1
  have hfit' : n0 + n1 < 10000 := by omega
  clear h hr0 hr1 hfit hn0 hn1
  cases hm0 : l0.all mayB with
  | false =>
    rw [hm0] at HM0 HRES
    simp only [Bool.false_and] at HRES
    have HRES := hid (show (r1, r2, r3) = ([], false, 2) from HRES.out.symm)
    clear hm0
    go_enter Try.func18, Try.ntmps18
    go_wp2_with fail
    refine HM0.out.mono ?_
    rintro e w1 ⟨rfl, q, rfl⟩
    go_wp2_with fail
    go_ret3
    injection HRES.out with e1 e2
    injection e2 with e2 e3
    subst e1 e2 e3
    exact ⟨_, rfl, Kd.R_nil _ _ _ _ _, pw_below_drewN (Below.refl _ _) q⟩
  | true =>
    rw [hm0] at HM0 HRES
    simp only [Bool.true_and] at HRES
    have HM0B := hid hm0
    clear hm0
    go_enter Try.func18, Try.ntmps18
    go_wp2_with fail
    refine HM0.out.mono ?_
    rintro e w1 ⟨rfl, q, hw1⟩
    have hb1 : Below w.heap.size w w1 := by rw [hw1]; exact pw_below_drewN (Below.refl _ _) q
    have HM1 := hid (may_calls (some ⟨w1.heap.size, 0, none⟩) 1 [l1] (w1.alloc (.cells #[.slice A1 n1 c1] 31)) (by have := CCw.one c1 (Kd.C_below HC1.out hb1); rw [HN1.out]; exact this))
    have HB1 := hid hb1
    clear hb1 hw1
    go_wp2_with fail
    refine HM1.out.mono ?_
    rintro e w2 ⟨rfl, q2, hw2⟩
    have hb2 : Below w.heap.size w w2 := by rw [hw2]; exact pw_below_drewN (HB1.out.alloc HB1.out.size _) q2
    have HB2 := hid hb2
    clear hb2 hw2
    cases hm1 : mayB l1 with
    | false =>
      rw [hm1] at HRES
      have HRES := hid (show (r1, r2, r3) = ([], false, 2) from HRES.out.symm)
      rw [show ([l1] : List (List Int)).all mayB = false from by simp [hm1]]
      clear hm1
      go_wp2_with fail
      go_ret3
      injection HRES.out with e1 e2
      injection e2 with e2 e3
      subst e1 e2 e3
      exact ⟨_, rfl, Kd.R_nil _ _ _ _ _, HB2.out⟩
    | true =>
      rw [hm1] at HRES
      simp only [if_true] at HRES
      rw [show ([l1] : List (List Int)).all mayB = true from by simp [hm1]]
      have hst := basedM_stands HM0B.out
      obtain ⟨m, hrun⟩ := runC_run hst.inv l1
      have hA := hst.sizeA
      have hU := hst.sizeU
      have hbd1 := (may_bd hm1).2
      have hout := out_ans hst hbd1 hrun
      have HBASE := hid (based_calls A0 c0 l0 w2 (Kd.C_below HC0.out HB2.out) HM0B.out (by have := HN0.out; omega))
      have HRUN := hid (fun (w3 : World) (F : Nat → Prop) (hb : BaseAt w3 (w2.heap.size + 1) (basedM l0) F) (hbw : Below w.heap.size w w3) => run_calls (w2.heap.size + 1) (basedM l0) F A1 c1 l1 w3 hb hst.inv (fun x hx => hst.ubd x hx) hbd1 (Kd.C_below HC1.out hbw) (by have := HN0.out; omega) (by have := HN0.out; omega) (by have := HN1.out; omega) m _ hrun)
      have HOUT := hid hout.2.2
      rw [← HN0.out] at HBASE
      rw [← HN1.out] at HRUN
      obtain ⟨res, hres⟩ : ∃ res, res = outR (basedM l0) (runC (basedM l0) l1) := ⟨_, rfl⟩
      rw [← hres] at HRES HRUN HOUT
      clear hm1 hst hrun hA hU hout hres hbd1
      go_wp2_with fail
      refine HBASE.out.mono ?_
      rintro e w3 ⟨rfl, F, hb3, hF3, hbw3⟩
      have hF : ∀ j, F j → w.heap.size ≤ j := fun j hj => Nat.le_trans HB2.out.size (hF3 j hj)
      have hbw : Below w.heap.size w w3 := HB2.out.trans (hbw3.mono HB2.out.size)
      have HR4 := hid (HRUN.out w3 F hb3 hbw)
      have HF := hid hF
      have HBW := hid hbw
      clear hb3 hF3 hbw3 hF hbw
      go_wp2_with fail
      refine HR4.out.mono ?_
      rintro e w4 ⟨vH, F', rfl, hb4, hk4, hm4, hH4⟩
      have hbw4 : Below w.heap.size w w4 := keep_below HBW.out hk4 HF.out
      have HBW4 := hid hbw4
      cases hr1 : res.1 with
      | none =>
        rw [hr1] at HRES
        have HRES := hid (show (r1, r2, r3) = ([], true, 0) from HRES.out.symm)
        clear hr1 hb4 hk4 hm4 hH4 hbw4
        go_wp2_with fail
        go_ret3
        injection HRES.out with e1 e2
        injection e2 with e2 e3
        subst e1 e2 e3
        exact ⟨_, rfl, Kd.R_nil _ _ _ _ _, HBW4.out⟩
      | some H =>
        rw [hr1] at HRES
        have HRES := hid (show (r1, r2, r3) = (canon H, false, 0) from HRES.out.symm)
        obtain ⟨mh, rfl, hmap, hnd, hmh⟩ := hH4 H hr1
        have HO := hid (HOUT.out H hr1)
        obtain ⟨D, hown, hat⟩ := hmap
        have HOWN := hid hown
        have HAT := hid hat
        have hmh' : w.heap.size ≤ mh := Nat.le_trans HBW.out.size hmh
        have HMH := hid hmh'
        clear hr1 hb4 hk4 hm4 hH4 hbw4 hown hat hnd hmh hmh'
        go_wp2_with (at_range; refine wpList_range_own _ rfl _ 51 rfl 46 3 keyed Try.underlying51 raw mh 2097153 D rfl HOWN.out ?_; intro w5 hrg5 hg5 hs5)
        go_frame
        have hb5 : Below w.heap.size w w5 := HBW4.out.grown hg5 HBW4.out.size (fun j hj => by cases hj)
        have start : Got w.heap.size w5 w mh w4.heap.size D H [] (Maps.has D) (Maps.size D) (.slice none 0 0) := {
          rg := hrg5
          own := own_nil _ _ _ _
          nil := fun _ => rfl
          nd := List.nodup_nil
          sub := fun x hx => by cases hx
          all := fun x hx => .inr (has_key HAT.out hx (WalkArith.wf_i64 (by have := (HO.out.2.2 x hx); omega)))
          new := ⟨HMH.out, HBW4.out.size⟩
          low := hb5
          base := hb5.size }
        have ST := hid start
        obtain ⟨r, hr⟩ : ∃ r, r = w4.heap.size := ⟨_, rfl⟩
        rw [← hr] at ST ⊢
        clear hrg5 hg5 hs5 hb5 start hr
        go_loopg [9, 10] (Maps.size D) (fun left v9 v10 wr => ∃ lf cnt L, cnt ≤ left ∧ Hid (Got w.heap.size wr w mh r D H L lf cnt v9))
        case atStart => exact ⟨_, _, [], Nat.le_refl _, ST⟩
        case round =>
          obtain ⟨lf, cnt, L, hcl, R⟩ := hrel
          obtain ⟨i0, hi0, hz0, hz1, hz2⟩ := info_parts info46
          go_wp2_with (at_next; refine wp_next_hold _ rfl _ rfl mh r 2097153 D H lf cnt HAT.out rfl R.out.rg ?_ ?_)
          · refine hid fun hc0 hl0 => ?_
            have hmem : ∀ x, x ∈ L ↔ x ∈ H := fun x => ⟨fun h => (R.out.sub x h).1, fun h => by
              rcases R.out.all x h with h2 | h2
              · exact h2
              · rw [hl0] at h2; cases h2⟩
            have HMEM := hid hmem
            have hcanon : (canon H).length = L.length := by
              rw [← sorted_canon HO.out.2.1 hmem R.out.nd, List.length_map, List.length_mergeSort]
              unfold ins_
              simp
            have HCAN := hid hcanon
            clear hc0 hl0 hmem hcanon
            cases hL : L with
            | nil =>
              have hv := R.out.nil hL
              have hH : canon H = [] := by
                have := HCAN.out
                rw [hL] at this
                exact List.eq_nil_of_length_eq_zero (by simpa using this)
              have HH := hid hH
              subst hv
              clear hH
              go_wp2_with fail
              refine (sort_nil _ _).mono ?_
              rintro e w6 ⟨rfl, rfl⟩
              go_wp2_with fail
              go_ret3
              have hres := HRES.out
              rw [HH.out] at hres
              injection hres with e1 e2
              injection e2 with e2 e3
              subst e1 e2 e3
              exact ⟨_, rfl, Kd.R_nil _ _ _ _ _, R.out.low⟩
            | cons x0 L' =>
              have hown := R.out.own
              obtain ⟨g9, cap9, rfl⟩ : ∃ g9 cap9, u9 = .slice (some ⟨g9, 0, none⟩) L.length cap9 := by
                rcases hown.2 with ⟨_, h0⟩ | ⟨g, cap, cur, hv, _⟩
                · rw [hL] at h0; simp at h0
                · exact ⟨g, cap, hv⟩
              have hx0 : x0 ∈ H := (HMEM.out x0).1 (by rw [hL]; simp)
              have hlen : L.length ≤ 2097153 := by
                have := held_short R.out.nd (fun x hx => HO.out.2.2 x ((HMEM.out x).1 hx))
                exact this
              have HSORT := hid (sortA_own (base := w.heap.size) H L HO.out.2.1 HO.out.2.2 HMEM.out R.out.nd x0 hx0 (by omega) hown)
              obtain ⟨nl, hnl⟩ : ∃ n, n = L.length := ⟨_, rfl⟩
              rw [← hnl] at HSORT R HCAN ⊢
              clear hown hx0 hlen hL hnl
              go_wp2_with fail
              refine HSORT.out.mono ?_
              rintro e w6 ⟨rfl, hb6, hown6⟩
              have HB6 := hid hb6
              have HO6 := hid hown6
              clear hb6 hown6
              go_wp2_with fail
              go_ret3
              injection HRES.out with e1 e2
              injection e2 with e2 e3
              subst e1 e2 e3
              refine ⟨_, rfl, Kd.R_of_own ?_ (fun _ _ => trivial), R.out.low.trans HB6.out⟩
              rw [HCAN.out]
              exact HO6.out
          · refine hid fun x c w6 cnt1 hx hlf hrg6 hlt hg6 hen => ?_
            have hown6 : w6.ownsRow w.heap.size 46 1 u9 L.length (nums .i64 L) := own_move R.out.own fun k hk => hg6.block k (by
              obtain ⟨cells, hc⟩ := own_typed R.out.own k hk
              exact blk_lt hc) (fun e => R.out.notMap.2 (by rw [← e, hk]))
            have HOWN6 := hid hown6
            have HRG6 := hid hrg6
            have HG6 := hid hg6
            have HX := hid (And.intro hx (And.intro hlf hlt))
            have hlen : L.length ≤ 2097153 := held_short R.out.nd (fun y hy => HO.out.2.2 y (R.out.sub y hy).1)
            have hbase6 : w.heap.size ≤ w6.heap.size := Nat.le_trans R.out.base hg6.size
            clear hown6 hrg6 hg6 hx hlf hlt
            go_wp2_with (at_builtin; refine wpList_append_own _ rfl _ _ 31 rfl w.heap.size 46 i0 (.int .i64 0) 1 8 Try.underlying31 hi0 hz0 hz1 hz2 rfl (by decide) u9 L.length (nums .i64 L) rfl (HOWN6.out.alloc _) ⟨w6.heap.size, 0, none⟩ 1 1 [.int .i64 x] rfl rfl (cell_one_new _ _ _) (fun u hu => by simp at hu; subst hu; rfl) (by unfold maxLen; omega) (by omega) (by simp; omega) ?_; intro v' w8 hown8 hg8 hnil8; have HOWN8 := hid hown8; have HG8 := hid hg8; have HN8 := hid hnil8; clear hown8 hg8 hnil8)
            have R2 := hid (R.out.more HX.out.1 HX.out.2.1 HRG6.out HG6.out _ rfl HOWN8.out HG8.out HN8.out)
            go_roundg cnt1
            case measure => have := HX.out.2.2; omega
            case rel => exact ⟨_, cnt1, _, Nat.le_refl _, R2⟩
end Go.Proofs.Ytjlkjgoncfdaeaa.RM


