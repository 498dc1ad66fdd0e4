/- What adding a clause to the base of rup does. -/
import Derived.Test.YtjlkjgoncfdaeaaManAll
import Derived.Test.YtjlkjgoncfdaeaaRupMm
import Derived.WalkSpells
import Derived.Deep.RegionHeld3
import Derived.Deep.DrawnRows
namespace Go.Proofs.Ytjlkjgoncfdaeaa.RM
open Go.RowKit Go.Proofs.YtjlkjgoncfdaeaaW.PrintWords Go.Proofs.YtjlkjgoncfdaeaaW.PrintLast Go.Proofs.YtjlkjgoncfdaeaaW.PrintMore Go.Lib Go.Sort Go.Shelf Go.Maps Go.Proofs.Ytjlkjgoncfdaeaa.LF Go.Proofs.Ytjlkjgoncfdaeaa.IM Go.Proofs.Ytjlkjgoncfdaeaa.MC Go.Proofs.Ytjlkjgoncfdaeaa.MM Go.Proofs.Ytjlkjgoncfdaeaa.VM
attribute [local go_sem ↓] Go.wp_at_zero Go.wp_at_succ
set_option linter.unusedSimpArgs false
set_option linter.unusedVariables false

theorem encs_lits (l : List Int) : encs (Value.int .i64) l = lits l := rfl
theorem row_of_R {w : World} {t : TypeId} {base : Nat} {v : Value} {l : List Int} (h : Kd.R (Kd.int .i64) t w base (fun _ => True) v l) : Row w t v (lits l) ∧ ∀ j, v.ownBlock = some j → base ≤ j := by
  have h1 := Kd.own_of_R h
  have h2 := Row.ofOwns h1
  exact ⟨h2.1, h2.2.2⟩
theorem reads_of_row {w : World} {t : TypeId} {v : Value} {l : List Int} (h : Row w t v (lits l)) : ∃ A c, v = .slice A l.length c ∧ l.length ≤ c ∧ c ≤ maxLen ∧ Kd.C (Kd.int .i64) w A l.length l := by
  obtain ⟨A, c, hv, h1, h2⟩ := h.shape
  rw [show (lits l).length = l.length by simp] at hv h1
  have hsm : l.length ≤ 9223372036854775807 := by simp only [maxLen] at h2; omega
  refine ⟨A, c, hv, h1, h2, Kd.C_of_reads (d := (0 : Int)) (h1 := fun _ => rfl) ⟨rfl, hsm, fun h0 => ?_⟩⟩
  obtain ⟨g, off, cap, hv', _, _, _, hc, _⟩ := h.cells (by simpa using h0)
  rw [hv] at hv'
  injection hv' with e1 _ _
  refine ⟨⟨g, off, none⟩, e1, fun j hj => ?_⟩
  rw [Addr.add_lit, hc j (by simpa using hj)]
  simp [lits, List.getElem?_map, List.getElem?_eq_getElem hj, List.getD_eq_getElem?_getD]

theorem Normal_calls (A0 : Option Addr) (c0 : Nat) (l : List Int) (w : World) (hr0 : Kd.C (Kd.int .i64) w A0 l.length l) (hm : mayB l = true) :
    Calls Try.prog 46 #[.slice A0 l.length c0] w fun e w' => ∃ v0 : Value, e = .returned (.tuple #[v0, .int .i64 0]) ∧ Row w' 46 v0 (lits (canon l)) ∧ (∀ j, v0.ownBlock = some j → w.heap.size ≤ j) ∧ Below w.heap.size w w' := by
  have h0 := hm
  unfold mayB at h0
  rw [Bool.and_eq_true] at h0
  have hn : l.length < 17592186044416 := by have := of_decide_eq_true h0.1; omega
  have hb : ∀ x ∈ l, -1048576 ≤ x ∧ x ≤ 1048576 := fun x hx => (literalB_true.1 (List.all_eq_true.1 h0.2 x hx)).2
  have HM := Lib.hid (May_calls A0 c0 l w hr0)
  have HF : Hid (∀ W, Below w.heap.size w W → Calls Try.prog 59 #[.slice A0 l.length c0] W fun e w' => ∃ v0_ : Value, e = .returned v0_ ∧ Kd.R (Kd.int .i64) 46 w' W.heap.size (fun _ => True) v0_ (canon l) ∧ Below W.heap.size W w') := Lib.hid (fun W hW => form_calls A0 c0 l W (Kd.C_below hr0 hW) hn hb)
  have HE := Lib.hid hm
  clear hr0 hb hn h0 hm
  go_enter Try.func46, Try.ntmps46
  go_wp2_with fail
  refine HM.out.mono ?_
  rintro e w1 ⟨rfl, hb1⟩
  have HB1 := Lib.hid hb1
  clear hb1
  rw [HE.out]
  go_wp2_with fail
  refine (HF.out _ HB1.out).mono ?_
  rintro e w2 ⟨v0, rfl, hR, hb2⟩
  have HR := Lib.hid hR
  have HB2 := Lib.hid hb2
  clear hR hb2
  go_wp2
  go_ret2
  refine ⟨v0, rfl, (row_of_R HR.out).1, fun j hj => Nat.le_trans HB1.out.size ((row_of_R HR.out).2 j hj), HB1.out.trans (HB2.out.mono HB1.out.size)⟩

/-- What stands in a cell. -/
noncomputable def cellV (p i : Nat) (w : World) : Value := (w.cell? ⟨p, i, none⟩).getD undef
/-- A clause added. -/
def addC (b : RB) (l : List Int) : RB := if saysB (canon l) then b else addM b (canon l)

set_option maxRecDepth 100000 in
set_option maxHeartbeats 3200000 in
theorem add_calls (p M : Nat) (vA vU : Value) (hs : List Value) (g : Lit → Option Value) (k : Nat) (b : RB) (F : Nat → Prop) (A0 : Option Addr) (c0 : Nat) (l : List Int) (w : World)
    (h : RupMem w p M vA vU hs g k b F) (hr0 : Kd.C (Kd.int .i64) w A0 l.length l) (hm : mayB l = true) (hk : k + 3 < maxLen) (hb : ∀ x, (b.by_ x).length < 1000000) (hall : b.all.length < 1000000) (hun : b.units.length < 1000000) :
    Calls Try.prog 32 #[.pointer (some ⟨p, 0, none⟩), .slice A0 l.length c0] w fun e w' => e = .returned (.tuple #[]) ∧
      ∃ vA' vU' hs' g' k' F', RupMem w' p M vA' vU' hs' g' k' (addC b l) F' ∧ Keep F w w' ∧ (∀ j, F' j → F j ∨ w.heap.size ≤ j) ∧ k' ≤ k + 2 ∧ (Dom g → Dom g') := by
  have HN := Lib.hid (Normal_calls A0 c0 l w hr0 hm)
  have HH := Lib.hid h
  have HX := Lib.hid (And.intro hb (And.intro hall hun))
  have hlen : (canon l).length < 17592186044416 := by
    have := length_canon_le l
    unfold mayB at hm
    rw [Bool.and_eq_true] at hm
    have := of_decide_eq_true hm.1
    omega
  have hwf : ∀ x ∈ canon l, wfI x = true := by
    intro x hx
    unfold mayB at hm
    rw [Bool.and_eq_true] at hm
    have := (literalB_true.1 (List.all_eq_true.1 hm.2 x ((mem_canon x l).1 hx))).2
    exact WalkArith.wf_i64 (by omega)
  have HBDL := Lib.hid (show ∀ x ∈ canon l, -1048576 ≤ x ∧ x ≤ 1048576 by
    intro x hx
    unfold mayB at hm
    rw [Bool.and_eq_true] at hm
    exact (literalB_true.1 (List.all_eq_true.1 hm.2 x ((mem_canon x l).1 hx))).2)
  clear hr0 h hb hall hun hm
  by_cases hsb : saysB (canon l) = true
  · have hr : addC b l = b := by unfold addC; rw [if_pos hsb]
    have HR := Lib.hid hr
    have HSB := Lib.hid hsb
    have HL := Lib.hid hlen
    have HW := Lib.hid hwf
    clear hr hsb hlen hwf
    go_enter Try.func32, Try.ntmps32
    go_wp2_with fail
    refine HN.out.mono ?_
    rintro e w1 ⟨v0, rfl, hrow, hnew, hb1⟩
    obtain ⟨A1, c1, rfl, hc1, hc2, hC⟩ := reads_of_row hrow
    have HB1 := Lib.hid hb1
    have HS := Lib.hid (SaysNothing_calls A1 c1 (canon l) w1 hC HL.out HW.out)
    clear hrow hnew hb1 hC hc2
    go_wp2_with fail
    refine HS.out.mono ?_
    rintro e w2 ⟨rfl, hb2⟩
    have HB2 := Lib.hid hb2
    clear hb2
    rw [HSB.out]
    go_wp2_with fail
    refine bodyPost_ret (results_none rfl _ _ _) rfl ?_
    rw [HR.out]
    have hk0 : Keep (fun _ => False) w w2 := (Keep.ofBelow HB1.out).trans (Keep.ofBelow (F := fun _ => False) HB2.out) (fun _ h => h) (fun _ h => h.elim)
    exact ⟨rfl, vA, vU, hs, g, k, F, HH.out.keep hk0 (fun _ _ h => h), hk0.mono (fun _ h => h.elim), fun j hj => .inl hj, by omega, fun h => h⟩
  · have hsb' : saysB (canon l) = false := by simpa using hsb
    rcases hcl : canon l with _ | ⟨x, _ | ⟨y, r⟩⟩
    · have hr : addC b l = { b with empty := true } := by unfold addC; rw [if_neg hsb, hcl]; rfl
      rw [hcl] at HN hsb' hlen hwf
      have HR := Lib.hid hr
      have HSB := Lib.hid hsb'
      have HL := Lib.hid hlen
      have HW := Lib.hid hwf
      clear hr hsb hsb' hlen hwf hcl
      go_enter Try.func32, Try.ntmps32
      go_wp2_with fail
      refine HN.out.mono ?_
      rintro e w1 ⟨v0, rfl, hrow, hnew, hb1⟩
      obtain ⟨A1, c1, rfl, hc1, hc2, hC⟩ := reads_of_row hrow
      have HB1 := Lib.hid hb1
      have HS := Lib.hid (SaysNothing_calls A1 c1 [] w1 hC HL.out HW.out)
      clear hrow hnew hb1 hC hc2
      go_wp2_with fail
      refine HS.out.mono ?_
      rintro e w2 ⟨rfl, hb2⟩
      have hk0 : Keep (fun _ => False) w w2 := (Keep.ofBelow HB1.out).trans (Keep.ofBelow (F := fun _ => False) hb2) (fun _ h => h) (fun _ h => h.elim)
      have h2 := HH.out.keep hk0 (fun _ _ h => h)
      have hcp : w2.cell? ⟨p, 3, none⟩ = some (.bool b.empty) := (blk_cell h2.obj 3).trans rfl
      have hfp : w2.frozen? ⟨p, 3, none⟩ = false := blk_frozen h2.obj 3
      have H2 := Lib.hid h2
      have HK := Lib.hid hk0
      clear h2 hb2 hk0
      rw [HSB.out]
      go_wp2_with fail
      refine bodyPost_end (results_none rfl _ _ _) rfl ?_
      rw [HR.out]
      have h3 := H2.out.void
      exact ⟨rfl, vA, vU, hs, g, k, F, h3.1, (HK.out.trans h3.2 (fun _ h => h.elim) (fun _ h => .inl h)), fun j hj => .inl hj, by omega, fun h => h⟩
    · have hr : addC b l = { b with units := b.units ++ [x] } := by unfold addC; rw [if_neg hsb, hcl]; rfl
      rw [hcl] at HN hsb' hlen hwf
      have HR := Lib.hid hr
      have HSB := Lib.hid hsb'
      have HL := Lib.hid hlen
      have HW := Lib.hid hwf
      clear hr hsb hsb' hlen hwf hcl
      go_enter Try.func32, Try.ntmps32
      go_wp2_with fail
      refine HN.out.mono ?_
      rintro e w1 ⟨v0, rfl, hrow, hnew, hb1⟩
      obtain ⟨A1, c1, rfl, hc1, hc2, hC⟩ := reads_of_row hrow
      obtain ⟨gf, of, cf, hvf, _, _, lgf, hcf, _⟩ := hrow.cells (by simp)
      injection hvf with ea _ ec
      subst ea ec
      obtain ⟨curf, hgf⟩ := hrow.typed gf rfl
      have HB1 := Lib.hid hb1
      have HS := Lib.hid (SaysNothing_calls _ c1 [x] w1 hC HL.out HW.out)
      have HGF := Lib.hid hgf
      have hx0 : w1.cell? ⟨gf, of, none⟩ = some (.int .i64 x) := hcf 0 (by simp)
      have hgn : w.heap.size ≤ gf := hnew gf rfl
      have HX0 := Lib.hid hx0
      clear hrow hnew hb1 hC hc2 hcf hgf hx0
      go_wp2_with fail
      refine HS.out.mono ?_
      rintro e w2 ⟨rfl, hb2⟩
      have hk0 : Keep (fun _ => False) w w2 := (Keep.ofBelow HB1.out).trans (Keep.ofBelow (F := fun _ => False) hb2) (fun _ h => h) (fun _ h => h.elim)
      have h2 := HH.out.keep hk0 (fun _ _ h => h)
      have hx2 : w2.cell? ⟨gf, of, none⟩ = some (.int .i64 x) := (hb2.cell (p := ⟨gf, of, none⟩) lgf).trans HX0.out
      have hS : ∀ W : World, W.heap[p]? = some (.cells #[vA, .map (some M), vU, .bool b.empty] 64 (0, 0)) → W.cell? ⟨gf, of, none⟩ = w2.cell? ⟨gf, of, none⟩ →
          W.cell? ⟨p, 2, none⟩ = some vU ∧ W.frozen? ⟨p, 2, none⟩ = false ∧ W.cell? ⟨gf, of, none⟩ = some (.int .i64 x) :=
        fun W q1 q3 => ⟨(blk_cell q1 2).trans rfl, blk_frozen q1 2, q3.trans hx2⟩
      have H2 := Lib.hid h2
      have HK := Lib.hid hk0
      have lp := blk_lt h2.obj
      have lgf2 : gf < w2.heap.size := Nat.lt_of_lt_of_le lgf hb2.size
      clear h2 hb2 hk0 hx2
      have HS2 := Lib.hid hS
      clear hS
      rw [HSB.out]
      go_wp2_with fail
      have hUp : ∀ j, vU.ownBlock = some j → j ≠ p := Row.notP H2.out.units H2.out.obj (by decide)
      have hUg : vU.ownBlock ≠ some gf := fun e => by
        have := HH.out.old gf (HH.out.fU gf e)
        omega
      have HUR := Lib.hid (H2.out.units)
      have hul : b.units.length < 1000000 := HX.out.2.2
      have hS := HS2.out
      refine start_ (n := 13) (S := fun w' => w'.cell? ⟨p, 2, none⟩ = some vU ∧ w'.frozen? ⟨p, 2, none⟩ = false ∧ w'.cell? ⟨gf, of, none⟩ = some (.int .i64 x)) (ds := [12]) #[false, false, false, false, false, false, false, false, false, false, false, false, false] (by kernel_rfl) rfl rfl (hS _ H2.out.obj rfl) (fun hHeld => ?_)
      refine take_ (i := 0) (N := some 79) (v := ?_) (a' := ?_) #[true, false, false, false, false, false, false, false, false, false, false, false, false] rfl rfl (by kernel_rfl) (fun _ _ _ h => h) (Or.inl ⟨by rfl, ?_⟩) hHeld ?_ ?_   -- move (%0)
      rotate_left
      · rintro w' ⟨s0, s1, s2⟩
        go_simp
        with_reducible rfl
      rotate_left
      · simp only [Act.put, List.setIfInBounds_toArray, List.set_cons_zero, List.set_cons_succ]
        rfl
      refine take_ (i := 1) (N := some 80) (v := ?_) (a' := ?_) #[true, true, false, false, false, false, false, false, false, false, false, false, false] rfl rfl (by kernel_rfl) (fun _ _ _ h => h) (Or.inl ⟨by rfl, ?_⟩) hHeld ?_ ?_   -- move (%0)
      rotate_left
      · rintro w' ⟨s0, s1, s2⟩
        go_simp
        with_reducible rfl
      rotate_left
      · simp only [Act.put, List.setIfInBounds_toArray, List.set_cons_zero, List.set_cons_succ]
        rfl
      refine take_ (i := 2) (N := some 81) (v := ?_) (a' := ?_) #[true, true, true, false, false, false, false, false, false, false, false, false, false] rfl rfl (by kernel_rfl) (fun _ _ _ h => h) (Or.inl ⟨by rfl, ?_⟩) hHeld ?_ ?_   -- nilCheck (%80)
      rotate_left
      · rintro w' ⟨s0, s1, s2⟩
        go_simp
        with_reducible rfl
      rotate_left
      · simp only [Act.put, List.setIfInBounds_toArray, List.set_cons_zero, List.set_cons_succ]
        rfl
      refine take_ (i := 3) (N := some 82) (v := ?_) (a' := ?_) #[true, true, true, true, false, false, false, false, false, false, false, false, false] rfl rfl (by kernel_rfl) (fun _ _ _ h => h) (Or.inl ⟨by rfl, ?_⟩) hHeld ?_ ?_   -- fieldAddr 64 (%81) 2
      rotate_left
      · rintro w' ⟨s0, s1, s2⟩
        go_simp
        with_reducible rfl
      rotate_left
      · simp only [Act.put, List.setIfInBounds_toArray, List.set_cons_zero, List.set_cons_succ]
        rfl
      refine take_ (i := 4) (N := some 83) (v := ?_) (a' := ?_) #[true, true, true, true, true, false, false, false, false, false, false, false, false] rfl rfl (by kernel_rfl) (fun _ _ _ h => h) (Or.inl ⟨by rfl, ?_⟩) hHeld ?_ ?_   -- load 31 (%82)
      rotate_left
      · rintro w' ⟨s0, s1, s2⟩
        go_simp
        with_reducible rfl
      rotate_left
      · simp only [Act.put, List.setIfInBounds_toArray, List.set_cons_zero, List.set_cons_succ]
        rfl
      refine take_ (i := 5) (N := some 84) (v := ?_) (a' := ?_) #[true, true, true, true, true, true, false, false, false, false, false, false, false] rfl rfl (by kernel_rfl) (fun _ _ _ h => h) (Or.inl ⟨by rfl, ?_⟩) hHeld ?_ ?_   -- move (%4)
      rotate_left
      · rintro w' ⟨s0, s1, s2⟩
        go_simp
        with_reducible rfl
      rotate_left
      · simp only [Act.put, List.setIfInBounds_toArray, List.set_cons_zero, List.set_cons_succ]
        rfl
      refine take_ (i := 6) (N := some 85) (v := ?_) (a' := ?_) #[true, true, true, true, true, true, true, false, false, false, false, false, false] rfl rfl (by kernel_rfl) (fun _ _ _ h => h) (Or.inl ⟨by rfl, ?_⟩) hHeld ?_ ?_   -- indexAddr 31 (%84) (const (int i64 0))
      rotate_left
      · rintro w' ⟨s0, s1, s2⟩
        go_simp
        with_reducible rfl
      rotate_left
      · simp only [Act.put, List.setIfInBounds_toArray, List.set_cons_zero, List.set_cons_succ]
        rfl
      refine take_ (i := 7) (N := some 86) (v := ?_) (a' := ?_) #[true, true, true, true, true, true, true, true, false, false, false, false, false] rfl rfl (by kernel_rfl) (fun _ _ _ h => h) (Or.inl ⟨by rfl, ?_⟩) hHeld ?_ ?_   -- load 46 (%85)
      rotate_left
      · rintro w' ⟨s0, s1, s2⟩
        go_simp
        with_reducible rfl
      rotate_left
      · simp only [Act.put, List.setIfInBounds_toArray, List.set_cons_zero, List.set_cons_succ]
        rfl
      refine one_ (i := 8) (N := some 87) #[true, true, true, true, true, true, true, true, true, false, false, false, false] rfl rfl (by kernel_rfl) (by decide) (fun K hK => ?_)
      refine value_ (by rfl) rfl (v := .slice (some ⟨w2.heap.size, 0, none⟩) 1 1) (w1 := w2.drew.alloc (.cells #[.int .i64 x] 46)) (by go_simp; first | done | rfl) ?_
      refine hK.out _ _ (hS _ ((old_alloc _ lp).trans H2.out.obj) (World.cell?_of_block (old_alloc _ lgf2))) (fun hHeld => ?_)
      refine norm_ (a' := ?_) ?_ ?_
      rotate_left
      · simp only [Act.put, List.setIfInBounds_toArray, List.set_cons_zero, List.set_cons_succ]
        rfl
      refine one_ (i := 9) (N := some 88) #[true, true, true, true, true, true, true, true, true, true, false, false, false] rfl rfl (by kernel_rfl) (by decide) (fun K hK => ?_)
      refine step_lit _ (by rfl) (N := some 88) (by rfl) _ _ (by rfl) vU _ (lits b.units) [.int .i64 x] (by rfl) (by rfl) (HUR.out.drew.alloc _) (Row.one _ _ _) (by simp [Value.oneCell']) (by simp; omega) ?_
      intro v1 w3 hr1 hk1 hat1
      obtain ⟨A3, c3, rfl, _, _⟩ := hr1.shape
      have hln : (lits b.units ++ [Value.int IntKind.i64 x]).length = b.units.length + 1 := by simp
      rw [hln] at hr1 hat1
      have hb1 : w3.heap[p]? = some (.cells #[vA, .map (some M), vU, .bool b.empty] 64 (0, 0)) := hk1.blk ((old_alloc _ lp).trans H2.out.obj) (fun e => hUp p e rfl)
      have hb2 : w3.cell? ⟨gf, of, none⟩ = w2.cell? ⟨gf, of, none⟩ := World.cell?_of_block ((hk1.block gf (by simp; omega) hUg).trans (old_alloc _ lgf2))
      refine hK.out _ _ (hS _ hb1 hb2) (fun hHeld => ?_)
      refine norm_ (a' := ?_) ?_ ?_
      rotate_left
      · simp only [Act.put, List.setIfInBounds_toArray, List.set_cons_zero, List.set_cons_succ]
        rfl
      have hc2 : w3.cell? ⟨p, 2, none⟩ = some vU := hHeld.1
      have hf2 : w3.frozen? ⟨p, 2, none⟩ = false := hHeld.2.1
      refine take_ (i := 10) (N := some 89) (v := ?_) (a' := ?_) #[true, true, true, true, true, true, true, true, true, true, true, false, false] rfl rfl (by kernel_rfl) (fun _ _ _ h => h) (Or.inl ⟨by rfl, ?_⟩) hHeld ?_ ?_   -- nilCheck (%79)
      rotate_left
      · rintro w' ⟨s0, s1, s2⟩
        go_simp
        with_reducible rfl
      rotate_left
      · simp only [Act.put, List.setIfInBounds_toArray, List.set_cons_zero, List.set_cons_succ]
        rfl
      refine take_ (i := 11) (N := some 90) (v := ?_) (a' := ?_) #[true, true, true, true, true, true, true, true, true, true, true, true, false] rfl rfl (by kernel_rfl) (fun _ _ _ h => h) (Or.inl ⟨by rfl, ?_⟩) hHeld ?_ ?_   -- fieldAddr 64 (%89) 2
      rotate_left
      · rintro w' ⟨s0, s1, s2⟩
        go_simp
        with_reducible rfl
      rotate_left
      · simp only [Act.put, List.setIfInBounds_toArray, List.set_cons_zero, List.set_cons_succ]
        rfl
      refine last_ (i := 12) (N := none) #[true, true, true, true, true, true, true, true, true, true, true, true, true] rfl rfl (by kernel_rfl) (by decide) (fun K hK => ?_)
      refine skip_ (by rfl) rfl (w1 := w3.setCell ⟨p, 2, none⟩ _) (by go_simp; first | done | rfl) ?_
      refine hK.out _ _ ?_
      refine done_ (by kernel_rfl) ?_
      simp only [Exit.inBlock, Exit.then]
      refine bodyPost_end (results_none rfl _ _ _) rfl ?_
      rw [HR.out]
      have hatF : ∀ j, (Value.slice A3 (b.units.length + 1) c3).ownBlock = some j → vU.ownBlock = some j ∨ ¬ F j := by
        intro j hj
        rcases hat1 with e | e
        · exact .inl (by rw [← e]; exact hj)
        · refine .inr fun hF => ?_
          have h7 := H2.out.old j hF
          rw [hj] at e
          injection e with e
          simp at e
          omega
      have hk3 : Keep (fun j => vU.ownBlock = some j) w2 w3 := (⟨rfl, rfl, rfl, by simp, fun q hq _ => old_alloc (w := w2) _ hq⟩ : Keep (fun _ => False) w2 (w2.drew.alloc (.cells #[.int .i64 x] 46))).trans hk1 (fun _ h => h.elim) (fun _ h => .inl h)
      have h3 := H2.out.unit (b.units ++ [x]) _ (by rw [show lits (b.units ++ [x]) = lits b.units ++ [.int .i64 x] from by simp [lits]]; exact hr1) hk3 hatF
      refine ⟨rfl, vA, _, hs, g, k, _, h3.1, (HK.out.trans h3.2 (fun _ h => h.elim) (fun _ h => .inl h)), fun j hj => ?_, by omega, fun h => h⟩
      rcases hj with hj | hj
      · exact .inl hj
      · rcases hatF j hj with e | e
        · exact .inl (HH.out.fU j e)
        · rcases hat1 with e2 | e2
          · exact .inl (HH.out.fU j (by rw [← e2]; exact hj))
          · right
            rw [hj] at e2
            injection e2 with e2
            have := HK.out.size
            simp at e2
            omega
    · have hr : addC b l = addM b (x :: y :: r) := by unfold addC; rw [if_neg hsb, hcl]
      have HBDX := Lib.hid (show (-1048576 ≤ x ∧ x ≤ 1048576) ∧ (-1048576 ≤ y ∧ y ≤ 1048576) from ⟨HBDL.out x (by rw [hcl]; simp), HBDL.out y (by rw [hcl]; simp)⟩)
      rw [hcl] at HN hsb' hlen hwf
      have HR := Lib.hid hr
      have HSB := Lib.hid hsb'
      have HL := Lib.hid hlen
      have HW := Lib.hid hwf
      have hw1 : (Lit.int .i64 x).wf = true := hwf x (by simp)
      have hw2 : (Lit.int .i64 y).wf = true := hwf y (by simp)
      have e0 : (((x :: y :: r).length : Int) == 0) = false := by simp; omega
      have e1 : (((x :: y :: r).length : Int) == 1) = false := by simp; omega
      have b1 : 0 < (x :: y :: r).length := by simp
      have b2 : 1 < (x :: y :: r).length := by simp
      generalize hF : x :: y :: r = f at *
      have HFE := Lib.hid hF
      clear hr hsb hsb' hlen hwf hcl hF
      go_enter Try.func32, Try.ntmps32
      go_wp2_with fail
      refine HN.out.mono ?_
      rintro e w1 ⟨v0, rfl, hrow, hnew, hb1⟩
      obtain ⟨A1, c1, rfl, hc1, hc2, hC⟩ := reads_of_row hrow
      obtain ⟨gf, of, cf, hvf, _, _, lgf, hcf, _⟩ := hrow.cells (by simpa using b1)
      injection hvf with ea _ ec
      subst ea ec
      obtain ⟨curf, hgf⟩ := hrow.typed gf rfl
      have HB1 := Lib.hid hb1
      have HS := Lib.hid (SaysNothing_calls _ c1 f w1 hC HL.out HW.out)
      have hx0 : w1.cell? ⟨gf, of, none⟩ = some (.int .i64 x) := (hcf 0 (by simpa using b1)).trans (by rw [← HFE.out]; rfl)
      have hy0 : w1.cell? ⟨gf, of + 1, none⟩ = some (.int .i64 y) := (hcf 1 (by simpa using b2)).trans (by rw [← HFE.out]; rfl)
      have hgn : w.heap.size ≤ gf := hnew gf rfl
      have HX0 := Lib.hid hx0
      have HY0 := Lib.hid hy0
      have HROW := Lib.hid hrow
      have HGF := Lib.hid hgf
      clear hrow hnew hb1 hC hc2 hcf hgf hx0 hy0
      obtain ⟨nf, hnf⟩ : ∃ n, n = f.length := ⟨_, rfl⟩
      simp only [← hnf] at hc1 e0 e1 b1 b2 HS ⊢
      have HNF := Lib.hid hnf
      clear hnf
      go_wp2_with fail
      refine HS.out.mono ?_
      rintro e w2 ⟨rfl, hb2⟩
      have hk0 : Keep (fun _ => False) w w2 := (Keep.ofBelow HB1.out).trans (Keep.ofBelow (F := fun _ => False) hb2) (fun _ h => h) (fun _ h => h.elim)
      have h2 := HH.out.keep hk0 (fun _ _ h => h)
      have hx1 : w2.cell? ⟨gf, of, none⟩ = some (.int .i64 x) := (hb2.cell (p := ⟨gf, of, none⟩) lgf).trans HX0.out
      have hx2 : w2.cell? ⟨gf, of + 1, none⟩ = some (.int .i64 y) := (hb2.cell (p := ⟨gf, of + 1, none⟩) lgf).trans HY0.out
      have HROW2 := Lib.hid (HROW.out.keep (Keep.ofBelow (F := fun _ => False) hb2) (fun _ _ h => h))
      obtain ⟨A5, c5, hv5, _, _⟩ := h2.rowA.shape
      rw [h2.len] at hv5
      subst hv5
      have H2 := Lib.hid h2
      have HK := Lib.hid hk0
      have lg1 : gf < w2.heap.size := Nat.lt_of_lt_of_le lgf hb2.size
      have ng1 : (hd g x).ownBlock ≠ some gf := fun e => by
        have := HH.out.old gf (HH.out.fb x gf e)
        omega
      have HLen1 := Lib.hid (show (b.by_ x).length < 1000000 from HX.out.1 x)
      clear h2 hb2 hk0
      rw [HSB.out]
      go_wp2_with fail
      have hS1 : ∀ W : World, W.heap[p]? = w2.heap[p]? → W.heap[gf]? = w2.heap[gf]? → W.heap[M]? = w2.heap[M]? →
          W.cell? ⟨p, 0, none⟩ = some (.slice A5 b.all.length c5) ∧ W.cell? ⟨p, 1, none⟩ = some (.map (some M)) ∧ W.cell? ⟨gf, of, none⟩ = some (.int .i64 x) ∧ (Instr.lookup 62 (.map (some M)) (.int .i64 x) false).run Try.prog W = .ok (hd g x) W ∧ True :=
        fun W q1 q2 q3 => ⟨(blk_cell (q1.trans H2.out.obj) 0).trans rfl, (blk_cell (q1.trans H2.out.obj) 1).trans rfl, (World.cell?_of_block q2).trans hx1, (H2.out.map.move q3).look keyed Try.underlying62 (zeroRow W) (keyOf_int_mk Try.underlying46 hw1), trivial⟩
      have lp1 := blk_lt H2.out.obj
      have lm1 := H2.out.map.lt
      have np1 : (hd g x).ownBlock ≠ some p := fun e => (H2.out.byNe e).1 rfl
      have nm1 : (hd g x).ownBlock ≠ some M := fun e => (H2.out.byNe e).2.1 rfl
      have HRow1 := Lib.hid (H2.out.by_ x)
      refine start_ (n := 23) (S := fun w' => w'.cell? ⟨p, 0, none⟩ = some (.slice A5 b.all.length c5) ∧ w'.cell? ⟨p, 1, none⟩ = some (.map (some M)) ∧ w'.cell? ⟨gf, of, none⟩ = some (.int .i64 x) ∧ (Instr.lookup 62 (.map (some M)) (.int .i64 x) false).run Try.prog w' = .ok (hd g x) w' ∧ True) (ds := [22]) #[false, false, false, false, false, false, false, false, false, false, false, false, false, false, false, false, false, false, false, false, false, false, false] (by kernel_rfl) rfl rfl (hS1 _ rfl rfl rfl) (fun hHeld => ?_)
      refine take_ (i := 0) (N := some 11) (v := ?_) (a' := ?_) #[true, false, false, false, false, false, false, false, false, false, false, false, false, false, false, false, false, false, false, false, false, false, false] rfl rfl (by kernel_rfl) (fun _ _ _ h => h) (Or.inl ⟨by rfl, ?_⟩) hHeld ?_ ?_   -- move (%0)
      rotate_left
      · rintro w' ⟨s0, s1, s2, s3, s4⟩
        go_simp
        with_reducible rfl
      rotate_left
      · simp only [Act.put, List.setIfInBounds_toArray, List.set_cons_zero, List.set_cons_succ]
        rfl
      refine take_ (i := 1) (N := some 12) (v := ?_) (a' := ?_) #[true, true, false, false, false, false, false, false, false, false, false, false, false, false, false, false, false, false, false, false, false, false, false] rfl rfl (by kernel_rfl) (fun _ _ _ h => h) (Or.inl ⟨by rfl, ?_⟩) hHeld ?_ ?_   -- nilCheck (%11)
      rotate_left
      · rintro w' ⟨s0, s1, s2, s3, s4⟩
        go_simp
        with_reducible rfl
      rotate_left
      · simp only [Act.put, List.setIfInBounds_toArray, List.set_cons_zero, List.set_cons_succ]
        rfl
      refine take_ (i := 2) (N := some 13) (v := ?_) (a' := ?_) #[true, true, true, false, false, false, false, false, false, false, false, false, false, false, false, false, false, false, false, false, false, false, false] rfl rfl (by kernel_rfl) (fun _ _ _ h => h) (Or.inl ⟨by rfl, ?_⟩) hHeld ?_ ?_   -- fieldAddr 64 (%12) 1
      rotate_left
      · rintro w' ⟨s0, s1, s2, s3, s4⟩
        go_simp
        with_reducible rfl
      rotate_left
      · simp only [Act.put, List.setIfInBounds_toArray, List.set_cons_zero, List.set_cons_succ]
        rfl
      refine take_ (i := 3) (N := some 14) (v := ?_) (a' := ?_) #[true, true, true, true, false, false, false, false, false, false, false, false, false, false, false, false, false, false, false, false, false, false, false] rfl rfl (by kernel_rfl) (fun _ _ _ h => h) (Or.inl ⟨by rfl, ?_⟩) hHeld ?_ ?_   -- load 62 (%13)
      rotate_left
      · rintro w' ⟨s0, s1, s2, s3, s4⟩
        go_simp
        with_reducible rfl
      rotate_left
      · simp only [Act.put, List.setIfInBounds_toArray, List.set_cons_zero, List.set_cons_succ]
        rfl
      refine take_ (i := 4) (N := some 15) (v := ?_) (a' := ?_) #[true, true, true, true, true, false, false, false, false, false, false, false, false, false, false, false, false, false, false, false, false, false, false] rfl rfl (by kernel_rfl) (fun _ _ _ h => h) (Or.inl ⟨by rfl, ?_⟩) hHeld ?_ ?_   -- move (%4)
      rotate_left
      · rintro w' ⟨s0, s1, s2, s3, s4⟩
        go_simp
        with_reducible rfl
      rotate_left
      · simp only [Act.put, List.setIfInBounds_toArray, List.set_cons_zero, List.set_cons_succ]
        rfl
      refine take_ (i := 5) (N := some 16) (v := ?_) (a' := ?_) #[true, true, true, true, true, true, false, false, false, false, false, false, false, false, false, false, false, false, false, false, false, false, false] rfl rfl (by kernel_rfl) (fun _ _ _ h => h) (Or.inl ⟨by rfl, ?_⟩) hHeld ?_ ?_   -- indexAddr 31 (%15) (const (int i64 0))
      rotate_left
      · rintro w' ⟨s0, s1, s2, s3, s4⟩
        go_simp
        with_reducible rfl
      rotate_left
      · simp only [Act.put, List.setIfInBounds_toArray, List.set_cons_zero, List.set_cons_succ]
        rfl
      refine take_ (i := 6) (N := some 17) (v := ?_) (a' := ?_) #[true, true, true, true, true, true, true, false, false, false, false, false, false, false, false, false, false, false, false, false, false, false, false] rfl rfl (by kernel_rfl) (fun _ _ _ h => h) (Or.inl ⟨by rfl, ?_⟩) hHeld ?_ ?_   -- load 46 (%16)
      rotate_left
      · rintro w' ⟨s0, s1, s2, s3, s4⟩
        go_simp
        with_reducible rfl
      rotate_left
      · simp only [Act.put, List.setIfInBounds_toArray, List.set_cons_zero, List.set_cons_succ]
        rfl
      refine take_ (i := 7) (N := some 18) (v := ?_) (a' := ?_) #[true, true, true, true, true, true, true, true, false, false, false, false, false, false, false, false, false, false, false, false, false, false, false] rfl rfl (by kernel_rfl) (fun _ _ _ h => h) (Or.inl ⟨by rfl, ?_⟩) hHeld ?_ ?_   -- move (%0)
      rotate_left
      · rintro w' ⟨s0, s1, s2, s3, s4⟩
        go_simp
        with_reducible rfl
      rotate_left
      · simp only [Act.put, List.setIfInBounds_toArray, List.set_cons_zero, List.set_cons_succ]
        rfl
      refine take_ (i := 8) (N := some 19) (v := ?_) (a' := ?_) #[true, true, true, true, true, true, true, true, true, false, false, false, false, false, false, false, false, false, false, false, false, false, false] rfl rfl (by kernel_rfl) (fun _ _ _ h => h) (Or.inl ⟨by rfl, ?_⟩) hHeld ?_ ?_   -- nilCheck (%18)
      rotate_left
      · rintro w' ⟨s0, s1, s2, s3, s4⟩
        go_simp
        with_reducible rfl
      rotate_left
      · simp only [Act.put, List.setIfInBounds_toArray, List.set_cons_zero, List.set_cons_succ]
        rfl
      refine take_ (i := 9) (N := some 20) (v := ?_) (a' := ?_) #[true, true, true, true, true, true, true, true, true, true, false, false, false, false, false, false, false, false, false, false, false, false, false] rfl rfl (by kernel_rfl) (fun _ _ _ h => h) (Or.inl ⟨by rfl, ?_⟩) hHeld ?_ ?_   -- fieldAddr 64 (%19) 1
      rotate_left
      · rintro w' ⟨s0, s1, s2, s3, s4⟩
        go_simp
        with_reducible rfl
      rotate_left
      · simp only [Act.put, List.setIfInBounds_toArray, List.set_cons_zero, List.set_cons_succ]
        rfl
      refine take_ (i := 10) (N := some 21) (v := ?_) (a' := ?_) #[true, true, true, true, true, true, true, true, true, true, true, false, false, false, false, false, false, false, false, false, false, false, false] rfl rfl (by kernel_rfl) (fun _ _ _ h => h) (Or.inl ⟨by rfl, ?_⟩) hHeld ?_ ?_   -- load 62 (%20)
      rotate_left
      · rintro w' ⟨s0, s1, s2, s3, s4⟩
        go_simp
        with_reducible rfl
      rotate_left
      · simp only [Act.put, List.setIfInBounds_toArray, List.set_cons_zero, List.set_cons_succ]
        rfl
      refine take_ (i := 11) (N := some 22) (v := ?_) (a' := ?_) #[true, true, true, true, true, true, true, true, true, true, true, true, false, false, false, false, false, false, false, false, false, false, false] rfl rfl (by kernel_rfl) (fun _ _ _ h => h) (Or.inl ⟨by rfl, ?_⟩) hHeld ?_ ?_   -- move (%4)
      rotate_left
      · rintro w' ⟨s0, s1, s2, s3, s4⟩
        go_simp
        with_reducible rfl
      rotate_left
      · simp only [Act.put, List.setIfInBounds_toArray, List.set_cons_zero, List.set_cons_succ]
        rfl
      refine take_ (i := 12) (N := some 23) (v := ?_) (a' := ?_) #[true, true, true, true, true, true, true, true, true, true, true, true, true, false, false, false, false, false, false, false, false, false, false] rfl rfl (by kernel_rfl) (fun _ _ _ h => h) (Or.inl ⟨by rfl, ?_⟩) hHeld ?_ ?_   -- indexAddr 31 (%22) (const (int i64 0))
      rotate_left
      · rintro w' ⟨s0, s1, s2, s3, s4⟩
        go_simp
        with_reducible rfl
      rotate_left
      · simp only [Act.put, List.setIfInBounds_toArray, List.set_cons_zero, List.set_cons_succ]
        rfl
      refine take_ (i := 13) (N := some 24) (v := ?_) (a' := ?_) #[true, true, true, true, true, true, true, true, true, true, true, true, true, true, false, false, false, false, false, false, false, false, false] rfl rfl (by kernel_rfl) (fun _ _ _ h => h) (Or.inl ⟨by rfl, ?_⟩) hHeld ?_ ?_   -- load 46 (%23)
      rotate_left
      · rintro w' ⟨s0, s1, s2, s3, s4⟩
        go_simp
        with_reducible rfl
      rotate_left
      · simp only [Act.put, List.setIfInBounds_toArray, List.set_cons_zero, List.set_cons_succ]
        rfl
      refine take_ (i := 14) (N := some 25) (v := ?_) (a' := ?_) #[true, true, true, true, true, true, true, true, true, true, true, true, true, true, true, false, false, false, false, false, false, false, false] rfl rfl (by kernel_rfl) (fun _ _ _ h => h) (Or.inl ⟨by rfl, ?_⟩) hHeld ?_ ?_   -- lookup 62 (%21) (%24) false
      rotate_left
      · rintro w' ⟨s0, s1, s2, s3, s4⟩
        go_simp
        with_reducible rfl
      rotate_left
      · simp only [Act.put, List.setIfInBounds_toArray, List.set_cons_zero, List.set_cons_succ]
        rfl
      refine take_ (i := 15) (N := some 26) (v := ?_) (a' := ?_) #[true, true, true, true, true, true, true, true, true, true, true, true, true, true, true, true, false, false, false, false, false, false, false] rfl rfl (by kernel_rfl) (fun _ _ _ h => h) (Or.inl ⟨by rfl, ?_⟩) hHeld ?_ ?_   -- move (%0)
      rotate_left
      · rintro w' ⟨s0, s1, s2, s3, s4⟩
        go_simp
        with_reducible rfl
      rotate_left
      · simp only [Act.put, List.setIfInBounds_toArray, List.set_cons_zero, List.set_cons_succ]
        rfl
      refine take_ (i := 16) (N := some 27) (v := ?_) (a' := ?_) #[true, true, true, true, true, true, true, true, true, true, true, true, true, true, true, true, true, false, false, false, false, false, false] rfl rfl (by kernel_rfl) (fun _ _ _ h => h) (Or.inl ⟨by rfl, ?_⟩) hHeld ?_ ?_   -- nilCheck (%26)
      rotate_left
      · rintro w' ⟨s0, s1, s2, s3, s4⟩
        go_simp
        with_reducible rfl
      rotate_left
      · simp only [Act.put, List.setIfInBounds_toArray, List.set_cons_zero, List.set_cons_succ]
        rfl
      refine take_ (i := 17) (N := some 28) (v := ?_) (a' := ?_) #[true, true, true, true, true, true, true, true, true, true, true, true, true, true, true, true, true, true, false, false, false, false, false] rfl rfl (by kernel_rfl) (fun _ _ _ h => h) (Or.inl ⟨by rfl, ?_⟩) hHeld ?_ ?_   -- fieldAddr 64 (%27) 0
      rotate_left
      · rintro w' ⟨s0, s1, s2, s3, s4⟩
        go_simp
        with_reducible rfl
      rotate_left
      · simp only [Act.put, List.setIfInBounds_toArray, List.set_cons_zero, List.set_cons_succ]
        rfl
      refine take_ (i := 18) (N := some 29) (v := ?_) (a' := ?_) #[true, true, true, true, true, true, true, true, true, true, true, true, true, true, true, true, true, true, true, false, false, false, false] rfl rfl (by kernel_rfl) (fun _ _ _ h => h) (Or.inl ⟨by rfl, ?_⟩) hHeld ?_ ?_   -- load 22 (%28)
      rotate_left
      · rintro w' ⟨s0, s1, s2, s3, s4⟩
        go_simp
        with_reducible rfl
      rotate_left
      · simp only [Act.put, List.setIfInBounds_toArray, List.set_cons_zero, List.set_cons_succ]
        rfl
      refine take_ (i := 19) (N := some 30) (v := ?_) (a' := ?_) #[true, true, true, true, true, true, true, true, true, true, true, true, true, true, true, true, true, true, true, true, false, false, false] rfl rfl (by kernel_rfl) (fun _ _ _ h => h) (Or.inl ⟨by rfl, ?_⟩) hHeld ?_ ?_   -- call { callee := builtin len, args := #[%29], argTypes := #[
      rotate_left
      · rintro w' ⟨s0, s1, s2, s3, s4⟩
        go_simp
        with_reducible rfl
      rotate_left
      · simp only [Act.put, List.setIfInBounds_toArray, List.set_cons_zero, List.set_cons_succ]
        rfl
      refine one_ (i := 20) (N := some 31) #[true, true, true, true, true, true, true, true, true, true, true, true, true, true, true, true, true, true, true, true, true, false, false] rfl rfl (by kernel_rfl) (by decide) (fun K hK => ?_)
      refine value_ (by rfl) rfl (v := .slice (some ⟨w2.heap.size, 0, none⟩) 1 1) (w1 := w2.drew.alloc (.cells #[.int .i64 b.all.length] 3)) (by go_simp; first | done | rfl) ?_
      refine hK.out _ _ (hS1 _ (old_alloc _ lp1) (old_alloc _ lg1) (old_alloc _ lm1)) (fun hHeld => ?_)
      refine norm_ (a' := ?_) ?_ ?_
      rotate_left
      · simp only [Act.put, List.setIfInBounds_toArray, List.set_cons_zero, List.set_cons_succ]
        rfl
      refine one_ (i := 21) (N := some 32) #[true, true, true, true, true, true, true, true, true, true, true, true, true, true, true, true, true, true, true, true, true, true, false] rfl rfl (by kernel_rfl) (by decide) (fun K hK => ?_)
      refine step_int _ (by rfl) (N := some 32) (by rfl) _ _ (by rfl) (hd g x) _ (lits (b.by_ x)) [.int .i64 b.all.length] (by rfl) (by rfl) (HRow1.out.drew.alloc _) (Row.one _ _ _) (by simp [Value.oneCell']) (by have := HLen1.out; simp; omega) ?_
      intro v1 w3 hr1 hk1 hat1
      have hfar1 : ∀ j, j < w2.heap.size → (hd g x).ownBlock ≠ some j → w3.heap[j]? = w2.heap[j]? := fun j hj hne => (hk1.block j (by simp; omega) hne).trans (old_alloc _ hj)
      refine hK.out _ _ (hS1 _ (hfar1 _ lp1 np1) (hfar1 _ lg1 ng1) (hfar1 _ lm1 nm1)) (fun hHeld => ?_)
      have hrun1 := ((H2.out.map.move (hfar1 _ lm1 nm1)).put_run keyed Try.underlying62 (by omega) (keyOf_int_mk Try.underlying46 hw1) v1)
      refine norm_ (a' := ?_) ?_ ?_
      rotate_left
      · simp only [Act.put, List.setIfInBounds_toArray, List.set_cons_zero, List.set_cons_succ]
        rfl
      refine last_ (i := 22) (N := none) #[true, true, true, true, true, true, true, true, true, true, true, true, true, true, true, true, true, true, true, true, true, true, true] rfl rfl (by kernel_rfl) (by decide) (fun K hK => ?_)
      refine skip_ (by rfl) rfl (w1 := putB M x v1 w3) (by go_simp; first | done | (rw [hrun1.1]; first | done | rfl)) ?_
      refine hK.out _ _ ?_
      refine done_ (by kernel_rfl) ?_
      have hk13 : Keep (fun j => (hd g x).ownBlock = some j) w2 w3 := (⟨rfl, rfl, rfl, by simp, fun q hq _ => old_alloc (w := w2) _ hq⟩ : Keep (fun _ => False) w2 (w2.drew.alloc (.cells #[.int .i64 b.all.length] 3))).trans hk1 (fun _ h => h.elim) (fun _ h => .inl h)
      have hatF1 : ∀ j, v1.ownBlock = some j → (hd g x).ownBlock = some j ∨ ¬ F j := by
        intro j hj
        rcases hat1 with e | e
        · exact .inl (by rw [← e]; exact hj)
        · refine .inr fun hF => ?_
          have h7 := H2.out.old j hF
          rw [hj] at e
          injection e with e
          simp at e
          omega
      have hp1 := H2.out.push x (b.by_ x ++ [(b.all.length : Int)]) v1 (by rw [show lits (b.by_ x ++ [(b.all.length : Int)]) = lits (b.by_ x) ++ [.int .i64 b.all.length] from by simp [lits]]; exact hr1) hk13 hatF1 hrun1.2.1 hrun1.2.2
      have b2i : (1 : Int) < (nf : Int) := by omega
      have hgfF : ¬ F gf := fun hF => by have := HH.out.old gf hF; omega
      have hgf2 : ∃ cur, w2.heap[gf]? = some (.cells cur 46 (0, 0)) := HROW2.out.typed gf rfl
      obtain ⟨curf2, hgf2⟩ := hgf2
      unfold putB
      generalize hP1 : putW Try.prog 62 w3 M (.int .i64 x) v1 = P1 at hp1 ⊢
      obtain ⟨g1, hg1⟩ : ∃ g1, g1 = VM.upd g (.int .i64 x) v1 := ⟨_, rfl⟩
      obtain ⟨b1, hb1e⟩ : ∃ b1 : RB, b1 = { b with by_ := updI b.by_ x (b.by_ x ++ [(b.all.length : Int)]) } := ⟨_, rfl⟩
      obtain ⟨F1, hF1⟩ : ∃ F1 : Nat → Prop, F1 = fun j => F j ∨ v1.ownBlock = some j := ⟨_, rfl⟩
      rw [← hg1, ← hb1e, ← hF1] at hp1
      have hP1g : P1.heap[gf]? = w2.heap[gf]? := hp1.2.block gf lg1 hgfF
      have hx2' : P1.cell? ⟨gf, of + 1, none⟩ = some (.int .i64 y) := (World.cell?_of_block hP1g).trans hx2
      have hgnF1 : ¬ F1 gf := by
        rw [hF1]
        rintro (h1 | h1)
        · exact hgfF h1
        · obtain ⟨cur, hc⟩ := hr1.typed gf h1
          rw [hfar1 gf lg1 ng1, hgf2] at hc
          simp at hc
      have HGN := Lib.hid hgnF1
      clear hgnF1
      have hF1old : ∀ j, F1 j → F j ∨ w.heap.size ≤ j := by
        intro j hj
        rw [hF1] at hj
        rcases hj with h1 | h1
        · exact .inl h1
        · rcases hatF1 j h1 with h2 | h2
          · exact .inl (HH.out.fb x j h2)
          · rcases hat1 with h3 | h3
            · exact .inl (HH.out.fb x j (by rw [← h3]; exact h1))
            · right
              rw [h1] at h3
              injection h3 with h3
              have := HK.out.size
              simp at h3
              omega
      have H3 := Lib.hid hp1.1
      have HG1E := Lib.hid hg1
      have HK3 := Lib.hid hp1.2
      have HB1E := Lib.hid hb1e
      have HF1 := Lib.hid hF1old
      have HG1 := Lib.hid hgf2
      have HP1g := Lib.hid hP1g
      have HLen2 := Lib.hid (show (b1.by_ y).length < 1000001 by
        rw [hb1e]
        show (updI b.by_ x _ y).length < _
        unfold updI
        split
        · have := HX.out.1 x; simp; omega
        · have := HX.out.1 y; omega)
      have lg2 : gf < P1.heap.size := Nat.lt_of_lt_of_le lg1 hp1.2.size
      have ng2 : (hd g1 y).ownBlock ≠ some gf := fun e => by
        obtain ⟨cur, hc⟩ := (hp1.1.by_ y).typed gf e
        rw [hP1g, hgf2] at hc
        simp at hc
      have hx2 := hx2'
      clear hp1 hx2' hF1old hb1e hF1 hg1 hatF1 hk13 hrun1 hfar1 hk1 hr1 hat1 hP1 hgfF hgf2 hP1g hHeld hS1 HRow1
      go_wp2_with fail
      have hS2 : ∀ W : World, W.heap[p]? = P1.heap[p]? → W.heap[gf]? = P1.heap[gf]? → W.heap[M]? = P1.heap[M]? →
          W.cell? ⟨p, 0, none⟩ = some (.slice A5 b.all.length c5) ∧ W.cell? ⟨p, 1, none⟩ = some (.map (some M)) ∧ W.cell? ⟨gf, of + 1, none⟩ = some (.int .i64 y) ∧ (Instr.lookup 62 (.map (some M)) (.int .i64 y) false).run Try.prog W = .ok (hd g1 y) W ∧ True :=
        fun W q1 q2 q3 => ⟨(blk_cell (q1.trans H3.out.obj) 0).trans rfl, (blk_cell (q1.trans H3.out.obj) 1).trans rfl, (World.cell?_of_block q2).trans hx2, (H3.out.map.move q3).look keyed Try.underlying62 (zeroRow W) (keyOf_int_mk Try.underlying46 hw2), trivial⟩
      have lp2 := blk_lt H3.out.obj
      have lm2 := H3.out.map.lt
      have np2 : (hd g1 y).ownBlock ≠ some p := fun e => (H3.out.byNe e).1 rfl
      have nm2 : (hd g1 y).ownBlock ≠ some M := fun e => (H3.out.byNe e).2.1 rfl
      have HRow2 := Lib.hid (H3.out.by_ y)
      refine start_ (n := 23) (S := fun w' => w'.cell? ⟨p, 0, none⟩ = some (.slice A5 b.all.length c5) ∧ w'.cell? ⟨p, 1, none⟩ = some (.map (some M)) ∧ w'.cell? ⟨gf, of + 1, none⟩ = some (.int .i64 y) ∧ (Instr.lookup 62 (.map (some M)) (.int .i64 y) false).run Try.prog w' = .ok (hd g1 y) w' ∧ True) (ds := [22]) #[false, false, false, false, false, false, false, false, false, false, false, false, false, false, false, false, false, false, false, false, false, false, false] (by kernel_rfl) rfl rfl (hS2 _ rfl rfl rfl) (fun hHeld => ?_)
      refine take_ (i := 0) (N := some 33) (v := ?_) (a' := ?_) #[true, false, false, false, false, false, false, false, false, false, false, false, false, false, false, false, false, false, false, false, false, false, false] rfl rfl (by kernel_rfl) (fun _ _ _ h => h) (Or.inl ⟨by rfl, ?_⟩) hHeld ?_ ?_   -- move (%0)
      rotate_left
      · rintro w' ⟨s0, s1, s2, s3, s4⟩
        go_simp
        with_reducible rfl
      rotate_left
      · simp only [Act.put, List.setIfInBounds_toArray, List.set_cons_zero, List.set_cons_succ]
        rfl
      refine take_ (i := 1) (N := some 34) (v := ?_) (a' := ?_) #[true, true, false, false, false, false, false, false, false, false, false, false, false, false, false, false, false, false, false, false, false, false, false] rfl rfl (by kernel_rfl) (fun _ _ _ h => h) (Or.inl ⟨by rfl, ?_⟩) hHeld ?_ ?_   -- nilCheck (%33)
      rotate_left
      · rintro w' ⟨s0, s1, s2, s3, s4⟩
        go_simp
        with_reducible rfl
      rotate_left
      · simp only [Act.put, List.setIfInBounds_toArray, List.set_cons_zero, List.set_cons_succ]
        rfl
      refine take_ (i := 2) (N := some 35) (v := ?_) (a' := ?_) #[true, true, true, false, false, false, false, false, false, false, false, false, false, false, false, false, false, false, false, false, false, false, false] rfl rfl (by kernel_rfl) (fun _ _ _ h => h) (Or.inl ⟨by rfl, ?_⟩) hHeld ?_ ?_   -- fieldAddr 64 (%34) 1
      rotate_left
      · rintro w' ⟨s0, s1, s2, s3, s4⟩
        go_simp
        with_reducible rfl
      rotate_left
      · simp only [Act.put, List.setIfInBounds_toArray, List.set_cons_zero, List.set_cons_succ]
        rfl
      refine take_ (i := 3) (N := some 36) (v := ?_) (a' := ?_) #[true, true, true, true, false, false, false, false, false, false, false, false, false, false, false, false, false, false, false, false, false, false, false] rfl rfl (by kernel_rfl) (fun _ _ _ h => h) (Or.inl ⟨by rfl, ?_⟩) hHeld ?_ ?_   -- load 62 (%35)
      rotate_left
      · rintro w' ⟨s0, s1, s2, s3, s4⟩
        go_simp
        with_reducible rfl
      rotate_left
      · simp only [Act.put, List.setIfInBounds_toArray, List.set_cons_zero, List.set_cons_succ]
        rfl
      refine take_ (i := 4) (N := some 37) (v := ?_) (a' := ?_) #[true, true, true, true, true, false, false, false, false, false, false, false, false, false, false, false, false, false, false, false, false, false, false] rfl rfl (by kernel_rfl) (fun _ _ _ h => h) (Or.inl ⟨by rfl, ?_⟩) hHeld ?_ ?_   -- move (%4)
      rotate_left
      · rintro w' ⟨s0, s1, s2, s3, s4⟩
        go_simp
        with_reducible rfl
      rotate_left
      · simp only [Act.put, List.setIfInBounds_toArray, List.set_cons_zero, List.set_cons_succ]
        rfl
      refine take_ (i := 5) (N := some 38) (v := ?_) (a' := ?_) #[true, true, true, true, true, true, false, false, false, false, false, false, false, false, false, false, false, false, false, false, false, false, false] rfl rfl (by kernel_rfl) (fun _ _ _ h => h) (Or.inl ⟨by rfl, ?_⟩) hHeld ?_ ?_   -- indexAddr 31 (%37) (const (int i64 1))
      rotate_left
      · rintro w' ⟨s0, s1, s2, s3, s4⟩
        go_simp
        with_reducible rfl
      rotate_left
      · simp only [Act.put, List.setIfInBounds_toArray, List.set_cons_zero, List.set_cons_succ]
        rfl
      refine take_ (i := 6) (N := some 39) (v := ?_) (a' := ?_) #[true, true, true, true, true, true, true, false, false, false, false, false, false, false, false, false, false, false, false, false, false, false, false] rfl rfl (by kernel_rfl) (fun _ _ _ h => h) (Or.inl ⟨by rfl, ?_⟩) hHeld ?_ ?_   -- load 46 (%38)
      rotate_left
      · rintro w' ⟨s0, s1, s2, s3, s4⟩
        go_simp
        with_reducible rfl
      rotate_left
      · simp only [Act.put, List.setIfInBounds_toArray, List.set_cons_zero, List.set_cons_succ]
        rfl
      refine take_ (i := 7) (N := some 40) (v := ?_) (a' := ?_) #[true, true, true, true, true, true, true, true, false, false, false, false, false, false, false, false, false, false, false, false, false, false, false] rfl rfl (by kernel_rfl) (fun _ _ _ h => h) (Or.inl ⟨by rfl, ?_⟩) hHeld ?_ ?_   -- move (%0)
      rotate_left
      · rintro w' ⟨s0, s1, s2, s3, s4⟩
        go_simp
        with_reducible rfl
      rotate_left
      · simp only [Act.put, List.setIfInBounds_toArray, List.set_cons_zero, List.set_cons_succ]
        rfl
      refine take_ (i := 8) (N := some 41) (v := ?_) (a' := ?_) #[true, true, true, true, true, true, true, true, true, false, false, false, false, false, false, false, false, false, false, false, false, false, false] rfl rfl (by kernel_rfl) (fun _ _ _ h => h) (Or.inl ⟨by rfl, ?_⟩) hHeld ?_ ?_   -- nilCheck (%40)
      rotate_left
      · rintro w' ⟨s0, s1, s2, s3, s4⟩
        go_simp
        with_reducible rfl
      rotate_left
      · simp only [Act.put, List.setIfInBounds_toArray, List.set_cons_zero, List.set_cons_succ]
        rfl
      refine take_ (i := 9) (N := some 42) (v := ?_) (a' := ?_) #[true, true, true, true, true, true, true, true, true, true, false, false, false, false, false, false, false, false, false, false, false, false, false] rfl rfl (by kernel_rfl) (fun _ _ _ h => h) (Or.inl ⟨by rfl, ?_⟩) hHeld ?_ ?_   -- fieldAddr 64 (%41) 1
      rotate_left
      · rintro w' ⟨s0, s1, s2, s3, s4⟩
        go_simp
        with_reducible rfl
      rotate_left
      · simp only [Act.put, List.setIfInBounds_toArray, List.set_cons_zero, List.set_cons_succ]
        rfl
      refine take_ (i := 10) (N := some 43) (v := ?_) (a' := ?_) #[true, true, true, true, true, true, true, true, true, true, true, false, false, false, false, false, false, false, false, false, false, false, false] rfl rfl (by kernel_rfl) (fun _ _ _ h => h) (Or.inl ⟨by rfl, ?_⟩) hHeld ?_ ?_   -- load 62 (%42)
      rotate_left
      · rintro w' ⟨s0, s1, s2, s3, s4⟩
        go_simp
        with_reducible rfl
      rotate_left
      · simp only [Act.put, List.setIfInBounds_toArray, List.set_cons_zero, List.set_cons_succ]
        rfl
      refine take_ (i := 11) (N := some 44) (v := ?_) (a' := ?_) #[true, true, true, true, true, true, true, true, true, true, true, true, false, false, false, false, false, false, false, false, false, false, false] rfl rfl (by kernel_rfl) (fun _ _ _ h => h) (Or.inl ⟨by rfl, ?_⟩) hHeld ?_ ?_   -- move (%4)
      rotate_left
      · rintro w' ⟨s0, s1, s2, s3, s4⟩
        go_simp
        with_reducible rfl
      rotate_left
      · simp only [Act.put, List.setIfInBounds_toArray, List.set_cons_zero, List.set_cons_succ]
        rfl
      refine take_ (i := 12) (N := some 45) (v := ?_) (a' := ?_) #[true, true, true, true, true, true, true, true, true, true, true, true, true, false, false, false, false, false, false, false, false, false, false] rfl rfl (by kernel_rfl) (fun _ _ _ h => h) (Or.inl ⟨by rfl, ?_⟩) hHeld ?_ ?_   -- indexAddr 31 (%44) (const (int i64 1))
      rotate_left
      · rintro w' ⟨s0, s1, s2, s3, s4⟩
        go_simp
        with_reducible rfl
      rotate_left
      · simp only [Act.put, List.setIfInBounds_toArray, List.set_cons_zero, List.set_cons_succ]
        rfl
      refine take_ (i := 13) (N := some 46) (v := ?_) (a' := ?_) #[true, true, true, true, true, true, true, true, true, true, true, true, true, true, false, false, false, false, false, false, false, false, false] rfl rfl (by kernel_rfl) (fun _ _ _ h => h) (Or.inl ⟨by rfl, ?_⟩) hHeld ?_ ?_   -- load 46 (%45)
      rotate_left
      · rintro w' ⟨s0, s1, s2, s3, s4⟩
        go_simp
        with_reducible rfl
      rotate_left
      · simp only [Act.put, List.setIfInBounds_toArray, List.set_cons_zero, List.set_cons_succ]
        rfl
      refine take_ (i := 14) (N := some 47) (v := ?_) (a' := ?_) #[true, true, true, true, true, true, true, true, true, true, true, true, true, true, true, false, false, false, false, false, false, false, false] rfl rfl (by kernel_rfl) (fun _ _ _ h => h) (Or.inl ⟨by rfl, ?_⟩) hHeld ?_ ?_   -- lookup 62 (%43) (%46) false
      rotate_left
      · rintro w' ⟨s0, s1, s2, s3, s4⟩
        go_simp
        with_reducible rfl
      rotate_left
      · simp only [Act.put, List.setIfInBounds_toArray, List.set_cons_zero, List.set_cons_succ]
        rfl
      refine take_ (i := 15) (N := some 48) (v := ?_) (a' := ?_) #[true, true, true, true, true, true, true, true, true, true, true, true, true, true, true, true, false, false, false, false, false, false, false] rfl rfl (by kernel_rfl) (fun _ _ _ h => h) (Or.inl ⟨by rfl, ?_⟩) hHeld ?_ ?_   -- move (%0)
      rotate_left
      · rintro w' ⟨s0, s1, s2, s3, s4⟩
        go_simp
        with_reducible rfl
      rotate_left
      · simp only [Act.put, List.setIfInBounds_toArray, List.set_cons_zero, List.set_cons_succ]
        rfl
      refine take_ (i := 16) (N := some 49) (v := ?_) (a' := ?_) #[true, true, true, true, true, true, true, true, true, true, true, true, true, true, true, true, true, false, false, false, false, false, false] rfl rfl (by kernel_rfl) (fun _ _ _ h => h) (Or.inl ⟨by rfl, ?_⟩) hHeld ?_ ?_   -- nilCheck (%48)
      rotate_left
      · rintro w' ⟨s0, s1, s2, s3, s4⟩
        go_simp
        with_reducible rfl
      rotate_left
      · simp only [Act.put, List.setIfInBounds_toArray, List.set_cons_zero, List.set_cons_succ]
        rfl
      refine take_ (i := 17) (N := some 50) (v := ?_) (a' := ?_) #[true, true, true, true, true, true, true, true, true, true, true, true, true, true, true, true, true, true, false, false, false, false, false] rfl rfl (by kernel_rfl) (fun _ _ _ h => h) (Or.inl ⟨by rfl, ?_⟩) hHeld ?_ ?_   -- fieldAddr 64 (%49) 0
      rotate_left
      · rintro w' ⟨s0, s1, s2, s3, s4⟩
        go_simp
        with_reducible rfl
      rotate_left
      · simp only [Act.put, List.setIfInBounds_toArray, List.set_cons_zero, List.set_cons_succ]
        rfl
      refine take_ (i := 18) (N := some 51) (v := ?_) (a' := ?_) #[true, true, true, true, true, true, true, true, true, true, true, true, true, true, true, true, true, true, true, false, false, false, false] rfl rfl (by kernel_rfl) (fun _ _ _ h => h) (Or.inl ⟨by rfl, ?_⟩) hHeld ?_ ?_   -- load 22 (%50)
      rotate_left
      · rintro w' ⟨s0, s1, s2, s3, s4⟩
        go_simp
        with_reducible rfl
      rotate_left
      · simp only [Act.put, List.setIfInBounds_toArray, List.set_cons_zero, List.set_cons_succ]
        rfl
      refine take_ (i := 19) (N := some 52) (v := ?_) (a' := ?_) #[true, true, true, true, true, true, true, true, true, true, true, true, true, true, true, true, true, true, true, true, false, false, false] rfl rfl (by kernel_rfl) (fun _ _ _ h => h) (Or.inl ⟨by rfl, ?_⟩) hHeld ?_ ?_   -- call { callee := builtin len, args := #[%51], argTypes := #[
      rotate_left
      · rintro w' ⟨s0, s1, s2, s3, s4⟩
        go_simp
        with_reducible rfl
      rotate_left
      · simp only [Act.put, List.setIfInBounds_toArray, List.set_cons_zero, List.set_cons_succ]
        rfl
      refine one_ (i := 20) (N := some 53) #[true, true, true, true, true, true, true, true, true, true, true, true, true, true, true, true, true, true, true, true, true, false, false] rfl rfl (by kernel_rfl) (by decide) (fun K hK => ?_)
      refine value_ (by rfl) rfl (v := .slice (some ⟨P1.heap.size, 0, none⟩) 1 1) (w1 := P1.drew.alloc (.cells #[.int .i64 b.all.length] 3)) (by go_simp; first | done | rfl) ?_
      refine hK.out _ _ (hS2 _ (old_alloc _ lp2) (old_alloc _ lg2) (old_alloc _ lm2)) (fun hHeld => ?_)
      refine norm_ (a' := ?_) ?_ ?_
      rotate_left
      · simp only [Act.put, List.setIfInBounds_toArray, List.set_cons_zero, List.set_cons_succ]
        rfl
      refine one_ (i := 21) (N := some 54) #[true, true, true, true, true, true, true, true, true, true, true, true, true, true, true, true, true, true, true, true, true, true, false] rfl rfl (by kernel_rfl) (by decide) (fun K hK => ?_)
      refine step_int _ (by rfl) (N := some 54) (by rfl) _ _ (by rfl) (hd g1 y) _ (lits (b1.by_ y)) [.int .i64 b.all.length] (by rfl) (by rfl) (HRow2.out.drew.alloc _) (Row.one _ _ _) (by simp [Value.oneCell']) (by have := HLen2.out; simp; omega) ?_
      intro v2 w5 hr2 hk2 hat2
      have hfar2 : ∀ j, j < P1.heap.size → (hd g1 y).ownBlock ≠ some j → w5.heap[j]? = P1.heap[j]? := fun j hj hne => (hk2.block j (by simp; omega) hne).trans (old_alloc _ hj)
      refine hK.out _ _ (hS2 _ (hfar2 _ lp2 np2) (hfar2 _ lg2 ng2) (hfar2 _ lm2 nm2)) (fun hHeld => ?_)
      have hrun2 := ((H3.out.map.move (hfar2 _ lm2 nm2)).put_run keyed Try.underlying62 (by omega) (keyOf_int_mk Try.underlying46 hw2) v2)
      refine norm_ (a' := ?_) ?_ ?_
      rotate_left
      · simp only [Act.put, List.setIfInBounds_toArray, List.set_cons_zero, List.set_cons_succ]
        rfl
      refine last_ (i := 22) (N := none) #[true, true, true, true, true, true, true, true, true, true, true, true, true, true, true, true, true, true, true, true, true, true, true] rfl rfl (by kernel_rfl) (by decide) (fun K hK => ?_)
      refine skip_ (by rfl) rfl (w1 := putB M y v2 w5) (by go_simp; first | done | (rw [hrun2.1]; first | done | rfl)) ?_
      refine hK.out _ _ ?_
      refine done_ (by kernel_rfl) ?_

      have hk25 : Keep (fun j => (hd g1 y).ownBlock = some j) P1 w5 := (⟨rfl, rfl, rfl, by simp, fun q hq _ => old_alloc (w := P1) _ hq⟩ : Keep (fun _ => False) P1 (P1.drew.alloc (.cells #[.int .i64 b.all.length] 3))).trans hk2 (fun _ h => h.elim) (fun _ h => .inl h)
      have hatF2 : ∀ j, v2.ownBlock = some j → (hd g1 y).ownBlock = some j ∨ ¬ F1 j := by
        intro j hj
        rcases hat2 with e | e
        · exact .inl (by rw [← e]; exact hj)
        · refine .inr fun hF => ?_
          have h7 := H3.out.old j hF
          rw [hj] at e
          injection e with e
          simp at e
          omega
      have hp2 := H3.out.push y (b1.by_ y ++ [(b.all.length : Int)]) v2 (by rw [show lits (b1.by_ y ++ [(b.all.length : Int)]) = lits (b1.by_ y) ++ [.int .i64 b.all.length] from by simp [lits]]; exact hr2) hk25 hatF2 hrun2.2.1 hrun2.2.2
      unfold putB
      generalize hP2 : putW Try.prog 62 w5 M (.int .i64 y) v2 = P2 at hp2 ⊢
      have hP2g : P2.heap[gf]? = P1.heap[gf]? := hp2.2.block gf lg2 HGN.out
      have hrowP2 : Row P2 46 (.slice (some ⟨gf, of, none⟩) nf c1) (lits f) := by
        rw [HNF.out]
        exact HROW2.out.move fun j hj => by cases hj; exact hP2g.trans HP1g.out
      have hp0 : P2.cell? ⟨p, 0, none⟩ = some (.slice A5 b.all.length c5) := (blk_cell hp2.1.obj 0).trans rfl
      have hf0 : P2.frozen? ⟨p, 0, none⟩ = false := blk_frozen hp2.1.obj 0
      have HP2 := Lib.hid hp2
      have HROWP := Lib.hid hrowP2
      have HA2 := Lib.hid hat2
      have HV2 := Lib.hid (show v2.ownBlock ≠ some gf from fun e => by
        obtain ⟨cur, hc⟩ := hr2.typed gf e
        rw [hfar2 gf lg2 ng2, HP1g.out, HG1.out] at hc
        simp at hc)
      have hlpP : p < P2.heap.size := blk_lt hp2.1.obj
      have hApP : (Value.slice A5 b.all.length c5).ownBlock ≠ some p := fun e => Row.notP hp2.1.rowA hp2.1.obj (by decide) p e rfl
      have HAP := Lib.hid hApP
      clear hp2 hrowP2 hApP hk25 hatF2 hrun2 hfar2 hk2 hr2 hat2 hP2 hP2g hHeld hS2 HRow2
      have HLS := Lib.hid (show hs.length + ([Value.slice (some ⟨gf, of, none⟩) nf c1] : List Value).length < 4611686018427 by have h1 := H2.out.len; have := HX.out.2.1; simp; omega)
      go_wp2_with (at_builtin; refine wp_app_row _ rfl _ _ rfl _ _ hs [.slice (some ⟨gf, of, none⟩) nf c1] (by rfl) (by rfl) (HP2.out.1.rowA.alloc _) (Row.one _ _ _) (by simp [Value.oneCell']) HLS.out ?_; intro v3 w7 hr3 hk3 hat3; obtain ⟨A3, c3, rfl, _, _⟩ := hr3.shape; have hp7 : w7.cell? ⟨p, 0, none⟩ = some (.slice A5 b.all.length c5) := (World.cell?_of_block ((hk3.block p (by simp; omega) HAP.out).trans (old_alloc _ hlpP))).trans hp0; have hf7 : w7.frozen? ⟨p, 0, none⟩ = false := blk_frozen ((hk3.block p (by simp; omega) HAP.out).trans ((old_alloc _ hlpP).trans HP2.out.1.obj)) 0; have HR3 := Lib.hid hr3; have HK3b := Lib.hid hk3; have HA3 := Lib.hid hat3; clear hr3 hk3 hat3)
      refine bodyPost_end (results_none rfl _ _ _) rfl ?_
      have hk27 : Keep (fun j => (Value.slice A5 b.all.length c5).ownBlock = some j) P2 w7 := (kept_new _ (fun _ => False)).trans HK3b.out (fun _ h => h.elim) (fun _ h => .inl h)
      have hvfF : ∀ j, (Value.slice (some ⟨gf, of, none⟩) nf c1).ownBlock = some j → ¬ (F1 j ∨ v2.ownBlock = some j) := by
        intro j hj
        cases hj
        rintro (h1 | h1)
        · exact HGN.out h1
        · exact HV2.out h1
      have h4 := HP2.out.1.clause _ f HROWP.out hvfF _ HR3.out hk27 (fun j hj => by
        rcases HA3.out with e | e
        · exact .inl (by rw [← e]; exact hj)
        · refine .inr fun hF => ?_
          have h7 := HP2.out.1.old j hF
          rw [hj] at e
          injection e with e
          simp at e
          omega)
      rw [show (hs ++ [Value.slice (some ⟨gf, of, none⟩) nf c1]).length = hs.length + 1 from by simp] at h4
      have hF2old : ∀ j, v2.ownBlock = some j → F j ∨ w.heap.size ≤ j := by
        intro j hj
        rcases HA2.out with e | e
        · exact HF1.out j (H3.out.fb y j (by rw [← e]; exact hj))
        · right
          rw [hj] at e
          injection e with e
          have := HK.out.size
          have := HK3.out.size
          simp at e
          omega
      have hbe : ({ { b1 with by_ := updI b1.by_ y (b1.by_ y ++ [(b.all.length : Int)]) } with all := b1.all ++ [f] } : RB) = addC b l := by
        rw [HR.out, ← HFE.out, HB1E.out]
        rfl
      have h4c := Eq.mp (congrArg (fun B => RupMem _ p M _ vU _ _ _ B _) hbe) h4.1
      refine ⟨rfl, _, vU, _, _, _, _, h4c, ?_, ?_, ?_, ?_⟩
      · exact HK.out.trans (HK3.out.trans (HP2.out.2.trans h4.2 (fun _ h => .inl h) (G := fun j => F1 j ∨ v2.ownBlock = some j) (H := fun j => F1 j ∨ v2.ownBlock = some j) (fun x h => .inl h)) (H := fun j => F j ∨ w.heap.size ≤ j) (fun _ h => .inl h) (fun j h => .inl (by
          rcases h with h | h
          · exact HF1.out j h
          · exact hF2old j h))) (fun _ h => h.elim) (fun j h => by
          rcases h with h | h
          · exact .inl h
          · exact .inr h)
      · rintro j ((h1 | h1) | h1 | h1)
        · exact HF1.out j h1
        · exact hF2old j h1
        · cases h1
          right
          omega
        · have h1b : (Value.slice A3 (hs ++ [Value.slice (some ⟨gf, of, none⟩) nf c1]).length c3).ownBlock = some j := by rw [show (hs ++ [Value.slice (some ⟨gf, of, none⟩) nf c1]).length = hs.length + 1 from by simp]; exact h1
          rcases HA3.out with e | e
          · exact HF1.out j (H3.out.fA j (by rw [← e]; exact h1b))
          · right
            rw [h1b] at e
            injection e with e
            have := HK.out.size
            have := HK3.out.size
            have := HP2.out.2.size
            simp at e
            omega
      · omega
      · intro hD
        rw [HG1E.out]
        exact (hD.upd HBDX.out.1.1 HBDX.out.1.2 _).upd HBDX.out.2.1 HBDX.out.2.2 _
end Go.Proofs.Ytjlkjgoncfdaeaa.RM
