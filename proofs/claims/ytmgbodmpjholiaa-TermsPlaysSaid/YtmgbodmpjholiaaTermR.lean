/- Walks of terms: none, there, of, bound, Len, Split. -/
import Derived.Test.YtmgbodmpjholiaaTermS
import Derived.Test.YtmgbodmpjholiaaShelf
import Derived.Test.YtmgbodmpjholiaaWMore
import Derived.Test.YtmgbodmpjholiaaWGuard
import Derived.Test.YtmgbodmpjholiaaWLast
import Derived.WalkKit
import Derived.WalkSpells
import Derived.IntWalk
import Derived.BigQuiet
import Derived.Deep.LoopGhost
import Derived.Deep.DrawnRows
import Derived.Deep.QuietTactic
namespace Go.Proofs.Ytmgbodmpjholiaa.TM
open Go.RowKit Go.Maps Go.Shelf Go.Lib Go.Proofs.YtmgbodmpjholiaaW.PrintWords Go.Proofs.YtmgbodmpjholiaaW.PrintLast Go.Proofs.YtmgbodmpjholiaaW.PrintMore Go.Proofs.Ytmgbodmpjholiaa.MM Go.Proofs.Ytmgbodmpjholiaa.KM
attribute [local go_sem ↓] Go.wp_at_zero Go.wp_at_succ
set_option linter.unusedSimpArgs false
set_option linter.unusedVariables false

/-- What a store's block says. -/
structure At3 (w : World) (t : Nat) (v : Value) (b1 b2 : Nat) : Prop where
  lt : t < w.heap.size
  c0 : w.cell? ⟨t, 0, none⟩ = some v
  c1 : w.cell? ⟨t, 1, none⟩ = some (.map (some b1))
  c2 : w.cell? ⟨t, 2, none⟩ = some (.map (some b2))
theorem StO.at {w : World} {t : Nat} {l : List NodeM} {q : Nat} {A : Nat → Prop} {v : Value} {b1 b2 : Nat} {L : CL} {g1 : KeyM → Option Nat} {g2 : Nat × Int → Option Nat} (h : StO w t l q A v b1 b2 L g1 g2) : At3 w t v b1 b2 :=
  ⟨blk_lt h.blk, (blk_cell h.blk 0).trans rfl, (blk_cell h.blk 1).trans rfl, (blk_cell h.blk 2).trans rfl⟩
theorem At3.below {w w1 : World} {t : Nat} {v : Value} {b1 b2 : Nat} (h : At3 w t v b1 b2) (hb : Below w.heap.size w w1) : At3 w1 t v b1 b2 :=
  ⟨Nat.lt_of_lt_of_le h.lt hb.size, (hb.cell (p := ⟨t, 0, none⟩) h.lt).trans h.c0, (hb.cell (p := ⟨t, 1, none⟩) h.lt).trans h.c1, (hb.cell (p := ⟨t, 2, none⟩) h.lt).trans h.c2⟩
set_option maxHeartbeats 1600000 in
theorem none_walk (w : World) (t b1 : Nat) (hc : w.cell? ⟨t, 1, none⟩ = some (.map (some b1))) :
    Calls Try.prog 31 #[ptr t] w fun e w' => e = .returned (.bool false) ∧ w' = w := by
  have qT : ∀ (w : World) (r : Option Nat), (binOp .eql 60 (.map r) (.map none)).run Try.prog w = .ok (.bool r.isNone) w := fun w r => run_eql_map_nil w _ _ _ r Try.underlying60
  go_enter Try.func31, Try.ntmps31
  go_wp2
  go_ret
  exact ⟨rfl, rfl⟩
set_option maxHeartbeats 1600000 in
theorem none_nil (w : World) :
    Calls Try.prog 31 #[.pointer none] w fun e w' => e = .returned (.bool true) ∧ w' = w := by
  have qT : ∀ (w : World) (r : Option Nat), (binOp .eql 60 (.map r) (.map none)).run Try.prog w = .ok (.bool r.isNone) w := fun w r => run_eql_map_nil w _ _ _ r Try.underlying60
  go_enter Try.func31, Try.ntmps31
  go_wp2
  go_ret
  exact ⟨rfl, rfl⟩
set_option maxHeartbeats 1600000 in
theorem none_zero (w : World) (t : Nat) (hc : w.cell? ⟨t, 1, none⟩ = some (.map none)) :
    Calls Try.prog 31 #[ptr t] w fun e w' => e = .returned (.bool true) ∧ w' = w := by
  have qT : ∀ (w : World) (r : Option Nat), (binOp .eql 60 (.map r) (.map none)).run Try.prog w = .ok (.bool r.isNone) w := fun w r => run_eql_map_nil w _ _ _ r Try.underlying60
  go_enter Try.func31, Try.ntmps31
  go_wp2
  go_ret
  exact ⟨rfl, rfl⟩
set_option maxHeartbeats 1600000 in
theorem bound_calls (w : World) (n : Int) :
    Calls Try.prog 33 #[.int .i64 n] w fun e w' => e = .returned (.bool (boundM n)) ∧ w' = w := by
  by_cases h1 : -4611686018427387903 ≤ n
  · by_cases h2 : n ≤ 4611686018427387903
    · have e : boundM n = true := by simp [boundM, h1, h2]
      rw [e]
      clear e
      go_enter Try.func33, Try.ntmps33
      go_wp2
      go_ret
      exact ⟨rfl, rfl⟩
    · have e : boundM n = false := by simp [boundM, h1, h2]
      rw [e]
      clear e
      go_enter Try.func33, Try.ntmps33
      go_wp2
      go_ret
      exact ⟨rfl, rfl⟩
  · have e : boundM n = false := by simp [boundM, h1]
    rw [e]
    clear e
    go_enter Try.func33, Try.ntmps33
    go_wp2
    go_ret
    exact ⟨rfl, rfl⟩
/-! #### there -/
set_option maxHeartbeats 1600000 in
theorem there_pred (w : World) (p t : Nat) (l : List NodeM) (a : Option Addr) (c : Nat) (hp : p < w.heap.size) (ht : t < w.heap.size) (hc : w.cell? ⟨p, 0, none⟩ = some (ptr t)) (h0 : w.cell? ⟨t, 0, none⟩ = some (.slice a l.length c)) :
    PredAt Try.prog 53 #[ptr p] (Value.int .i64) (fun x => !hasM l x) w := fun W x hb => by
  show Calls Try.prog 53 #[.int .i64 x, ptr p] W fun e w' => e = .returned (.bool (!hasM l x)) ∧ ∃ q, w' = W.drewN q
  have hc1 : W.cell? ⟨p, 0, none⟩ = _ := (hb.cell (p := ⟨p, 0, none⟩) hp).trans hc
  have h01 : W.cell? ⟨t, 0, none⟩ = _ := (hb.cell (p := ⟨t, 0, none⟩) ht).trans h0
  clear hb hc h0 hp ht
  by_cases h1 : x < 0
  · have e : (!hasM l x) = true := by simp [hasM]; omega
    rw [e]
    clear e
    go_enter Try.func53, Try.ntmps53
    go_wp2
    go_ret
    exact ⟨rfl, 0, rfl⟩
  · by_cases h2 : x ≥ (l.length : Int)
    · have e : (!hasM l x) = true := by simp [hasM]; omega
      rw [e]
      clear e
      go_enter Try.func53, Try.ntmps53
      go_wp2
      go_ret
      exact ⟨rfl, 0, rfl⟩
    · have e : (!hasM l x) = false := by simp [hasM]; omega
      rw [e]
      clear e
      go_enter Try.func53, Try.ntmps53
      go_wp2
      go_ret
      exact ⟨rfl, 0, rfl⟩
/-- ContainsFunc over a row of terms, of a predicate that is told for some of them. -/
theorem contains_row (w : World) (v : Value) (xs : List Int) (hr : Row w 26 v (lits xs)) (ok : Int → Bool) (hok : ∀ x ∈ xs, ok x = true) (p : Int → Bool) (g : Nat) (lb : Array Value) (eg : ∀ args w, (callFunc g args).run Try.prog w = .ok (.enter g args) w)
    (hp : PredAt Try.prog g lb (fun x : {x : Int // ok x = true} => Value.int .i64 x.1) (fun x => p x.1) w) :
    Calls Try.prog 52 #[v, .func (.func g) #[] lb] w fun e w' => e = .returned (.bool (xs.any p)) ∧ ∃ q, w' = w.drewN q := by
  obtain ⟨zs, hz⟩ : ∃ zs : List {x : Int // ok x = true}, zs.map (·.1) = xs := ⟨xs.attach.map fun x => ⟨x.1, hok x.1 x.2⟩, by rw [List.map_map]; exact List.attach_map_subtype_val xs⟩
  have hany : zs.any (fun x => p x.1) = xs.any p := by rw [← hz, List.any_map]; rfl
  have hlen : zs.length = xs.length := by rw [← hz]; simp
  rcases Nat.eq_zero_or_pos xs.length with h0 | h0
  · have : xs = [] := List.eq_nil_of_length_eq_zero h0
    subst this
    obtain ⟨a, c, rfl, _⟩ := hr.shape
    exact (AnyE.slices_ContainsFunc_empty (ρ := layContainsFunc_ren) layContainsFunc a c _ w).mono fun _ _ ⟨he, hw⟩ => ⟨he, 0, hw⟩
  · obtain ⟨b, off, cap, rfl, hcap, hmax, _, hc, _⟩ := hr.cells (by simpa using h0)
    rw [List.length_map] at hcap
    letI : Inhabited {x : Int // ok x = true} := ⟨⟨xs[0], hok _ (List.getElem_mem h0)⟩⟩
    have := AnyE.slices_ContainsFunc (ρ := layContainsFunc_ren) layContainsFunc (fun x : {x : Int // ok x = true} => Value.int .i64 x.1) (fun x => p x.1) g lb eg b off xs.length cap zs w hp (by omega) (by unfold maxLen at hmax; omega) (fun j hj => by
      rw [hc j (by simp; omega), lits_get _ _ (by omega)]
      congr 2
      have e1 : zs[j]!.1 = (zs.map (·.1))[j]! := by
        rw [getElem!_pos _ j hj, getElem!_pos _ j (by simpa using hj)]
        simp
      rw [e1, hz, List.getD_eq_getElem?_getD, getElem!_pos _ j (by omega), List.getElem?_eq_getElem (by omega)]
      rfl)
    rw [List.take_of_length_le (by omega), hany] at this
    rw [List.length_map]
    exact this
/-- The refusal of what is not there. -/
def thereE (l : List NodeM) (xs : List Int) : Int := if thereM l xs then 0 else 7
set_option maxHeartbeats 1600000 in
theorem there_calls (w : World) (t : Nat) (l : List NodeM) (q : Nat) (F : Nat → Prop) (v : Value) (xs : List Int) (h : St w t l q F) (hr : Row w 26 v (lits xs)) :
    Calls Try.prog 32 #[ptr t, v] w fun e w' => e = .returned (.int .i64 (thereE l xs)) ∧ Below w.heap.size w w' := by
  obtain ⟨A, vl, b1, b2, L, g1, g2, h1, _⟩ := h
  obtain ⟨a, c, rfl⟩ := h1.nodes.shape
  have h3 := h1.at
  have eg : ∀ args w, (callFunc 53 args).run Try.prog w = .ok (.enter 53 args) w := enters_of Try.func53 (by kernel_rfl) rfl
  have hcon := hid (fun (W : World) (p : Nat) (hW : Below w.heap.size w W) (hp : p < W.heap.size) (hc : W.cell? ⟨p, 0, none⟩ = some (ptr t)) =>
    contains_row W v xs (hr.keep (Keep.ofBelow (F := fun _ => False) hW) (fun _ _ h => h)) (fun _ => true) (fun _ _ => rfl) (fun x => !hasM l x) 53 #[ptr p] eg (by
      have := there_pred W p t l a c hp (Nat.lt_of_lt_of_le h3.lt hW.size) hc ((h3.below hW).c0)
      exact fun W x hb => this W x.1 hb))
  have HN := hid (none_walk (w.alloc (.cells #[ptr t] 24)) t b1 (((h3.below ((Below.refl _ _).alloc (Nat.le_refl _) _))).c1))
  have hany : (xs.any fun x => !hasM l x) = !(thereM l xs) := by
    unfold thereM
    rw [List.not_all_eq_any_not]
  cases e : thereM l xs with
  | true =>
    have he : thereE l xs = 0 := by unfold thereE; rw [e]; rfl
    rw [he]
    rw [e] at hany
    rw [hany] at hcon
    clear h1 h3 hr eg hany e he
    go_enter Try.func32, Try.ntmps32
    go_wp2_with fail
    refine HN.out.mono ?_
    rintro e w' ⟨rfl, rfl⟩
    go_wp2_with fail
    refine (hcon.out _ w.heap.size ((Below.refl _ _).alloc (Nat.le_refl _) _) (by simp) (by simp)).mono ?_
    rintro e w' ⟨rfl, q, rfl⟩
    go_wp2_with fail
    go_ret
    exact ⟨rfl, pw_below_drewN ((Below.refl _ _).alloc (Nat.le_refl _) _) q⟩
  | false =>
    have he : thereE l xs = 7 := by unfold thereE; rw [e]; rfl
    rw [he]
    rw [e] at hany
    rw [hany] at hcon
    clear h1 h3 hr eg hany e he
    go_enter Try.func32, Try.ntmps32
    go_wp2_with fail
    refine HN.out.mono ?_
    rintro e w' ⟨rfl, rfl⟩
    go_wp2_with fail
    refine (hcon.out _ w.heap.size ((Below.refl _ _).alloc (Nat.le_refl _) _) (by simp) (by simp)).mono ?_
    rintro e w' ⟨rfl, q, rfl⟩
    go_wp2_with fail
    go_ret
    exact ⟨rfl, pw_below_drewN ((Below.refl _ _).alloc (Nat.le_refl _) _) q⟩
/-! #### of -/
set_option maxHeartbeats 1600000 in
theorem of_pred (w : World) (p1 p2 t : Nat) (l : List NodeM) (A : Nat → Prop) (vl : Value) (s : Int) (hp1 : p1 < w.heap.size) (hp2 : p2 < w.heap.size) (ht : t < w.heap.size) (hc1 : w.cell? ⟨p1, 0, none⟩ = some (ptr t)) (hc2 : w.cell? ⟨p2, 0, none⟩ = some (.int .i64 s)) (h0 : w.cell? ⟨t, 0, none⟩ = some vl) (hn : Nodes w vl l A) (hbig : l.length ≤ 20000) :
    PredAt Try.prog 60 #[ptr p1, ptr p2] (fun x : {x : Int // hasM l x = true} => Value.int .i64 x.1) (fun x => !decide (sortM l x.1 = s)) w := fun W ⟨x, hx⟩ hb => by
  show Calls Try.prog 60 #[.int .i64 x, ptr p1, ptr p2] W fun e w' => e = .returned (.bool (!decide (sortM l x = s))) ∧ ∃ q, w' = W.drewN q
  have hc1' : W.cell? ⟨p1, 0, none⟩ = _ := (hb.cell (p := ⟨p1, 0, none⟩) hp1).trans hc1
  have hc2' : W.cell? ⟨p2, 0, none⟩ = _ := (hb.cell (p := ⟨p2, 0, none⟩) hp2).trans hc2
  have h0' : W.cell? ⟨t, 0, none⟩ = _ := (hb.cell (p := ⟨t, 0, none⟩) ht).trans h0
  obtain ⟨g, cap, y, rfl, hg, hcells, _, _⟩ := (hn.below hb).cells (nodes_get hx)
  have hs := hcells 3 _ rfl
  have hs' : (nodeM l x).sort = sortM l x := rfl
  rw [hs'] at hs
  obtain ⟨i, hi⟩ : ∃ i : Nat, i = x.toNat := ⟨_, rfl⟩
  rw [← hi] at hs
  have hix : x = (i : Int) := by have := (getD_mem hx).2.2.2; omega
  have hil : (i : Int) < (l.length : Int) := by have := (getD_mem hx).2.2.1; omega
  obtain ⟨so, hso⟩ : ∃ so, so = sortM l x := ⟨_, rfl⟩
  rw [← hso] at hs ⊢
  subst hix
  clear hi hso hs' hcells hg hb hc1 hc2 h0 hn hx hp1 hp2 ht
  by_cases e : so = s
  · subst e
    rw [show (!decide (so = so)) = false from by simp]
    go_enter Try.func60, Try.ntmps60
    go_wp2
    go_quiet (fail)
    go_wp2
    go_ret
    exact ⟨rfl, _, rfl⟩
  · have e1 : (so != s) = true := by simpa using e
    rw [show (!decide (so = s)) = true from by simp [e]]
    clear e
    go_enter Try.func60, Try.ntmps60
    go_wp2
    go_quiet (fail)
    go_wp2
    go_ret
    exact ⟨rfl, _, rfl⟩
set_option maxHeartbeats 1600000 in
theorem of_calls (w : World) (t : Nat) (l : List NodeM) (q : Nat) (F : Nat → Prop) (s : Int) (v : Value) (xs : List Int) (h : St w t l q F) (hr : Row w 26 v (lits xs)) (hx : thereM l xs = true) :
    Calls Try.prog 49 #[ptr t, .int .i64 s, v] w fun e w' => e = .returned (.bool (ofM l s xs)) ∧ Below w.heap.size w w' := by
  obtain ⟨A, vl, b1, b2, L, g1, g2, h1, _⟩ := h
  have h3 := h1.at
  have eg : ∀ args w, (callFunc 60 args).run Try.prog w = .ok (.enter 60 args) w := enters_of Try.func60 (by kernel_rfl) rfl
  have hall : ∀ x ∈ xs, hasM l x = true := by
    unfold thereM at hx
    rw [List.all_eq_true] at hx
    exact hx
  have hcon := hid (fun (W : World) (p1 p2 : Nat) (hW : Below w.heap.size w W) (hp1 : p1 < W.heap.size) (hp2 : p2 < W.heap.size) (hc1 : W.cell? ⟨p1, 0, none⟩ = some (ptr t)) (hc2 : W.cell? ⟨p2, 0, none⟩ = some (.int .i64 s)) =>
    contains_row W v xs (hr.keep (Keep.ofBelow (F := fun _ => False) hW) (fun _ _ h => h)) (hasM l) hall (fun x => !decide (sortM l x = s)) 60 #[ptr p1, ptr p2] eg
      (of_pred W p1 p2 t l A vl s hp1 hp2 (Nat.lt_of_lt_of_le h3.lt hW.size) hc1 hc2 ((h3.below hW).c0) (h1.nodes.below hW) h1.wf.high))
  have hany : (xs.any fun x => !decide (sortM l x = s)) = !(ofM l s xs) := by
    unfold ofM
    rw [List.not_all_eq_any_not]
  rw [hany] at hcon
  generalize ofM l s xs = b at hcon ⊢
  clear h1 h3 hr eg hany hall hx
  go_enter Try.func49, Try.ntmps49
  go_wp2_with fail
  refine (hcon.out _ w.heap.size (w.heap.size + 1) (((Below.refl _ _).alloc (Nat.le_refl _) _).alloc (by simp) _) (by simp; omega) (by simp) ((blk_cell ((old_alloc _ (by simp)).trans (heap_alloc_new _ _)) 0).trans rfl) (by simp)).mono ?_
  rintro e w' ⟨rfl, q, rfl⟩
  go_wp2_with fail
  go_ret
  exact ⟨by simp, pw_below_drewN (((Below.refl _ _).alloc (Nat.le_refl _) _).alloc (by simp) _) q⟩
end Go.Proofs.Ytmgbodmpjholiaa.TM
