/- Walk of heap.All (printed by wip/tools/heapall.py). -/
import Derived.Test.YtegcfaohhcjajaaHeapJ
import Derived.Test.YtegcfaohhcjajaaHeapO
import Derived.Test.YtegcfaohhcjajaaRefT
import Derived.RangeFuncNested
import Derived.RangeFuncBound
import Derived.RangeFuncCalls
import Derived.RangeFuncLeaves
import Derived.RangeFuncKeeps
import Derived.WalkKit
import Derived.OwnWalkIn
import Derived.TacticsInMore
import Derived.LoopNIn
import Derived.LoopIn
namespace Go.Proofs.Ytegcfaohhcjajaa.HM
open Go.RowKit Go.Proofs.YtegcfaohhcjajaaW.PrintWords Go.Proofs.YtegcfaohhcjajaaW.PrintLast Go.Proofs.YtegcfaohhcjajaaW.PrintMore Go.Proofs.Ytegcfaohhcjajaa.MM Go.Proofs.Ytegcfaohhcjajaa.RT
attribute [local go_sem ↓] Go.wp_at_zero Go.wp_at_succ
set_option linter.unusedSimpArgs false
set_option linter.unusedVariables false

theorem All_calls (w : World) (p : Option Addr) : Calls Try.prog 23 #[.pointer p] w fun e w' => e = .returned (.func (.func 46) #[] #[.pointer (some ⟨w.heap.size, 0, none⟩)]) ∧ w' = w.alloc (.cells #[.pointer p] 40) := by
  go_enter Try.func23, Try.ntmps23
  go_wp2
  go_ret
  exact ⟨rfl, rfl⟩
def allM : Nat → HS → List Nat
  | 0, _ => []
  | k + 1, s => R s 0 :: allM k (popM s)
/-- A heap like one that is there: its weights, and its places and row copied. -/
theorem copy_ob (w W : World) (vw vp vr : Value) (s : HS) (hw : Row W 2 vw (lits s.w)) (hp : Row W 3 vp (lits s.p)) (hr : Row W 3 vr (nats s.r)) (ow : ∀ j, vw.ownBlock = some j → j < w.heap.size) (op : ∀ j, vp.ownBlock = some j → w.heap.size ≤ j) (oR : ∀ j, vr.ownBlock = some j → w.heap.size ≤ j)
    (hne : ∀ j, vp.ownBlock = some j → vr.ownBlock ≠ some j) (hW : w.heap.size ≤ W.heap.size) :
    HpO (W.alloc (.cells #[vw, vp, vr] 67)) W.heap.size vw vp vr s (fun j => vw.ownBlock = some j ∨ w.heap.size ≤ j ∧ j < W.heap.size + 1) where
  blk := heap_alloc_new W _
  rows := fun i r h => by
    match i, h with
    | 0, h => cases h; exact hw.alloc _
    | 1, h => cases h; exact hp.alloc _
    | 2, h => cases h; exact hr.alloc _
    | n + 3, h => simp at h
  len := by simp
  fp := .inr ⟨hW, Nat.lt_succ_self _⟩
  fr := fun i r h j hj => by
    match i, h with
    | 0, h =>
      cases h
      have h1 := ow j hj
      exact ⟨.inl hj, by omega⟩
    | 1, h =>
      cases h
      have h1 := hp.lt j hj
      have h2 := op j hj
      exact ⟨.inr ⟨h2, by omega⟩, by omega⟩
    | 2, h =>
      cases h
      have h1 := hr.lt j hj
      have h2 := oR j hj
      exact ⟨.inr ⟨h2, by omega⟩, by omega⟩
    | n + 3, h => simp at h
  ap := fun i j ri rj hi hj hij g hg hg' => by
    match i, j, hi, hj with
    | 0, 0, hi, hj => exact hij rfl
    | 1, 1, hi, hj => exact hij rfl
    | 2, 2, hi, hj => exact hij rfl
    | 0, 1, hi, hj => have h1 := ow g hg; have h2 := op g hg'; omega
    | 0, 2, hi, hj => have h1 := ow g hg; have h2 := oR g hg'; omega
    | 1, 0, hi, hj => have h1 := ow g hg'; have h2 := op g hg; omega
    | 2, 0, hi, hj => have h1 := ow g hg'; have h2 := oR g hg; omega
    | 1, 2, hi, hj => exact hne g hg hg'
    | 2, 1, hi, hj => exact hne g hg' hg
    | n + 3, _, hi, hj => simp at hi
    | _, n + 3, hi, hj => simp at hj
  old := fun j hj => by
    simp only [World.size_alloc]
    rcases hj with h | ⟨_, h⟩
    · have := ow j h; omega
    · exact h
/-- What a round that goes on keeps: all cells but block b and what the value in it leads to. -/
structure Kq (b : Nat) (W W' : World) : Prop where
  blk : ∀ j o, W.heap[j]? = some o → o.isCells = true → j ≠ b → (∀ v, W.cell? ⟨b, 0, none⟩ = some v → v.ownBlock ≠ some j) → W'.heap[j]? = some o
  own : ∀ v' j, W'.cell? ⟨b, 0, none⟩ = some v' → v'.ownBlock = some j → (∃ v, W.cell? ⟨b, 0, none⟩ = some v ∧ v.ownBlock = some j) ∨ W.heap.size ≤ j
  size : W.heap.size ≤ W'.heap.size
theorem Kq.trans {b : Nat} {X Y Z : World} (h : Kq b X Y) (k : Kq b Y Z) : Kq b X Z where
  blk := fun j o ho hc hb hn => k.blk j o (h.blk j o ho hc hb hn) hc hb (fun v hv hj => by
    rcases h.own v j hv hj with ⟨v0, h0, h1⟩ | h0
    · exact hn v0 h0 h1
    · have := (Array.getElem?_eq_some_iff.1 ho).1; omega)
  own := fun v' j hv hj => by
    rcases k.own v' j hv hj with ⟨v0, h0, h1⟩ | h0
    · exact h.own v0 j h0 h1
    · exact .inr (Nat.le_trans h.size h0)
  size := Nat.le_trans h.size k.size
theorem Kq.put {b : Nat} {w : World} (hb : b < w.heap.size) (W : World) (l : Nat) (o o' : Obj) (hl : w.heap.size ≤ l) (h : W.heap[l]? = some o) (hc : o.isCells = false) : Kq b W (W.putObj l o') := by
  have hlt := (Array.getElem?_eq_some_iff.1 h).1
  refine ⟨fun j o2 ho h2 _ _ => (World.putObj_heap_other (fun e => ?_)).trans ho, fun v' j hv hj => .inl ⟨v', ?_, hj⟩, by simp [World.putObj]⟩
  · rw [e] at ho
    rw [ho] at h
    cases h
    rw [hc] at h2
    cases h2
  · rw [← hv]
    unfold World.cell?
    rw [World.putObj_heap_other (show b ≠ l by omega)]
/-- What goes on while the copy is emptied. -/
structure AllAt (W : World) (C : Nat) (vw : Value) (all : List Nat) (sC : HS) (v4 : Value) (l : List Nat) (wr : World) : Prop where
  hp : ∃ Fk, Hp wr C sC Fk ∧ (∀ j, Fk j → vw.ownBlock = some j ∨ W.heap.size ≤ j) ∧ (∀ j, v4.ownBlock = some j → ¬ Fk j)
  sv : sC.v = vw
  row : Row wr 3 v4 (nats l)
  own : ∀ j, v4.ownBlock = some j → W.heap.size ≤ j
  bel : Below W.heap.size W wr
  good : HM.Good sC
  res : l ++ allM sC.r.length sC = all
theorem AllAt.len {W wr : World} {C : Nat} {vw v4 : Value} {all l : List Nat} {sC : HS} (h : AllAt W C vw all sC v4 l wr) : Calls Try.prog 37 #[ptr C] wr fun e w' => e = .returned (.int .i64 sC.r.length) ∧ AllAt W C vw all sC v4 l w' := by
  obtain ⟨Fk, h1, h2, h3⟩ := h.hp
  exact (Len_calls wr C sC Fk h1).mono fun e w' ⟨he, hb⟩ => ⟨he, ⟨Fk, h1.below hb, h2, h3⟩, h.sv, h.row.keep (F := fun _ => False) (Keep.ofBelow hb) (fun _ _ h => h), h.own, below_trans h.bel (below_le hb h.bel.size), h.good, h.res⟩
theorem allM_len (k : Nat) (s : HS) : (allM k s).length = k := by
  induction k generalizing s with
  | zero => rfl
  | succ k ih => simp [allM, ih]
theorem AllAt.pop {W wr : World} {C : Nat} {vw v4 : Value} {all l : List Nat} {sC : HS} (h : AllAt W C vw all sC v4 l wr) (h0 : 0 < sC.r.length) :
    Calls Try.prog 21 #[ptr C] wr fun e w' => e = .returned (.tuple #[.int .i64 (R sC 0 : Nat), .bool true]) ∧ Row w' 3 v4 (nats l) ∧ Below W.heap.size W w' ∧ (∃ Fk, Hp w' C (popM sC) Fk ∧ (∀ j, Fk j → vw.ownBlock = some j ∨ W.heap.size ≤ j) ∧ (∀ j, v4.ownBlock = some j → ¬ Fk j)) ∧ (popM sC).v = vw ∧ HM.Good (popM sC) ∧ l ++ R sC 0 :: allM (popM sC).r.length (popM sC) = all := by
  obtain ⟨Fk, h1, h2, h3⟩ := h.hp
  obtain ⟨g1, _, g3, _⟩ := pop_good h.good h0
  have hv : (popM sC).v = vw := by
    rw [← h.sv, popM]
    split
    · rw [downM, downL_v]; rfl
    · rfl
  refine (Pop_keeps wr C sC Fk h1 h.good.wf h0).mono fun e w' ⟨he, F', hp, hk, hs⟩ => ⟨he, h.row.keep hk (fun j hj hF => h3 j hj hF.1), below_trans h.bel ⟨hk.os, hk.tape, hk.output, hk.size, fun j hj => hk.block j (Nat.lt_of_lt_of_le hj h.bel.size) (fun hF => ?_)⟩, ⟨F', hp, fun j hj => ?_, fun j hj hF => ?_⟩, hv, g1, ?_⟩
  · rcases h2 j hF.1 with q | q
    · exact hF.2 (by rw [h.sv]; exact q)
    · omega
  · rcases hs j hj with q | q
    · exact h2 j q
    · exact .inr (Nat.le_trans h.bel.size q)
  · rcases hs j hF with q | q
    · exact h3 j hj q
    · have := h.row.lt j hj; omega
  · have hr := h.res
    obtain ⟨m, hm⟩ : ∃ m, sC.r.length = m + 1 := ⟨sC.r.length - 1, by omega⟩
    have e1 : (popM sC).r.length = m := by omega
    rw [hm, allM] at hr
    rw [e1]
    exact hr
theorem AllAt.app {W wr w1 : World} {C : Nat} {vw v4 v5 : Value} {all l : List Nat} {sC : HS} {x : Nat} (hr : Row wr 3 v4 (nats l)) (hown : ∀ j, v4.ownBlock = some j → W.heap.size ≤ j) (hb : Below W.heap.size W wr) (hp : ∃ Fk, Hp wr C sC Fk ∧ (∀ j, Fk j → vw.ownBlock = some j ∨ W.heap.size ≤ j) ∧ (∀ j, v4.ownBlock = some j → ¬ Fk j)) (hv : sC.v = vw) (hg : HM.Good sC) (hres : l ++ x :: allM sC.r.length sC = all)
    (o : Obj) (hr1 : Row w1 3 v5 (nats l ++ [.int .i64 (x : Nat)])) (hk : Keep (fun k => v4.ownBlock = some k) (wr.alloc o) w1) (hat : v5.ownBlock = v4.ownBlock ∨ v5.ownBlock = some (wr.alloc o).heap.size) : AllAt W C vw all sC v5 (l ++ [x]) w1 := by
  have hka : Keep (fun k => v4.ownBlock = some k) wr w1 := (Keep.ofBelow (F := fun _ => False) ((Below.refl wr.heap.size wr).alloc (Nat.le_refl _) o)).trans hk (fun _ h => h.elim) (fun _ h => .inl h)
  obtain ⟨Fk, h1, h2, h3⟩ := hp
  refine ⟨⟨Fk, ?_, h2, fun j hj hF => ?_⟩, hv, by rw [show nats (l ++ [x]) = nats l ++ [.int .i64 (x : Nat)] from by simp [nats]]; exact hr1, fun j hj => ?_, below_trans hb ⟨hka.os, hka.tape, hka.output, hka.size, fun j hj => hka.block j (Nat.lt_of_lt_of_le hj hb.size) (fun hF => by have := hown j hF; omega)⟩, hg, by rw [List.append_assoc]; exact hres⟩
  · obtain ⟨a, b, c, h, hh⟩ := h1
    exact ⟨a, b, c, h.keep hka (fun j hF hj => h3 j hj hF), hh⟩
  · rcases hat with e | e
    · exact h3 j (e ▸ hj) hF
    · rw [e] at hj
      cases hj
      obtain ⟨a, b, c, h, _⟩ := h1
      have := h.old _ hF
      simp at this
      omega
  · rcases hat with e | e
    · exact hown j (e ▸ hj)
    · rw [e] at hj
      cases hj
      have := hb.size
      simp
      omega
theorem fresh_move {w0 V V' : World} {e : TypeId} {v : Value} {xs : List Value} {G : Nat → Prop} (h : Fresh w0 V e v xs) (hk : Keep G V V') (hn : ∀ j, v.ownBlock = some j → ¬ G j) (hG : ∀ j, G j → w0.heap.size ≤ j) : Fresh w0 V' e v xs :=
  ⟨h.row.keep hk hn, h.below.trans (hk.below (fun j hj => hG j hj) h.below.size), h.own⟩
theorem own_app {v v1 : Value} {V : World} (hat : v1.ownBlock = v.ownBlock ∨ v1.ownBlock = some V.heap.size) {u : Value} (hu : ∀ j, u.ownBlock = some j → j < V.heap.size) (h : ∀ j, u.ownBlock = some j → v.ownBlock ≠ some j) : ∀ j, u.ownBlock = some j → v1.ownBlock ≠ some j := by
  intro j hj e
  rcases hat with q | q
  · exact h j hj (q ▸ e)
  · rw [q] at e
    cases e
    have := hu _ hj
    omega
/-- While the copy's row is handed out. -/
structure YldAt (J : List Int → World → Prop) (A : Option Addr) (c : Nat) (all : List Nat) (b : Nat) (w1 : World) (k : Nat) (wr : World) : Prop where
  j : J ((all.map (fun (x : Nat) => (x : Int))).take k) wr
  row : Row wr 3 (.slice A all.length c) (nats all)
  nb : ∀ g, (Value.slice A all.length c).ownBlock = some g → g ≠ b ∧ ∀ v, wr.cell? ⟨b, 0, none⟩ = some v → v.ownBlock ≠ some g
theorem YldAt.start {J : List Int → World → Prop} {A : Option Addr} {c b : Nat} {all : List Nat} {W w1 : World} (hb : b < W.heap.size ∧ ∀ v j, W.cell? ⟨b, 0, none⟩ = some v → v.ownBlock = some j → j < W.heap.size) (hw : Below W.heap.size W w1) (hr : Row w1 3 (.slice A all.length c) (nats all)) (ho : ∀ j, (Value.slice A all.length c).ownBlock = some j → W.heap.size ≤ j) (hj : J [] w1) : YldAt J A c all b w1 0 w1 :=
  ⟨by simpa using hj, hr, fun g hg => ⟨by have := ho g hg; omega, fun v hv hvg => by
    have h1 := hb.2 v g ((hw.cell (p := ⟨b, 0, none⟩) hb.1).symm.trans hv) hvg
    have h2 := ho g hg
    omega⟩⟩
theorem YldAt.next {J : List Int → World → Prop} {A : Option Addr} {c b k : Nat} {all : List Nat} {w1 wr W' : World} (h : YldAt J A c all b w1 k wr) (hk : k < all.length) (hj : J ((all.map (fun (x : Nat) => (x : Int))).take k ++ [((all.getD k 0 : Nat) : Int)]) W') (hq : Kq b wr W') : YldAt J A c all b w1 (k + 1) W' := by
  refine ⟨?_, ?_, fun g hg => ⟨(h.nb g hg).1, fun v hv hvg => ?_⟩⟩
  · rw [List.take_succ_eq_append_getElem (by simpa using hk), List.getElem_map]
    rw [List.getD_eq_getElem?_getD, List.getElem?_eq_getElem hk] at hj
    exact hj
  · rcases h.row with ⟨h1, h2⟩ | ⟨g, off, cap, cur, h1, h2, h3, h4, h5, h6⟩
    · exact .inl ⟨h1, h2⟩
    · have hg : (Value.slice A all.length c).ownBlock = some g := by rw [h1]; rfl
      exact .inr ⟨g, off, cap, cur, h1, hq.blk g _ h2 rfl (h.nb g hg).1 (h.nb g hg).2, h3, h4, h5, h6⟩
  · rcases hq.own v g hv hvg with ⟨v0, a1, a2⟩ | a1
    · exact (h.nb g hg).2 v0 a1 a2
    · have := h.row.lt g hg; omega

attribute [local go_sem] Oper.semAt_some
set_option maxRecDepth 100000 in
set_option maxHeartbeats 3200000 in
theorem all_stops (w : World) (n bx t b : Nat) (s : HS) (F : Nat → Prop) (hg : HM.Good s) (hp : Hp w t s F) (hb : w.cell? ⟨bx, 0, none⟩ = some (ptr t)) (hbx : bx < w.heap.size) (hbl : b < w.heap.size) (hbo : ∀ v j, w.cell? ⟨b, 0, none⟩ = some v → v.ownBlock = some j → j < w.heap.size) :
    SeqStopsK Fence.wide n Try.prog 46 #[.pointer (some ⟨bx, 0, none⟩)] (fun x : Int => #[Value.int .i64 x]) (Kq b) (fun xs => xs = (allM s.r.length s).map (fun (x : Nat) => (x : Int))) (fun pre => pre <+: (allM s.r.length s).map (fun (x : Nat) => (x : Int))) s.r.length w := by
  intro l J Jx W hW hJ hJx hY h0
  refine callsIn_wide.2 ?_
  obtain ⟨all, hall⟩ : ∃ a, a = allM s.r.length s := ⟨_, rfl⟩
  have hN : s.r.length = all.length := by rw [hall, allM_len]
  rw [← hall]
  rw [hN] at hY
  have HY := hid hY
  have HJ := hid hJ
  have H0 := hid h0
  obtain ⟨vw, vp, vr, h, HV⟩ := hp.below hW
  obtain ⟨Aw, cw, hvw, _, _⟩ := (h.row 0 _ _ vw rfl rfl).shape
  rw [List.length_map] at hvw
  subst hvw
  have hbW : W.cell? ⟨bx, 0, none⟩ = some (ptr t) := (hW.cell (p := ⟨bx, 0, none⟩) hbx).trans hb
  have hBO : Hid (b < W.heap.size ∧ ∀ v j, W.cell? ⟨b, 0, none⟩ = some v → v.ownBlock = some j → j < W.heap.size) := hid ⟨Nat.lt_of_lt_of_le hbl hW.size, fun v j hv hj => Nat.lt_of_lt_of_le (hbo v j ((hW.cell (p := ⟨b, 0, none⟩) hbl).symm.trans hv) hj) hW.size⟩
  have hbxW : bx < W.heap.size := Nat.lt_of_lt_of_le hbx hW.size
  have hc0 := h.cell 0 (Value.slice Aw s.w.length cw) rfl
  have hc1 := h.cell 1 vp rfl
  have hc2 := h.cell 2 vr rfl
  have htl := blk_lt h.blk
  have HB := hid (fun (V : World) (q : Below W.heap.size W V) => (show V.cell? ⟨bx, 0, none⟩ = some (ptr t) ∧ V.cell? ⟨t, 0, none⟩ = some (Value.slice Aw s.w.length cw) ∧ V.cell? ⟨t, 1, none⟩ = some vp ∧ V.cell? ⟨t, 2, none⟩ = some vr from ⟨(q.cell (p := ⟨bx, 0, none⟩) hbxW).trans hbW, (q.cell (p := ⟨t, 0, none⟩) htl).trans hc0, (q.cell (p := ⟨t, 1, none⟩) htl).trans hc1, (q.cell (p := ⟨t, 2, none⟩) htl).trans hc2⟩))
  have RW := hid (h.row 0 _ _ (Value.slice Aw s.w.length cw) rfl rfl)
  have RP := hid (h.row 1 _ _ vp rfl rfl)
  have RR := hid (h.row 2 _ _ vr rfl rfl)
  have HG := hid hg
  have HOB := hid h
  have b0 : Below W.heap.size W W.drew := ⟨rfl, rfl, rfl, Nat.le_refl _, fun _ _ => rfl⟩
  have HB0 := hid b0
  have HPL : Hid (s.p.length ≤ 1048576 ∧ s.r.length ≤ 1048576) := hid ⟨by rw [hg.wf.len]; exact hg.wf.big, hg.wf.rbig⟩
  have HALL := hid hall
  clear hY hJ h0 h hc0 hc1 hc2 hg b0 hp hb hbx hbl hbo hbxW hJx hall hN
  show Calls _ _ #[.func (.yield l) #[] #[], .pointer (some ⟨bx, 0, none⟩)] _ _
  go_enter Try.func46, Try.ntmps46
  go_wp2_with fail
  refine start_ (n := 19) (S := (fun w' => w'.cell? ⟨bx, 0, none⟩ = some (ptr t) ∧ w'.cell? ⟨t, 0, none⟩ = some (Value.slice Aw s.w.length cw) ∧ w'.cell? ⟨t, 1, none⟩ = some vp ∧ w'.cell? ⟨t, 2, none⟩ = some vr)) (ds := []) #[false, false, false, false, false, false, false, false, false, false, false, false, false, false, false, false, false, false, false] (by kernel_rfl) rfl rfl (HB.out _ HB0.out) (fun hHeld => ?_)
  refine take_ (i := 0) (N := some 11) (v := ?_) (a' := ?_) #[true, false, false, false, false, false, false, false, false, false, false, false, false, false, false, false, false, false, false] rfl rfl (by kernel_rfl) (fun _ _ _ h => h) (Or.inl ⟨by rfl, ?_⟩) hHeld ?_ ?_   -- load 40 (%1)
  rotate_left
  · rintro w' ⟨s0, s1, s2, s3⟩
    go_simp
    with_reducible rfl
  rotate_left
  · simp only [Act.put, List.setIfInBounds_toArray, List.set_cons_zero, List.set_cons_succ]
    rfl
  refine take_ (i := 1) (N := some 12) (v := ?_) (a' := ?_) #[true, true, false, false, false, false, false, false, false, false, false, false, false, false, false, false, false, false, false] rfl rfl (by kernel_rfl) (fun _ _ _ h => h) (Or.inl ⟨by rfl, ?_⟩) hHeld ?_ ?_   -- nilCheck (%11)
  rotate_left
  · rintro w' ⟨s0, s1, s2, s3⟩
    go_simp
    with_reducible rfl
  rotate_left
  · simp only [Act.put, List.setIfInBounds_toArray, List.set_cons_zero, List.set_cons_succ]
    rfl
  refine take_ (i := 2) (N := some 13) (v := ?_) (a' := ?_) #[true, true, true, false, false, false, false, false, false, false, false, false, false, false, false, false, false, false, false] rfl rfl (by kernel_rfl) (fun _ _ _ h => h) (Or.inl ⟨by rfl, ?_⟩) hHeld ?_ ?_   -- fieldAddr 67 (%12) 0
  rotate_left
  · rintro w' ⟨s0, s1, s2, s3⟩
    go_simp
    with_reducible rfl
  rotate_left
  · simp only [Act.put, List.setIfInBounds_toArray, List.set_cons_zero, List.set_cons_succ]
    rfl
  refine take_ (i := 3) (N := some 14) (v := ?_) (a' := ?_) #[true, true, true, true, false, false, false, false, false, false, false, false, false, false, false, false, false, false, false] rfl rfl (by kernel_rfl) (fun _ _ _ h => h) (Or.inl ⟨by rfl, ?_⟩) hHeld ?_ ?_   -- load 39 (%13)
  rotate_left
  · rintro w' ⟨s0, s1, s2, s3⟩
    go_simp
    with_reducible rfl
  rotate_left
  · simp only [Act.put, List.setIfInBounds_toArray, List.set_cons_zero, List.set_cons_succ]
    rfl
  refine take_ (i := 5) (N := some 16) (v := ?_) (a' := ?_) #[true, true, true, true, false, true, false, false, false, false, false, false, false, false, false, false, false, false, false] rfl rfl (by kernel_rfl) (fun _ _ _ h => h) (Or.inl ⟨by rfl, ?_⟩) hHeld ?_ ?_   -- load 40 (%1)
  rotate_left
  · rintro w' ⟨s0, s1, s2, s3⟩
    go_simp
    with_reducible rfl
  rotate_left
  · simp only [Act.put, List.setIfInBounds_toArray, List.set_cons_zero, List.set_cons_succ]
    rfl
  refine take_ (i := 6) (N := some 17) (v := ?_) (a' := ?_) #[true, true, true, true, false, true, true, false, false, false, false, false, false, false, false, false, false, false, false] rfl rfl (by kernel_rfl) (fun _ _ _ h => h) (Or.inl ⟨by rfl, ?_⟩) hHeld ?_ ?_   -- nilCheck (%16)
  rotate_left
  · rintro w' ⟨s0, s1, s2, s3⟩
    go_simp
    with_reducible rfl
  rotate_left
  · simp only [Act.put, List.setIfInBounds_toArray, List.set_cons_zero, List.set_cons_succ]
    rfl
  refine take_ (i := 7) (N := some 18) (v := ?_) (a' := ?_) #[true, true, true, true, false, true, true, true, false, false, false, false, false, false, false, false, false, false, false] rfl rfl (by kernel_rfl) (fun _ _ _ h => h) (Or.inl ⟨by rfl, ?_⟩) hHeld ?_ ?_   -- fieldAddr 67 (%17) 1
  rotate_left
  · rintro w' ⟨s0, s1, s2, s3⟩
    go_simp
    with_reducible rfl
  rotate_left
  · simp only [Act.put, List.setIfInBounds_toArray, List.set_cons_zero, List.set_cons_succ]
    rfl
  refine take_ (i := 8) (N := some 19) (v := ?_) (a' := ?_) #[true, true, true, true, false, true, true, true, true, false, false, false, false, false, false, false, false, false, false] rfl rfl (by kernel_rfl) (fun _ _ _ h => h) (Or.inl ⟨by rfl, ?_⟩) hHeld ?_ ?_   -- load 25 (%18)
  rotate_left
  · rintro w' ⟨s0, s1, s2, s3⟩
    go_simp
    with_reducible rfl
  rotate_left
  · simp only [Act.put, List.setIfInBounds_toArray, List.set_cons_zero, List.set_cons_succ]
    rfl
  refine take_ (i := 11) (N := some 22) (v := ?_) (a' := ?_) #[true, true, true, true, false, true, true, true, true, false, false, true, false, false, false, false, false, false, false] rfl rfl (by kernel_rfl) (fun _ _ _ h => h) (Or.inl ⟨by rfl, ?_⟩) hHeld ?_ ?_   -- load 40 (%1)
  rotate_left
  · rintro w' ⟨s0, s1, s2, s3⟩
    go_simp
    with_reducible rfl
  rotate_left
  · simp only [Act.put, List.setIfInBounds_toArray, List.set_cons_zero, List.set_cons_succ]
    rfl
  refine take_ (i := 12) (N := some 23) (v := ?_) (a' := ?_) #[true, true, true, true, false, true, true, true, true, false, false, true, true, false, false, false, false, false, false] rfl rfl (by kernel_rfl) (fun _ _ _ h => h) (Or.inl ⟨by rfl, ?_⟩) hHeld ?_ ?_   -- nilCheck (%22)
  rotate_left
  · rintro w' ⟨s0, s1, s2, s3⟩
    go_simp
    with_reducible rfl
  rotate_left
  · simp only [Act.put, List.setIfInBounds_toArray, List.set_cons_zero, List.set_cons_succ]
    rfl
  refine take_ (i := 13) (N := some 24) (v := ?_) (a' := ?_) #[true, true, true, true, false, true, true, true, true, false, false, true, true, true, false, false, false, false, false] rfl rfl (by kernel_rfl) (fun _ _ _ h => h) (Or.inl ⟨by rfl, ?_⟩) hHeld ?_ ?_   -- fieldAddr 67 (%23) 2
  rotate_left
  · rintro w' ⟨s0, s1, s2, s3⟩
    go_simp
    with_reducible rfl
  rotate_left
  · simp only [Act.put, List.setIfInBounds_toArray, List.set_cons_zero, List.set_cons_succ]
    rfl
  refine take_ (i := 14) (N := some 25) (v := ?_) (a' := ?_) #[true, true, true, true, false, true, true, true, true, false, false, true, true, true, true, false, false, false, false] rfl rfl (by kernel_rfl) (fun _ _ _ h => h) (Or.inl ⟨by rfl, ?_⟩) hHeld ?_ ?_   -- load 25 (%24)
  rotate_left
  · rintro w' ⟨s0, s1, s2, s3⟩
    go_simp
    with_reducible rfl
  rotate_left
  · simp only [Act.put, List.setIfInBounds_toArray, List.set_cons_zero, List.set_cons_succ]
    rfl
  refine two_ (i := 4) (j := 10) (Ni := some 15) (Nj := some 21) #[true, true, true, true, true, true, true, true, true, false, false, true, true, true, true, false, false, false, false] #[true, true, true, true, false, true, true, true, true, false, true, true, true, true, true, false, false, false, false] rfl rfl rfl rfl (by kernel_rfl) (by decide) (by decide) (fun K hK => ?_) (fun K hK => ?_)
  · refine value_ (by rfl) rfl (v := .slice (some ⟨W.drew.heap.size, 0, none⟩) 0 0) (w1 := W.drew.alloc (.cells #[] 3)) (by go_simp; first | done | rfl) ?_
    have FZ := hid (Fresh.zero (w0 := W) (w := W.drew) 3 HB0.out)
    refine hK.out _ _ (HB.out _ FZ.out.below) (fun hHeld => ?_)
    refine norm_ (a' := ?_) ?_ ?_
    rotate_left
    · simp only [Act.put, List.setIfInBounds_toArray, List.set_cons_zero, List.set_cons_succ]
      rfl
    refine two_ (i := 9) (j := 10) (Ni := some 20) (Nj := some 21) #[true, true, true, true, true, true, true, true, true, true, false, true, true, true, true, false, false, false, false] #[true, true, true, true, true, true, true, true, true, false, true, true, true, true, true, false, false, false, false] rfl rfl rfl rfl (by kernel_rfl) (by decide) (by decide) (fun K hK => ?_) (fun K hK => ?_)
    · refine TS.step_int _ (by rfl) (N := some 20) (by rfl) _ _ (by rfl) _ vp [] (lits s.p) (by rfl) (by rfl) FZ.out.row (RP.out.keep (Keep.ofBelow (F := fun _ => False) FZ.out.below) (fun _ _ h => h)) (by intro u hu; obtain ⟨y, _, rfl⟩ := List.mem_map.1 hu; rfl) (by have := HPL.out.1; simp; omega) ?_
      intro v20 V20 hr hk hat
      have F20 := hid (FZ.out.app hr hk hat)
      obtain ⟨A20, c20, rfl, _, _⟩ := hr.shape
      clear hr hk hat
      have hl20 : ([] ++ lits s.p).length = s.p.length := by simp
      rw [hl20, List.nil_append] at F20
      try rw [hl20]
      clear hl20
      refine hK.out _ _ (HB.out _ F20.out.below) (fun hHeld => ?_)
      refine norm_ (a' := ?_) ?_ ?_
      rotate_left
      · simp only [Act.put, List.setIfInBounds_toArray, List.set_cons_zero, List.set_cons_succ]
        rfl
      refine one_ (i := 10) (N := some 21) #[true, true, true, true, true, true, true, true, true, true, true, true, true, true, true, false, false, false, false] rfl rfl (by kernel_rfl) (by decide) (fun K hK => ?_)
      refine value_ (by rfl) rfl (v := .slice (some ⟨V20.heap.size, 0, none⟩) 0 0) (w1 := V20.alloc (.cells #[] 3)) (by go_simp; first | done | rfl) ?_
      have FR := hid (Fresh.zero (w0 := W) (w := V20) 3 F20.out.below)
      refine hK.out _ _ (HB.out _ FR.out.below) (fun hHeld => ?_)
      refine norm_ (a' := ?_) ?_ ?_
      rotate_left
      · simp only [Act.put, List.setIfInBounds_toArray, List.set_cons_zero, List.set_cons_succ]
        rfl
      have HD : Hid (∀ j, (Value.slice A20 s.p.length c20).ownBlock = some j → (Value.slice (some ⟨V20.heap.size, 0, none⟩) 0 0).ownBlock ≠ some j) := hid (fun j hj e => by have h1 := F20.out.row.lt _ hj; simp [Value.ownBlock] at e; omega)
      have F20_ := F20
      have F20 := hid (F20_.out.alloc (.cells #[] 3))
      refine one_ (i := 15) (N := some 26) #[true, true, true, true, true, true, true, true, true, true, true, true, true, true, true, true, false, false, false] rfl rfl (by kernel_rfl) (by decide) (fun K hK => ?_)
      refine TS.step_int _ (by rfl) (N := some 26) (by rfl) _ _ (by rfl) _ vr [] (nats s.r) (by rfl) (by rfl) FR.out.row (RR.out.keep (Keep.ofBelow (F := fun _ => False) FR.out.below) (fun _ _ h => h)) (by intro u hu; obtain ⟨y, _, rfl⟩ := List.mem_map.1 hu; rfl) (by have := HPL.out.2; simp; omega) ?_
      intro v26 V26 hr hk hat
      have F26 := hid (FR.out.app hr hk hat)
      have F20' := hid (fresh_move F20.out hk HD.out FR.out.own)
      have HNE := hid (own_app hat (fun j hj => F20.out.row.lt j hj) HD.out)
      obtain ⟨A26, c26, rfl, _, _⟩ := hr.shape
      clear hr hk hat
      have hl26 : ([] ++ nats s.r).length = s.r.length := by simp
      rw [hl26] at HNE
      rw [hl26, List.nil_append] at F26
      try rw [hl26]
      clear hl26
      refine hK.out _ _ (HB.out _ F26.out.below) (fun hHeld => ?_)
      refine norm_ (a' := ?_) ?_ ?_
      rotate_left
      · simp only [Act.put, List.setIfInBounds_toArray, List.set_cons_zero, List.set_cons_succ]
        rfl
      refine pure_ (i := 16) (N := some 27) (v := ?_) (a' := ?_) #[true, true, true, true, true, true, true, true, true, true, true, true, true, true, true, true, true, false, false] rfl rfl (by kernel_rfl) (fun _ _ _ h => h) (Or.inl ⟨by rfl, ?_⟩) ?_ ?_   -- build 67 #[(0, %14), (1, %20), (2, %26)]
      rotate_left
      · intro w'
        go_simp
        with_reducible rfl
      rotate_left
      · simp only [Act.put, List.setIfInBounds_toArray, List.set_cons_zero, List.set_cons_succ]
        rfl
      refine one_ (i := 17) (N := some 28) #[true, true, true, true, true, true, true, true, true, true, true, true, true, true, true, true, true, true, false] rfl rfl (by kernel_rfl) (by decide) (fun K hK => ?_)
      refine value_ (by rfl) rfl (v := ptr V26.heap.size) (w1 := V26.alloc (.cells #[(Value.slice Aw s.w.length cw), .slice A20 s.p.length c20, .slice A26 s.r.length c26] 67)) (by go_simp; first | done | rfl) ?_
      have COP := hid (copy_ob W V26 (Value.slice Aw s.w.length cw) (.slice A20 s.p.length c20) (.slice A26 s.r.length c26) s (RW.out.keep (Keep.ofBelow (F := fun _ => False) F26.out.below) (fun _ _ h => h)) F20'.out.row F26.out.row (fun j hj => RW.out.lt j hj) F20'.out.own F26.out.own HNE.out F26.out.below.size)
      have BOX : Hid (Below W.heap.size W (V26.alloc (.cells #[(Value.slice Aw s.w.length cw), .slice A20 s.p.length c20, .slice A26 s.r.length c26] 67))) := hid (F26.out.below.alloc F26.out.below.size _)
      refine hK.out _ _ (HB.out _ BOX.out) (fun hHeld => ?_)
      refine norm_ (a' := ?_) ?_ ?_
      rotate_left
      · simp only [Act.put, List.setIfInBounds_toArray, List.set_cons_zero, List.set_cons_succ]
        rfl
      refine pure_ (i := 18) (N := some 3) (v := ?_) (a' := ?_) #[true, true, true, true, true, true, true, true, true, true, true, true, true, true, true, true, true, true, true] rfl rfl (by kernel_rfl) (fun _ _ _ h => h) (Or.inl ⟨by rfl, ?_⟩) ?_ ?_   -- assign (%28)
      rotate_left
      · intro w'
        go_simp
        with_reducible rfl
      rotate_left
      · simp only [Act.put, List.setIfInBounds_toArray, List.set_cons_zero, List.set_cons_succ]
        rfl
      refine done_ (by kernel_rfl) ?_
      obtain ⟨C, hC⟩ : ∃ C, C = V26.heap.size := ⟨_, rfl⟩
      obtain ⟨W9, hW9⟩ : ∃ V, V = V26.alloc (.cells #[(Value.slice Aw s.w.length cw), .slice A20 s.p.length c20, .slice A26 s.r.length c26] 67) := ⟨_, rfl⟩
      have ST : Hid (AllAt W C (Value.slice Aw s.w.length cw) all s (.slice none 0 0) [] W9) := hid (by
        rw [hC, hW9]
        exact ⟨⟨_, ⟨_, _, _, COP.out, HV⟩, fun j hj => hj.imp id And.left, (fun j hj => by cases hj)⟩, HV.out.symm, .nil _ _, (fun j hj => by cases hj), BOX.out, HG.out, HALL.out.symm⟩)
      rw [← hW9, ← hC]
      clear hC hW9 COP BOX F20 F20' F26 FR HD HNE
      go_wp2_with fail
      go_loopg [4] all.length (fun left v4 wr => ∃ sC lp A4 c4, lp.length + left = all.length ∧ sC.r.length = left ∧ v4 = .slice A4 lp.length c4 ∧ Hid (AllAt W C (Value.slice Aw s.w.length cw) all sC v4 lp wr))
      case atStart => exact ⟨s, [], none, 0, by simp, by rw [HALL.out, allM_len], rfl, ST⟩
      case round =>
        obtain ⟨sC, lp, A4, c4, hll, hsl, rfl, U⟩ := hrel
        have LEN := hid U.out.len
        rw [hsl] at LEN
        have HSL := hid hsl
        obtain ⟨nl, hnl⟩ : ∃ n, n = lp.length := ⟨_, rfl⟩
        rw [← hnl] at U LEN hll ⊢
        have HNL := hid hnl
        have hnb : nl ≤ 1048576 := by have := HPL.out.2; have := HALL.out; have := allM_len s.r.length s; rw [← HALL.out] at this; omega
        clear hsl hnl ST
        cases gk with
        | succ left =>
          have hpos : decide ((0 : Int) < ((left + 1 : Nat) : Int)) = true := decide_eq_true (by omega)
          have hpos2 : (((left + 1 : Nat) : Int)) > 0 := by omega
          go_wp2_with fail
          refine LEN.out.mono ?_
          rintro e w1 ⟨rfl, u1⟩
          have POP := hid (u1.pop (by rw [HSL.out]; omega))
          obtain ⟨x, hx⟩ : ∃ x, x = R sC 0 := ⟨_, rfl⟩
          rw [← hx] at POP
          have GP := hid (pop_good u1.good (by rw [HSL.out]; omega)).2.2.1
          have HOW := hid u1.own
          clear hx u1
          go_wp2_with fail
          refine POP.out.mono ?_
          rintro e w2 ⟨rfl, r2, b2, hp2, hv2, hg2, hres2⟩
          have R2 := hid r2
          have B2 := hid b2
          have HP2 := hid hp2
          have HV2 := hid hv2
          have HG2 := hid hg2
          have HRES2 := hid hres2
          clear r2 b2 hp2 hv2 hg2 hres2
          go_wp2_with (at_builtin; go_loud (refine wp_app _ rfl _ _ rfl _ _ (nats lp) [.int .i64 (x : Nat)] (by rfl) (by rfl) (R2.out.alloc _) (Row.one _ _ _) (by simp [Value.oneCell']) (by have := HNL.out; simp; omega) ?_; intro v5 w5 hr5 hk5 hat5; have A5 := hid (AllAt.app R2.out HOW.out B2.out HP2.out HV2.out HG2.out HRES2.out _ hr5 hk5 hat5); obtain ⟨A6, c6, rfl, _, _⟩ := hr5.shape; have hln : (nats lp ++ [Value.int .i64 (x : Nat)]).length = nl + 1 := (by have := HNL.out; simp; omega); rw [hln] at A5; try rw [hln]; clear hr5 hk5 hat5 hln))
          go_roundg left
          case measure => omega
          case rel => exact ⟨popM sC, lp ++ [x], A6, c6, by have := HNL.out; simp; omega, by have := GP.out; have := HSL.out; omega, by have := HNL.out; simp; omega, A5⟩
        | zero =>
          go_wp2_with fail
          refine LEN.out.mono ?_
          rintro e w1 ⟨rfl, u1⟩
          have U1 := hid u1
          clear u1
          go_wp2_with fail
          have hlp : lp = all := by
            have h := U1.out.res
            rw [HSL.out] at h
            simpa [allM] using h
          obtain rfl : nl = all.length := by rw [HNL.out, hlp]
          have HROW := hid U1.out.row
          have HOWN := hid U1.out.own
          have HBEL := hid U1.out.bel
          rw [hlp] at HROW
          have J0 : Hid (J [] w1) := hid (HJ.out [] W w1 none H0.out (grown_of_below HBEL.out none) (fun r e => by cases e))
          clear hlp U1 U LEN HNL
          refine wpIn_wide (n := n).1 ?_
          gi_loopw [43] (fun v43 wr' => ∃ k : Nat, k ≤ all.length ∧ v43 = .int .i64 (k : Int) ∧ Hid (YldAt J A4 c4 all b w1 k wr')) (fun v43 wr' => all.length - (intOf v43).toNat)
          case atStart => exact ⟨0, Nat.zero_le _, rfl, hid (YldAt.start hBO.out HBEL.out HROW.out HOWN.out J0.out)⟩
          case round =>
            obtain ⟨k, hk, rfl, Y⟩ := hrel
            clear J0 HROW HOWN HBEL
            by_cases hkn : k < all.length
            · have hkI : (k : Int) < (all.length : Int) := by omega
              obtain ⟨x, hx⟩ : ∃ x, x = all.getD k 0 := ⟨_, rfl⟩
              obtain ⟨g, off, cap, hv, _, _, _, hcells, _⟩ := Y.out.row.cells (by simp; omega)
              injection hv with hA hA2 hcc
              subst hA hcc
              have hxc := (hcells k (by simpa using hkn)).trans (nats_get _ _ hkn)
              rw [← hx] at hxc
              obtain ⟨fn, tmps, assign, body, hy, hR⟩ := HY.out _ (x : Int) wr Y.out.j (by simp; omega)
              try dsimp only at hy
              have HX := hid hx
              have HR := hid hR
              clear hx hR hcells hA2
              gi_wp2
              refine ⟨fun h => (by simp [Fence.wide] at h), HR.out.mono ?_⟩
              rintro e W' (⟨rfl, hJ', hq⟩ | ⟨rfl, hJx'⟩)
              · have Y2 := hid (Y.out.next hkn (by rw [← HX.out]; exact hJ') hq)
                clear hJ' hq
                gi_wp2
                go_roundw
                case rel => exact ⟨k + 1, hkn, by simp, Y2⟩
                case measure => simp [intOf]; omega
              · have HJX := hid hJx'
                clear hJx'
                gi_wp2
                refine bodyPost_ret (results_none rfl _ _ _) rfl ?_
                refine ⟨⟨_, rfl⟩, .inr ⟨_, ?_, HJX.out⟩⟩
                have e1 : (all.map (fun (x : Nat) => (x : Int))).take k ++ [(x : Int)] = (all.map (fun (x : Nat) => (x : Int))).take (k + 1) := by
                  rw [List.take_succ_eq_append_getElem (by simpa using hkn), List.getElem_map, HX.out, List.getD_eq_getElem?_getD, List.getElem?_eq_getElem hkn]
                  rfl
                rw [e1]
                exact List.take_prefix _ _
            · obtain rfl : k = all.length := by omega
              have HJJ := Y.out.j
              rw [List.take_of_length_le (by simp)] at HJJ
              have HJ2 := hid HJJ
              clear HJJ
              gi_wp2
              try simp only [Exit.inBlock, Exit.then]
              refine bodyPost_end (results_none rfl _ _ _) rfl ?_
              exact ⟨⟨_, rfl⟩, .inl ⟨_, rfl, HJ2.out⟩⟩
    · refine value_ (by rfl) rfl (v := .slice (some ⟨W.heap.size + 1, 0, none⟩) 0 0) (w1 := (W.drew.alloc (.cells #[] 3)).alloc (.cells #[] 3)) (by go_simp; first | done | rfl) ?_
      have FR := hid (by have q := Fresh.zero (w0 := W) (w := (W.drew.alloc (.cells #[] 3))) 3 FZ.out.below; rw [show (W.drew.alloc (.cells #[] 3)).heap.size = W.heap.size + 1 from by simp] at q; exact q)
      refine hK.out _ _ (HB.out _ FR.out.below) (fun hHeld => ?_)
      refine norm_ (a' := ?_) ?_ ?_
      rotate_left
      · simp only [Act.put, List.setIfInBounds_toArray, List.set_cons_zero, List.set_cons_succ]
        rfl
      refine one_ (i := 9) (N := some 20) #[true, true, true, true, true, true, true, true, true, true, true, true, true, true, true, false, false, false, false] rfl rfl (by kernel_rfl) (by decide) (fun K hK => ?_)
      have FZ_ := FZ
      have FZ := hid (FZ_.out.alloc (.cells #[] 3))
      refine TS.step_int _ (by rfl) (N := some 20) (by rfl) _ _ (by rfl) _ vp [] (lits s.p) (by rfl) (by rfl) FZ.out.row (RP.out.keep (Keep.ofBelow (F := fun _ => False) FZ.out.below) (fun _ _ h => h)) (by intro u hu; obtain ⟨y, _, rfl⟩ := List.mem_map.1 hu; rfl) (by have := HPL.out.1; simp; omega) ?_
      intro v20 V20 hr hk hat
      have F20 := hid (FZ.out.app hr hk hat)
      have FR_ := FR
      have FR := hid (fresh_move FR_.out hk (fun j hj e => by simp [Value.ownBlock] at hj e; omega) FZ.out.own)
      have HD : Hid (∀ j, v20.ownBlock = some j → (Value.slice (some ⟨W.heap.size + 1, 0, none⟩) 0 0).ownBlock ≠ some j) := hid (fun j hj e => own_app hat (u := .slice (some ⟨W.heap.size + 1, 0, none⟩) 0 0) (fun j hj => FR_.out.row.lt j hj) (fun j hj e => by simp [Value.ownBlock] at hj e; omega) j e hj)
      obtain ⟨A20, c20, rfl, _, _⟩ := hr.shape
      clear hr hk hat
      have hl20 : ([] ++ lits s.p).length = s.p.length := by simp
      rw [hl20, List.nil_append] at F20
      try rw [hl20]
      rw [hl20] at HD
      clear hl20
      refine hK.out _ _ (HB.out _ F20.out.below) (fun hHeld => ?_)
      refine norm_ (a' := ?_) ?_ ?_
      rotate_left
      · simp only [Act.put, List.setIfInBounds_toArray, List.set_cons_zero, List.set_cons_succ]
        rfl
      refine one_ (i := 15) (N := some 26) #[true, true, true, true, true, true, true, true, true, true, true, true, true, true, true, true, false, false, false] rfl rfl (by kernel_rfl) (by decide) (fun K hK => ?_)
      refine TS.step_int _ (by rfl) (N := some 26) (by rfl) _ _ (by rfl) _ vr [] (nats s.r) (by rfl) (by rfl) FR.out.row (RR.out.keep (Keep.ofBelow (F := fun _ => False) FR.out.below) (fun _ _ h => h)) (by intro u hu; obtain ⟨y, _, rfl⟩ := List.mem_map.1 hu; rfl) (by have := HPL.out.2; simp; omega) ?_
      intro v26 V26 hr hk hat
      have F26 := hid (FR.out.app hr hk hat)
      have F20' := hid (fresh_move F20.out hk HD.out FR.out.own)
      have HNE := hid (own_app hat (fun j hj => F20.out.row.lt j hj) HD.out)
      obtain ⟨A26, c26, rfl, _, _⟩ := hr.shape
      clear hr hk hat
      have hl26 : ([] ++ nats s.r).length = s.r.length := by simp
      rw [hl26] at HNE
      rw [hl26, List.nil_append] at F26
      try rw [hl26]
      clear hl26
      refine hK.out _ _ (HB.out _ F26.out.below) (fun hHeld => ?_)
      refine norm_ (a' := ?_) ?_ ?_
      rotate_left
      · simp only [Act.put, List.setIfInBounds_toArray, List.set_cons_zero, List.set_cons_succ]
        rfl
      refine pure_ (i := 16) (N := some 27) (v := ?_) (a' := ?_) #[true, true, true, true, true, true, true, true, true, true, true, true, true, true, true, true, true, false, false] rfl rfl (by kernel_rfl) (fun _ _ _ h => h) (Or.inl ⟨by rfl, ?_⟩) ?_ ?_   -- build 67 #[(0, %14), (1, %20), (2, %26)]
      rotate_left
      · intro w'
        go_simp
        with_reducible rfl
      rotate_left
      · simp only [Act.put, List.setIfInBounds_toArray, List.set_cons_zero, List.set_cons_succ]
        rfl
      refine one_ (i := 17) (N := some 28) #[true, true, true, true, true, true, true, true, true, true, true, true, true, true, true, true, true, true, false] rfl rfl (by kernel_rfl) (by decide) (fun K hK => ?_)
      refine value_ (by rfl) rfl (v := ptr V26.heap.size) (w1 := V26.alloc (.cells #[(Value.slice Aw s.w.length cw), .slice A20 s.p.length c20, .slice A26 s.r.length c26] 67)) (by go_simp; first | done | rfl) ?_
      have COP := hid (copy_ob W V26 (Value.slice Aw s.w.length cw) (.slice A20 s.p.length c20) (.slice A26 s.r.length c26) s (RW.out.keep (Keep.ofBelow (F := fun _ => False) F26.out.below) (fun _ _ h => h)) F20'.out.row F26.out.row (fun j hj => RW.out.lt j hj) F20'.out.own F26.out.own HNE.out F26.out.below.size)
      have BOX : Hid (Below W.heap.size W (V26.alloc (.cells #[(Value.slice Aw s.w.length cw), .slice A20 s.p.length c20, .slice A26 s.r.length c26] 67))) := hid (F26.out.below.alloc F26.out.below.size _)
      refine hK.out _ _ (HB.out _ BOX.out) (fun hHeld => ?_)
      refine norm_ (a' := ?_) ?_ ?_
      rotate_left
      · simp only [Act.put, List.setIfInBounds_toArray, List.set_cons_zero, List.set_cons_succ]
        rfl
      refine pure_ (i := 18) (N := some 3) (v := ?_) (a' := ?_) #[true, true, true, true, true, true, true, true, true, true, true, true, true, true, true, true, true, true, true] rfl rfl (by kernel_rfl) (fun _ _ _ h => h) (Or.inl ⟨by rfl, ?_⟩) ?_ ?_   -- assign (%28)
      rotate_left
      · intro w'
        go_simp
        with_reducible rfl
      rotate_left
      · simp only [Act.put, List.setIfInBounds_toArray, List.set_cons_zero, List.set_cons_succ]
        rfl
      refine done_ (by kernel_rfl) ?_
      obtain ⟨C, hC⟩ : ∃ C, C = V26.heap.size := ⟨_, rfl⟩
      obtain ⟨W9, hW9⟩ : ∃ V, V = V26.alloc (.cells #[(Value.slice Aw s.w.length cw), .slice A20 s.p.length c20, .slice A26 s.r.length c26] 67) := ⟨_, rfl⟩
      have ST : Hid (AllAt W C (Value.slice Aw s.w.length cw) all s (.slice none 0 0) [] W9) := hid (by
        rw [hC, hW9]
        exact ⟨⟨_, ⟨_, _, _, COP.out, HV⟩, fun j hj => hj.imp id And.left, (fun j hj => by cases hj)⟩, HV.out.symm, .nil _ _, (fun j hj => by cases hj), BOX.out, HG.out, HALL.out.symm⟩)
      rw [← hW9, ← hC]
      clear hC hW9 COP BOX F20 F20' F26 FR HD HNE
      go_wp2_with fail
      go_loopg [4] all.length (fun left v4 wr => ∃ sC lp A4 c4, lp.length + left = all.length ∧ sC.r.length = left ∧ v4 = .slice A4 lp.length c4 ∧ Hid (AllAt W C (Value.slice Aw s.w.length cw) all sC v4 lp wr))
      case atStart => exact ⟨s, [], none, 0, by simp, by rw [HALL.out, allM_len], rfl, ST⟩
      case round =>
        obtain ⟨sC, lp, A4, c4, hll, hsl, rfl, U⟩ := hrel
        have LEN := hid U.out.len
        rw [hsl] at LEN
        have HSL := hid hsl
        obtain ⟨nl, hnl⟩ : ∃ n, n = lp.length := ⟨_, rfl⟩
        rw [← hnl] at U LEN hll ⊢
        have HNL := hid hnl
        have hnb : nl ≤ 1048576 := by have := HPL.out.2; have := HALL.out; have := allM_len s.r.length s; rw [← HALL.out] at this; omega
        clear hsl hnl ST
        cases gk with
        | succ left =>
          have hpos : decide ((0 : Int) < ((left + 1 : Nat) : Int)) = true := decide_eq_true (by omega)
          have hpos2 : (((left + 1 : Nat) : Int)) > 0 := by omega
          go_wp2_with fail
          refine LEN.out.mono ?_
          rintro e w1 ⟨rfl, u1⟩
          have POP := hid (u1.pop (by rw [HSL.out]; omega))
          obtain ⟨x, hx⟩ : ∃ x, x = R sC 0 := ⟨_, rfl⟩
          rw [← hx] at POP
          have GP := hid (pop_good u1.good (by rw [HSL.out]; omega)).2.2.1
          have HOW := hid u1.own
          clear hx u1
          go_wp2_with fail
          refine POP.out.mono ?_
          rintro e w2 ⟨rfl, r2, b2, hp2, hv2, hg2, hres2⟩
          have R2 := hid r2
          have B2 := hid b2
          have HP2 := hid hp2
          have HV2 := hid hv2
          have HG2 := hid hg2
          have HRES2 := hid hres2
          clear r2 b2 hp2 hv2 hg2 hres2
          go_wp2_with (at_builtin; go_loud (refine wp_app _ rfl _ _ rfl _ _ (nats lp) [.int .i64 (x : Nat)] (by rfl) (by rfl) (R2.out.alloc _) (Row.one _ _ _) (by simp [Value.oneCell']) (by have := HNL.out; simp; omega) ?_; intro v5 w5 hr5 hk5 hat5; have A5 := hid (AllAt.app R2.out HOW.out B2.out HP2.out HV2.out HG2.out HRES2.out _ hr5 hk5 hat5); obtain ⟨A6, c6, rfl, _, _⟩ := hr5.shape; have hln : (nats lp ++ [Value.int .i64 (x : Nat)]).length = nl + 1 := (by have := HNL.out; simp; omega); rw [hln] at A5; try rw [hln]; clear hr5 hk5 hat5 hln))
          go_roundg left
          case measure => omega
          case rel => exact ⟨popM sC, lp ++ [x], A6, c6, by have := HNL.out; simp; omega, by have := GP.out; have := HSL.out; omega, by have := HNL.out; simp; omega, A5⟩
        | zero =>
          go_wp2_with fail
          refine LEN.out.mono ?_
          rintro e w1 ⟨rfl, u1⟩
          have U1 := hid u1
          clear u1
          go_wp2_with fail
          have hlp : lp = all := by
            have h := U1.out.res
            rw [HSL.out] at h
            simpa [allM] using h
          obtain rfl : nl = all.length := by rw [HNL.out, hlp]
          have HROW := hid U1.out.row
          have HOWN := hid U1.out.own
          have HBEL := hid U1.out.bel
          rw [hlp] at HROW
          have J0 : Hid (J [] w1) := hid (HJ.out [] W w1 none H0.out (grown_of_below HBEL.out none) (fun r e => by cases e))
          clear hlp U1 U LEN HNL
          refine wpIn_wide (n := n).1 ?_
          gi_loopw [43] (fun v43 wr' => ∃ k : Nat, k ≤ all.length ∧ v43 = .int .i64 (k : Int) ∧ Hid (YldAt J A4 c4 all b w1 k wr')) (fun v43 wr' => all.length - (intOf v43).toNat)
          case atStart => exact ⟨0, Nat.zero_le _, rfl, hid (YldAt.start hBO.out HBEL.out HROW.out HOWN.out J0.out)⟩
          case round =>
            obtain ⟨k, hk, rfl, Y⟩ := hrel
            clear J0 HROW HOWN HBEL
            by_cases hkn : k < all.length
            · have hkI : (k : Int) < (all.length : Int) := by omega
              obtain ⟨x, hx⟩ : ∃ x, x = all.getD k 0 := ⟨_, rfl⟩
              obtain ⟨g, off, cap, hv, _, _, _, hcells, _⟩ := Y.out.row.cells (by simp; omega)
              injection hv with hA hA2 hcc
              subst hA hcc
              have hxc := (hcells k (by simpa using hkn)).trans (nats_get _ _ hkn)
              rw [← hx] at hxc
              obtain ⟨fn, tmps, assign, body, hy, hR⟩ := HY.out _ (x : Int) wr Y.out.j (by simp; omega)
              try dsimp only at hy
              have HX := hid hx
              have HR := hid hR
              clear hx hR hcells hA2
              gi_wp2
              refine ⟨fun h => (by simp [Fence.wide] at h), HR.out.mono ?_⟩
              rintro e W' (⟨rfl, hJ', hq⟩ | ⟨rfl, hJx'⟩)
              · have Y2 := hid (Y.out.next hkn (by rw [← HX.out]; exact hJ') hq)
                clear hJ' hq
                gi_wp2
                go_roundw
                case rel => exact ⟨k + 1, hkn, by simp, Y2⟩
                case measure => simp [intOf]; omega
              · have HJX := hid hJx'
                clear hJx'
                gi_wp2
                refine bodyPost_ret (results_none rfl _ _ _) rfl ?_
                refine ⟨⟨_, rfl⟩, .inr ⟨_, ?_, HJX.out⟩⟩
                have e1 : (all.map (fun (x : Nat) => (x : Int))).take k ++ [(x : Int)] = (all.map (fun (x : Nat) => (x : Int))).take (k + 1) := by
                  rw [List.take_succ_eq_append_getElem (by simpa using hkn), List.getElem_map, HX.out, List.getD_eq_getElem?_getD, List.getElem?_eq_getElem hkn]
                  rfl
                rw [e1]
                exact List.take_prefix _ _
            · obtain rfl : k = all.length := by omega
              have HJJ := Y.out.j
              rw [List.take_of_length_le (by simp)] at HJJ
              have HJ2 := hid HJJ
              clear HJJ
              gi_wp2
              try simp only [Exit.inBlock, Exit.then]
              refine bodyPost_end (results_none rfl _ _ _) rfl ?_
              exact ⟨⟨_, rfl⟩, .inl ⟨_, rfl, HJ2.out⟩⟩
  · refine value_ (by rfl) rfl (v := .slice (some ⟨W.drew.heap.size, 0, none⟩) 0 0) (w1 := W.drew.alloc (.cells #[] 3)) (by go_simp; first | done | rfl) ?_
    have FR := hid (Fresh.zero (w0 := W) (w := W.drew) 3 HB0.out)
    refine hK.out _ _ (HB.out _ FR.out.below) (fun hHeld => ?_)
    refine norm_ (a' := ?_) ?_ ?_
    rotate_left
    · simp only [Act.put, List.setIfInBounds_toArray, List.set_cons_zero, List.set_cons_succ]
      rfl
    refine one_ (i := 4) (N := some 15) #[true, true, true, true, true, true, true, true, true, false, true, true, true, true, true, false, false, false, false] rfl rfl (by kernel_rfl) (by decide) (fun K hK => ?_)
    refine value_ (by rfl) rfl (v := .slice (some ⟨W.heap.size + 1, 0, none⟩) 0 0) (w1 := (W.drew.alloc (.cells #[] 3)).alloc (.cells #[] 3)) (by go_simp; first | done | rfl) ?_
    have FZ := hid (by have q := Fresh.zero (w0 := W) (w := (W.drew.alloc (.cells #[] 3))) 3 FR.out.below; rw [show (W.drew.alloc (.cells #[] 3)).heap.size = W.heap.size + 1 from by simp] at q; exact q)
    refine hK.out _ _ (HB.out _ FZ.out.below) (fun hHeld => ?_)
    refine norm_ (a' := ?_) ?_ ?_
    rotate_left
    · simp only [Act.put, List.setIfInBounds_toArray, List.set_cons_zero, List.set_cons_succ]
      rfl
    have FR0 := FR
    have FR := hid (FR0.out.alloc (.cells #[] 3))
    refine one_ (i := 9) (N := some 20) #[true, true, true, true, true, true, true, true, true, true, true, true, true, true, true, false, false, false, false] rfl rfl (by kernel_rfl) (by decide) (fun K hK => ?_)
    refine TS.step_int _ (by rfl) (N := some 20) (by rfl) _ _ (by rfl) _ vp [] (lits s.p) (by rfl) (by rfl) FZ.out.row (RP.out.keep (Keep.ofBelow (F := fun _ => False) FZ.out.below) (fun _ _ h => h)) (by intro u hu; obtain ⟨y, _, rfl⟩ := List.mem_map.1 hu; rfl) (by have := HPL.out.1; simp; omega) ?_
    intro v20 V20 hr hk hat
    have F20 := hid (FZ.out.app hr hk hat)
    have FR_ := FR
    have FR := hid (fresh_move FR_.out hk (fun j hj e => by simp [Value.ownBlock] at hj e; omega) FZ.out.own)
    have HD : Hid (∀ j, v20.ownBlock = some j → (Value.slice (some ⟨W.drew.heap.size, 0, none⟩) 0 0).ownBlock ≠ some j) := hid (fun j hj e => own_app hat (u := .slice (some ⟨W.drew.heap.size, 0, none⟩) 0 0) (fun j hj => FR_.out.row.lt j hj) (fun j hj e => by simp [Value.ownBlock] at hj e; omega) j e hj)
    obtain ⟨A20, c20, rfl, _, _⟩ := hr.shape
    clear hr hk hat
    have hl20 : ([] ++ lits s.p).length = s.p.length := by simp
    rw [hl20, List.nil_append] at F20
    try rw [hl20]
    rw [hl20] at HD
    clear hl20
    refine hK.out _ _ (HB.out _ F20.out.below) (fun hHeld => ?_)
    refine norm_ (a' := ?_) ?_ ?_
    rotate_left
    · simp only [Act.put, List.setIfInBounds_toArray, List.set_cons_zero, List.set_cons_succ]
      rfl
    refine one_ (i := 15) (N := some 26) #[true, true, true, true, true, true, true, true, true, true, true, true, true, true, true, true, false, false, false] rfl rfl (by kernel_rfl) (by decide) (fun K hK => ?_)
    refine TS.step_int _ (by rfl) (N := some 26) (by rfl) _ _ (by rfl) _ vr [] (nats s.r) (by rfl) (by rfl) FR.out.row (RR.out.keep (Keep.ofBelow (F := fun _ => False) FR.out.below) (fun _ _ h => h)) (by intro u hu; obtain ⟨y, _, rfl⟩ := List.mem_map.1 hu; rfl) (by have := HPL.out.2; simp; omega) ?_
    intro v26 V26 hr hk hat
    have F26 := hid (FR.out.app hr hk hat)
    have F20' := hid (fresh_move F20.out hk HD.out FR.out.own)
    have HNE := hid (own_app hat (fun j hj => F20.out.row.lt j hj) HD.out)
    obtain ⟨A26, c26, rfl, _, _⟩ := hr.shape
    clear hr hk hat
    have hl26 : ([] ++ nats s.r).length = s.r.length := by simp
    rw [hl26] at HNE
    rw [hl26, List.nil_append] at F26
    try rw [hl26]
    clear hl26
    refine hK.out _ _ (HB.out _ F26.out.below) (fun hHeld => ?_)
    refine norm_ (a' := ?_) ?_ ?_
    rotate_left
    · simp only [Act.put, List.setIfInBounds_toArray, List.set_cons_zero, List.set_cons_succ]
      rfl
    refine pure_ (i := 16) (N := some 27) (v := ?_) (a' := ?_) #[true, true, true, true, true, true, true, true, true, true, true, true, true, true, true, true, true, false, false] rfl rfl (by kernel_rfl) (fun _ _ _ h => h) (Or.inl ⟨by rfl, ?_⟩) ?_ ?_   -- build 67 #[(0, %14), (1, %20), (2, %26)]
    rotate_left
    · intro w'
      go_simp
      with_reducible rfl
    rotate_left
    · simp only [Act.put, List.setIfInBounds_toArray, List.set_cons_zero, List.set_cons_succ]
      rfl
    refine one_ (i := 17) (N := some 28) #[true, true, true, true, true, true, true, true, true, true, true, true, true, true, true, true, true, true, false] rfl rfl (by kernel_rfl) (by decide) (fun K hK => ?_)
    refine value_ (by rfl) rfl (v := ptr V26.heap.size) (w1 := V26.alloc (.cells #[(Value.slice Aw s.w.length cw), .slice A20 s.p.length c20, .slice A26 s.r.length c26] 67)) (by go_simp; first | done | rfl) ?_
    have COP := hid (copy_ob W V26 (Value.slice Aw s.w.length cw) (.slice A20 s.p.length c20) (.slice A26 s.r.length c26) s (RW.out.keep (Keep.ofBelow (F := fun _ => False) F26.out.below) (fun _ _ h => h)) F20'.out.row F26.out.row (fun j hj => RW.out.lt j hj) F20'.out.own F26.out.own HNE.out F26.out.below.size)
    have BOX : Hid (Below W.heap.size W (V26.alloc (.cells #[(Value.slice Aw s.w.length cw), .slice A20 s.p.length c20, .slice A26 s.r.length c26] 67))) := hid (F26.out.below.alloc F26.out.below.size _)
    refine hK.out _ _ (HB.out _ BOX.out) (fun hHeld => ?_)
    refine norm_ (a' := ?_) ?_ ?_
    rotate_left
    · simp only [Act.put, List.setIfInBounds_toArray, List.set_cons_zero, List.set_cons_succ]
      rfl
    refine pure_ (i := 18) (N := some 3) (v := ?_) (a' := ?_) #[true, true, true, true, true, true, true, true, true, true, true, true, true, true, true, true, true, true, true] rfl rfl (by kernel_rfl) (fun _ _ _ h => h) (Or.inl ⟨by rfl, ?_⟩) ?_ ?_   -- assign (%28)
    rotate_left
    · intro w'
      go_simp
      with_reducible rfl
    rotate_left
    · simp only [Act.put, List.setIfInBounds_toArray, List.set_cons_zero, List.set_cons_succ]
      rfl
    refine done_ (by kernel_rfl) ?_
    obtain ⟨C, hC⟩ : ∃ C, C = V26.heap.size := ⟨_, rfl⟩
    obtain ⟨W9, hW9⟩ : ∃ V, V = V26.alloc (.cells #[(Value.slice Aw s.w.length cw), .slice A20 s.p.length c20, .slice A26 s.r.length c26] 67) := ⟨_, rfl⟩
    have ST : Hid (AllAt W C (Value.slice Aw s.w.length cw) all s (.slice none 0 0) [] W9) := hid (by
      rw [hC, hW9]
      exact ⟨⟨_, ⟨_, _, _, COP.out, HV⟩, fun j hj => hj.imp id And.left, (fun j hj => by cases hj)⟩, HV.out.symm, .nil _ _, (fun j hj => by cases hj), BOX.out, HG.out, HALL.out.symm⟩)
    rw [← hW9, ← hC]
    clear hC hW9 COP BOX F20 F20' F26 FR HD HNE
    go_wp2_with fail
    go_loopg [4] all.length (fun left v4 wr => ∃ sC lp A4 c4, lp.length + left = all.length ∧ sC.r.length = left ∧ v4 = .slice A4 lp.length c4 ∧ Hid (AllAt W C (Value.slice Aw s.w.length cw) all sC v4 lp wr))
    case atStart => exact ⟨s, [], none, 0, by simp, by rw [HALL.out, allM_len], rfl, ST⟩
    case round =>
      obtain ⟨sC, lp, A4, c4, hll, hsl, rfl, U⟩ := hrel
      have LEN := hid U.out.len
      rw [hsl] at LEN
      have HSL := hid hsl
      obtain ⟨nl, hnl⟩ : ∃ n, n = lp.length := ⟨_, rfl⟩
      rw [← hnl] at U LEN hll ⊢
      have HNL := hid hnl
      have hnb : nl ≤ 1048576 := by have := HPL.out.2; have := HALL.out; have := allM_len s.r.length s; rw [← HALL.out] at this; omega
      clear hsl hnl ST
      cases gk with
      | succ left =>
        have hpos : decide ((0 : Int) < ((left + 1 : Nat) : Int)) = true := decide_eq_true (by omega)
        have hpos2 : (((left + 1 : Nat) : Int)) > 0 := by omega
        go_wp2_with fail
        refine LEN.out.mono ?_
        rintro e w1 ⟨rfl, u1⟩
        have POP := hid (u1.pop (by rw [HSL.out]; omega))
        obtain ⟨x, hx⟩ : ∃ x, x = R sC 0 := ⟨_, rfl⟩
        rw [← hx] at POP
        have GP := hid (pop_good u1.good (by rw [HSL.out]; omega)).2.2.1
        have HOW := hid u1.own
        clear hx u1
        go_wp2_with fail
        refine POP.out.mono ?_
        rintro e w2 ⟨rfl, r2, b2, hp2, hv2, hg2, hres2⟩
        have R2 := hid r2
        have B2 := hid b2
        have HP2 := hid hp2
        have HV2 := hid hv2
        have HG2 := hid hg2
        have HRES2 := hid hres2
        clear r2 b2 hp2 hv2 hg2 hres2
        go_wp2_with (at_builtin; go_loud (refine wp_app _ rfl _ _ rfl _ _ (nats lp) [.int .i64 (x : Nat)] (by rfl) (by rfl) (R2.out.alloc _) (Row.one _ _ _) (by simp [Value.oneCell']) (by have := HNL.out; simp; omega) ?_; intro v5 w5 hr5 hk5 hat5; have A5 := hid (AllAt.app R2.out HOW.out B2.out HP2.out HV2.out HG2.out HRES2.out _ hr5 hk5 hat5); obtain ⟨A6, c6, rfl, _, _⟩ := hr5.shape; have hln : (nats lp ++ [Value.int .i64 (x : Nat)]).length = nl + 1 := (by have := HNL.out; simp; omega); rw [hln] at A5; try rw [hln]; clear hr5 hk5 hat5 hln))
        go_roundg left
        case measure => omega
        case rel => exact ⟨popM sC, lp ++ [x], A6, c6, by have := HNL.out; simp; omega, by have := GP.out; have := HSL.out; omega, by have := HNL.out; simp; omega, A5⟩
      | zero =>
        go_wp2_with fail
        refine LEN.out.mono ?_
        rintro e w1 ⟨rfl, u1⟩
        have U1 := hid u1
        clear u1
        go_wp2_with fail
        have hlp : lp = all := by
          have h := U1.out.res
          rw [HSL.out] at h
          simpa [allM] using h
        obtain rfl : nl = all.length := by rw [HNL.out, hlp]
        have HROW := hid U1.out.row
        have HOWN := hid U1.out.own
        have HBEL := hid U1.out.bel
        rw [hlp] at HROW
        have J0 : Hid (J [] w1) := hid (HJ.out [] W w1 none H0.out (grown_of_below HBEL.out none) (fun r e => by cases e))
        clear hlp U1 U LEN HNL
        refine wpIn_wide (n := n).1 ?_
        gi_loopw [43] (fun v43 wr' => ∃ k : Nat, k ≤ all.length ∧ v43 = .int .i64 (k : Int) ∧ Hid (YldAt J A4 c4 all b w1 k wr')) (fun v43 wr' => all.length - (intOf v43).toNat)
        case atStart => exact ⟨0, Nat.zero_le _, rfl, hid (YldAt.start hBO.out HBEL.out HROW.out HOWN.out J0.out)⟩
        case round =>
          obtain ⟨k, hk, rfl, Y⟩ := hrel
          clear J0 HROW HOWN HBEL
          by_cases hkn : k < all.length
          · have hkI : (k : Int) < (all.length : Int) := by omega
            obtain ⟨x, hx⟩ : ∃ x, x = all.getD k 0 := ⟨_, rfl⟩
            obtain ⟨g, off, cap, hv, _, _, _, hcells, _⟩ := Y.out.row.cells (by simp; omega)
            injection hv with hA hA2 hcc
            subst hA hcc
            have hxc := (hcells k (by simpa using hkn)).trans (nats_get _ _ hkn)
            rw [← hx] at hxc
            obtain ⟨fn, tmps, assign, body, hy, hR⟩ := HY.out _ (x : Int) wr Y.out.j (by simp; omega)
            try dsimp only at hy
            have HX := hid hx
            have HR := hid hR
            clear hx hR hcells hA2
            gi_wp2
            refine ⟨fun h => (by simp [Fence.wide] at h), HR.out.mono ?_⟩
            rintro e W' (⟨rfl, hJ', hq⟩ | ⟨rfl, hJx'⟩)
            · have Y2 := hid (Y.out.next hkn (by rw [← HX.out]; exact hJ') hq)
              clear hJ' hq
              gi_wp2
              go_roundw
              case rel => exact ⟨k + 1, hkn, by simp, Y2⟩
              case measure => simp [intOf]; omega
            · have HJX := hid hJx'
              clear hJx'
              gi_wp2
              refine bodyPost_ret (results_none rfl _ _ _) rfl ?_
              refine ⟨⟨_, rfl⟩, .inr ⟨_, ?_, HJX.out⟩⟩
              have e1 : (all.map (fun (x : Nat) => (x : Int))).take k ++ [(x : Int)] = (all.map (fun (x : Nat) => (x : Int))).take (k + 1) := by
                rw [List.take_succ_eq_append_getElem (by simpa using hkn), List.getElem_map, HX.out, List.getD_eq_getElem?_getD, List.getElem?_eq_getElem hkn]
                rfl
              rw [e1]
              exact List.take_prefix _ _
          · obtain rfl : k = all.length := by omega
            have HJJ := Y.out.j
            rw [List.take_of_length_le (by simp)] at HJJ
            have HJ2 := hid HJJ
            clear HJJ
            gi_wp2
            try simp only [Exit.inBlock, Exit.then]
            refine bodyPost_end (results_none rfl _ _ _) rfl ?_
            exact ⟨⟨_, rfl⟩, .inl ⟨_, rfl, HJ2.out⟩⟩
end Go.Proofs.Ytegcfaohhcjajaa.HM
